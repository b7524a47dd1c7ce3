/- barrel: an argument of four numbers, opened. -/
import Derived.Test.YtpfoleggapngoaaH1
import Derived.Laws.IdiomArrays
set_option linter.unusedVariables false
set_option maxRecDepth 10000
set_option linter.unusedSimpArgs false
namespace Go.Proofs.B
open Go Go.RowKit Go.Proofs Go.Proofs.G Go.Proofs.F Go.Proofs.YtpfoleggapngoaaW.PrintWords
open Go.ChangeShapes Go.WideShapes
section
variable {H : Type} {enc : TypeId × Value → H} {w : World} {r : Reach} {b0 : Nat} {v : Value} {d : DataW H} {p : List MemPlace}
theorem arg72 (hv : Value.okWide Try.prog w r b0 72 v) (h : DataW.Trod enc Try.prog w 0 (fun _ => true) true 72 v d p) : ∃ a b c e, v = .agg #[.int .i64 a, .int .i64 b, .int .i64 c, .int .i64 e] := by
  have hv' := hv
  simp only [Value.okWide, Try.underlying72] at hv'
  obtain ⟨cs, rfl, hsz, _⟩ := hv'
  obtain ⟨fuel, hf⟩ := h
  obtain ⟨l⟩ := cs
  have hl : l.length = 4 := by
    have : l.toArray.size = Try.prog.cellsOf 72 := hsz
    rw [show Try.prog.cellsOf 72 = 4 by kernel_rfl] at this
    simpa using this
  match l, hl with
  | [c0, c1, c2, c3], _ =>
    obtain ⟨y0, y1, y2, y3, n, _, h0, h1, h2, h3⟩ := Go.ChangeShapes.trod_array4 Try.underlying72 co3 hf
    obtain ⟨a, e0, _⟩ := DataW.trod_int Try.underlying3 h0
    obtain ⟨b, e1, _⟩ := DataW.trod_int Try.underlying3 h1
    obtain ⟨c, e2, _⟩ := DataW.trod_int Try.underlying3 h2
    obtain ⟨e, e3, _⟩ := DataW.trod_int Try.underlying3 h3
    injection e0 with e0 _
    injection e1 with e1 _
    injection e2 with e2 _
    injection e3 with e3 _
    subst e0 e1 e2 e3
    exact ⟨a, b, c, e, rfl⟩
end
end Go.Proofs.B
