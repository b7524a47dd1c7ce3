/- Arguments that only are read: rows of whatever kind, out of a statement's reading. -/
import Derived.Test.YtpfoleggapngoaaGd
import Derived.Deep.Slices
import Derived.Deep.Strs
import Derived.Lib.SmallJoins
import Derived.ProofKit
import Derived.OpenShut
import Derived.ChangeOld
import Derived.SizedLaws
import Derived.Test.YtpfoleggapngoaaF0b
import Derived.Test.YtpfoleggapngoaaKb
set_option linter.unusedVariables false
namespace Go.Proofs.G
open Go Go.RowKit Go.Proofs Go.Proofs.YtpfoleggapngoaaW.PrintWords
open Go.ChangeShapes Go.WideShapes
section
variable {H : Type} {enc : TypeId × Value → H} {P : Program} {w : World}
/-- What is read of type e is of the kind. -/
def Opens (enc : TypeId × Value → H) (P : Program) (w : World) {α : Type} (k : Kd α) (e : TypeId) : Prop := ∀ n cs x, DataW.trod enc P w 0 (fun _ => true) true n e cs = some x → ∃ a, k.K w a cs
theorem opens_int {e : TypeId} (hu : P.underlying e = some (.int .i64)) : Opens enc P w (Kd.int .i64) e := fun n cs x h => by
  obtain ⟨m, rfl, _, _⟩ := DataW.trod_int hu h
  exact ⟨m, rfl⟩
theorem cells_at? {a : Addr} {n : Nat} {cs : List Value} (h : w.cells? 0 a n = some cs) : cs.length = n ∧ ∀ i u, cs[i]? = some u → w.cell? (a.add i) = some u := by
  obtain ⟨_, h1, h2⟩ := World.cells?_some h
  refine ⟨h1, fun i u hu => ?_⟩
  have hi := (List.getElem?_eq_some_iff.1 hu).1
  rw [h2 i (by omega)]; exact hu
theorem opens_raw {α : Type} {k : Kd α} {t e : TypeId} (hu : P.underlying t = some (.slice e)) (hsz : P.cellsOf e = k.sz) (hk : Opens enc P w k e) {n : Nat} {cs : List Value} {x : DataW H × List MemPlace} (h : DataW.trod enc P w 0 (fun _ => true) true n t cs = some x) :
    ∃ A len cap xs, cs = [.slice A len cap] ∧ k.C w A len xs ∧ len ≤ cap := by
  rcases Deep.open_slice hu h with ⟨rfl, _⟩ | ⟨a, len, cap, m, n', D, Pl, rfl, _, hl, hm, hmm, _, hx⟩
  · exact ⟨none, 0, 0, [], rfl, Kd.C_nil _ _, Nat.le_refl _⟩
  · simp only [if_true] at hmm
    have key : ∀ q, q ≤ len → ∃ xs : List α, xs.length = q ∧ ∀ j p, xs[j]? = some p → ∃ c, c.length = k.sz ∧ k.K w p c ∧ ∀ i u, c[i]? = some u → w.cell? (a.add (j * k.sz + i)) = some u := by
      intro q
      induction q with
      | zero => exact fun _ => ⟨[], rfl, fun j p hj => by simp at hj⟩
      | succ q ih =>
        intro hq
        obtain ⟨xs, h1, h2⟩ := ih (by omega)
        obtain ⟨cs', h3, h4⟩ := hx q (by omega)
        obtain ⟨p, hp⟩ := hk _ _ _ h4
        obtain ⟨h5, h6⟩ := cells_at? h3
        refine ⟨xs ++ [p], by simp [h1], fun j p' hj => ?_⟩
        by_cases e : j < xs.length
        · rw [List.getElem?_append_left e] at hj; exact h2 j p' hj
        · have hj2 : j = q := by have := (List.getElem?_eq_some_iff.1 hj).1; simp at this; omega
          subst hj2
          rw [List.getElem?_append_right (by omega), h1, Nat.sub_self] at hj
          injection hj with hj
          subst hj
          refine ⟨cs', by rw [h5, hsz], hp, fun i u hu => ?_⟩
          have := h6 i u hu
          rw [add_add', hsz] at this
          exact this
    obtain ⟨xs, h1, h2⟩ := key len (Nat.le_refl _)
    exact ⟨some a, len, cap, xs, rfl, ⟨h1, by simp only [maxLen] at hm; omega, fun _ => ⟨a, rfl, h2⟩⟩, hl⟩
theorem opens_slice {α : Type} {k : Kd α} {t e : TypeId} (hu : P.underlying t = some (.slice e)) (hsz : P.cellsOf e = k.sz) (hk : Opens enc P w k e) : Opens enc P w (Kd.slice e k) t := fun n cs x h => by
  obtain ⟨A, len, cap, xs, rfl, hC, hl⟩ := opens_raw hu hsz hk h
  obtain rfl := hC.1
  exact ⟨xs, A, cap, rfl, hl, hC⟩
/-- An argument that is a slice. -/
theorem opens_arg {α : Type} {k : Kd α} {t e : TypeId} (hu : P.underlying t = some (.slice e)) (hsz : P.cellsOf e = k.sz) (hk : Opens enc P w k e) {v : Value} {d : DataW H} {p : List MemPlace} (hv : ∃ a len cap, v = .slice a len cap) (h : DataW.Trod enc P w 0 (fun _ => true) true t v d p) :
    ∃ A c xs, v = .slice A xs.length c ∧ k.C w A xs.length xs ∧ xs.length ≤ c := by
  obtain ⟨a, len, cap, rfl⟩ := hv
  obtain ⟨fuel, hf⟩ := h
  obtain ⟨A, len', cap', xs, e, hC, hl⟩ := opens_raw hu hsz hk hf
  simp [Value.cells] at e
  obtain ⟨rfl, rfl, rfl⟩ := e
  obtain rfl := hC.1
  exact ⟨_, _, xs, rfl, hC, hl⟩
theorem two_cells {cs : List Value} {a b : Value} (h : cs.length = 2) (h0 : (cs.drop 0).take 1 = [a]) (h1 : (cs.drop 1).take 1 = [b]) : cs = [a, b] := by
  match cs, h with
  | [x, y], _ => simp at h0 h1; rw [h0, h1]
end
end Go.Proofs.G

/- barrel: the arguments of its laws, opened. -/
set_option linter.unusedVariables false
set_option maxRecDepth 10000
namespace Go.Proofs.B
open Go Go.RowKit Go.Proofs Go.Proofs.G Go.Proofs.F Go.Proofs.YtpfoleggapngoaaW.PrintWords
open Go.ChangeShapes Go.WideShapes
section
variable {H : Type} {enc : TypeId × Value → H} {w : World}
theorem co3 : Try.prog.cellsOf 3 = 1 := by kernel_rfl
theorem co22 : Try.prog.cellsOf 22 = 1 := by kernel_rfl
theorem co68 : Try.prog.cellsOf 68 = 2 := by kernel_rfl
theorem co70 : Try.prog.cellsOf 70 = 5 := by kernel_rfl
theorem co76 : Try.prog.cellsOf 76 = 4 := by kernel_rfl
theorem opens3 : Opens enc Try.prog w (Kd.int .i64) 3 := opens_int Try.underlying3
theorem opens22 : Opens enc Try.prog w (Kd.slice 3 (Kd.int .i64)) 22 := opens_slice Try.underlying22 co3 opens3
theorem cut1 {cs : List Value} {i : Nat} {v : Value} (h : (cs.drop i).take 1 = [v]) : cs[i]? = some v := by
  have : ((cs.drop i).take 1)[0]? = some v := by rw [h]; rfl
  simpa [List.getElem?_take, List.getElem?_drop] using this
theorem open68 {n : Nat} {cs : List Value} {x : DataW H × List MemPlace} (h : DataW.trod enc Try.prog w 0 (fun _ => true) true n 68 cs = some x) : ∃ a b, cs = [.int .i64 a, .int .i64 b] := by
  obtain ⟨y0, y1, m, _, hl, h0, h1⟩ := trod_struct2 Try.underlying68 h
  rw [co68] at hl
  simp only [co3] at h0 h1
  obtain ⟨a, e0, _⟩ := DataW.trod_int Try.underlying3 h0
  obtain ⟨b, e1, _⟩ := DataW.trod_int Try.underlying3 h1
  exact ⟨a, b, two_cells hl e0 e1⟩
theorem opens68 : Opens enc Try.prog w k68 68 := fun n cs x h => by
  obtain ⟨a, b, rfl⟩ := open68 h
  exact ⟨⟨a, b⟩, k68_mk w ⟨a, b⟩⟩
theorem opens70 : Opens enc Try.prog w k70 70 := fun n cs x h => by
  obtain ⟨y0, y1, y2, y3, m, _, hl, h0, h1, h2, h3⟩ := Go.Joins.trod_struct4 Try.underlying70 h
  rw [co70] at hl
  simp only [co3, co68] at h0 h1 h2 h3
  obtain ⟨a, e0, _⟩ := DataW.trod_int Try.underlying3 h0
  obtain ⟨b, e1, _⟩ := DataW.trod_int Try.underlying3 h1
  obtain ⟨c, e2, _⟩ := DataW.trod_int Try.underlying3 h2
  obtain ⟨d, e, e3⟩ := open68 h3
  have c0 := cut1 e0
  have c1 := cut1 e1
  have c2 := cut1 e2
  match cs, hl with
  | [v0, v1, v2, v3, v4], _ =>
    simp at c0 c1 c2 e3
    obtain ⟨rfl, rfl⟩ := e3
    subst c0 c1 c2
    exact ⟨⟨a, b, c, ⟨d, e⟩⟩, k70_mk w ⟨a, b, c, ⟨d, e⟩⟩⟩
theorem opens76 : Opens enc Try.prog w k76 76 := fun n cs x h => by
  obtain ⟨y0, y1, y2, m, _, hl, h0, h1, h2⟩ := Go.Deep.trod_struct3 Try.underlying76 h
  rw [co76] at hl
  simp only [co3, co68] at h0 h1 h2
  obtain ⟨a, e0, _⟩ := DataW.trod_int Try.underlying3 h0
  obtain ⟨b, e1, _⟩ := DataW.trod_int Try.underlying3 h1
  obtain ⟨d, e, e3⟩ := open68 h2
  have c0 := cut1 e0
  have c1 := cut1 e1
  match cs, hl with
  | [v0, v1, v2, v3], _ =>
    simp at c0 c1 e3
    obtain ⟨rfl, rfl⟩ := e3
    subst c0 c1
    exact ⟨⟨a, b, ⟨d, e⟩⟩, k76_mk w ⟨a, b, ⟨d, e⟩⟩⟩
variable {r : Reach} {b0 : Nat} {v : Value} {d : DataW H} {p : List MemPlace}
theorem arg22 (hv : Value.okWide Try.prog w r b0 22 v) (h : DataW.Trod enc Try.prog w 0 (fun _ => true) true 22 v d p) : ∃ A c xs, v = .slice A xs.length c ∧ (Kd.int .i64).C w A xs.length xs ∧ xs.length ≤ c := opens_arg Try.underlying22 co3 opens3 (okWide_slice Try.underlying22 hv) h
theorem arg25 (hv : Value.okWide Try.prog w r b0 25 v) (h : DataW.Trod enc Try.prog w 0 (fun _ => true) true 25 v d p) : ∃ A c xs, v = .slice A xs.length c ∧ (Kd.slice 3 (Kd.int .i64)).C w A xs.length xs ∧ xs.length ≤ c := opens_arg Try.underlying25 co22 opens22 (okWide_slice Try.underlying25 hv) h
theorem arg35 (hv : Value.okWide Try.prog w r b0 35 v) (h : DataW.Trod enc Try.prog w 0 (fun _ => true) true 35 v d p) : ∃ A c xs, v = .slice A xs.length c ∧ k70.C w A xs.length xs ∧ xs.length ≤ c := opens_arg Try.underlying35 co70 opens70 (okWide_slice Try.underlying35 hv) h
theorem arg24 (hv : Value.okWide Try.prog w r b0 24 v) (h : DataW.Trod enc Try.prog w 0 (fun _ => true) true 24 v d p) : ∃ A c xs g q, v = .agg #[.slice A xs.length c, .int .i64 g, .int .i64 q] ∧ (Kd.int .i64).C w A xs.length xs ∧ xs.length ≤ c := by
  obtain ⟨cs, rfl, _⟩ := okWide_struct Try.underlying24 hv
  obtain ⟨fuel, hf⟩ := h
  obtain ⟨y0, y1, y2, m, _, hl, h0, h1, h2⟩ := Go.Deep.trod_struct3 Try.underlying24 hf
  rw [show Try.prog.cellsOf 24 = 3 by kernel_rfl] at hl
  simp only [co3, co22] at h0 h1 h2
  obtain ⟨A, len, cap, xs, e0, hC, hle⟩ := opens_raw Try.underlying22 co3 opens3 h0
  obtain ⟨a, e1, _⟩ := DataW.trod_int Try.underlying3 h1
  obtain ⟨b, e2, _⟩ := DataW.trod_int Try.underlying3 h2
  have c0 := cut1 e0
  have c1 := cut1 e1
  have c2 := cut1 e2
  obtain rfl := hC.1
  have hl' : cs.toList.length = 3 := hl
  have c0' : cs.toList[0]? = _ := c0
  have c1' : cs.toList[1]? = _ := c1
  have c2' : cs.toList[2]? = _ := c2
  obtain ⟨l⟩ := cs
  match l, hl' with
  | [u0, u1, u2], _ =>
    simp at c0' c1' c2'
    subst c0' c1' c2'
    exact ⟨A, cap, xs, a, b, rfl, hC, hle⟩
theorem arg49 (hv : Value.okWide Try.prog w r b0 49 v) (h : DataW.Trod enc Try.prog w 0 (fun _ => true) true 49 v d p) : ∃ n A c xs, v = .agg #[.int .i64 n, .slice A xs.length c] ∧ k76.C w A xs.length xs ∧ xs.length ≤ c := by
  obtain ⟨cs, rfl, _⟩ := okWide_struct Try.underlying49 hv
  obtain ⟨fuel, hf⟩ := h
  obtain ⟨y0, y1, m, _, hl, h0, h1⟩ := trod_struct2 Try.underlying49 hf
  rw [show Try.prog.cellsOf 49 = 2 by kernel_rfl] at hl
  simp only [co3, show Try.prog.cellsOf 47 = 1 by kernel_rfl] at h0 h1
  obtain ⟨A, len, cap, xs, e1, hC, hle⟩ := opens_raw Try.underlying47 co76 opens76 h1
  obtain ⟨a, e0, _⟩ := DataW.trod_int Try.underlying3 h0
  have c0 := cut1 e0
  have c1 := cut1 e1
  obtain rfl := hC.1
  have hl' : cs.toList.length = 2 := hl
  have c0' : cs.toList[0]? = _ := c0
  have c1' : cs.toList[1]? = _ := c1
  obtain ⟨l⟩ := cs
  match l, hl' with
  | [u0, u1], _ =>
    simp at c0' c1'
    subst c0' c1'
    exact ⟨a, A, cap, xs, rfl, hC, hle⟩
end
end Go.Proofs.B
