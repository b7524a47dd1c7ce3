/- Arguments that only are read: rows of whatever kind, out of a statement's reading. -/
import Derived.Test.YtpfoleggapngoaaGd
import Derived.Deep.Slices
import Derived.Deep.Strs
import Derived.Lib.SmallJoins
import Derived.ProofKit
import Derived.OpenShut
import Derived.ChangeOld
import Derived.SizedLaws
set_option linter.unusedVariables false
namespace Go.Proofs.G
open Go Go.RowKit Go.Proofs Go.Proofs.YtpfoleggapngoaaW.PrintWords
open Go.ChangeShapes Go.WideShapes
section
variable {H : Type} {enc : TypeId × Value → H} {P : Program} {w : World}
/-- What is read of type e is of the kind. -/
def Opens (enc : TypeId × Value → H) (P : Program) (w : World) {α : Type} (k : Kd α) (e : TypeId) : Prop := ∀ n cs x, DataW.trod enc P w 0 (fun _ => true) true n e cs = some x → ∃ a, k.K w a cs
theorem opens_int {e : TypeId} (hu : P.underlying e = some (.int .i64)) : Opens enc P w (Kd.int .i64) e := fun n cs x h => by
  obtain ⟨m, rfl, _, _⟩ := DataW.trod_int hu h
  exact ⟨m, rfl⟩
theorem cells_at? {a : Addr} {n : Nat} {cs : List Value} (h : w.cells? 0 a n = some cs) : cs.length = n ∧ ∀ i u, cs[i]? = some u → w.cell? (a.add i) = some u := by
  obtain ⟨_, h1, h2⟩ := World.cells?_some h
  refine ⟨h1, fun i u hu => ?_⟩
  have hi := (List.getElem?_eq_some_iff.1 hu).1
  rw [h2 i (by omega)]; exact hu
theorem opens_raw {α : Type} {k : Kd α} {t e : TypeId} (hu : P.underlying t = some (.slice e)) (hsz : P.cellsOf e = k.sz) (hk : Opens enc P w k e) {n : Nat} {cs : List Value} {x : DataW H × List MemPlace} (h : DataW.trod enc P w 0 (fun _ => true) true n t cs = some x) :
    ∃ A len cap xs, cs = [.slice A len cap] ∧ k.C w A len xs ∧ len ≤ cap := by
  rcases Deep.open_slice hu h with ⟨rfl, _⟩ | ⟨a, len, cap, m, n', D, Pl, rfl, _, hl, hm, hmm, _, hx⟩
  · exact ⟨none, 0, 0, [], rfl, Kd.C_nil _ _, Nat.le_refl _⟩
  · simp only [if_true] at hmm
    have key : ∀ q, q ≤ len → ∃ xs : List α, xs.length = q ∧ ∀ j p, xs[j]? = some p → ∃ c, c.length = k.sz ∧ k.K w p c ∧ ∀ i u, c[i]? = some u → w.cell? (a.add (j * k.sz + i)) = some u := by
      intro q
      induction q with
      | zero => exact fun _ => ⟨[], rfl, fun j p hj => by simp at hj⟩
      | succ q ih =>
        intro hq
        obtain ⟨xs, h1, h2⟩ := ih (by omega)
        obtain ⟨cs', h3, h4⟩ := hx q (by omega)
        obtain ⟨p, hp⟩ := hk _ _ _ h4
        obtain ⟨h5, h6⟩ := cells_at? h3
        refine ⟨xs ++ [p], by simp [h1], fun j p' hj => ?_⟩
        by_cases e : j < xs.length
        · rw [List.getElem?_append_left e] at hj; exact h2 j p' hj
        · have hj2 : j = q := by have := (List.getElem?_eq_some_iff.1 hj).1; simp at this; omega
          subst hj2
          rw [List.getElem?_append_right (by omega), h1, Nat.sub_self] at hj
          injection hj with hj
          subst hj
          refine ⟨cs', by rw [h5, hsz], hp, fun i u hu => ?_⟩
          have := h6 i u hu
          rw [add_add', hsz] at this
          exact this
    obtain ⟨xs, h1, h2⟩ := key len (Nat.le_refl _)
    exact ⟨some a, len, cap, xs, rfl, ⟨h1, by simp only [maxLen] at hm; omega, fun _ => ⟨a, rfl, h2⟩⟩, hl⟩
theorem opens_slice {α : Type} {k : Kd α} {t e : TypeId} (hu : P.underlying t = some (.slice e)) (hsz : P.cellsOf e = k.sz) (hk : Opens enc P w k e) : Opens enc P w (Kd.slice e k) t := fun n cs x h => by
  obtain ⟨A, len, cap, xs, rfl, hC, hl⟩ := opens_raw hu hsz hk h
  obtain rfl := hC.1
  exact ⟨xs, A, cap, rfl, hl, hC⟩
/-- An argument that is a slice. -/
theorem opens_arg {α : Type} {k : Kd α} {t e : TypeId} (hu : P.underlying t = some (.slice e)) (hsz : P.cellsOf e = k.sz) (hk : Opens enc P w k e) {v : Value} {d : DataW H} {p : List MemPlace} (hv : ∃ a len cap, v = .slice a len cap) (h : DataW.Trod enc P w 0 (fun _ => true) true t v d p) :
    ∃ A c xs, v = .slice A xs.length c ∧ k.C w A xs.length xs ∧ xs.length ≤ c := by
  obtain ⟨a, len, cap, rfl⟩ := hv
  obtain ⟨fuel, hf⟩ := h
  obtain ⟨A, len', cap', xs, e, hC, hl⟩ := opens_raw hu hsz hk hf
  simp [Value.cells] at e
  obtain ⟨rfl, rfl, rfl⟩ := e
  obtain rfl := hC.1
  exact ⟨_, _, xs, rfl, hC, hl⟩
theorem two_cells {cs : List Value} {a b : Value} (h : cs.length = 2) (h0 : (cs.drop 0).take 1 = [a]) (h1 : (cs.drop 1).take 1 = [b]) : cs = [a, b] := by
  match cs, h with
  | [x, y], _ => simp at h0 h1; rw [h0, h1]
end
end Go.Proofs.G
