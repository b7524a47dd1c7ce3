/- barrel: the reference's lists of levels: put. -/
import Derived.Test.YtpfoleggapngoaaB35
set_option linter.unusedVariables false
set_option linter.unusedSimpArgs false
set_option maxRecDepth 10000
namespace Go.Proofs.B
open Go Go.RowKit Go.Proofs Go.Proofs.G Go.Proofs.F Go.Proofs.YtpfoleggapngoaaW.PrintWords
def IntC (w : World) (v : Value) (l : List Int) : Prop := ∃ A c, v = .slice A l.length c ∧ l.length ≤ c ∧ (Kd.int .i64).C w A l.length l
theorem IntC.bel {w w' : World} {v : Value} {l : List Int} (h : IntC w v l) (hb : Bel w w') : IntC w' v l := by
  obtain ⟨A, c, h1, h2, h3⟩ := h
  exact ⟨A, c, h1, h2, Kd.C_below h3 hb⟩
theorem IntC.one {w : World} {v : Value} {l : List Int} (h : IntC w v l) : v.oneCell' = true := by
  obtain ⟨A, c, h1, _⟩ := h
  rw [h1]; rfl
/-- A list of lists of one's own, whose lists are only read. -/
def Lc (w0 w : World) (v : Value) (ls : List (List Int)) : Prop := ∃ vs : List Val1, vs.length = ls.length ∧ kVal.R 22 w w0.heap.size (fun _ => True) v vs ∧ ∀ (j : Nat) (x : Val1) (l : List Int), vs[j]? = some x → ls[j]? = some l → IntC w0 x.1 l
def RowC (w : World) (v : Value) (ls : List (List Int)) : Prop := ∃ A c, v = .slice A ls.length c ∧ ls.length ≤ c ∧ kRow.C w A ls.length ls
theorem Lc.nil (w0 w : World) : Lc w0 w (.slice none 0 0) [] := ⟨[], rfl, Kd.R_nil _ _ _ _ _, fun j x l hx => by simp at hx⟩
theorem Lc.row {w0 w : World} {v : Value} {ls : List (List Int)} (h : Lc w0 w v ls) (hB : Bel w0 w) : RowC w v ls := by
  obtain ⟨vs, h1, h2, h3⟩ := h
  obtain ⟨A, c, h4, h5, h6⟩ := Kd.R_reads h2
  rw [h1] at h4 h5 h6
  refine ⟨A, c, h4, h5, rfl, h6.2.1, fun hp => ?_⟩
  obtain ⟨ad, e, hc⟩ := h6.2.2 hp
  refine ⟨ad, e, fun j l hl => ?_⟩
  have hj : j < vs.length := by have := (List.getElem?_eq_some_iff.1 hl).1; omega
  obtain ⟨cs, h7, h8, h9⟩ := hc j _ (List.getElem?_eq_getElem hj)
  obtain ⟨A', c', h10, h11, h12⟩ := (h3 j _ l (List.getElem?_eq_getElem hj) hl).bel hB
  have h8' : cs = [vs[j].1] := h8
  subst h8'
  exact ⟨[vs[j].1], rfl, ⟨A', c', by rw [h10], h11, h12⟩, h9⟩
def putL (l : List (List Int)) (one : List Int) : List (List Int) := if ∀ x ∈ l, ¬ HiP x one then l.filter (fun x => !decide (HiP one x)) ++ [one] else l
theorem Lc.snoc {w0 w : World} {v : Value} {ls : List (List Int)} {vs : List Val1} (h1 : vs.length = ls.length) (h3 : ∀ (j : Nat) (x : Val1) (l : List Int), vs[j]? = some x → ls[j]? = some l → IntC w0 x.1 l) {u : Val1} {l : List Int} (hu : IntC w0 u.1 l)
    (hR : kVal.R 22 w w0.heap.size (fun _ => True) v (vs ++ [u])) : Lc w0 w v (ls ++ [l]) := by
  refine ⟨vs ++ [u], by simp [h1], hR, fun j x l' hx hl => ?_⟩
  by_cases hj : j < vs.length
  · rw [List.getElem?_append_left hj] at hx
    rw [List.getElem?_append_left (by omega)] at hl
    exact h3 j x l' hx hl
  · rw [List.getElem?_append_right (by omega)] at hx hl
    obtain hj2 : j - vs.length = 0 := by
      have := (List.getElem?_eq_some_iff.1 hx).1
      simp at this; omega
    rw [hj2] at hx
    rw [← h1, hj2] at hl
    injection hx with hx; injection hl with hl
    subst hx; subst hl; exact hu
end Go.Proofs.B
