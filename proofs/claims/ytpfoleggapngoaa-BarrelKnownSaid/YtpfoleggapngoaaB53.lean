/- barrel: more about blocks, for BarrelKnown. -/
import Derived.Test.YtpfoleggapngoaaB52
import Derived.Test.YtpfoleggapngoaaGe
set_option linter.unusedVariables false
set_option linter.unusedSimpArgs false
set_option maxRecDepth 10000
namespace Go.Proofs.B
open Go Go.RowKit Go.Proofs Go.Proofs.G Go.Proofs.F Go.Proofs.T Go.Proofs.YtpfoleggapngoaaW.PrintWords
theorem flat_len {α : Type} {enc : α → List Value} {sz : Nat} (hsz : ∀ x, (enc x).length = sz) : ∀ xs : List α, (xs.flatMap enc).length = xs.length * sz
  | [] => by simp
  | x :: xs => by rw [List.flatMap_cons, List.length_append, hsz, flat_len hsz xs, List.length_cons, Nat.succ_mul]; omega
theorem flat_chunk {α : Type} {enc : α → List Value} {sz : Nat} (hsz : ∀ x, (enc x).length = sz) : ∀ (xs : List α) (j : Nat) (p : α), xs[j]? = some p → ((xs.flatMap enc).drop (j * sz)).take sz = enc p
  | [], j, p, h => by simp at h
  | x :: xs, 0, p, h => by
    injection h with h
    subst h
    rw [List.flatMap_cons, Nat.zero_mul, List.drop_zero, List.take_append_of_le_length (by rw [hsz]; exact Nat.le_refl _), List.take_of_length_le (by rw [hsz]; exact Nat.le_refl _)]
  | x :: xs, j + 1, p, h => by
    have ih := flat_chunk hsz xs j p (by simpa using h)
    rw [List.flatMap_cons, Nat.succ_mul, Nat.add_comm, ← List.drop_drop, List.drop_left' (hsz x), ih]
/-- A whole block is a row of one's own. -/
theorem R_of_raw {α : Type} {d : Kd α} {enc : α → List Value} (hmk : ∀ (w : World) (base : Nat) (ok : Nat → Prop) x, d.M w base ok x (enc x)) (hsz : ∀ x, (enc x).length = d.sz) {e : TypeId} {w : World} {base g n : Nat} {xs : List α} {cells : Array Value} (K : w.heap[g]? = some (.cells cells e (0, 0))) (hc : cells.toList = xs.flatMap enc) (hn : xs.length = n) (hl : n ≤ 1000) (hb : base ≤ g) : d.R e w base (fun _ => True) (.slice (some ⟨g, 0, none⟩) n n) xs := by
  subst hn
  have hlen : cells.size = xs.length * d.sz := by rw [← Array.length_toList, hc, flat_len hsz]
  refine ⟨fun _ _ => trivial, xs.flatMap enc, ⟨flat_len hsz xs, .inr ⟨g, xs.length, cells, rfl, hb, K, Nat.le_refl _, by simp [maxLen]; omega, hlen, ?_⟩⟩, flat_len hsz xs, fun j p hp => ?_⟩
  · rw [hc]; exact List.take_of_length_le (by rw [flat_len hsz]; exact Nat.le_refl _)
  · rw [flat_chunk hsz xs j p hp]; exact hmk _ _ _ p
section
variable {P : Program} {N : Nat} {ds : List Deferred} {Q : Exit → Act → World → Prop} {σ : Nat → Value} {w : World} {E : List Nat} {C : World → Prop} {ops : Array Oper} {k : Nat} {L : Array Bool} {d : Nat} {ty : TypeId} {pos : String} {after : Array Edge} {gd : Option (Nat × Bool)} {op : Op}
theorem GO_new {cells : Array Value} {e : TypeId} {n i : Nat} (hi : ops[i]? = some ⟨some d, op, ty, pos, after, gd⟩) (hw : Region.wanted ⟨some d, op, ty, pos, after, gd⟩ (yl ops σ) = true) (hnd : noDefer (⟨some d, op, ty, pos, after, gd⟩ : Oper) = true) (hd : Nat.blt d N = true)
    (hrun : (execOp (ev σ) ⟨some d, op, ty, pos, after, gd⟩).run P w = .ok (.value (.slice (some ⟨w.heap.size, 0, none⟩) n n)) (w.alloc (.cells cells e)))
    (h : ∀ g w', New w w' g (.cells cells e) → GD P N ds ops Q E C k (L.setIfInBounds i true) (upd σ d (.slice (some ⟨g, 0, none⟩) n n)) w') : GO P N ds ops Q E C k L i σ w :=
  GO_val hi hw hnd hd hrun (h _ _ (New.alloc _ _))
end
theorem at5 {w : World} {g o : Nat} {cells : Array Value} {t : TypeId} {f : Nat × Nat} {a b c d e' : Value} (K : w.heap[g]? = some (.cells cells t f)) (h0 : cells[o]? = some a) (h1 : cells[o + 1]? = some b) (h2 : cells[o + 2]? = some c) (h3 : cells[o + 3]? = some d) (h4 : cells[o + 4]? = some e') : ∀ j v, [a, b, c, d, e'][j]? = some v → w.cell? (((⟨g, 0, none⟩ : Addr).add o).add j) = some v := fun j v hj => by
  have e : ((⟨g, 0, none⟩ : Addr).add o).add j = ⟨g, o + j, none⟩ := by rw [add_lit, add_lit, Nat.zero_add]
  rw [e]
  match j, hj with
  | 0, hj => injection hj with hj; subst hj; exact cellAt K h0
  | 1, hj => injection hj with hj; subst hj; exact cellAt K h1
  | 2, hj => injection hj with hj; subst hj; exact cellAt K h2
  | 3, hj => injection hj with hj; subst hj; exact cellAt K h3
  | 4, hj => injection hj with hj; subst hj; exact cellAt K h4
  | j + 5, hj => simp at hj
theorem at4 {w : World} {g o : Nat} {cells : Array Value} {t : TypeId} {f : Nat × Nat} {a b c d : Value} (K : w.heap[g]? = some (.cells cells t f)) (h0 : cells[o]? = some a) (h1 : cells[o + 1]? = some b) (h2 : cells[o + 2]? = some c) (h3 : cells[o + 3]? = some d) : ∀ j v, [a, b, c, d][j]? = some v → w.cell? (((⟨g, 0, none⟩ : Addr).add o).add j) = some v := fun j v hj => by
  have e : ((⟨g, 0, none⟩ : Addr).add o).add j = ⟨g, o + j, none⟩ := by rw [add_lit, add_lit, Nat.zero_add]
  rw [e]
  match j, hj with
  | 0, hj => injection hj with hj; subst hj; exact cellAt K h0
  | 1, hj => injection hj with hj; subst hj; exact cellAt K h1
  | 2, hj => injection hj with hj; subst hj; exact cellAt K h2
  | 3, hj => injection hj with hj; subst hj; exact cellAt K h3
  | j + 4, hj => simp at hj
abbrev zeroW : Array Value := #[.int .i64 0, .int .i64 0, .int .i64 0, .int .i64 0, .int .i64 0, .int .i64 0, .int .i64 0, .int .i64 0, .int .i64 0, .int .i64 0, .int .i64 0, .int .i64 0, .int .i64 0, .int .i64 0, .int .i64 0, .int .i64 0, .int .i64 0, .int .i64 0, .int .i64 0, .int .i64 0, .int .i64 0, .int .i64 0, .int .i64 0, .int .i64 0, .int .i64 0]
theorem mk35 (σ : Nat → Value) (w : World) (pos : String) (after : Array Edge) (gd : Option (Nat × Bool)) (d : Option Nat) (ty : TypeId) : (execOp (ev σ) ⟨d, .makeSlice 35 (.const (.int .i64 5)) (.const (.int .i64 5)), ty, pos, after, gd⟩).run Try.prog w = .ok (.value (.slice (some ⟨w.heap.size, 0, none⟩) 5 5)) (w.alloc (.cells zeroW 70)) := by kernel_rfl
end Go.Proofs.B
