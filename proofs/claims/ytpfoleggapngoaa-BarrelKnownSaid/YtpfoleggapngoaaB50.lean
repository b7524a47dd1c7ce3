/- barrel: literals as blocks, and the calls of BarrelKnown. -/
import Derived.Test.YtpfoleggapngoaaB28
import Derived.Test.YtpfoleggapngoaaL3
set_option linter.unusedVariables false
set_option linter.unusedSimpArgs false
set_option maxRecDepth 10000
namespace Go.Proofs.B
open Go Go.RowKit Go.Proofs Go.Proofs.G Go.Proofs.F Go.Proofs.T Go.Proofs.YtpfoleggapngoaaW.PrintWords
theorem flat_get {α : Type} {enc : α → List Value} {sz : Nat} (hsz : ∀ x, (enc x).length = sz) : ∀ (xs : List α) (j i : Nat) (p : α) (u : Value), xs[j]? = some p → (enc p)[i]? = some u → (xs.flatMap enc)[j * sz + i]? = some u
  | [], j, i, p, u, h, _ => by simp at h
  | x :: xs, 0, i, p, u, h, hu => by
    injection h with h
    subst h
    have hi : i < (enc x).length := (List.getElem?_eq_some_iff.1 hu).1
    rw [List.flatMap_cons, Nat.zero_mul, Nat.zero_add, List.getElem?_append_left hi, hu]
  | x :: xs, j + 1, i, p, u, h, hu => by
    have ih := flat_get hsz xs j i p u (by simpa using h) hu
    rw [List.flatMap_cons, List.getElem?_append_right (by rw [hsz x, Nat.add_mul]; omega), hsz x, show (j + 1) * sz + i - sz = j * sz + i by rw [Nat.add_mul]; omega]
    exact ih
theorem reps_flat {α : Type} {R : α → List Value → Prop} {enc : α → List Value} {sz : Nat} (ho : ∀ x cs, R x cs → cs = enc x) : ∀ (xs : List α) (cs : List Value), Reps R sz xs cs → cs = xs.flatMap enc
  | [], cs, h => by
    have := h.1
    rw [List.length_nil, Nat.zero_mul] at this
    rw [List.eq_nil_of_length_eq_zero this]; rfl
  | x :: xs, cs, h => by
    have h1 := ho x _ (h.2 0 x rfl)
    rw [Nat.zero_mul, List.drop_zero] at h1
    have h2 := reps_flat ho xs (cs.drop sz) ⟨by rw [List.length_drop, h.1, List.length_cons, Nat.succ_mul, Nat.add_sub_cancel], fun j p hp => by
      have := h.2 (j + 1) p (by simpa using hp)
      rw [List.drop_drop, show sz + j * sz = (j + 1) * sz by rw [Nat.succ_mul, Nat.add_comm]]
      exact this⟩
    rw [List.flatMap_cons, ← h1, ← h2, List.take_append_drop]
/-- The block of a whole row of one's own. -/
theorem raw_of {α : Type} {d : Kd α} {enc : α → List Value} (ho : ∀ (w : World) (base : Nat) (ok : Nat → Prop) x cs, d.M w base ok x cs → cs = enc x) {e : TypeId} {w : World} {base : Nat} {ok : Nat → Prop} {g n : Nat} {xs : List α} (h : d.R e w base ok (.slice (some ⟨g, 0, none⟩) n n) xs) : w.heap[g]? = some (.cells (xs.flatMap enc).toArray e (0, 0)) ∧ base ≤ g := by
  obtain ⟨_, inner, hown, hr⟩ := h
  have hin := reps_flat (fun x cs hx => ho _ _ _ x cs hx) xs inner hr
  rcases hown.2 with ⟨h1, _⟩ | ⟨g', cap, cur, h1, h2, h3, h4, h5, h6, h7⟩
  · cases h1
  · injection h1 with ha hn hc
    injection ha with ha
    injection ha with hg
    subst hg; subst hc
    rw [List.take_of_length_le (by rw [Array.length_toList, h6, hn]; exact Nat.le_refl _)] at h7
    rw [h3]
    refine ⟨?_, h2⟩
    rw [← hin, ← h7]
theorem C_of_raw {α : Type} {d : Kd α} {enc : α → List Value} (hmk : ∀ (w : World) x, d.K w x (enc x)) (hsz : ∀ x, (enc x).length = d.sz) {w : World} {g : Nat} {cells : Array Value} {t : TypeId} {f : Nat × Nat} {xs : List α} {n : Nat} (K : w.heap[g]? = some (.cells cells t f)) (hc : cells.toList = xs.flatMap enc) (hn : xs.length = n) (hl : n ≤ 1000) : d.C w (some ⟨g, 0, none⟩) n xs := by
  refine ⟨hn, by omega, fun _ => ⟨_, rfl, fun j p hj => ⟨enc p, hsz p, hmk w p, fun i u hu => ?_⟩⟩⟩
  rw [add_lit]
  refine cellAt K ?_
  have := flat_get hsz xs j i p u hj hu
  rw [← hc] at this
  rw [← this, Array.getElem?_toList, Nat.zero_add]
def e3 (x : Int) : List Value := [.int .i64 x]
theorem rawI {w : World} {base : Nat} {ok : Nat → Prop} {g n : Nat} {xs : List Int} (h : (Kd.int .i64).R 3 w base ok (.slice (some ⟨g, 0, none⟩) n n) xs) : w.heap[g]? = some (.cells (xs.flatMap e3).toArray 3 (0, 0)) ∧ base ≤ g := raw_of (fun _ _ _ x cs h => h) h
theorem raw70 {w : World} {base : Nat} {ok : Nat → Prop} {g n : Nat} {xs : List S70} (h : k70.R 70 w base ok (.slice (some ⟨g, 0, none⟩) n n) xs) : w.heap[g]? = some (.cells (xs.flatMap enc70).toArray 70 (0, 0)) ∧ base ≤ g := raw_of (fun _ _ _ x cs h => k70_openM h) h
theorem raw76 {w : World} {base : Nat} {ok : Nat → Prop} {g n : Nat} {xs : List S76} (h : k76.R 76 w base ok (.slice (some ⟨g, 0, none⟩) n n) xs) : w.heap[g]? = some (.cells (xs.flatMap enc76).toArray 76 (0, 0)) ∧ base ≤ g := raw_of (fun _ _ _ x cs h => k76_openM h) h
theorem CI {w : World} {g : Nat} {cells : Array Value} {t : TypeId} {f : Nat × Nat} {xs : List Int} {n : Nat} (K : w.heap[g]? = some (.cells cells t f)) (hc : cells.toList = xs.flatMap e3) (hn : xs.length = n) (hl : n ≤ 1000) : (Kd.int .i64).C w (some ⟨g, 0, none⟩) n xs := C_of_raw (fun _ _ => rfl) (fun _ => rfl) K hc hn hl
theorem C70 {w : World} {g : Nat} {cells : Array Value} {t : TypeId} {f : Nat × Nat} {xs : List S70} {n : Nat} (K : w.heap[g]? = some (.cells cells t f)) (hc : cells.toList = xs.flatMap enc70) (hn : xs.length = n) (hl : n ≤ 1000) : k70.C w (some ⟨g, 0, none⟩) n xs := C_of_raw (fun w x => k70_mk w x) (fun _ => rfl) K hc hn hl
theorem C76 {w : World} {g : Nat} {cells : Array Value} {t : TypeId} {f : Nat × Nat} {xs : List S76} {n : Nat} (K : w.heap[g]? = some (.cells cells t f)) (hc : cells.toList = xs.flatMap enc76) (hn : xs.length = n) (hl : n ≤ 1000) : k76.C w (some ⟨g, 0, none⟩) n xs := C_of_raw (fun w x => k76_mk w x) (fun _ => rfl) K hc hn hl
abbrev pileW : Array Value := #[.int .i64 30, .int .i64 40, .int .i64 50, .int .i64 35, .int .i64 45, .int .i64 60, .int .i64 25]
abbrev yardW : Array Value := #[.int .i64 50, .int .i64 60, .int .i64 20, .int .i64 5, .int .i64 10, .int .i64 40, .int .i64 60, .int .i64 30, .int .i64 2, .int .i64 8]
abbrev bookW (last : Int) : Array Value := #[.int .i64 0, .int .i64 1, .int .i64 10, .int .i64 20, .int .i64 1, .int .i64 2, .int .i64 5, .int .i64 12, .int .i64 1, .int .i64 0, .int .i64 2, .int .i64 4, .int .i64 2, .int .i64 0, .int .i64 0, .int .i64 last]
theorem pileX_c (w : World) : Calls Try.prog 59 #[] w fun e w' => ∃ g, e = .returned (.agg #[.slice (some ⟨g, 0, none⟩) 7 7, .int .i64 100, .int .i64 10]) ∧ w'.heap[g]? = some (.cells pileW 3 (0, 0)) ∧ w.heap.size ≤ g ∧ Bel w w' :=
  (pile_c w).mono fun e w' ⟨g, h1, h2, h3⟩ => ⟨g, h1, (rawI h2).1, (rawI h2).2, h3⟩
theorem yardX_c (w : World) : Calls Try.prog 60 #[] w fun e w' => ∃ g, e = .returned (.slice (some ⟨g, 0, none⟩) 2 2) ∧ w'.heap[g]? = some (.cells yardW 70 (0, 0)) ∧ w.heap.size ≤ g ∧ Bel w w' :=
  (yard_c w).mono fun e w' ⟨g, h1, h2, h3⟩ => ⟨g, h1, (raw70 h2).1, (raw70 h2).2, h3⟩
theorem bookX_c (last : Int) (w : World) : Calls Try.prog 61 #[.int .i64 last] w fun e w' => ∃ g, e = .returned (.agg #[.int .i64 3, .slice (some ⟨g, 0, none⟩) 4 4]) ∧ w'.heap[g]? = some (.cells (bookW last) 76 (0, 0)) ∧ w.heap.size ≤ g ∧ Bel w w' :=
  (book_c last w).mono fun e w' ⟨g, h1, h2, h3⟩ => ⟨g, h1, (raw76 h2).1, (raw76 h2).2, h3⟩
end Go.Proofs.B
