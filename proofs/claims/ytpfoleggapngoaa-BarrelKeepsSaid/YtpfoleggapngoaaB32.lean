/- barrel: the plain law of yards: with less leaks, higher levels. -/
import Derived.Test.YtpfoleggapngoaaB31
import Derived.Test.YtpfoleggapngoaaB30
set_option linter.unusedVariables false
namespace Go.Proofs.B
open Go Go.RowKit Go.Proofs Go.Proofs.G Go.Proofs.F Go.Proofs.YtpfoleggapngoaaW.PrintWords
theorem topF_mono {y : List S70} {a b : Nat → Int} (h : ∀ i, i < y.length → a i ≤ b i) (t : Int) : ∀ i, i < y.length → topF y t a i ≤ topF y t b i := fun i hi => by
  unfold topF
  split
  · exact Int.le_refl _
  · exact h i hi
theorem topF_idle {y : List S70} {a : Nat → Int} (h : lvFull y a) (t u : Int) (ht : t = u ∨ t < 0) : ∀ i, i < y.length → topF y t a i ≤ topF y u a i := fun i hi => by
  rcases ht with rfl | ht
  · exact Int.le_refl _
  · rw [topF_neg y t a ht]
    unfold topF
    split
    · exact h i hi
    · exact Int.le_refl _
theorem lkF_mono {lv lv' f f' : Nat → Int} {n : Nat} (h : ∀ i, i < n → lv i ≤ lv' i) (hf : ∀ i, i < n → f' i ≤ f i) : ∀ i, i < n → lkF lv f n i ≤ lkF lv' f' n i := fun i hi => by
  have h1 := h i hi
  have h2 := hf i hi
  unfold lkF
  rw [if_pos hi, if_pos hi]
  omega
theorem dry_iff (y : List S70) (lv f : Nat → Int) : dryUp (dryP y lv f) y.length < 0 ↔ ∀ i, i < y.length → (yd y i).f2 ≤ lkF lv f y.length i := by
  rw [dryUp_neg]
  constructor
  · intro h i hi
    have := h i hi
    unfold dryP at this
    have := of_decide_eq_false this
    unfold lkF
    rw [if_pos hi]; omega
  · intro h i hi
    have := h i hi
    unfold lkF at this
    rw [if_pos hi] at this
    unfold dryP
    exact decide_eq_false (by omega)
theorem run_step {y : List S70} {plan : List Int} {leaks : List (List Int)} {n k : Nat} {lv : Nat → Int} (h : (runGo y plan leaks (n + 1) k lv).2 < 0) :
    (dryUp (dryP y lv (leakAt leaks k)) y.length < 0) ∧ runGo y plan leaks (n + 1) k lv = runGo y plan leaks n (k + 1) (topF y (rd plan k) (lkF lv (leakAt leaks k) y.length)) := by
  have e : runGo y plan leaks (n + 1) k lv = if 0 ≤ dryUp (dryP y lv (leakAt leaks k)) y.length then (lkF lv (leakAt leaks k) y.length, (k : Int)) else runGo y plan leaks n (k + 1) (topF y (rd plan k) (lkF lv (leakAt leaks k) y.length)) := rfl
  rw [e] at h ⊢
  split at h
  · simp only at h; omega
  · rename_i hc
    rw [if_neg hc]
    exact ⟨by omega, rfl⟩
theorem run_mono {y : List S70} {plan : List Int} {leaks leaks' : List (List Int)} : ∀ (n k : Nat) (lv lv' : Nat → Int), (∀ i, i < y.length → lv i ≤ lv' i) → (∀ j, k ≤ j → j < k + n → ∀ i, i < y.length → leakAt leaks' j i ≤ leakAt leaks j i) → (runGo y plan leaks n k lv).2 < 0 →
    (runGo y plan leaks' n k lv').2 = -1 ∧ ∀ i, i < y.length → (runGo y plan leaks n k lv).1 i ≤ (runGo y plan leaks' n k lv').1 i
  | 0, k, lv, lv', h1, _, _ => ⟨rfl, h1⟩
  | n + 1, k, lv, lv', h1, h2, h3 => by
    obtain ⟨h4, h5⟩ := run_step h3
    rw [h5] at h3 ⊢
    have h6 := lkF_mono h1 (h2 k (Nat.le_refl _) (by omega))
    have h7 : dryUp (dryP y lv' (leakAt leaks' k)) y.length < 0 := (dry_iff _ _ _).2 fun i hi => by
      have := (dry_iff _ _ _).1 h4 i hi
      have := h6 i hi
      omega
    have h8 : runGo y plan leaks' (n + 1) k lv' = runGo y plan leaks' n (k + 1) (topF y (rd plan k) (lkF lv' (leakAt leaks' k) y.length)) := by
      rw [runGo, if_neg (by omega)]
    rw [h8]
    exact run_mono n (k + 1) _ _ (topF_mono h6 _) (fun j hj1 hj2 => h2 j (by omega) (by omega)) h3
theorem drop_rd {plan : List Int} {k : Nat} (h : k < plan.length) : plan.drop k = rd plan k :: plan.drop (k + 1) := by
  rw [rd_nat plan k h]; exact List.drop_eq_getElem_cons h
theorem run_ok {y : List S70} {plan : List Int} {leaks : List (List Int)} : ∀ (n k : Nat) (lv : Nat → Int), plan.length = k + n → (∀ j, k ≤ j → j < k + n → ∀ i, i < y.length → leakAt leaks j i = hiF y i) → okPlan y lv (plan.drop k) → (runGo y plan leaks n k lv).2 = -1
  | 0, k, lv, _, _, _ => rfl
  | n + 1, k, lv, hl, h2, h3 => by
    rw [drop_rd (by omega), okPlan] at h3
    obtain ⟨h4, h5, h6⟩ := h3
    have h7 : ∀ i, i < y.length → lkF lv (hiF y) y.length i = lkF lv (leakAt leaks k) y.length i := fun i hi => by
      unfold lkF; rw [if_pos hi, if_pos hi, h2 k (Nat.le_refl _) (by omega) i hi]
    have h8 : dryUp (dryP y lv (leakAt leaks k)) y.length < 0 := (dry_iff _ _ _).2 fun i hi => by rw [← h7 i hi]; exact (dry_iff _ _ _).1 h4 i hi
    rw [runGo, if_neg (by omega)]
    exact run_ok n (k + 1) _ (by omega) (fun j hj1 hj2 => h2 j (by omega) (by omega)) (okPlan_mono y _ _ _ (topF_mono (fun i hi => Int.le_of_eq (h7 i hi)) _) h6)
theorem run_plan {y : List S70} {plan : List Int} {leaks : List (List Int)} (hy1 : 1 ≤ y.length) (hhi : ∀ i, i < y.length → 0 ≤ hiF y i) : ∀ (n k : Nat) (lv : Nat → Int), plan.length = k + n → (∀ j, k ≤ j → j < k + n → ∀ i, i < y.length → leakAt leaks j i = hiF y i) → (∀ j, k ≤ j → j < k + n → -1 ≤ rd plan (j : Nat) ∧ rd plan (j : Nat) < y.length) → lvFull y lv → (∀ i, i < y.length → 0 ≤ (yd y i).f1) → (runGo y plan leaks n k lv).2 < 0 → ∃ p, p.length = n ∧ okPlan y lv p
  | 0, k, lv, _, _, _, _, _, _ => ⟨[], rfl, trivial⟩
  | n + 1, k, lv, hl, h2, ht, hf, h0, h3 => by
    obtain ⟨h4, h5⟩ := run_step h3
    rw [h5] at h3
    have h7 : ∀ i, i < y.length → lkF lv (leakAt leaks k) y.length i = lkF lv (hiF y) y.length i := fun i hi => by
      unfold lkF; rw [if_pos hi, if_pos hi, h2 k (Nat.le_refl _) (by omega) i hi]
    have hlf : lvFull y (lkF lv (leakAt leaks k) y.length) := fun i hi => by
      have h8 := hf i hi
      have h9 := hhi i hi
      have h10 := h0 i hi
      rw [h7 i hi]
      unfold lkF; rw [if_pos hi]; omega
    obtain ⟨p, hp1, hp2⟩ := run_plan hy1 hhi n (k + 1) _ (by omega) (fun j hj1 hj2 => h2 j (by omega) (by omega)) (fun j hj1 hj2 => ht j (by omega) (by omega)) (top_full hlf _) h0 h3
    have htk := ht k (Nat.le_refl _) (by omega)
    refine ⟨max (rd plan k) 0 :: p, by simp [hp1], ?_, ⟨by omega, by omega⟩, ?_⟩
    · exact (dry_iff _ _ _).2 fun i hi => by rw [← h7 i hi]; exact (dry_iff _ _ _).1 h4 i hi
    · refine okPlan_mono y p _ _ (fun i hi => ?_) hp2
      have h8 := topF_idle hlf (rd plan k) (max (rd plan k) 0) (by omega) i hi
      have h9 := topF_mono (fun i hi => Int.le_of_eq (h7 i hi)) (max (rd plan k) 0) i hi
      omega
theorem run_lv {y : List S70} (hy : yardOk y = true) {plan : List Int} {leaks : List (List Int)} : ∀ (n k : Nat) (lv : Nat → Int), (∀ j, k ≤ j → j < k + n → ∀ i, i < y.length → 0 ≤ leakAt leaks j i) → lvOk lv → lvFull y lv → (runGo y plan leaks n k lv).2 < 0 →
    (∀ i, i < y.length → 0 ≤ (runGo y plan leaks n k lv).1 i ∧ (runGo y plan leaks n k lv).1 i ≤ (yd y i).f1) ∧ (0 < n → ∀ i, i < y.length → (yd y i).f2 ≤ (runGo y plan leaks n k lv).1 i)
  | 0, k, lv, _, h1, h2, _ => ⟨fun i hi => ⟨(h1 i).1, h2 i hi⟩, fun h => absurd h (Nat.lt_irrefl 0)⟩
  | n + 1, k, lv, hp, h1, h2, h3 => by
    obtain ⟨h4, h5⟩ := run_step h3
    rw [h5] at h3 ⊢
    have hlk : lvOk (lkF lv (leakAt leaks k) y.length) := fun i => by
      have := h1 i
      unfold lkF
      split
      · rename_i hi
        have := hp k (Nat.le_refl _) (by omega) i hi
        omega
      · exact this
    have hlf : lvFull y (lkF lv (leakAt leaks k) y.length) := fun i hi => by
      have h8 := h2 i hi
      have h9 := hp k (Nat.le_refl _) (by omega) i hi
      have h10 := cask_rg (yard_cask hy i hi)
      unfold lkF; rw [if_pos hi]; omega
    have ih := run_lv hy n (k + 1) _ (fun j hj1 hj2 => hp j (by omega) (by omega)) (top_ok hy hlk (rd plan k)) (top_full hlf (rd plan k)) h3
    refine ⟨ih.1, fun _ => ?_⟩
    by_cases hn : 0 < n
    · exact ih.2 hn
    · obtain rfl : n = 0 := by omega
      intro i hi
      show (yd y i).f2 ≤ topF y (rd plan k) (lkF lv (leakAt leaks k) y.length) i
      have h9 := (dry_iff _ _ _).1 h4 i hi
      have h10 := cask_rg (yard_cask hy i hi)
      unfold topF
      split
      · omega
      · exact h9
/-! ### Leaks that are chosen -/
theorem leaksL_at (y : List S70) (months : Nat) (bits : List Int) (m : Nat) (h : m < months) : rd_L1 (leaksL y months bits) m = lvList (lkV y bits m) y.length := by
  rw [rdL_mem (by rw [leaksL_len]; exact h)]; simp [leaksL]
theorem leaksL_leak (y : List S70) (months : Nat) (bits : List Int) (m i : Nat) (h : m < months) (hi : i < y.length) : leakAt (leaksL y months bits) m i = lkV y bits m i := by
  unfold leakAt
  rw [leaksL_at y months bits m h, lvList_rd _ _ _ hi]
theorem lkV_rg {y : List S70} (hy : yardOk y = true) (bits : List Int) (m i : Nat) (hi : i < y.length) : (yd y i).f3.f0 ≤ lkV y bits m i ∧ lkV y bits m i ≤ (yd y i).f3.f1 := by
  have h := cask_rg (yard_cask hy i hi)
  unfold lkV
  split
  · unfold hiF; omega
  · exact chosen_rg h.2.2.2.2.1 _
theorem planOk_of {y : List S70} (hy : yardOk y = true) {months : Nat} (hm : months ≤ 12) (bits : List Int) {plan : List Int} (hl : plan.length = months) (ht : ∀ j, j < months → -1 ≤ rd plan (j : Nat) ∧ rd plan (j : Nat) ≤ (y.length : Int) - 1) : PlanOk y plan (leaksL y months bits) := by
  refine ⟨⟨by omega, by rw [leaksL_len, hl]⟩, fun m hm' => ?_⟩
  rw [hl] at hm'
  refine ⟨⟨ht m hm', by rw [leaksL_at y months bits m hm', lvList_len]⟩, fun i hi => ?_⟩
  unfold CellOk
  rw [leaksL_at y months bits m hm', lvList_rd _ _ _ hi]
  exact lkV_rg hy bits m i hi
theorem okPlan_tops {y : List S70} : ∀ (p : List Int) (lv : Nat → Int), okPlan y lv p → ∀ j : Nat, j < p.length → 0 ≤ rd p j ∧ rd p j < y.length
  | [], _, _, j, hj => by simp at hj
  | t :: ts, lv, h, j, hj => by
    obtain ⟨_, h1, h2⟩ := h
    cases j with
    | zero => exact h1
    | succ j =>
      have := okPlan_tops ts _ h2 j (by simpa using hj)
      rw [rd_nat ts j (by simpa using hj)] at this
      rw [rd_nat (t :: ts) (j + 1) hj]
      exact this
end Go.Proofs.B
