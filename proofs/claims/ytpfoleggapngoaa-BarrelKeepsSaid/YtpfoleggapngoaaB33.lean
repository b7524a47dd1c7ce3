/- barrel: the plain law of the barrel that is dry first, if none is topped up. -/
import Derived.Test.YtpfoleggapngoaaB32
set_option linter.unusedVariables false
namespace Go.Proofs.B
open Go Go.RowKit Go.Proofs Go.Proofs.G Go.Proofs.F Go.Proofs.YtpfoleggapngoaaW.PrintWords
/-- The first that holds. -/
theorem dryUp_at {p : Nat → Bool} : ∀ {n : Nat}, 0 ≤ dryUp p n → ∃ i : Nat, dryUp p n = i ∧ i < n ∧ p i = true ∧ ∀ j, j < i → p j = false
  | 0, h => by simp [dryUp] at h
  | n + 1, h => by
    unfold dryUp at h ⊢
    split at h
    · rename_i hc
      rw [if_pos hc]
      exact ⟨n, rfl, Nat.lt_succ_self _, hc.2, fun j hj => (dryUp_neg p n).1 hc.1 j hj⟩
    · rename_i hc
      rw [if_neg hc]
      obtain ⟨i, h1, h2, h3⟩ := dryUp_at h
      exact ⟨i, h1, by omega, h3⟩
theorem firstGo_e (y : List S70) (n : Nat) (m : Int) (lv : Nat → Int) : firstGo y (n + 1) m lv = if 0 ≤ dryUp (dryP y lv (hiF y)) y.length then (dryUp (dryP y lv (hiF y)) y.length, m, 0) else firstGo y n (m + 1) (lkF lv (hiF y) y.length) := rfl
theorem runGo_e (y : List S70) (plan : List Int) (leaks : List (List Int)) (n k : Nat) (lv : Nat → Int) : runGo y plan leaks (n + 1) k lv = if 0 ≤ dryUp (dryP y lv (leakAt leaks k)) y.length then (lkF lv (leakAt leaks k) y.length, (k : Int)) else runGo y plan leaks n (k + 1) (topF y (rd plan k) (lkF lv (leakAt leaks k) y.length)) := rfl
theorem dryUp_congr {p q : Nat → Bool} : ∀ {n : Nat}, (∀ i, i < n → p i = q i) → dryUp p n = dryUp q n
  | 0, _ => rfl
  | n + 1, h => by unfold dryUp; rw [dryUp_congr (fun i hi => h i (by omega)), h n (by omega)]
theorem dryP_leak {y : List S70} {leaks : List (List Int)} {k : Nat} (lv : Nat → Int) (h : ∀ i, i < y.length → leakAt leaks k i = hiF y i) : dryUp (dryP y lv (leakAt leaks k)) y.length = dryUp (dryP y lv (hiF y)) y.length :=
  dryUp_congr fun i hi => by unfold dryP; rw [h i hi]
theorem lkF_leak {y : List S70} {leaks : List (List Int)} {k : Nat} (lv : Nat → Int) (h : ∀ i, i < y.length → leakAt leaks k i = hiF y i) : lkF lv (leakAt leaks k) y.length = lkF lv (hiF y) y.length := by
  funext i
  unfold lkF
  split
  · rename_i hi; rw [h i hi]
  · rfl
theorem dryP_lt {y : List S70} {lv f : Nat → Int} {i : Nat} (hi : i < y.length) : (dryP y lv f i = true ↔ lkF lv f y.length i < (yd y i).f2) := by
  unfold dryP lkF
  rw [if_pos hi, decide_eq_true_iff]
/-- The run in which none is topped up, and the first. -/
theorem first_run {y : List S70} {plan : List Int} {leaks : List (List Int)} : ∀ (n k : Nat) (lv : Nat → Int), (∀ j, k ≤ j → j < k + n → rd plan (j : Nat) = -1) → (∀ j, k ≤ j → j < k + n → ∀ i, i < y.length → leakAt leaks j i = hiF y i) →
    (firstGo y n k lv = (0, 0, 4) ∧ (runGo y plan leaks n k lv).2 = -1) ∨
    (∃ who wh : Nat, firstGo y n k lv = ((who : Int), (wh : Int), 0) ∧ k ≤ wh ∧ wh < k + n ∧ who < y.length ∧ (runGo y plan leaks n k lv).2 = (wh : Int) ∧ (runGo y plan leaks n k lv).1 who < (yd y who).f2 ∧ ∀ i, i < who → (yd y i).f2 ≤ (runGo y plan leaks n k lv).1 i)
  | 0, k, lv, _, _ => .inl ⟨rfl, rfl⟩
  | n + 1, k, lv, h1, h2 => by
    have hk := h2 k (Nat.le_refl _) (by omega)
    rw [firstGo_e, runGo_e, dryP_leak lv hk, lkF_leak lv hk, h1 k (Nat.le_refl _) (by omega), topF_neg y (-1) _ (by decide)]
    by_cases hd : 0 ≤ dryUp (dryP y lv (hiF y)) y.length
    · rw [if_pos hd, if_pos hd]
      obtain ⟨i, e1, e2, e3, e4⟩ := dryUp_at hd
      refine .inr ⟨i, k, by rw [e1], Nat.le_refl _, by omega, e2, rfl, (dryP_lt e2).1 e3, fun j hj => ?_⟩
      have := e4 j hj
      have h3 : ¬ lkF lv (hiF y) y.length j < (yd y j).f2 := fun h => by rw [(dryP_lt (show j < y.length by omega)).2 h] at this; cases this
      exact Int.not_lt.1 h3
    · rw [if_neg hd, if_neg hd]
      have e : ((k : Int) + 1) = ((k + 1 : Nat) : Int) := rfl
      rw [e]
      rcases first_run n (k + 1) (lkF lv (hiF y) y.length) (fun j a b => h1 j (by omega) (by omega)) (fun j a b => h2 j (by omega) (by omega)) with h | ⟨who, wh, e1, e2, e3, e4⟩
      · exact .inl h
      · exact .inr ⟨who, wh, e1, by omega, by omega, e4⟩
/-- A plan that keeps longer tops that barrel up before. -/
theorem first_top {y : List S70} {plan : List Int} {leaks : List (List Int)} {who wh : Nat} (hw : who < y.length) : ∀ (n k : Nat) (lv lv' : Nat → Int), lv who = lv' who → (∀ j, k ≤ j → j < k + n → ∀ i, i < y.length → leakAt leaks j i = hiF y i) →
    firstGo y n k lv' = ((who : Int), (wh : Int), 0) → (∀ j, k ≤ j → j < wh → rd plan (j : Nat) ≠ who) → k ≤ wh ∧ ¬ (runGo y plan leaks n k lv).2 < 0
  | 0, k, lv, lv', _, _, h3, _ => by cases h3
  | n + 1, k, lv, lv', h1, h2, h3, h4 => by
    have hk := h2 k (Nat.le_refl _) (by omega)
    rw [firstGo_e] at h3
    by_cases hd : 0 ≤ dryUp (dryP y lv' (hiF y)) y.length
    · rw [if_pos hd] at h3
      injection h3 with h5 h6
      injection h6 with h6 _
      refine ⟨by omega, fun hr => ?_⟩
      obtain ⟨h7, _⟩ := run_step hr
      rw [dryP_leak lv hk] at h7
      obtain ⟨i, e1, e2, e3, e4⟩ := dryUp_at hd
      obtain rfl : i = who := by omega
      have h8 := (dry_iff _ _ _).1 h7 i hw
      have h9 := (dryP_lt hw).1 e3
      unfold lkF at h8 h9
      rw [if_pos hw] at h8 h9
      rw [h1] at h8
      omega
    · rw [if_neg hd] at h3
      have e : ((k : Int) + 1) = ((k + 1 : Nat) : Int) := rfl
      rw [e] at h3
      have hlt : k + 1 ≤ wh ∧ ¬ (runGo y plan leaks n (k + 1) (topF y (rd plan k) (lkF lv (leakAt leaks k) y.length))).2 < 0 → (k ≤ wh ∧ ¬ (runGo y plan leaks (n + 1) k lv).2 < 0) := fun ⟨a, b⟩ => ⟨by omega, fun hr => by
        obtain ⟨_, h7⟩ := run_step hr
        rw [h7] at hr
        exact b hr⟩
      have hwh : k + 1 ≤ wh := by
        rcases first_run (plan := List.replicate (k + 1 + n) (-1)) (leaks := leaks) n (k + 1) (lkF lv' (hiF y) y.length) (fun j a b => by simp [rd, List.getD_eq_getElem?_getD, b]) (fun j a b => h2 j (by omega) (by omega)) with h | ⟨_, w2, e1, e2, _⟩
        · rw [h.1] at h3; cases h3
        · rw [e1] at h3
          injection h3 with _ h6
          injection h6 with h6 _
          omega
      refine hlt (first_top hw n (k + 1) _ _ ?_ (fun j a b => h2 j (by omega) (by omega)) h3 (fun j a b => h4 j (by omega) b))
      have h10 := h4 k (Nat.le_refl _) (by omega)
      unfold topF lkF
      rw [if_pos hw, if_neg (by omega), if_pos hw, h1, hk who hw]
theorem place_lt {plan : List Int} {who : Int} {p : Int} (h : IsPlace plan who p) {m : Nat} (hm : ∃ j : Nat, j < m ∧ j < plan.length ∧ rd plan j = who) : 0 ≤ p ∧ p < m := by
  obtain ⟨j, h1, h2, h3⟩ := hm
  rcases h with ⟨_, h⟩ | ⟨k, h4, _, _, h5⟩
  · refine absurd ?_ h
    rw [← h3]
    unfold rd
    rw [List.getD_eq_getElem?_getD, Int.toNat_natCast, List.getElem?_eq_getElem h2]
    exact List.getElem_mem h2
  · refine ⟨by omega, ?_⟩
    by_cases hc : j < k
    · exact absurd h3 (h5 j hc)
    · omega
theorem first_place {y : List S70} {plan : List Int} {leaks : List (List Int)} {who wh n : Nat} {lv : Nat → Int} {p : Int} (hw : who < y.length) (hn : plan.length = n) (h2 : ∀ j, j < n → ∀ i, i < y.length → leakAt leaks j i = hiF y i) (h3 : firstGo y n 0 lv = ((who : Int), (wh : Int), 0)) (hwn : wh < n) (hr : (runGo y plan leaks n 0 lv).2 = -1) (hp : IsPlace plan who p) : 0 ≤ p ∧ p < wh := by
  refine place_lt hp ?_
  refine Classical.byContradiction fun hc => ?_
  have := (first_top (y := y) (plan := plan) (leaks := leaks) (wh := wh) hw n 0 lv lv rfl (fun j _ b => h2 j (by omega)) h3 (fun j _ b e => hc ⟨j, b, by omega, e⟩)).2
  rw [hr] at this
  exact this (by decide)
end Go.Proofs.B
