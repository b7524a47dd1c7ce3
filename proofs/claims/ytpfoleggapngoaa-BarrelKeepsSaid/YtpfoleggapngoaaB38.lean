/- barrel: the plain law of Kept: what is put keeps the best levels. -/
import Derived.Test.YtpfoleggapngoaaB36
set_option linter.unusedVariables false
namespace Go.Proofs.B
open Go Go.RowKit Go.Proofs Go.Proofs.G Go.Proofs.F Go.Proofs.YtpfoleggapngoaaW.PrintWords
/-- These levels can be kept for so many months. -/
def KF (y : List S70) (r : Nat) (lv : Nat → Int) : Prop := ∃ p, p.length = r ∧ okPlan y lv p
def lvOf (x : List Int) : Nat → Int := fun i => rd x (i : Nat)
theorem KF.mono {y : List S70} {r : Nat} {f g : Nat → Int} (h : KF y r f) (hfg : ∀ i, i < y.length → f i ≤ g i) : KF y r g := by
  obtain ⟨p, h1, h2⟩ := h
  exact ⟨p, h1, okPlan_mono y p f g hfg h2⟩
theorem kf_bad {y : List S70} {r : Nat} {f : Nat → Int} : KF y r f ↔ ¬ Bad y r f := by
  constructor
  · rintro ⟨p, h1, h2⟩ hb
    exact hb p h1 h2
  · intro h
    refine Classical.byContradiction fun hn => h fun p h1 h2 => hn ⟨p, h1, h2⟩
theorem kf_zero (y : List S70) (f : Nat → Int) : KF y 0 f := ⟨[], rfl, trivial⟩
theorem kf_succ {y : List S70} {r : Nat} {lv : Nat → Int} : KF y (r + 1) lv ↔ dryUp (dryP y lv (hiF y)) y.length < 0 ∧ ∃ t : Nat, t < y.length ∧ KF y r (topF y t (lkF lv (hiF y) y.length)) := by
  constructor
  · rintro ⟨p, h1, h2⟩
    cases p with
    | nil => cases h1
    | cons t ts =>
      obtain ⟨h3, ⟨h4, h5⟩, h6⟩ := h2
      obtain ⟨k, rfl⟩ := Int.eq_ofNat_of_zero_le h4
      exact ⟨h3, k, by omega, ts, by simpa using h1, h6⟩
  · rintro ⟨h1, t, h2, ts, h3, h4⟩
    exact ⟨t :: ts, by simp [h3], h1, ⟨by omega, by omega⟩, h4⟩
theorem put_mem {l : List (List Int)} {one x : List Int} (h : x ∈ putL l one) : x ∈ l ∨ x = one := by
  unfold putL at h
  split at h
  · rcases List.mem_append.1 h with h | h
    · exact .inl (List.mem_filter.1 h).1
    · exact .inr (by simpa using h)
  · exact .inl h
theorem put_len (l : List (List Int)) (one : List Int) : (putL l one).length ≤ l.length + 1 := by
  unfold putL
  split
  · rw [List.length_append]
    have := List.length_filter_le (fun x => !decide (HiP one x)) l
    simp only [List.length_singleton]; omega
  · omega
theorem put_ex {l : List (List Int)} {one : List Int} {Q : List Int → Prop} (h1 : ∀ x ∈ l, HiP x one → Q one → Q x) (h2 : ∀ x ∈ l, HiP one x → Q x → Q one) : (∃ x ∈ putL l one, Q x) ↔ (∃ x ∈ l, Q x) ∨ Q one := by
  constructor
  · rintro ⟨x, hx, hq⟩
    rcases put_mem hx with h | rfl
    · exact .inl ⟨x, h, hq⟩
    · exact .inr hq
  · intro h
    by_cases hc : ∀ x ∈ l, ¬ HiP x one
    · unfold putL
      rw [if_pos hc]
      rcases h with ⟨x, hx, hq⟩ | hq
      · by_cases ho : HiP one x
        · exact ⟨one, by simp, h2 x hx ho hq⟩
        · exact ⟨x, List.mem_append.2 (.inl (List.mem_filter.2 ⟨hx, by simp [ho]⟩)), hq⟩
      · exact ⟨one, by simp, hq⟩
    · unfold putL
      rw [if_neg hc]
      rcases h with ⟨x, hx, hq⟩ | hq
      · exact ⟨x, hx, hq⟩
      · have : ∃ x, x ∈ l ∧ HiP x one := by
          refine Classical.byContradiction fun hn => hc fun x hx hh => hn ⟨x, hx, hh⟩
        obtain ⟨x, hx, hh⟩ := this
        exact ⟨x, hx, h1 x hx hh hq⟩
/-- Lists of levels that stand for the yard. -/
def Lvs (y : List S70) (x : List Int) : Prop := x.length = y.length ∧ ∀ i : Nat, i < y.length → 0 ≤ rd x i ∧ rd x i ≤ 1000
theorem put_kf {y : List S70} {r : Nat} {l : List (List Int)} {one : List Int} (hl : ∀ x ∈ l, Lvs y x) (ho : Lvs y one) : (∃ x ∈ putL l one, KF y r (lvOf x)) ↔ (∃ x ∈ l, KF y r (lvOf x)) ∨ KF y r (lvOf one) :=
  put_ex (fun x hx hh hq => hq.mono fun i hi => hh i (by rw [(hl x hx).1]; exact hi)) (fun x hx hh hq => hq.mono fun i hi => hh i (by rw [ho.1]; exact hi))
theorem lvList_len' (f : Nat → Int) (k : Nat) : (lvList f k).length = k := by simp [lvList]
theorem lvList_rd' (f : Nat → Int) (n i : Nat) (h : i < n) : rd (lvList f n) i = f i := by rw [rd_nat _ i (by rw [lvList_len']; exact h)]; simp [lvList]
theorem kf_list {y : List S70} {r : Nat} {f : Nat → Int} : KF y r (lvOf (lvList f y.length)) ↔ KF y r f :=
  ⟨fun h => h.mono fun i hi => by unfold lvOf; rw [lvList_rd' f _ i hi]; exact Int.le_refl _, fun h => h.mono fun i hi => by unfold lvOf; rw [lvList_rd' f _ i hi]; exact Int.le_refl _⟩
theorem lvs_list {y : List S70} {f : Nat → Int} (h : ∀ i, i < y.length → 0 ≤ f i ∧ f i ≤ 1000) : Lvs y (lvList f y.length) := ⟨lvList_len' _ _, fun i hi => by rw [lvList_rd' f _ i hi]; exact h i hi⟩
end Go.Proofs.B
