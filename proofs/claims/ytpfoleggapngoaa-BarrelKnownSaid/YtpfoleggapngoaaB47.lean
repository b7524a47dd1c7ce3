/- barrel: barrels as lists of staves, and as sets that are numbers. -/
import Derived.Test.YtpfoleggapngoaaB23
import Derived.Test.YtpfoleggapngoaaB24
import Derived.Test.YtpfoleggapngoaaB15
import Derived.Test.YtpfoleggapngoaaP4
set_option linter.unusedVariables false
set_option linter.unusedSimpArgs false
namespace Go.Proofs.B
open Go Go.RowKit Go.Proofs Go.Proofs.G Go.Proofs.F Go.Proofs.T Go.Proofs.YtpfoleggapngoaaW.PrintWords
def wideS (ws : List Int) (S : Nat) : Nat → Int
  | 0 => 0
  | k + 1 => wideS ws S k + (if S.testBit k = true then rd ws k else 0)
def isBS (ws : List Int) (girth play : Int) (S : Nat) : Bool := decide (S ≠ 0) && decide (girth - play ≤ wideS ws S ws.length ∧ wideS ws S ws.length ≤ girth)
/-- A list of staves stands for a set. -/
def Rep (n : Nat) (st : List Int) (S : Nat) : Prop := ∀ i : Nat, (S.testBit i = true ↔ (i : Int) ∈ st)
theorem sumN_pt (f : Nat → Int) (k : Nat) : ∀ n, k < n → sumN (fun i => if i = k then f i else 0) n = f k
  | 0, h => by omega
  | n + 1, h => by
    unfold sumN
    by_cases e : n = k
    · subst e
      have hz : ∀ m, m ≤ n → sumN (fun i => if i = n then f i else 0) m = 0 := fun m => by
        induction m with
        | zero => intro _; rfl
        | succ m ih => intro hm; unfold sumN; rw [ih (by omega), if_neg (by omega)]; rfl
      rw [hz n (Nat.le_refl _), if_pos rfl]; omega
    · rw [sumN_pt f k n (by omega), if_neg e]; omega
open Classical in
theorem sum_mem (f : Nat → Int) (n : Nat) : ∀ st : List Int, st.Nodup → (∀ k ∈ st, 0 ≤ k ∧ k < n) → (st.map (fun k => f k.toNat)).sum = sumN (fun i => if (i : Int) ∈ st then f i else 0) n
  | [], _, _ => by
    have hz : ∀ m, sumN (fun i => if (i : Int) ∈ ([] : List Int) then f i else 0) m = 0 := fun m => by
      induction m with
      | zero => rfl
      | succ m ih => unfold sumN; rw [ih]; simp
    rw [hz n]; rfl
  | k :: ks, hn, hr => by
    obtain ⟨h1, h2⟩ := List.nodup_cons.1 hn
    have ih := sum_mem f n ks h2 (fun x hx => hr x (by simp [hx]))
    have hk := hr k (by simp)
    have e : sumN (fun i => if (i : Int) ∈ k :: ks then f i else 0) n = sumN (fun i => (if i = k.toNat then f i else 0) + (if (i : Int) ∈ ks then f i else 0)) n := sumN_congr n fun i hi => by
      by_cases e1 : i = k.toNat
      · have e2 : (i : Int) = k := by omega
        rw [if_pos e1, if_pos (by rw [e2]; simp), if_neg (by rw [e2]; exact h1)]; omega
      · have e2 : (i : Int) ≠ k := by omega
        rw [if_neg e1]
        by_cases e3 : (i : Int) ∈ ks
        · rw [if_pos (by simp [e3]), if_pos e3]; omega
        · rw [if_neg (by simp [e2, e3]), if_neg e3]; omega
    rw [e, sumN_add, sumN_pt f k.toNat n (by omega), ← ih]
    simp
theorem wideS_sum (ws : List Int) (S : Nat) : ∀ n, wideS ws S n = sumN (fun i => if S.testBit i = true then rd ws i else 0) n
  | 0 => rfl
  | n + 1 => by unfold wideS sumN; rw [wideS_sum ws S n]
theorem rep_sum {ws st : List Int} {S : Nat} (hr : Rep ws.length st S) (hn : st.Nodup) (hb : ∀ k ∈ st, 0 ≤ k ∧ k < ws.length) : (st.map (rd ws)).sum = wideS ws S ws.length := by
  rw [wideS_sum]
  have h := sum_mem (fun i => rd ws (i : Nat)) ws.length st hn hb
  have e : st.map (rd ws) = st.map (fun k => rd ws ((k.toNat : Nat) : Int)) := List.map_congr_left fun k hk => by rw [Int.toNat_of_nonneg (hb k hk).1]
  rw [e, h]
  refine sumN_congr _ fun i hi => ?_
  by_cases h1 : S.testBit i = true
  · rw [if_pos h1, if_pos ((hr i).1 h1)]
  · rw [if_neg h1, if_neg (fun h => h1 ((hr i).2 h))]
theorem rep_zero {n : Nat} {st : List Int} {S : Nat} (hr : Rep n st S) (hb : ∀ k ∈ st, 0 ≤ k) : (S ≠ 0) ↔ 0 < st.length := by
  constructor
  · intro h
    obtain ⟨i, hi⟩ := Nat.exists_testBit_of_ne_zero h
    exact List.length_pos_of_mem ((hr i).1 hi)
  · intro h e
    cases st with
    | nil => simp at h
    | cons k ks =>
      have hk := hb k (by simp)
      have := (hr k.toNat).2 (by rw [Int.toNat_of_nonneg hk]; simp)
      rw [e, Nat.zero_testBit] at this; cases this
theorem rep_is {ws st : List Int} {S : Nat} (girth play : Int) (hr : Rep ws.length st S) (hn : st.Nodup) (hb : ∀ k ∈ st, 0 ≤ k ∧ k < ws.length) : isBarrelL ws girth play st = isBS ws girth play S := by
  unfold isBarrelL isBS
  rw [rep_sum hr hn hb]
  have := rep_zero hr (fun k hk => (hb k hk).1)
  by_cases h : S ≠ 0
  · rw [decide_eq_true h, decide_eq_true (this.1 h)]
  · rw [decide_eq_false h, decide_eq_false (fun h2 => h (this.2 h2))]
theorem rising_nodup {st : List Int} (h : st.Pairwise (· < ·)) : st.Nodup := h.imp fun hlt e => by omega
/-- The set of a list, and the list of a set. -/
def setN (st : List Int) : Nat := st.foldl (fun a k => a ||| 2 ^ k.toNat) 0
theorem setN_go : ∀ (st : List Int) (a i : Nat), (∀ k ∈ st, 0 ≤ k) → ((st.foldl (fun a k => a ||| 2 ^ k.toNat) a).testBit i = true ↔ a.testBit i = true ∨ (i : Int) ∈ st)
  | [], a, i, _ => by simp
  | k :: ks, a, i, h => by
    have hk := h k (by simp)
    rw [List.foldl_cons, setN_go ks _ i (fun x hx => h x (by simp [hx])), Nat.testBit_or, Nat.testBit_two_pow, Bool.or_eq_true, decide_eq_true_eq, List.mem_cons]
    constructor
    · rintro ((h1 | h1) | h1)
      · exact .inl h1
      · exact .inr (.inl (by omega))
      · exact .inr (.inr h1)
    · rintro (h1 | h1 | h1)
      · exact .inl (.inl h1)
      · exact .inl (.inr (by omega))
      · exact .inr h1
theorem setN_rep {n : Nat} {st : List Int} (h : ∀ k ∈ st, 0 ≤ k) : Rep n st (setN st) := fun i => by
  have := setN_go st 0 i h
  rw [Nat.zero_testBit] at this
  simpa [setN] using this
def mems (S n : Nat) : List Int := ((List.range n).filter (fun i : Nat => S.testBit i)).map (fun i : Nat => (i : Int))
theorem mems_mem (S n : Nat) (k : Int) : k ∈ mems S n ↔ ∃ i : Nat, i < n ∧ S.testBit i = true ∧ k = i := by
  simp only [mems, List.mem_map, List.mem_filter, List.mem_range]
  constructor
  · rintro ⟨i, ⟨h1, h2⟩, rfl⟩; exact ⟨i, h1, h2, rfl⟩
  · rintro ⟨i, h1, h2, rfl⟩; exact ⟨i, ⟨h1, h2⟩, rfl⟩
theorem mems_rep {S n : Nat} (h : S < 2 ^ n) : Rep n (mems S n) S := fun i => by
  rw [mems_mem]
  constructor
  · intro hi
    refine ⟨i, Classical.byContradiction fun hn => ?_, hi, rfl⟩
    rw [Nat.testBit_lt_two_pow (Nat.lt_of_lt_of_le h (Nat.pow_le_pow_right (by decide) (by omega)))] at hi
    cases hi
  · rintro ⟨j, _, h1, e⟩
    have : i = j := by omega
    subst this; exact h1
theorem mems_rising (S n : Nat) : (mems S n).Pairwise (· < ·) := by
  unfold mems
  rw [List.pairwise_map]
  exact (List.Pairwise.filter _ List.pairwise_lt_range).imp fun h => by omega
/-- Lists of barrels, and sets apart: as many. -/
theorem pk_apt {ws : List Int} {girth play : Int} {l : List (List Int)} (hn : ws.length ≤ 10) (h : Pk ws.length (isBarrelL ws girth play) g0 l) : Apt (isBS ws girth play) (2 ^ ws.length - 1) (l.map setN) := by
  have hr : ∀ s ∈ l, (s.Pairwise (· < ·) ∧ ∀ k ∈ s, 0 ≤ k ∧ k < ws.length) := fun s hs => ⟨(h.1 s hs).1.1, fun k hk => ((h.1 s hs).1.2 k hk).1⟩
  refine ⟨fun b hb => ?_, ?_⟩
  · obtain ⟨s, hs, rfl⟩ := List.mem_map.1 hb
    obtain ⟨h1, h2⟩ := hr s hs
    have hrep := setN_rep (n := ws.length) (st := s) (fun k hk => (h2 k hk).1)
    refine ⟨by rw [← rep_is girth play hrep (rising_nodup h1) h2]; exact (h.1 s hs).2, fun i hi => ?_⟩
    have := h2 _ ((hrep i).1 hi)
    rw [Nat.testBit_two_pow_sub_one]
    simp; omega
  · rw [List.pairwise_map]
    refine List.Pairwise.imp_of_mem ?_ h.2
    intro s t hs ht hst i hi
    have r1 := setN_rep (n := ws.length) (st := s) (fun k hk => ((hr s hs).2 k hk).1)
    have r2 := setN_rep (n := ws.length) (st := t) (fun k hk => ((hr t ht).2 k hk).1)
    exact hst _ ((r1 i).1 hi.1) ((r2 i).1 hi.2)
theorem apt_pk {ws : List Int} {girth play : Int} {l : List Nat} (h : Apt (isBS ws girth play) (2 ^ ws.length - 1) l) : Pk ws.length (isBarrelL ws girth play) g0 (l.map (fun S => mems S ws.length)) := by
  have hlt : ∀ S ∈ l, S < 2 ^ ws.length := fun S hS => by
    refine Nat.lt_pow_two_of_testBit S fun i hi => ?_
    cases hq : S.testBit i with
    | false => rfl
    | true =>
      have := (h.1 S hS).2 i hq
      rw [Nat.testBit_two_pow_sub_one] at this
      simp at this; omega
  have hrng : ∀ S n, ∀ k ∈ mems S n, 0 ≤ k ∧ k < n := fun S n k hk => by
    obtain ⟨i, h1, _, rfl⟩ := (mems_mem S n k).1 hk
    omega
  refine ⟨fun s hs => ?_, ?_⟩
  · obtain ⟨S, hS, rfl⟩ := List.mem_map.1 hs
    refine ⟨⟨mems_rising _ _, fun k hk => ⟨hrng _ _ k hk, g0_get _⟩⟩, ?_⟩
    rw [rep_is girth play (mems_rep (hlt S hS)) (rising_nodup (mems_rising _ _)) (hrng _ _)]
    exact (h.1 S hS).1
  · rw [List.pairwise_map]
    refine h.2.imp ?_
    intro S T hST k hk hkt
    obtain ⟨i, _, h1, e1⟩ := (mems_mem _ _ _).1 hk
    obtain ⟨j, _, h2, e2⟩ := (mems_mem _ _ _).1 hkt
    have : i = j := by omega
    subst this
    exact hST i ⟨h1, h2⟩
theorem best_most {ws : List Int} {girth play : Int} {ls : List (List Int)} (hn : ws.length ≤ 10) (h : Best ws.length (isBarrelL ws girth play) g0 ls) : MostIs (isBS ws girth play) (2 ^ ws.length - 1) ls.length := by
  refine ⟨⟨ls.map setN, pk_apt hn h.1, by simp⟩, fun l hl => ?_⟩
  have := h.2 _ (apt_pk hl)
  simpa using this
/-! ### The reference's way through lists -/
def riseOk (n : Nat) (s : List Int) : Bool := rising s n
theorem ris_iff (n : Nat) (s : List Int) : rising s n = true ↔ s.Pairwise (· < ·) ∧ ∀ k ∈ s, 0 ≤ k ∧ k < n := by
  unfold rising
  rw [List.all_eq_true]
  constructor
  · intro h
    have h1 : ∀ k : Nat, k < s.length → RisP s n k := fun k hk => of_decide_eq_true (h k (List.mem_range.2 hk))
    have h2 : ∀ j i : Nat, i < j → j < s.length → rd s i < rd s j := fun j => by
      induction j with
      | zero => intro i hi; omega
      | succ j ih =>
        intro i hi hj
        have h3 := (h1 (j + 1) hj).2 (by omega)
        rw [show (((j + 1 : Nat) : Int) - 1) = (j : Nat) by omega] at h3
        by_cases e : i = j
        · subst e; exact h3
        · have := ih i (by omega) (by omega); omega
    refine ⟨List.pairwise_iff_getElem.2 fun i j hi hj hij => ?_, fun k hk => ?_⟩
    · have := h2 j i hij hj
      rwa [rd_nat s i hi, rd_nat s j hj] at this
    · obtain ⟨i, hi, rfl⟩ := List.mem_iff_getElem.1 hk
      have := (h1 i hi).1
      rw [rd_nat s i hi] at this; omega
  · rintro ⟨h1, h2⟩ k hk
    have hk : k < s.length := List.mem_range.1 hk
    refine decide_eq_true ⟨?_, fun h0 => ?_⟩
    · rw [rd_nat s k hk]; have := h2 _ (List.getElem_mem hk); omega
    · have := List.pairwise_iff_getElem.1 h1 (k - 1) k (by omega) hk (by omega)
      rw [show ((k : Int) - 1) = ((k - 1 : Nat) : Int) by omega, rd_nat s (k - 1) (by omega), rd_nat s k hk]
      exact this
def areR (ws : List Int) (girth play : Int) : List (List Int) → Nat → Bool
  | [], _ => true
  | s :: ss, T => rising s ws.length && (decide (setN s &&& T = 0) && isBS ws girth play (setN s)) && areR ws girth play ss (T ||| setN s)
theorem and_zero {a b : Nat} : a &&& b = 0 ↔ ∀ i, ¬ (a.testBit i = true ∧ b.testBit i = true) := by
  constructor
  · intro h i hi
    have : (a &&& b).testBit i = true := by rw [Nat.testBit_and, hi.1, hi.2]; rfl
    rw [h, Nat.zero_testBit] at this; cases this
  · intro h
    apply Nat.eq_of_testBit_eq
    intro i
    rw [Nat.testBit_and, Nat.zero_testBit]
    have := h i
    cases h1 : a.testBit i <;> cases h2 : b.testBit i <;> simp_all
theorem areR_iff (ws : List Int) (girth play : Int) : ∀ (l : List (List Int)) (T : Nat) (g : List Bool), ws.length ≤ g.length → (∀ k : Nat, k < ws.length → (g.getD k false = true ↔ T.testBit k = true)) → (areR ws girth play l T = true ↔ Pk ws.length (isBarrelL ws girth play) g l)
  | [], T, g, _, _ => by simp [areR, Pk]
  | s :: ss, T, g, hg, hT => by
    unfold areR
    rw [Bool.and_eq_true, Bool.and_eq_true, Bool.and_eq_true, decide_eq_true_eq, ris_iff]
    constructor
    · rintro ⟨⟨⟨h1, h2⟩, h3, h4⟩, h5⟩
      have hrep := setN_rep (n := ws.length) (st := s) (fun k hk => (h2 k hk).1)
      have hris : Ris ws.length g s := ⟨h1, fun k hk => ⟨h2 k hk, by
        have hk2 := h2 k hk
        have hb := (hrep k.toNat).2 (by rw [Int.toNat_of_nonneg hk2.1]; exact hk)
        have := (and_zero.1 h3) k.toNat
        cases hq : g.getD k.toNat false with
        | false => rfl
        | true => exact absurd ⟨hb, (hT k.toNat (by omega)).1 hq⟩ this⟩⟩
      have hm : ∀ k : Nat, k < ws.length → ((markG g s).getD k false = true ↔ (T ||| setN s).testBit k = true) := fun k hk => by
        rw [markG_get s g k (fun x hx => by have := h2 x hx; omega), Nat.testBit_or, Bool.or_eq_true, hT k hk, hrep k]
      have ih := (areR_iff ws girth play ss (T ||| setN s) (markG g s) (by rw [markG_len]; exact hg) hm).1 h5
      exact pk_cons hg hris (by rw [rep_is girth play hrep (rising_nodup h1) h2]; exact h4) ih
    · intro h
      have h0 := h.1 s (by simp)
      have h2 : ∀ k ∈ s, 0 ≤ k ∧ k < ws.length := fun k hk => (h0.1.2 k hk).1
      have hrep := setN_rep (n := ws.length) (st := s) (fun k hk => (h2 k hk).1)
      have hm : ∀ k : Nat, k < ws.length → ((markG g s).getD k false = true ↔ (T ||| setN s).testBit k = true) := fun k hk => by
        rw [markG_get s g k (fun x hx => by have := h2 x hx; omega), Nat.testBit_or, Bool.or_eq_true, hT k hk, hrep k]
      have ih := (areR_iff ws girth play ss (T ||| setN s) (markG g s) (by rw [markG_len]; exact hg) hm).2 (pk_out (a := []) hg h)
      refine ⟨⟨⟨h0.1.1, h2⟩, and_zero.2 fun i hi => ?_, by rw [← rep_is girth play hrep (rising_nodup h0.1.1) h2]; exact h0.2⟩, ih⟩
      have hi1 := (hrep i).1 hi.1
      have hi2 := h0.1.2 _ hi1
      rw [Int.toNat_natCast] at hi2
      rw [(hT i (by omega)).2 hi.2] at hi2
      cases hi2.2
theorem areR_same {ws : List Int} {girth play : Int} (hn : ws.length ≤ 10) (l : List (List Int)) : areR ws girth play l 0 = areBarrels ws girth play l := by
  have h1 := areR_iff ws girth play l 0 g0 (by simpa [g0] using hn) (fun k _ => by rw [g0_get, Nat.zero_testBit])
  have h2 := areGo_iff ws.length (isBarrelL ws girth play) l g0 (by simpa [g0] using hn)
  have h3 : areBarrels ws girth play l = areGo ws.length (isBarrelL ws girth play) l g0 := rfl
  rw [h3]
  cases ha : areR ws girth play l 0 with
  | true => exact (h2.2 (h1.1 ha)).symm
  | false =>
    cases hb : areGo ws.length (isBarrelL ws girth play) l g0 with
    | false => rfl
    | true => rw [h1.2 (h2.1 hb)] at ha; cases ha
end Go.Proofs.B
