/- barrel: the plain law of Set: as many barrels as there can be. -/
import Derived.Test.YtpfoleggapngoaaB2
set_option linter.unusedVariables false
namespace Go.Proofs.B
open Go Go.RowKit Go.Proofs Go.Proofs.G Go.Proofs.F Go.Proofs.YtpfoleggapngoaaW.PrintWords
/-- Staves that rise, within, and none gone. -/
def Ris (n : Nat) (g : List Bool) (s : List Int) : Prop := s.Pairwise (· < ·) ∧ ∀ k ∈ s, (0 ≤ k ∧ k < n) ∧ g.getD k.toNat false = false
def markG (g : List Bool) (s : List Int) : List Bool := s.foldl (fun g k => g.set k.toNat true) g
theorem markG_len : ∀ (s : List Int) (g : List Bool), (markG g s).length = g.length
  | [], _ => rfl
  | k :: ks, g => by rw [markG, List.foldl_cons]; have := markG_len ks (g.set k.toNat true); rw [markG] at this; rw [this, List.length_set]
theorem getD_set (g : List Bool) (i j : Nat) (b : Bool) (h : i < g.length) : (g.set i b).getD j false = if j = i then b else g.getD j false := by
  by_cases e : j = i
  · subst e; simp [List.getD_eq_getElem?_getD, h]
  · rw [if_neg e]; simp [List.getD_eq_getElem?_getD, List.getElem?_set_ne (Ne.symm e)]
theorem markG_get : ∀ (s : List Int) (g : List Bool) (j : Nat), (∀ k ∈ s, 0 ≤ k ∧ k < g.length) → ((markG g s).getD j false = true ↔ g.getD j false = true ∨ (j : Int) ∈ s)
  | [], g, j, _ => by simp [markG]
  | k :: ks, g, j, h => by
    have h0 := h k (by simp)
    have ih := markG_get ks (g.set k.toNat true) j (fun x hx => by rw [List.length_set]; exact h x (by simp [hx]))
    rw [markG, List.foldl_cons]
    rw [markG] at ih
    rw [ih, getD_set g k.toNat j true (by omega), List.mem_cons]
    split
    · rename_i e; constructor
      · intro _; right; left; omega
      · intro _; left; rfl
    · rename_i e; constructor
      · rintro (h | h)
        · exact .inl h
        · exact .inr (.inr h)
      · rintro (h | h | h)
        · exact .inl h
        · omega
        · exact .inr h
theorem markG_false {s : List Int} {g : List Bool} {j : Nat} (h : ∀ k ∈ s, 0 ≤ k ∧ k < g.length) : (markG g s).getD j false = false ↔ g.getD j false = false ∧ (j : Int) ∉ s := by
  have := markG_get s g j h
  constructor
  · intro h1
    refine ⟨?_, fun h2 => ?_⟩
    · cases hq : g.getD j false with
      | false => rfl
      | true => rw [this.2 (.inl hq)] at h1; cases h1
    · rw [this.2 (.inr h2)] at h1; cases h1
  · rintro ⟨h1, h2⟩
    cases hq : (markG g s).getD j false with
    | false => rfl
    | true => rcases this.1 hq with h | h; rw [h1] at h; cases h; exact absurd h h2
theorem stavesGo_iff (n : Nat) : ∀ (s : List Int) (last : Int) (g g' : List Bool), -1 ≤ last → n ≤ g.length → (stavesGo n s last g = some g' ↔ (s.Pairwise (· < ·) ∧ (∀ k ∈ s, last < k ∧ k < n ∧ g.getD k.toNat false = false)) ∧ g' = markG g s)
  | [], last, g, g', _, _ => by
    unfold stavesGo markG
    exact ⟨fun h => ⟨⟨List.Pairwise.nil, fun k hk => by simp at hk⟩, by injection h with h; exact h.symm⟩, fun h => by rw [h.2]; rfl⟩
  | k :: ks, last, g, g', hl, hg => by
    unfold stavesGo
    by_cases hc : (last + 1 ≤ k ∧ k ≤ (n : Int) - 1) ∧ g.getD k.toNat false = false
    · rw [if_pos hc, stavesGo_iff n ks k (g.set k.toNat true) g' (by omega) (by rw [List.length_set]; exact hg)]
      have hm : markG (g.set k.toNat true) ks = markG g (k :: ks) := rfl
      rw [hm]
      constructor
      · rintro ⟨⟨h1, h2⟩, h3⟩
        refine ⟨⟨List.pairwise_cons.2 ⟨fun x hx => (h2 x hx).1, h1⟩, fun x hx => ?_⟩, h3⟩
        rcases List.mem_cons.1 hx with rfl | hx
        · exact ⟨by omega, by omega, hc.2⟩
        · obtain ⟨h4, h5, h6⟩ := h2 x hx
          rw [getD_set g _ _ _ (by omega), if_neg (by omega)] at h6
          exact ⟨by omega, h5, h6⟩
      · rintro ⟨⟨h1, h2⟩, h3⟩
        obtain ⟨h4, h5⟩ := List.pairwise_cons.1 h1
        refine ⟨⟨h5, fun x hx => ?_⟩, h3⟩
        have h6 := h4 x hx
        have h7 := h2 x (by simp [hx])
        refine ⟨h6, h7.2.1, ?_⟩
        rw [getD_set g _ _ _ (by omega), if_neg (by omega)]
        exact h7.2.2
    · rw [if_neg hc]
      constructor
      · intro h; cases h
      · rintro ⟨⟨h1, h2⟩, h3⟩
        have := h2 k (by simp)
        exact absurd ⟨⟨by omega, by omega⟩, this.2.2⟩ hc
/-- Barrels of what is not gone. -/
def Pk (n : Nat) (isB : List Int → Bool) (g : List Bool) (l : List (List Int)) : Prop := (∀ s ∈ l, Ris n g s ∧ isB s = true) ∧ l.Pairwise (fun a b => ∀ k ∈ a, k ∉ b)
theorem Ris.rng {n : Nat} {g : List Bool} {s : List Int} (h : Ris n g s) (hn : n ≤ g.length) : ∀ k ∈ s, 0 ≤ k ∧ k < g.length := fun k hk => by have := (h.2 k hk).1; omega
theorem Ris.mark {n : Nat} {g : List Bool} {s t : List Int} (h : Ris n g s) (hn : n ≤ g.length) : Ris n (markG g s) t ↔ Ris n g t ∧ ∀ k ∈ s, k ∉ t := by
  have hr := h.rng hn
  constructor
  · rintro ⟨h1, h2⟩
    refine ⟨⟨h1, fun k hk => ⟨(h2 k hk).1, ((markG_false hr).1 (h2 k hk).2).1⟩⟩, fun k hk hkt => ?_⟩
    have := ((markG_false hr).1 (h2 k hkt).2).2
    rw [Int.toNat_of_nonneg (h2 k hkt).1.1] at this
    exact this hk
  · rintro ⟨⟨h1, h2⟩, h3⟩
    refine ⟨h1, fun k hk => ⟨(h2 k hk).1, (markG_false hr).2 ⟨(h2 k hk).2, ?_⟩⟩⟩
    rw [Int.toNat_of_nonneg (h2 k hk).1.1]
    exact fun h => h3 k h hk
theorem areGo_iff (n : Nat) (isB : List Int → Bool) : ∀ (l : List (List Int)) (g : List Bool), n ≤ g.length → (areGo n isB l g = true ↔ Pk n isB g l)
  | [], g, _ => by simp [areGo, Pk]
  | s :: ss, g, hg => by
    unfold areGo
    have hst := stavesGo_iff n s (-1) g
    cases hq : stavesGo n s (-1) g with
    | none =>
      constructor
      · intro h; cases h
      · rintro ⟨h1, _⟩
        have h2 := (h1 s (by simp)).1
        have := (hst (markG g s) (by decide) hg).2 ⟨⟨h2.1, fun k hk => ⟨by have := (h2.2 k hk).1; omega, (h2.2 k hk).1.2, (h2.2 k hk).2⟩⟩, rfl⟩
        rw [hq] at this; cases this
    | some g' =>
      obtain ⟨⟨h1, h2⟩, rfl⟩ := (hst g' (by decide) hg).1 hq
      have hris : Ris n g s := ⟨h1, fun k hk => ⟨⟨by have := h2 k hk; omega, (h2 k hk).2.1⟩, (h2 k hk).2.2⟩⟩
      have ih := areGo_iff n isB ss (markG g s) (by rw [markG_len]; exact hg)
      simp only
      constructor
      · intro h
        split at h
        · rename_i hb
          obtain ⟨h3, h4⟩ := ih.1 h
          refine ⟨fun t ht => ?_, List.pairwise_cons.2 ⟨fun t ht => ((hris.mark hg).1 (h3 t ht).1).2, h4⟩⟩
          rcases List.mem_cons.1 ht with rfl | ht
          · exact ⟨hris, hb⟩
          · exact ⟨((hris.mark hg).1 (h3 t ht).1).1, (h3 t ht).2⟩
        · cases h
      · rintro ⟨h3, h4⟩
        obtain ⟨h5, h6⟩ := List.pairwise_cons.1 h4
        rw [if_pos (h3 s (by simp)).2]
        exact ih.2 ⟨fun t ht => ⟨(hris.mark hg).2 ⟨(h3 t (by simp [ht])).1, h5 t ht⟩, (h3 t (by simp [ht])).2⟩, h6⟩
def Best (n : Nat) (isB : List Int → Bool) (g : List Bool) (l : List (List Int)) : Prop := Pk n isB g l ∧ ∀ l', Pk n isB g l' → l'.length ≤ l.length
theorem best_all {n : Nat} {isB : List Int → Bool} {g : List Bool} (hB : ∀ s, isB s = true → s ≠ []) (h : ∀ k, k < n → g.getD k false = true) : Best n isB g [] := by
  refine ⟨⟨fun s hs => by simp at hs, List.Pairwise.nil⟩, fun l' h' => ?_⟩
  cases l' with
  | nil => exact Nat.le_refl _
  | cons s ss =>
    obtain ⟨h1, h2⟩ := h'.1 s (by simp)
    cases s with
    | nil => exact absurd rfl (hB _ h2)
    | cons k ks =>
      have h3 := h1.2 k (by simp)
      rw [h k.toNat (by omega)] at h3
      exact absurd h3.2 (by decide)
theorem pk_mono {n : Nat} {isB : List Int → Bool} {g g' : List Bool} {l : List (List Int)} (h : Pk n isB g' l) (hg : ∀ k, g.getD k false = true → g'.getD k false = true) : Pk n isB g l :=
  ⟨fun s hs => ⟨⟨(h.1 s hs).1.1, fun k hk => ⟨((h.1 s hs).1.2 k hk).1, by
    have := ((h.1 s hs).1.2 k hk).2
    cases hq : g.getD k.toNat false with
    | false => rfl
    | true => rw [hg _ hq] at this; cases this⟩⟩, (h.1 s hs).2⟩, h.2⟩
theorem pk_cons {n : Nat} {isB : List Int → Bool} {g : List Bool} {s : List Int} {l : List (List Int)} (hn : n ≤ g.length) (hs : Ris n g s) (hb : isB s = true) (h : Pk n isB (markG g s) l) : Pk n isB g (s :: l) := by
  refine ⟨fun t ht => ?_, List.pairwise_cons.2 ⟨fun t ht => ((hs.mark hn).1 (h.1 t ht).1).2, h.2⟩⟩
  rcases List.mem_cons.1 ht with rfl | ht
  · exact ⟨hs, hb⟩
  · exact ⟨((hs.mark hn).1 (h.1 t ht).1).1, (h.1 t ht).2⟩
theorem pk_out {n : Nat} {isB : List Int → Bool} {g : List Bool} {s : List Int} {a b : List (List Int)} (hn : n ≤ g.length) (h : Pk n isB g (a ++ s :: b)) : Pk n isB (markG g s) (a ++ b) := by
  obtain ⟨h1, h2⟩ := h
  have hs := (h1 s (by simp)).1
  obtain ⟨h3, h4, h5⟩ := List.pairwise_append.1 h2
  obtain ⟨h6, h7⟩ := List.pairwise_cons.1 h4
  refine ⟨fun t ht => ?_, List.pairwise_append.2 ⟨h3, h7, fun x hx y hy => h5 x hx y (by simp [hy])⟩⟩
  have ht' : t ∈ a ++ s :: b := by
    rcases List.mem_append.1 ht with h | h
    · simp [h]
    · simp [h]
  refine ⟨(hs.mark hn).2 ⟨(h1 t ht').1, fun k hk hkt => ?_⟩, (h1 t ht').2⟩
  rcases List.mem_append.1 ht with h | h
  · exact h5 t h s (by simp) k hkt hk
  · exact h6 t h k hk hkt
/-- With the first stave that is not gone: without it, or in some barrel that begins with it. -/
theorem best_step {n : Nat} {isB : List Int → Bool} {g : List Bool} {best b0 : List (List Int)} {f : Nat} (hB : ∀ s, isB s = true → s ≠ []) (hn : n ≤ g.length) (hf : f < n) (hgf : g.getD f false = false) (hlow : ∀ k, k < f → g.getD k false = true)
    (h1 : Pk n isB g best) (h0 : Best n isB (g.set f true) b0) (hb : b0.length ≤ best.length) (hall : ∀ ks, Ris n g ((f : Int) :: ks) → isB ((f : Int) :: ks) = true → ∃ m, Best n isB (markG g ((f : Int) :: ks)) m ∧ m.length + 1 ≤ best.length) : Best n isB g best := by
  refine ⟨h1, fun l' h' => ?_⟩
  by_cases hc : ∃ s ∈ l', (f : Int) ∈ s
  · obtain ⟨s, hs, hfs⟩ := hc
    obtain ⟨a, b, rfl⟩ := List.append_of_mem hs
    have hr := (h'.1 s hs).1
    cases s with
    | nil => simp at hfs
    | cons k ks =>
      have hk := hr.2 k (by simp)
      have hkf : k = f := by
        have h5 : ¬ k.toNat < f := fun h => by rw [hlow _ h] at hk; exact absurd hk.2 (by decide)
        rcases List.mem_cons.1 hfs with h | h
        · exact h.symm
        · have := (List.pairwise_cons.1 hr.1).1 _ h; omega
      subst hkf
      obtain ⟨m, hm, hle⟩ := hall ks hr (h'.1 _ hs).2
      have := hm.2 _ (pk_out hn h')
      simp only [List.length_append, List.length_cons] at *
      omega
  · have hp : Pk n isB (g.set f true) l' := by
      refine ⟨fun s hs => ⟨⟨(h'.1 s hs).1.1, fun k hk => ⟨((h'.1 s hs).1.2 k hk).1, ?_⟩⟩, (h'.1 s hs).2⟩, h'.2⟩
      have h3 := (h'.1 s hs).1.2 k hk
      rw [getD_set g f _ _ (by omega), if_neg (fun e => hc ⟨s, hs, by rw [← e, Int.toNat_of_nonneg h3.1.1]; exact hk⟩)]
      exact h3.2
    have := h0.2 l' hp
    omega
/-- How many are left. -/
def left (n : Nat) (g : List Bool) : Nat := ((List.range n).filter fun k => !g.getD k false).length
theorem left_lt {n : Nat} {g g' : List Bool} (h : ∀ k, g.getD k false = true → g'.getD k false = true) {f : Nat} (hf : f < n) (h1 : g.getD f false = false) (h2 : g'.getD f false = true) : left n g' < left n g := by
  unfold left
  induction n with
  | zero => omega
  | succ n ih =>
    rw [List.range_succ, List.filter_append, List.filter_append, List.length_append, List.length_append]
    have hle : ∀ m, ((List.range m).filter fun k => !g'.getD k false).length ≤ ((List.range m).filter fun k => !g.getD k false).length := fun m => by
      rw [← List.countP_eq_length_filter, ← List.countP_eq_length_filter]
      refine List.countP_mono_left fun k _ hk => ?_
      cases hq : g.getD k false with
      | false => rfl
      | true => rw [h k hq] at hk; exact hk
    by_cases e : f = n
    · subst e
      have h3 := hle f
      have e1 : ([f].filter fun k => !g'.getD k false) = [] := by rw [List.filter_cons, h2]; rfl
      have e2 : ([f].filter fun k => !g.getD k false) = [f] := by rw [List.filter_cons, h1]; rfl
      rw [e1, e2]
      simp only [List.length_nil, List.length_singleton]
      omega
    · have h3 := ih (by omega)
      have h4 : ([n].filter fun k => !g'.getD k false).length ≤ ([n].filter fun k => !g.getD k false).length := by
        cases hq : g.getD n false with
        | true =>
          have e1 : ([n].filter fun k => !g'.getD k false) = [] := by rw [List.filter_cons, h n hq]; rfl
          rw [e1]; exact Nat.zero_le _
        | false =>
          have e2 : ([n].filter fun k => !g.getD k false) = [n] := by rw [List.filter_cons, hq]; rfl
          rw [e2]; exact List.length_filter_le _ _
      omega
end Go.Proofs.B
