/- barrel: the plain law of balances: cuts. -/
import Derived.Test.YtpfoleggapngoaaB18
set_option linter.unusedVariables false
namespace Go.Proofs.B
open Go Go.RowKit Go.Proofs Go.Proofs.G Go.Proofs.F Go.Proofs.YtpfoleggapngoaaW.PrintWords
/-- What goes out of a set less what comes in, in counts, without a move. -/
def cutC (l : List S76) (cs : List Int) (p : Int → Bool) (wo : Int) : Nat → Int
  | 0 => 0
  | k + 1 => cutC l cs p wo k + (if (k : Int) = wo then 0 else if p (mv l k).f0 = true ∧ p (mv l k).f1 = false then rd cs k else if p (mv l k).f1 = true ∧ p (mv l k).f0 = false then - rd cs k else 0)
/-- The same of the ends: the least out, the greatest in. -/
def cutB (l : List S76) (p : Int → Bool) (wo : Int) : Nat → Int
  | 0 => 0
  | k + 1 => cutB l p wo k + (if (k : Int) = wo then 0 else if p (mv l k).f0 = true ∧ p (mv l k).f1 = false then (mv l k).f2.f0 else if p (mv l k).f1 = true ∧ p (mv l k).f0 = false then - (mv l k).f2.f1 else 0)
theorem cut_le {l : List S76} {cs : List Int} (h : InB l cs) (p : Int → Bool) (wo : Int) : ∀ n, n ≤ l.length → cutB l p wo n ≤ cutC l cs p wo n
  | 0, _ => Int.le_refl _
  | k + 1, hk => by
    have h1 := cut_le h p wo k (by omega)
    have h2 := h.2 k (by omega)
    unfold cutB cutC
    split
    · omega
    · split
      · omega
      · split <;> omega
/-- Where no more can go and no less can come: the same. -/
theorem cut_eq {l : List S76} {cs : List Int} (h : InB l cs) {met : Int → Bool} {wo : Int} (hcl : ∀ x, met x = true → ∀ k q u, Ed l cs wo k q x u → met u = true) : ∀ n, n ≤ l.length → cutC l cs (fun v => !met v) wo n = cutB l (fun v => !met v) wo n
  | 0, _ => rfl
  | k + 1, hk => by
    have h1 := cut_eq h hcl k (by omega)
    have h2 := h.2 k (by omega)
    unfold cutB cutC
    rw [h1]
    congr 1
    split
    · rfl
    · rename_i hne
      split
      · rename_i hc
        simp only [Bool.not_eq_true', Bool.not_eq_false'] at hc
        by_cases e : (mv l k).f2.f0 < rd cs k
        · have := hcl _ hc.2 k true (mv l k).f0 ⟨by omega, hne, .inr ⟨rfl, rfl, rfl, e⟩⟩
          rw [hc.1] at this; cases this
        · omega
      · split
        · rename_i hc
          simp only [Bool.not_eq_true', Bool.not_eq_false'] at hc
          by_cases e : rd cs k < (mv l k).f2.f1
          · have := hcl _ hc.2 k false (mv l k).f1 ⟨by omega, hne, .inl ⟨rfl, rfl, rfl, e⟩⟩
            rw [hc.1] at this; cases this
          · omega
        · rfl
def pick (p : Int → Bool) (f : Nat → Int) (s : Nat) : Int := if p s = true then f s else 0
theorem sum_at (p : Int → Bool) (x : Int) (N : Nat) (a : Int) (h : 0 ≤ a ∧ a < N) : sumN (fun s => if p s = true then (if a = (s : Int) then x else 0) else 0) N = if p a = true then x else 0 := by
  have e : sumN (fun s => if p s = true then (if a = (s : Int) then x else 0) else 0) N = sumN (fun s => (if p a = true then x else 0) * one (a = (s : Int))) N := sumN_congr N fun s hs => by
    unfold one
    by_cases h1 : a = (s : Int)
    · rw [if_pos h1, if_pos h1, ← h1]; simp
    · rw [if_neg h1, if_neg h1]; simp
  rw [e, sumN_mul, sumN_one N a h]; omega
/-- What a set's stations get is what comes in less what goes out. -/
theorem flow {l : List S76} {N : Nat} (hm : ∀ k, k < l.length → (0 ≤ (mv l k).f0 ∧ (mv l k).f0 < N) ∧ (0 ≤ (mv l k).f1 ∧ (mv l k).f1 < N)) (cs : List Int) (p : Int → Bool) : ∀ n, n ≤ l.length → sumN (pick p (ovf l cs n)) N = - cutC l cs p (-1) n
  | 0, _ => by
    have : ∀ M, sumN (pick p (ovf l cs 0)) M = 0 := fun M => by
      induction M with
      | zero => rfl
      | succ M ih => unfold sumN; rw [ih]; simp [pick, ovf]
    rw [this]; rfl
  | k + 1, hk => by
    have h1 := flow hm cs p k (by omega)
    have h2 := hm k (by omega)
    have e : sumN (pick p (ovf l cs (k + 1))) N = sumN (fun s => (pick p (ovf l cs k) s + (if p s = true then (if (mv l k).f1 = (s : Int) then rd cs k else 0) else 0)) - (if p s = true then (if (mv l k).f0 = (s : Int) then rd cs k else 0) else 0)) N := sumN_congr N fun s hs => by
      unfold pick
      split
      · rfl
      · rfl
    rw [e, sumN_sub, sumN_add, h1, sum_at p _ N _ h2.2, sum_at p _ N _ h2.1]
    have h3 : ¬ (k : Int) = -1 := by omega
    rw [show cutC l cs p (-1) (k + 1) = cutC l cs p (-1) k + (if (k : Int) = -1 then 0 else if p (mv l k).f0 = true ∧ p (mv l k).f1 = false then rd cs k else if p (mv l k).f1 = true ∧ p (mv l k).f0 = false then - rd cs k else 0) from rfl, if_neg h3]
    cases h4 : p (mv l k).f0 <;> cases h5 : p (mv l k).f1 <;> simp <;> omega
theorem pick_zero {N : Nat} {f : Nat → Int} (h : ∀ s, s < N → f s = 0) (p : Int → Bool) : ∀ n, n ≤ N → sumN (pick p f) n = 0
  | 0, _ => rfl
  | n + 1, hn => by unfold sumN; rw [pick_zero h p n (by omega)]; unfold pick; rw [h n (by omega)]; simp
/-- Without a move, and it. -/
theorem cutC_wo (l : List S76) (cs : List Int) (p : Int → Bool) (k0 : Nat) : ∀ n, cutC l cs p (-1) n = cutC l cs p k0 n + (if k0 < n then (if p (mv l k0).f0 = true ∧ p (mv l k0).f1 = false then rd cs k0 else if p (mv l k0).f1 = true ∧ p (mv l k0).f0 = false then - rd cs k0 else 0) else 0)
  | 0 => by simp [cutC]
  | n + 1 => by
    have h1 := cutC_wo l cs p k0 n
    unfold cutC
    rw [h1, if_neg (show ¬ (n : Int) = -1 by omega)]
    by_cases e : n = k0
    · subst e
      rw [if_neg (Nat.lt_irrefl n), if_pos (Nat.lt_succ_self n), if_pos rfl]; try omega
    · rw [if_neg (show ¬ (n : Int) = k0 by omega)]
      by_cases h2 : k0 < n
      · rw [if_pos h2, if_pos (show k0 < n + 1 by omega)]; omega
      · rw [if_neg h2, if_neg (show ¬ k0 < n + 1 by omega)]; omega
section
variable {N : Nat} {l : List S76} (hm : ∀ k, k < l.length → (0 ≤ (mv l k).f0 ∧ (mv l k).f0 < N) ∧ (0 ≤ (mv l k).f1 ∧ (mv l k).f1 < N))
include hm
theorem bal_cut {cs : List Int} (h : Bal N l cs) (p : Int → Bool) : cutC l cs p (-1) l.length = 0 := by
  have h1 := flow hm cs p l.length (Nat.le_refl _)
  rw [pick_zero h.2 p N (Nat.le_refl _)] at h1
  omega
/-- No set proves otherwise. -/
theorem bal_no {cs : List Int} (h : Bal N l cs) (p : Int → Bool) : cutB l p (-1) l.length ≤ 0 := by
  have h1 := bal_cut hm h p
  have h2 := cut_le h.1 p (-1) l.length (Nat.le_refl _)
  omega
/-- Between what a move's number must lie, by a set. -/
theorem bal_in {cs : List Int} (h : Bal N l cs) {k0 : Nat} (hk : k0 < l.length) {p : Int → Bool} (hp : p (mv l k0).f1 = true ∧ p (mv l k0).f0 = false) : cutB l p k0 l.length ≤ rd cs k0 := by
  have h1 := bal_cut hm h p
  have h2 := cut_le h.1 p k0 l.length (Nat.le_refl _)
  have h3 := cutC_wo l cs p k0 l.length
  rw [if_pos hk, if_neg (by rw [hp.2]; simp), if_pos hp] at h3
  omega
theorem bal_out {cs : List Int} (h : Bal N l cs) {k0 : Nat} (hk : k0 < l.length) {p : Int → Bool} (hp : p (mv l k0).f0 = true ∧ p (mv l k0).f1 = false) : rd cs k0 ≤ - cutB l p k0 l.length := by
  have h1 := bal_cut hm h p
  have h2 := cut_le h.1 p k0 l.length (Nat.le_refl _)
  have h3 := cutC_wo l cs p k0 l.length
  rw [if_pos hk, if_pos hp] at h3
  omega
/-- Stuck: some set proves. -/
theorem stuck_cut {cs : List Int} {met : Int → Bool} (hb : InB l cs) (h : Stuck N l cs met) : 0 < cutB l (fun v => !met v) (-1) l.length := by
  obtain ⟨h1, ⟨a, ha, hma, hpa⟩, h3⟩ := h
  rw [← cut_eq hb h1 l.length (Nat.le_refl _)]
  have h4 := flow hm cs (fun v => !met v) l.length (Nat.le_refl _)
  have h5 := net_sum hm cs l.length (Nat.le_refl _)
  have e : sumN (pick (fun v => !met v) (ovf l cs l.length)) N = sumN (fun s => ovf l cs l.length s - pick met (ovf l cs l.length) s) N := sumN_congr N fun s hs => by
    unfold pick
    show (if (!met s) = true then _ else _) = _ - (if met s = true then _ else _)
    cases hq : met s with
    | true => rw [if_neg (by decide), if_pos rfl]; omega
    | false => rw [if_pos (by decide), if_neg (by decide)]; omega
  rw [sumN_sub, h5] at e
  have h6 : 0 < sumN (pick met (ovf l cs l.length)) N := by
    have key : ∀ n, n ≤ N → 0 ≤ sumN (pick met (ovf l cs l.length)) n ∧ (a < n → 0 < sumN (pick met (ovf l cs l.length)) n) := fun n => by
      induction n with
      | zero => intro _; exact ⟨Int.le_refl _, fun h => by omega⟩
      | succ n ih =>
        intro hn
        obtain ⟨i1, i2⟩ := ih (by omega)
        have i3 : 0 ≤ pick met (ovf l cs l.length) n := by
          unfold pick
          split
          · rename_i hq
            by_cases e : 0 ≤ ovf l cs l.length n
            · exact e
            · have := h3 n (by omega) (by show ovf l cs l.length n < 0; omega)
              rw [hq] at this; cases this
          · exact Int.le_refl _
        unfold sumN
        refine ⟨by omega, fun ha' => ?_⟩
        by_cases e : a < n
        · have := i2 e; omega
        · obtain rfl : a = n := by omega
          have : pick met (ovf l cs l.length) a = ovf l cs l.length a := by unfold pick; rw [if_pos hma]
          have hpa' : 0 < ovf l cs l.length a := hpa
          omega
    exact (key N (Nat.le_refl _)).2 ha
  omega
end
/-- The least, and the greatest number of a move in all counts that balance. -/
def Mn (N : Nat) (l : List S76) (k : Nat) (v : Int) : Prop := (∃ cs, Bal N l cs ∧ rd cs k = v) ∧ ∀ cs, Bal N l cs → v ≤ rd cs k
def Mx (N : Nat) (l : List S76) (k : Nat) (v : Int) : Prop := (∃ cs, Bal N l cs ∧ rd cs k = v) ∧ ∀ cs, Bal N l cs → rd cs k ≤ v
section
variable {N : Nat} {l : List S76} (hm : ∀ k, k < l.length → (0 ≤ (mv l k).f0 ∧ (mv l k).f0 < N) ∧ (0 ≤ (mv l k).f1 ∧ (mv l k).f1 < N))
include hm
theorem far_lo {k0 : Nat} (hk : k0 < l.length) {v : Int} (h : Far N l k0 true v) : v = (mv l k0).f2.f0 ∨ ∃ p : Int → Bool, p (mv l k0).f1 = true ∧ p (mv l k0).f0 = false ∧ v = cutB l p k0 l.length := by
  obtain ⟨cs, hb, hv, h1 | ⟨met, h1, h2, h3⟩⟩ := h
  · exact .inl h1
  · right
    simp only [if_true] at h2 h3
    refine ⟨fun v => !met v, by show (!met _) = true; rw [h3]; rfl, by show (!met _) = false; rw [h2]; rfl, ?_⟩
    rw [← cut_eq hb.1 h1 l.length (Nat.le_refl _)]
    have h4 := bal_cut hm hb (fun v => !met v)
    have h5 := cutC_wo l cs (fun v => !met v) k0 l.length
    rw [if_pos hk, if_neg (by rw [h2]; simp), if_pos (by rw [h2, h3]; exact ⟨rfl, rfl⟩)] at h5
    omega
theorem far_hi {k0 : Nat} (hk : k0 < l.length) {v : Int} (h : Far N l k0 false v) : v = (mv l k0).f2.f1 ∨ ∃ p : Int → Bool, p (mv l k0).f0 = true ∧ p (mv l k0).f1 = false ∧ v = - cutB l p k0 l.length := by
  obtain ⟨cs, hb, hv, h1 | ⟨met, h1, h2, h3⟩⟩ := h
  · exact .inl h1
  · right
    simp only [Bool.false_eq_true, if_false] at h2 h3
    refine ⟨fun v => !met v, by show (!met _) = true; rw [h3]; rfl, by show (!met _) = false; rw [h2]; rfl, ?_⟩
    rw [← cut_eq hb.1 h1 l.length (Nat.le_refl _)]
    have h4 := bal_cut hm hb (fun v => !met v)
    have h5 := cutC_wo l cs (fun v => !met v) k0 l.length
    rw [if_pos hk, if_pos (by rw [h2, h3]; exact ⟨rfl, rfl⟩)] at h5
    omega
theorem far_mn {k0 : Nat} (hk : k0 < l.length) {v : Int} (h : Far N l k0 true v) : Mn N l k0 v := by
  refine ⟨by obtain ⟨cs, hb, hv, _⟩ := h; exact ⟨cs, hb, hv⟩, fun cs hb => ?_⟩
  rcases far_lo hm hk h with h1 | ⟨p, h1, h2, h3⟩
  · rw [h1]; exact (hb.1.2 k0 hk).1
  · rw [h3]; exact bal_in hm hb hk ⟨h1, h2⟩
theorem far_mx {k0 : Nat} (hk : k0 < l.length) {v : Int} (h : Far N l k0 false v) : Mx N l k0 v := by
  refine ⟨by obtain ⟨cs, hb, hv, _⟩ := h; exact ⟨cs, hb, hv⟩, fun cs hb => ?_⟩
  rcases far_hi hm hk h with h1 | ⟨p, h1, h2, h3⟩
  · rw [h1]; exact (hb.1.2 k0 hk).2
  · rw [h3]; exact bal_out hm hb hk ⟨h1, h2⟩
end
theorem Mn.uniq {N : Nat} {l : List S76} {k : Nat} {v v' : Int} (h : Mn N l k v) (h' : Mn N l k v') : v = v' := by
  obtain ⟨⟨cs, h1, h2⟩, h3⟩ := h
  obtain ⟨⟨cs', h1', h2'⟩, h3'⟩ := h'
  have := h3 cs' h1'
  have := h3' cs h1
  omega
theorem Mx.uniq {N : Nat} {l : List S76} {k : Nat} {v v' : Int} (h : Mx N l k v) (h' : Mx N l k v') : v = v' := by
  obtain ⟨⟨cs, h1, h2⟩, h3⟩ := h
  obtain ⟨⟨cs', h1', h2'⟩, h3'⟩ := h'
  have := h3 cs' h1'
  have := h3' cs h1
  omega
end Go.Proofs.B
