/- barrel: the plain law of what Balance and Proof answer; a move with other ends. -/
import Derived.Test.YtpfoleggapngoaaB25
set_option linter.unusedVariables false
set_option linter.unusedSimpArgs false
namespace Go.Proofs.B
open Go Go.RowKit Go.Proofs Go.Proofs.G Go.Proofs.F Go.Proofs.YtpfoleggapngoaaW.PrintWords
/-- A book whose move k has other ends. -/
def setM (l : List S76) (k : Nat) (sp : S68) : List S76 := l.set k { mv l k with f2 := sp }
theorem setM_len (l : List S76) (k : Nat) (sp : S68) : (setM l k sp).length = l.length := by simp [setM]
theorem mv_setM (l : List S76) (k : Nat) (sp : S68) (hk : k < l.length) (j : Nat) : mv (setM l k sp) j = if j = k then { mv l k with f2 := sp } else mv l j := by
  by_cases e : j = k
  · subst e; rw [if_pos rfl]; simp [setM, List.getD_eq_getElem?_getD, hk]
  · rw [if_neg e]; simp [setM, List.getD_eq_getElem?_getD, List.getElem?_set_ne (Ne.symm e)]
theorem ovf_ends {l l' : List S76} (h : ∀ k, (mv l' k).f0 = (mv l k).f0 ∧ (mv l' k).f1 = (mv l k).f1) (cs : List Int) : ∀ n s, ovf l' cs n s = ovf l cs n s
  | 0, _ => rfl
  | n + 1, s => by unfold ovf; rw [ovf_ends h cs n s, (h n).1, (h n).2]
theorem setM_ends (l : List S76) (k : Nat) (sp : S68) (hk : k < l.length) (j : Nat) : (mv (setM l k sp) j).f0 = (mv l j).f0 ∧ (mv (setM l k sp) j).f1 = (mv l j).f1 := by
  rw [mv_setM l k sp hk]
  split
  · rename_i e; subst e; exact ⟨rfl, rfl⟩
  · exact ⟨rfl, rfl⟩
theorem bal_setM {N : Nat} {l : List S76} {k : Nat} {sp : S68} (hk : k < l.length) {cs : List Int} : Bal N (setM l k sp) cs ↔ cs.length = l.length ∧ (∀ j, j < l.length → j ≠ k → (mv l j).f2.f0 ≤ rd cs j ∧ rd cs j ≤ (mv l j).f2.f1) ∧ (sp.f0 ≤ rd cs k ∧ rd cs k ≤ sp.f1) ∧ ∀ s : Nat, s < N → net l cs s = 0 := by
  unfold Bal InB net
  rw [setM_len]
  constructor
  · rintro ⟨⟨h1, h2⟩, h3⟩
    refine ⟨h1, fun j hj hne => ?_, ?_, fun s hs => ?_⟩
    · have := h2 j hj
      rwa [mv_setM l k sp hk, if_neg hne] at this
    · have := h2 k hk
      rwa [mv_setM l k sp hk, if_pos rfl] at this
    · rw [← ovf_ends (setM_ends l k sp hk)]; exact h3 s hs
  · rintro ⟨h1, h2, h3, h4⟩
    refine ⟨⟨h1, fun j hj => ?_⟩, fun s hs => ?_⟩
    · rw [mv_setM l k sp hk]
      split
      · rename_i e; subst e; exact h3
      · rename_i e; exact h2 j hj e
    · rw [ovf_ends (setM_ends l k sp hk)]; exact h4 s hs
theorem bal_in_set {N : Nat} {l : List S76} {k : Nat} {sp : S68} (hk : k < l.length) {cs : List Int} (h : Bal N l cs) (h1 : sp.f0 ≤ rd cs k ∧ rd cs k ≤ sp.f1) : Bal N (setM l k sp) cs :=
  (bal_setM hk).2 ⟨h.1.1, fun j hj _ => h.1.2 j hj, h1, h.2⟩
theorem bal_of_set {N : Nat} {l : List S76} {k : Nat} {sp : S68} (hk : k < l.length) {cs : List Int} (h : Bal N (setM l k sp) cs) (h1 : (mv l k).f2.f0 ≤ sp.f0 ∧ sp.f1 ≤ (mv l k).f2.f1) : Bal N l cs ∧ sp.f0 ≤ rd cs k ∧ rd cs k ≤ sp.f1 := by
  obtain ⟨h2, h3, h4, h5⟩ := (bal_setM hk).1 h
  refine ⟨⟨⟨h2, fun j hj => ?_⟩, h5⟩, h4⟩
  by_cases e : j = k
  · subst e; omega
  · exact h3 j hj e
theorem book_setM {n : Int} {l : List S76} {k : Nat} {sp : S68} (h : bookOk n l = true) (hk : k < l.length) (hs : 0 ≤ sp.f0 ∧ sp.f0 ≤ sp.f1 ∧ sp.f1 ≤ 1000) : bookOk n (setM l k sp) = true := by
  have h0 := book_n h
  unfold bookOk
  rw [Bool.and_eq_true, setM_len]
  refine ⟨decide_eq_true (by omega), List.all_eq_true.2 fun m hm => ?_⟩
  obtain ⟨j, hj, rfl⟩ := List.mem_iff_getElem.1 hm
  rw [setM_len] at hj
  have h1 := book_move h j hj
  have h2 := book_move h k hk
  rw [← mv_get _ j (by rw [setM_len]; exact hj), mv_setM l k sp hk]
  unfold moveOk spanOk
  split
  · rename_i e; subst e
    simp only [decide_eq_true_eq]
    exact ⟨h1.1, h1.2.1, h1.2.2.1, hs⟩
  · simp only [decide_eq_true_eq]
    exact ⟨h1.1, h1.2.1, h1.2.2.1, h1.2.2.2⟩
theorem book_rng {n : Int} {l : List S76} (h : bookOk n l = true) : ∀ k, k < l.length → (0 ≤ (mv l k).f0 ∧ (mv l k).f0 < n.toNat) ∧ (0 ≤ (mv l k).f1 ∧ (mv l k).f1 < n.toNat) := fun k hk => by
  have := book_move h k hk
  have := book_n h
  omega
/-! ### Sets that are numbers -/
def pS (S : Nat) (v : Int) : Bool := decide (sb S v = 1)
theorem sb_01 (S : Nat) (v : Int) : sb S v = 0 ∨ sb S v = 1 := by unfold sb; omega
theorem provF_cut (l : List S76) (S : Nat) : ∀ k, provF l S k = cutB l (pS S) (-1) k
  | 0 => rfl
  | k + 1 => by
    have h1 := provF_cut l S k
    unfold provF cutB
    rw [h1, if_neg (show ¬ (k : Int) = -1 by omega)]
    unfold pS
    rcases sb_01 S (mv l k).f0 with h2 | h2 <;> rcases sb_01 S (mv l k).f1 with h3 | h3 <;> rw [h2, h3] <;> simp <;> omega
def sN (met : Int → Bool) : Nat → Nat
  | 0 => 0
  | n + 1 => sN met n + if met n = true then 0 else 2 ^ n
theorem sN_lt (met : Int → Bool) : ∀ n, sN met n < 2 ^ n
  | 0 => Nat.zero_lt_one
  | n + 1 => by
    have := sN_lt met n
    unfold sN
    rw [Nat.pow_succ]
    split <;> omega
theorem sN_sum (met : Int → Bool) : ∀ n, sumN (pw2 met) n = (sN met n : Int)
  | 0 => rfl
  | n + 1 => by
    unfold sumN sN
    rw [sN_sum met n]
    unfold pw2
    split
    · simp
    · rw [Int.natCast_add, Int.natCast_pow]; rfl
theorem sN_bit (met : Int → Bool) : ∀ n v : Nat, v < n → sN met n / 2 ^ v % 2 = if met v = true then 0 else 1
  | 0, v, h => by omega
  | n + 1, v, h => by
    unfold sN
    by_cases e : v = n
    · subst e
      have h1 := sN_lt met v
      have h2 : 0 < 2 ^ v := Nat.two_pow_pos v
      split
      · rw [Nat.add_zero, Nat.div_eq_of_lt h1]
      · rw [Nat.add_div_right _ h2, Nat.div_eq_of_lt h1]
    · have ih := sN_bit met n v (by omega)
      rw [← ih]
      split
      · rfl
      · have h3 : 2 ^ n = 2 ^ v * (2 * 2 ^ (n - v - 1)) := by rw [← Nat.pow_succ', ← Nat.pow_add]; congr 1; omega
        rw [h3, Nat.add_mul_div_left _ _ (Nat.two_pow_pos v), Nat.add_mul_mod_self_left]
theorem cutB_congr (l : List S76) {p q : Int → Bool} {N : Nat} (hm : ∀ k, k < l.length → (0 ≤ (mv l k).f0 ∧ (mv l k).f0 < N) ∧ (0 ≤ (mv l k).f1 ∧ (mv l k).f1 < N)) (h : ∀ v : Nat, v < N → p v = q v) (wo : Int) : ∀ k, k ≤ l.length → cutB l p wo k = cutB l q wo k
  | 0, _ => rfl
  | k + 1, hk => by
    unfold cutB
    rw [cutB_congr l hm h wo k (by omega)]
    obtain ⟨h1, h2⟩ := hm k (by omega)
    have e1 := h (mv l k).f0.toNat (by omega)
    have e2 := h (mv l k).f1.toNat (by omega)
    rw [Int.toNat_of_nonneg h1.1] at e1
    rw [Int.toNat_of_nonneg h2.1] at e2
    rw [e1, e2]
theorem pS_sN (met : Int → Bool) (n v : Nat) (h : v < n) : pS (sN met n) v = !met v := by
  unfold pS sb
  rw [Int.toNat_natCast, sN_bit met n v h]
  cases met v <;> rfl
/-! ### What the two answer -/
def BAns (n : Int) (l : List S76) (code : Int) (out : List S68) : Prop :=
  (bookOk n l = false ∧ code = 63 ∧ out = []) ∨ (bookOk n l = true ∧ (∃ S : Nat, S < 2 ^ n.toNat ∧ 0 < provF l S l.length) ∧ code = 65 ∧ out = []) ∨
  (bookOk n l = true ∧ (∃ cs, Bal n.toNat l cs) ∧ code = 0 ∧ out.length = l.length ∧ ∀ k, k < l.length → Far n.toNat l k true (rd_T68 out k).f0 ∧ Far n.toNat l k false (rd_T68 out k).f1)
theorem stuck_set {n : Int} {l : List S76} (h : bookOk n l = true) {cs : List Int} {met : Int → Bool} (hb : InB l cs) (hs : Stuck n.toNat l cs met) : sN met n.toNat < 2 ^ n.toNat ∧ 0 < provF l (sN met n.toNat) l.length := by
  refine ⟨sN_lt met _, ?_⟩
  have hr := book_rng h
  rw [provF_cut, cutB_congr l hr (q := fun v => !met v) (fun v hv => pS_sN met n.toNat v hv) (-1) _ (Nat.le_refl _)]
  exact stuck_cut hr hb hs
/-- A set that proves, and counts that balance: not both. -/
theorem prov_no {n : Int} {l : List S76} (h : bookOk n l = true) {cs : List Int} (hb : Bal n.toNat l cs) (S : Nat) : provF l S l.length ≤ 0 := by
  rw [provF_cut]
  exact bal_no (book_rng h) hb (pS S)
theorem balanceA_c (n : Int) (l : List S76) (A : Option Addr) (c : Nat) (w : World) (hs : k76.C w A l.length l) :
    Calls Try.prog 37 #[.agg #[.int .i64 n, .slice A l.length c]] w fun e w' => ∃ A' out code, e = .returned (.tuple #[.slice A' out.length out.length, .int .i64 code]) ∧ k68.C w' A' out.length out ∧ BAns n l code out ∧ Bel w w' :=
  (balance_c n l A c w hs).mono fun e w' ⟨h, hB⟩ => by
    rcases h with ⟨h1, rfl⟩ | ⟨h1, N, rfl, ⟨⟨cs, met, h2, h3⟩, rfl⟩ | ⟨cs, A', out, h2, h3, h4, h5, _, rfl⟩⟩
    · exact ⟨none, [], 63, rfl, Kd.C_nil _ _, .inl ⟨h1, rfl, rfl⟩, hB⟩
    · have h4 := stuck_set h1 h2 (by simpa using h3)
      exact ⟨none, [], 65, rfl, Kd.C_nil _ _, .inr (.inl ⟨h1, ⟨_, h4⟩, rfl, rfl⟩), hB⟩
    · exact ⟨A', out, 0, rfl, h5, .inr (.inr ⟨h1, ⟨cs, by simpa using h2⟩, rfl, h3, fun k hk => by simpa using h4 k hk⟩), hB⟩
theorem balanceT_c (n : Int) (l : List S76) (A : Option Addr) (c : Nat) (w : World) (hs : k76.C w A l.length l) :
    Calls Try.prog 37 #[.agg #[.int .i64 n, .slice A l.length c]] w fun e w' => ∃ A' out code, e = .returned (.tuple #[.slice A' out.length out.length, .int .i64 code]) ∧ k68.C w' A' out.length out ∧ BAns n l code out ∧ Ty 68 w' A' ∧ Bel w w' :=
  (balance_c n l A c w hs).mono fun e w' ⟨h, hB⟩ => by
    rcases h with ⟨h1, rfl⟩ | ⟨h1, N, rfl, ⟨⟨cs, met, h2, h3⟩, rfl⟩ | ⟨cs, A', out, h2, h3, h4, h5, h6, rfl⟩⟩
    · exact ⟨none, [], 63, rfl, Kd.C_nil _ _, .inl ⟨h1, rfl, rfl⟩, fun ad h => (by cases h), hB⟩
    · have h4 := stuck_set h1 h2 (by simpa using h3)
      exact ⟨none, [], 65, rfl, Kd.C_nil _ _, .inr (.inl ⟨h1, ⟨_, h4⟩, rfl, rfl⟩), fun ad h => (by cases h), hB⟩
    · exact ⟨A', out, 0, rfl, h5, .inr (.inr ⟨h1, ⟨cs, by simpa using h2⟩, rfl, h3, fun k hk => by simpa using h4 k hk⟩), h6, hB⟩
def PAns (n : Int) (l : List S76) (set code : Int) : Prop :=
  (bookOk n l = false ∧ set = 0 ∧ code = 63) ∨ (bookOk n l = true ∧ (∃ cs, Bal n.toNat l cs) ∧ set = 0 ∧ code = 4) ∨
  (bookOk n l = true ∧ code = 0 ∧ ∃ S : Nat, set = S ∧ S < 2 ^ n.toNat ∧ 0 < provF l S l.length)
theorem proofA_c (n : Int) (l : List S76) (A : Option Addr) (c : Nat) (w : World) (hs : k76.C w A l.length l) :
    Calls Try.prog 54 #[.agg #[.int .i64 n, .slice A l.length c]] w fun e w' => ∃ set code, e = .returned (.tuple #[.int .i64 set, .int .i64 code]) ∧ PAns n l set code ∧ Bel w w' :=
  (proof_c n l A c w hs).mono fun e w' ⟨h, hB⟩ => by
    rcases h with ⟨h1, rfl⟩ | ⟨h1, N, rfl, ⟨cs, met, h2, h3, rfl⟩ | ⟨cs, h2, rfl⟩⟩
    · exact ⟨0, 63, rfl, .inl ⟨h1, rfl, rfl⟩, hB⟩
    · have h4 := stuck_set h1 h2 (by simpa using h3)
      exact ⟨_, 0, rfl, .inr (.inr ⟨h1, rfl, sN met N, sN_sum met N, by simpa using h4⟩), hB⟩
    · exact ⟨0, 4, rfl, .inr (.inl ⟨h1, ⟨cs, by simpa using h2⟩, rfl, rfl⟩), hB⟩
theorem mn_bd {n : Int} {l : List S76} (h : bookOk n l = true) {k : Nat} (hk : k < l.length) {v : Int} (hv : Mn n.toNat l k v) : (mv l k).f2.f0 ≤ v ∧ v ≤ (mv l k).f2.f1 := by
  obtain ⟨⟨cs, h1, rfl⟩, _⟩ := hv
  exact h1.1.2 k hk
theorem mx_bd {n : Int} {l : List S76} (h : bookOk n l = true) {k : Nat} (hk : k < l.length) {v : Int} (hv : Mx n.toNat l k v) : (mv l k).f2.f0 ≤ v ∧ v ≤ (mv l k).f2.f1 := by
  obtain ⟨⟨cs, h1, rfl⟩, _⟩ := hv
  exact h1.1.2 k hk
theorem BAns.ok {n : Int} {l : List S76} {code : Int} {out : List S68} (h : BAns n l code out) (h1 : bookOk n l = true) (h2 : ∃ cs, Bal n.toNat l cs) : code = 0 ∧ out.length = l.length ∧ ∀ k, k < l.length → Mn n.toNat l k (rd_T68 out k).f0 ∧ Mx n.toNat l k (rd_T68 out k).f1 := by
  rcases h with ⟨h3, _⟩ | ⟨_, ⟨S, _, h3⟩, _⟩ | ⟨_, _, h3, h4, h5⟩
  · rw [h1] at h3; cases h3
  · obtain ⟨cs, h2⟩ := h2; have := prov_no h1 h2 S; omega
  · exact ⟨h3, h4, fun k hk => ⟨far_mn (book_rng h1) hk (h5 k hk).1, far_mx (book_rng h1) hk (h5 k hk).2⟩⟩
theorem BAns.no {n : Int} {l : List S76} {code : Int} {out : List S68} (h : BAns n l code out) (h1 : bookOk n l = true) (h2 : ∀ cs, ¬ Bal n.toNat l cs) : code = 65 ∧ out = [] := by
  rcases h with ⟨h3, _⟩ | ⟨_, _, h3, h4⟩ | ⟨_, ⟨cs, h3⟩, _⟩
  · rw [h1] at h3; cases h3
  · exact ⟨h3, h4⟩
  · exact absurd h3 (h2 cs)
/-- A move's number fixed. -/
theorem fix_ex {n : Int} {l : List S76} {k : Nat} (hk : k < l.length) {v : Int} (h : ∃ cs, Bal n.toNat l cs ∧ rd cs k = v) : ∃ cs, Bal n.toNat (setM l k ⟨v, v⟩) cs := by
  obtain ⟨cs, h1, rfl⟩ := h
  exact ⟨cs, bal_in_set hk h1 ⟨Int.le_refl _, Int.le_refl _⟩⟩
theorem fix_of {n : Int} {l : List S76} {k : Nat} (hk : k < l.length) {v : Int} (hv : (mv l k).f2.f0 ≤ v ∧ v ≤ (mv l k).f2.f1) {cs : List Int} (h : Bal n.toNat (setM l k ⟨v, v⟩) cs) : Bal n.toNat l cs ∧ rd cs k = v := by
  obtain ⟨h1, h2, h3⟩ := bal_of_set hk h hv
  simp only at h2 h3
  exact ⟨h1, by omega⟩
end Go.Proofs.B
