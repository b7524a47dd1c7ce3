/- barrel: the reference of books: proof, Proves, Balances, AreCounts. -/
import Derived.Test.YtpfoleggapngoaaB42
set_option linter.unusedVariables false
set_option linter.unusedSimpArgs false
set_option maxRecDepth 10000
namespace Go.Proofs.B
open Go Go.RowKit Go.Proofs Go.Proofs.G Go.Proofs.F Go.Proofs.YtpfoleggapngoaaW.PrintWords
theorem pow_cast (n : Nat) : (2 : Int) ^ n = ((2 ^ n : Nat) : Int) := by rw [Int.natCast_pow]; rfl
theorem pow6n {N : Nat} (h : N ≤ 6) : 1 ≤ 2 ^ N ∧ 2 ^ N ≤ 64 := by
  have := pow6 h
  rw [pow_cast] at this
  omega
def PrfRes (n : Int) (l : List S76) (r : Int) : Prop := (∃ S : Nat, r = S ∧ S < 2 ^ n.toNat ∧ 0 < provF l S l.length) ∨ (r = -1 ∧ ∀ S : Nat, S < 2 ^ n.toNat → provF l S l.length ≤ 0)
set_option maxHeartbeats 2000000 in
theorem proofR_c (A : Option Addr) (c : Nat) (n : Int) (l : List S76) (w : World) (hs : k76.C w A l.length l) (hbo : bookOk n l = true) :
    Calls Try.prog 85 #[.agg #[.int .i64 n, .slice A l.length c]] w fun e w' => ∃ r, e = .returned (.int .i64 r) ∧ PrfRes n l r ∧ Bel w w' := by
  obtain ⟨hn, hl10⟩ := book_n hbo
  have hp6 := pow6n (N := n.toNat) (by omega)
  have hpc := pow_cast n.toNat
  refine G_enter (l := [.agg #[.int .i64 n, .slice A l.length c]]) Try.func85 rfl rfl ?_
  refine Sq (Rg ?_)
  refine g_box rfl (h := fun g1 w1 N1 => ?_)
  have K1 := N1.at_
  have hB1 := Bel.of_new N1
  have K1a : w1.heap[g1]? = some (.cells #[.int .i64 n, .slice A l.length c] 49 (0, 0)) := K1
  refine As (Nl (Tn (Sq (Sq (Rg (As (Nl (Tn (Bk ?_)))))))))
  refine GC_loop (fun m σ w' => ∃ (j : Nat) (τ : Nat → Value), σ = upd (upd τ 1 (.pointer (some ⟨g1, 0, none⟩))) 3 (.int .i64 j) ∧ j ≤ 2 ^ n.toNat ∧ m = 2 ^ n.toNat - j ∧ w'.heap[g1]? = some (.cells #[.int .i64 n, .slice A l.length c] 49 (0, 0)) ∧ Bel w w' ∧ ∀ S : Nat, S < j → provF l S l.length ≤ 0) (2 ^ n.toNat) ⟨0, _, has rfl (has rfl rfl), Nat.zero_le _, rfl, K1a, hB1, fun S hS => absurd hS (Nat.not_lt_zero _)⟩ ?_
  rintro m _ w3 ⟨j, τ, rfl, hj, rfl, K1b, hB, hall⟩
  refine Sq (Sq (Rg (Mv (Fb f49_0 rfl (L1 Try.underlying3 (cellAt K1b rfl) rfl ?_)))))
  refine g_v (r_shl rfl rfl (n := n.toNat) (by omega) (by omega) (by omega)) (h := ?_)
  refine g_lss rfl rfl (h1 := fun c8 => ?_) (h2 := fun c8 => ?_)
  · skip
    have hjl : j < 2 ^ n.toNat := by omega
    refine Nl (Tn (Ct rfl (Sk (Tn (Sq (Bk (Sq (Rg ?_))))))))
    refine g_loadA rfl Try.underlying49 info49 (l := [.int .i64 n, .slice A l.length c]) (cellsAt K1b) (h := ?_)
    refine Mv ?_
    refine g_call he87 rfl (more_c A c n l j (-1) _ (Kd.C_below hs hB) hbo (by omega)) (h := ?_)
    rintro e w13 ⟨rfl, hb13⟩
    refine ⟨_, rfl, ?_⟩
    refine g_gtr rfl rfl (h1 := fun c14 => ?_) (h2 := fun c14 => ?_)
    · skip
      refine Nl (Tn (Ct rfl (Sq (Rg (Mv (As (Nl (Tn (Rt (Br (Tr (Tr (Br (Tr ?_))))))))))))))
      exact ret1 rfl ⟨j, rfl, .inl ⟨j, rfl, hjl, by rw [provF_cut]; exact c14⟩, hB.bel hb13⟩
    · skip
      refine Nl (Tn (Cf rfl (Sk (Bn (Tn (Rg (Mv ?_)))))))
      refine g_add rfl rfl (by omega) (h := ?_)
      refine As (Nl ?_)
      exact round_end (2 ^ n.toNat - (j + 1)) (by omega) ⟨j + 1, _, has rfl (has rfl rfl), hjl, rfl, kB K1b hb13, hB.bel hb13, fun S hS => by
        rcases Nat.lt_succ_iff_lt_or_eq.1 hS with h | h
        · exact hall S h
        · subst h; rw [provF_cut]; omega⟩
  · skip
    refine Nl (Tn (Cf rfl (Xi (Tx (Tx (Bs (Tn (Sq (Rg (As (Nl (Tn (Rt ?_)))))))))))))
    exact ret1 rfl ⟨-1, rfl, .inr ⟨rfl, fun S hS => hall S (by omega)⟩, hB⟩
set_option maxHeartbeats 2000000 in
theorem provesR_c (A : Option Addr) (c : Nat) (n : Int) (l : List S76) (set : Int) (w : World) (hs : k76.C w A l.length l) :
    Calls Try.prog 53 #[.agg #[.int .i64 n, .slice A l.length c], .int .i64 set] w fun e w' => e = .returned (.tuple #[.bool (provesL n l set).1, .int .i64 (provesL n l set).2]) ∧ Bel w w' := by
  refine G_enter (l := [.agg #[.int .i64 n, .slice A l.length c], .int .i64 set]) Try.func53 rfl rfl ?_
  refine Sq (Rg ?_)
  refine g_box rfl (h := fun g2 w2 N2 => ?_)
  have K2 := N2.at_
  have hB2 := Bel.of_new N2
  have K2a : w2.heap[g2]? = some (.cells #[.int .i64 n, .slice A l.length c] 49 (0, 0)) := K2
  refine As (As (Nl (Tn (Sq (Sq (Rg ?_))))))
  refine g_loadA rfl Try.underlying49 info49 (l := [.int .i64 n, .slice A l.length c]) (cellsAt K2a) (h := ?_)
  refine g_call he36 rfl (checkBookR_c A c n l _ (Kd.C_below hs hB2)) (h := ?_)
  rintro e w8 ⟨rfl, hb8⟩
  refine ⟨_, rfl, ?_⟩
  have hB8 := hB2.bel hb8
  have K2b := kB K2a hb8
  refine As (Nl (Tn (Sq (Rg (Mv ?_)))))
  refine g_neq rfl rfl (h1 := fun c10 => ?_) (h2 := fun c10 => ?_)
  · skip
    have hbo : ¬ bookOk n l = true := fun h => by rw [if_pos h] at c10; exact c10 rfl
    refine Nl (Tn (Ct rfl (Sq (Rg (Mv (As (As (Nl (Tn (Rt (Tr ?_)))))))))))
    exact ret2 rfl ⟨ret2b (by rw [provesL, if_neg hbo, if_neg hbo]), hB8⟩
  · skip
    have hbo : bookOk n l = true := by by_cases h : bookOk n l = true; exact h; rw [if_neg h] at c10; exact absurd c10 (by decide)
    obtain ⟨hn, hl10⟩ := book_n hbo
    have hp6 := pow6n (N := n.toNat) (by omega)
    have hpc := pow_cast n.toNat
    refine Nl (Tn (Cf rfl (Sk (Tn (Sq (Sq (Rg (Mv (Fb f49_0 rfl (L1 Try.underlying3 (cellAt K2b rfl) rfl ?_))))))))))
    refine g_v (r_shl rfl rfl (n := n.toNat) (by omega) (by omega) (by omega)) (h := ?_)
    refine g_sub rfl rfl (by omega) (h := ?_)
    refine g_in rfl rfl rfl (h1 := fun c17 => ?_) (h2 := fun c17 => ?_)
    · skip
      have hset : 0 ≤ set ∧ set ≤ 2 ^ n.toNat - 1 := by omega
      obtain ⟨S, rfl⟩ := Int.eq_ofNat_of_zero_le hset.1
      refine Nt rfl (Nl (Tn (Cf rfl (Sk (Tn (Sq (Rg ?_)))))))
      refine g_loadA rfl Try.underlying49 info49 (l := [.int .i64 n, .slice A l.length c]) (cellsAt K2b) (h := ?_)
      refine Mv ?_
      refine g_call he87 rfl (more_c A c n l S (-1) _ (Kd.C_below hs hB8) hbo (by omega)) (h := ?_)
      rintro e w21 ⟨rfl, hb21⟩
      refine ⟨_, rfl, ?_⟩
      refine g_gtr rfl rfl (h1 := fun c22 => ?_) (h2 := fun c22 => ?_)
      · skip
        refine As (As (Nl (Tn (Rt ?_))))
        exact ret2 rfl ⟨ret2b (by rw [provesL, if_pos hbo, if_pos hset, Int.toNat_natCast, provF_cut, decide_eq_true c22]), hB8.bel hb21⟩
      · skip
        refine As (As (Nl (Tn (Rt ?_))))
        exact ret2 rfl ⟨ret2b (by rw [provesL, if_pos hbo, if_pos hset, Int.toNat_natCast, provF_cut, decide_eq_false c22]), hB8.bel hb21⟩
    · skip
      have hset : ¬ (0 ≤ set ∧ set ≤ 2 ^ n.toNat - 1) := by omega
      refine Nt rfl (Nl (Tn (Ct rfl (Sq (Rg (As (As (Nl (Tn (Rt (Tr ?_)))))))))))
      exact ret2 rfl ⟨ret2b (by rw [provesL, if_pos hbo, if_neg hset]), hB8⟩
/-- What Balances answers. -/
def BlsRes (n : Int) (l : List S76) (b : Bool) (code : Int) : Prop := (bookOk n l = false ∧ b = false ∧ code = 63) ∨ (bookOk n l = true ∧ code = 0 ∧ ((b = false ∧ ∃ S : Nat, S < 2 ^ n.toNat ∧ 0 < provF l S l.length) ∨ (b = true ∧ ∀ S : Nat, S < 2 ^ n.toNat → provF l S l.length ≤ 0)))
theorem balances_c (A : Option Addr) (c : Nat) (n : Int) (l : List S76) (w : World) (hs : k76.C w A l.length l) :
    Calls Try.prog 55 #[.agg #[.int .i64 n, .slice A l.length c]] w fun e w' => ∃ b code, e = .returned (.tuple #[.bool b, .int .i64 code]) ∧ BlsRes n l b code ∧ Bel w w' := by
  refine G_enter (l := [.agg #[.int .i64 n, .slice A l.length c]]) Try.func55 rfl rfl ?_
  refine Sq (Rg ?_)
  refine g_box rfl (h := fun g1 w1 N1 => ?_)
  have K1 := N1.at_
  have hB1 := Bel.of_new N1
  have K1a : w1.heap[g1]? = some (.cells #[.int .i64 n, .slice A l.length c] 49 (0, 0)) := K1
  refine As (As (Nl (Tn (Sq (Sq (Rg ?_))))))
  refine g_loadA rfl Try.underlying49 info49 (l := [.int .i64 n, .slice A l.length c]) (cellsAt K1a) (h := ?_)
  refine g_call he36 rfl (checkBookR_c A c n l _ (Kd.C_below hs hB1)) (h := ?_)
  rintro e w6 ⟨rfl, hb6⟩
  refine ⟨_, rfl, ?_⟩
  have hB6 := hB1.bel hb6
  have K1b := kB K1a hb6
  refine As (Nl (Tn (Sq (Rg (Mv ?_)))))
  refine g_neq rfl rfl (h1 := fun c8 => ?_) (h2 := fun c8 => ?_)
  · skip
    have hbo : ¬ bookOk n l = true := fun h => by rw [if_pos h] at c8; exact c8 rfl
    refine Nl (Tn (Ct rfl (Sq (Rg (Mv (As (As (Nl (Tn (Rt (Tr ?_)))))))))))
    exact ret2 rfl ⟨false, 63, ret2b (by rw [if_neg hbo]), .inl ⟨by simpa using hbo, rfl, rfl⟩, hB6⟩
  · skip
    have hbo : bookOk n l = true := by by_cases h : bookOk n l = true; exact h; rw [if_neg h] at c8; exact absurd c8 (by decide)
    refine Nl (Tn (Cf rfl (Sk (Tn (Sq (Rg ?_))))))
    refine g_loadA rfl Try.underlying49 info49 (l := [.int .i64 n, .slice A l.length c]) (cellsAt K1b) (h := ?_)
    refine g_call he85 rfl (proofR_c A c n l _ (Kd.C_below hs hB6) hbo) (h := ?_)
    rintro e w11 ⟨r, rfl, hr, hb11⟩
    refine ⟨_, rfl, ?_⟩
    refine g_lss rfl rfl (h1 := fun c12 => ?_) (h2 := fun c12 => ?_)
    · skip
      refine As (As (Nl (Tn (Rt ?_))))
      exact ret2 rfl ⟨true, 0, ret2b rfl, .inr ⟨hbo, rfl, .inr ⟨rfl, by
        rcases hr with ⟨S, h1, _⟩ | ⟨_, h⟩
        · omega
        · exact h⟩⟩, hB6.bel hb11⟩
    · skip
      refine As (As (Nl (Tn (Rt ?_))))
      exact ret2 rfl ⟨false, 0, ret2b rfl, .inr ⟨hbo, rfl, .inl ⟨rfl, by
        rcases hr with ⟨S, _, h1⟩ | ⟨h, _⟩
        · exact ⟨S, h1⟩
        · omega⟩⟩, hB6.bel hb11⟩
theorem ovf_in {n : Int} {l : List S76} {cs : List Int} (h : bookOk n l = true) (s : Nat) : ∀ k, k ≤ l.length → (∀ j, j < k → withinB l cs j = true) → -(1000 * (k : Int)) ≤ ovf l cs k s ∧ ovf l cs k s ≤ 1000 * (k : Int)
  | 0, _, _ => by simp [ovf]
  | k + 1, hk, hw => by
    have h1 := ovf_in h s k (by omega) (fun j hj => hw j (by omega))
    have h2 := of_decide_eq_true (hw k (by omega))
    have h3 := book_move h k (by omega)
    unfold ovf
    split <;> split <;> omega
theorem acc_step {n : Int} {l : List S76} {cs : List Int} (h : bookOk n l = true) (s : Nat) {k : Nat} (hk : k < l.length) (hw : ∀ j, j < k → withinB l cs j = true) (hwk : withinB l cs k = true) {v : Int} (hv : v = ovf l cs k s) :
    (if (mv l k).f0 = (s : Int) then wrap64 ((if (mv l k).f1 = (s : Int) then wrap64 (v + rd cs k) else v) - rd cs k) else (if (mv l k).f1 = (s : Int) then wrap64 (v + rd cs k) else v)) = ovf l cs (k + 1) s := by
  have h1 := ovf_in h s k (by omega) hw
  have h2 := of_decide_eq_true hwk
  have h3 := book_move h k hk
  have h4 := book_n h
  show _ = ovf l cs k s + (if (mv l k).f1 = s then rd cs k else 0) - (if (mv l k).f0 = s then rd cs k else 0)
  rw [← hv] at h1 ⊢
  have e1 : wrap64 (v + rd cs k) = v + rd cs k := IntWalk.wrap64_in _ (by omega)
  have e2 : wrap64 (v - rd cs k) = v - rd cs k := IntWalk.wrap64_in _ (by omega)
  rw [e1]
  split
  · rename_i hf0
    split
    · rename_i hf1; exact absurd (hf0.trans hf1.symm) h3.2.2.1
    · rw [e2]; omega
  · split <;> omega
set_option maxHeartbeats 8000000 in
theorem areCountsR_c (A B : Option Addr) (c d : Nat) (n : Int) (l : List S76) (cs : List Int) (w : World) (hs : k76.C w A l.length l) (hc : (Kd.int .i64).C w B cs.length cs) :
    Calls Try.prog 34 #[.agg #[.int .i64 n, .slice A l.length c], .slice B cs.length d] w fun e w' => e = .returned (.tuple #[.bool (areCounts n l cs).1, .int .i64 (areCounts n l cs).2]) ∧ Bel w w' := by
  have hcl := hc.2.1
  refine G_enter (l := [.agg #[.int .i64 n, .slice A l.length c], .slice B cs.length d]) Try.func34 rfl rfl ?_
  refine Sq (Rg ?_)
  refine g_box rfl (h := fun g2 w2 N2 => ?_)
  have K2 := N2.at_
  have hB2 := Bel.of_new N2
  have K2a : w2.heap[g2]? = some (.cells #[.int .i64 n, .slice A l.length c] 49 (0, 0)) := K2
  refine As (As (Nl (Tn (Sq (Sq (Rg ?_))))))
  refine g_loadA rfl Try.underlying49 info49 (l := [.int .i64 n, .slice A l.length c]) (cellsAt K2a) (h := ?_)
  refine g_call he36 rfl (checkBookR_c A c n l _ (Kd.C_below hs hB2)) (h := ?_)
  rintro e w13 ⟨rfl, hb13⟩
  refine ⟨_, rfl, ?_⟩
  have hB13 := hB2.bel hb13
  have K2b := kB K2a hb13
  refine As (Nl (Tn (Sq (Rg (Mv ?_)))))
  refine g_neq rfl rfl (h1 := fun c15 => ?_) (h2 := fun c15 => ?_)
  · skip
    have hbo : ¬ bookOk n l = true := fun h => by rw [if_pos h] at c15; exact c15 rfl
    refine Nl (Tn (Ct rfl (Sq (Rg (Mv (As (As (Nl (Tn (Rt (Tr ?_)))))))))))
    exact ret2 rfl ⟨ret2b (by rw [areCounts, if_neg hbo, if_neg hbo]), hB13⟩
  · skip
    have hbo : bookOk n l = true := by by_cases h : bookOk n l = true; exact h; rw [if_neg h] at c15; exact absurd c15 (by decide)
    obtain ⟨hn, hl10⟩ := book_n hbo
    refine Nl (Tn (Cf rfl (Sk (Tn (Sq (Sq (Rg (Mv (Ln Try.underlying22 rfl (Fb f49_1 rfl (L1 Try.underlying47 (cellAt K2b rfl) rfl (Ln Try.underlying47 rfl ?_))))))))))))
    refine g_neq rfl rfl (h1 := fun c22 => ?_) (h2 := fun c22 => ?_)
    · skip
      have hlen : ¬ cs.length = l.length := by omega
      refine Nl (Tn (Ct rfl (Sq (Rg (As (As (Nl (Tn (Rt (Tr ?_))))))))))
      exact ret2 rfl ⟨ret2b (by rw [areCounts, if_pos hbo, if_neg hlen]), hB13⟩
    · skip
      have hlen : cs.length = l.length := by omega
      have har : areCounts n l cs = (areCountsB n.toNat l cs, 0) := by rw [areCounts, if_pos hbo, if_pos hlen]
      obtain ⟨N, rfl⟩ := Int.eq_ofNat_of_zero_le (show 0 ≤ n by omega)
      rw [Int.toNat_natCast] at har
      refine Nl (Tn (Cf rfl (Sk (Tn (Sq (Rg (As (Nl (Tn (Sq (Sq (Rg (As (Nl (Tn (Bk ?_))))))))))))))))
      refine GC_loop (fun m σ w' => ∃ (s : Nat) (b : Bool) (τ : Nat → Value), σ = upd (upd (upd (upd τ 1 (.slice B cs.length d)) 2 (.pointer (some ⟨g2, 0, none⟩))) 7 (.bool b)) 8 (.int .i64 s) ∧ s ≤ N ∧ m = N - s ∧ w'.heap[g2]? = some (.cells #[.int .i64 N, .slice A l.length c] 49 (0, 0)) ∧ Bel w w' ∧ ((b = true ∧ (0 < s → ∀ k, k < l.length → withinB l cs k = true) ∧ ∀ s', s' < s → ovf l cs l.length s' = 0) ∨ (b = false ∧ areCountsB N l cs = false))) (N) ⟨0, true, _, has rfl (has rfl (has rfl (has rfl rfl))), Nat.zero_le _, rfl, K2b, hB13, .inl ⟨rfl, fun h => absurd h (Nat.lt_irrefl 0), fun s' h => absurd h (Nat.not_lt_zero _)⟩⟩ ?_
      rintro m _ w3 ⟨s, b, τ, rfl, hsN, rfl, K2c, hB, hb⟩
      refine Sq (Sq (Rg (Mv (Fb f49_0 rfl (L1 Try.underlying3 (cellAt K2c rfl) rfl ?_)))))
      refine g_lss rfl rfl (h1 := fun c26 => ?_) (h2 := fun c26 => ?_)
      · skip
        refine Nl (Tn (Ct rfl (Sk (Tn (Sq (Bk (Sq (Rg (As (Nl (Tn (Sq (Sq (Rg (As (Nl (Tn (Bk ?_))))))))))))))))))
        refine GC_loop (fun m σ w' => ∃ (k : Nat) (b : Bool) (v : Int) (τ : Nat → Value), σ = upd (upd (upd (upd (upd (upd τ 1 (.slice B cs.length d)) 2 (.pointer (some ⟨g2, 0, none⟩))) 7 (.bool b)) 8 (.int .i64 s)) 9 (.int .i64 v)) 10 (.int .i64 k) ∧ k ≤ l.length ∧ m = l.length - k ∧ w'.heap[g2]? = some (.cells #[.int .i64 N, .slice A l.length c] 49 (0, 0)) ∧ Bel w w' ∧ ((b = true ∧ (∀ j, j < k → withinB l cs j = true) ∧ v = ovf l cs k s ∧ ∀ s', s' < s → ovf l cs l.length s' = 0) ∨ (b = false ∧ areCountsB N l cs = false))) (l.length) ⟨0, b, 0, _, has rfl (has rfl (has rfl (has rfl (has rfl (has rfl rfl))))), Nat.zero_le _, rfl, K2c, hB, by
          rcases hb with ⟨h1, h2, h3⟩ | h
          · exact .inl ⟨h1, fun j hj => absurd hj (Nat.not_lt_zero _), rfl, h3⟩
          · exact .inr h⟩ ?_
        rintro m _ w4 ⟨k, b1, v, τ2, rfl, hk, rfl, K2d, hB4, hb1⟩
        refine Sq (Sq (Rg (Mv (Fb f49_1 rfl (L1 Try.underlying47 (cellAt K2d rfl) rfl (Ln Try.underlying47 rfl ?_))))))
        refine g_lss rfl rfl (h1 := fun c33 => ?_) (h2 := fun c33 => ?_)
        · skip
          refine Nl (Tn (Ct rfl (Sk (Tn (Sq (Bk (Sq (Rg (Fb f49_1 rfl (L1 Try.underlying47 (cellAt K2d rfl) rfl ?_))))))))))
          have hkl : k < l.length := by omega
          obtain ⟨ad, hA, h40⟩ := at76 hs hB4 k hkl
          rw [hA]
          have hmk := book_move hbo k hkl
          rw [← mv_get l k hkl] at h40
          refine Mv ?_
          refine g_indexS Try.underlying47 info76 rfl rfl (by omega) (by omega) rfl (h := ?_)
          refine g_loadA rfl Try.underlying76 info76 (l := enc76 (mv l k)) h40 (h := ?_)
          refine g_alloc (z := .agg #[.int .i64 0, .int .i64 0, .int .i64 0, .int .i64 0]) (by kernel_rfl) (h := fun g11 w11 N11 => ?_)
          have K11 := N11.at_
          refine g_storeA rfl rfl info76 K11 rfl (by simp [enc76, Value.oneCell']) (h := fun w6 P6 => ?_)
          have K11a : w6.heap[g11]? = some (.cells (enc76 (mv l k)).toArray 76 (0, 0)) := P6.at_
          have hB6 := (hB4.new N11).put P6 (Nat.le_trans hB4.size N11.ge)
          have K2e := kP (kN K2d N11) P6 (ne_ty (kN K2d N11) K11 (by decide))
          rw [hA] at K2e
          obtain ⟨adB, hBB, hcnt⟩ := Kd.at_int (Kd.C_below hc hB6.drew) k (by omega) (by omega)
          rw [hBB]
          have hBd := hB6.drew
          refine Nl (Tn (Sq ?_))
          refine GD_start 11 [] (fun w' => w'.heap[g11]? = some (.cells (enc76 (mv l k)).toArray 76 (0, 0)) ∧ w'.cell? (adB.add (k : Int).toNat) = some (.int .i64 (rd cs k))) (by kernel_rfl) rfl ?_
          refine GD_pure 0 rfl (by kernel_rfl) (by kernel_rfl) (by kernel_rfl) (by kernel_rfl) rfl rfl rfl (qv fun wq hC => by exact r_move) ?_
          refine GD_pure 1 rfl (by kernel_rfl) (by kernel_rfl) (by kernel_rfl) (by kernel_rfl) rfl rfl rfl (qv fun wq hC => by exact r_move) ?_
          cases q42 : b1 with
          | true =>
            refine GD_pure 2 rfl (by kernel_rfl) (by kernel_rfl) (by kernel_rfl) (by kernel_rfl) rfl rfl rfl (qv fun wq hC => by exact r_fieldAddrB f76_2 rfl) ?_
            refine GD_take 3 rfl (by kernel_rfl) (by kernel_rfl) (by kernel_rfl) (by kernel_rfl) rfl rfl rfl (qv fun wq hC => by exact r_loadA rfl Try.underlying68 info68 (l := [.int .i64 (mv l k).f2.f0, .int .i64 (mv l k).f2.f1]) (spanAt68 hC.1)) ?_
            refine GD_pure 4 rfl (by kernel_rfl) (by kernel_rfl) (by kernel_rfl) (by kernel_rfl) rfl rfl rfl (qv fun wq hC => by exact r_move) ?_
            refine GD_pure 5 rfl (by kernel_rfl) (by kernel_rfl) (by kernel_rfl) (by kernel_rfl) rfl rfl rfl (qv fun wq hC => by exact r_move) ?_
            refine GD_pure 6 rfl (by kernel_rfl) (by kernel_rfl) (by kernel_rfl) (by kernel_rfl) rfl rfl rfl (qv fun wq hC => by exact r_indexS Try.underlying22 info3 rfl rfl (by omega) (by omega) (Nat.mul_one _)) ?_
            refine GD_take 7 rfl (by kernel_rfl) (by kernel_rfl) (by kernel_rfl) (by kernel_rfl) rfl rfl rfl (qv fun wq hC => by exact r_load1 rfl Try.underlying3 (hC.2)) ?_
            refine GD_one 8 (by kernel_rfl) (fun _ => ⟨K11a, hcnt⟩) ?_
            refine GO_call rfl rfl rfl he57 rfl (holds_c _ _ _ _) (fun e w49 he => ?_)
            obtain ⟨rfl, hb49⟩ := he
            refine ⟨_, rfl, ?_⟩
            have K11a := kB (w1 := w6.drewN 1) K11a hb49
            have K2e := kB (w1 := w6.drewN 1) K2e hb49
            have hBd := hBd.bel hb49
            have hcnt := hb49.cellk hcnt
            refine GD_pure 9 rfl (by kernel_rfl) (by kernel_rfl) (by kernel_rfl) (by kernel_rfl) rfl rfl rfl (qv fun wq hC => by exact r_pickT rfl) ?_
            refine GD_pure 10 rfl (by kernel_rfl) (by kernel_rfl) (by kernel_rfl) (by kernel_rfl) rfl rfl rfl (qv fun wq hC => by exact r_assign) ?_
            refine GD_end (by kernel_rfl) (fun _ => ⟨K11a, hcnt⟩) ?_
            refine Tn (Sq (Sq (Rg (Fb f76_1 rfl (L1 Try.underlying3 (cellAt K11a rfl) rfl (Mv ?_))))))
            refine g_eql rfl rfl (h1 := fun c54 => ?_) (h2 := fun c54 => ?_)
            · skip
              refine Nl (Tn (Ct rfl (Rg (Mv (Mv (Mv ?_))))))
              refine g_indexS Try.underlying22 info3 rfl rfl (by omega) (by omega) (Nat.mul_one _) (h := ?_)
              refine L1 Try.underlying3 (hcnt) rfl ?_
              refine g_addw rfl rfl (h := ?_)
              refine As (Nl (Tn (Sq (Rg (Fb f76_0 rfl (L1 Try.underlying3 (cellAt K11a rfl) rfl (Mv ?_)))))))
              refine g_eql rfl rfl (h1 := fun c64 => ?_) (h2 := fun c64 => ?_)
              · skip
                refine Nl (Tn (Ct rfl (Rg (Mv (Mv (Mv ?_))))))
                refine g_indexS Try.underlying22 info3 rfl rfl (by omega) (by omega) (Nat.mul_one _) (h := ?_)
                refine L1 Try.underlying3 (hcnt) rfl ?_
                refine g_v (r_subw rfl rfl) (h := ?_)
                refine As (Nl (Bn (Tn (Rg (Mv ?_)))))
                refine g_add rfl rfl (by omega) (h := ?_)
                refine As (Nl ?_)
                refine round_end (l.length - (k + 1)) (by omega) ⟨k + 1, _, _, _, has rfl (has rfl (has rfl (has rfl (has rfl (has rfl rfl))))), hkl, rfl, K2e, hBd, ?_⟩
                first
                  | exact .inr ⟨rfl, by rcases hb1 with ⟨h, _⟩ | ⟨_, h⟩; rw [q42] at h; cases h; exact h⟩
                  | (rcases hb1 with ⟨_, h2, h3, h4⟩ | ⟨h, _⟩
                     · by_cases hw : withinB l cs k = true
                       · refine .inl ⟨hw, fun j hj => ?_, ?_, h4⟩
                         · rcases Nat.lt_succ_iff_lt_or_eq.1 hj with h | h
                           · exact h2 j h
                           · subst h; exact hw
                         · have hacc := acc_step hbo s hkl h2 hw h3
                           first | rw [if_pos c54] at hacc | rw [if_neg c54] at hacc
                           first | rw [if_pos c64] at hacc | rw [if_neg c64] at hacc
                           exact hacc
                       · have hw : withinB l cs k = false := by simpa using hw
                         exact .inr ⟨hw, by rw [areCountsB, all_range_lt hkl hw]; rfl⟩
                     · rw [q42] at h; cases h)
              · skip
                refine Nl (Tn (Cf rfl (Sk (Bn (Tn (Rg (Mv ?_)))))))
                refine g_add rfl rfl (by omega) (h := ?_)
                refine As (Nl ?_)
                refine round_end (l.length - (k + 1)) (by omega) ⟨k + 1, _, _, _, has rfl (has rfl (has rfl (has rfl (has rfl (has rfl rfl))))), hkl, rfl, K2e, hBd, ?_⟩
                first
                  | exact .inr ⟨rfl, by rcases hb1 with ⟨h, _⟩ | ⟨_, h⟩; rw [q42] at h; cases h; exact h⟩
                  | (rcases hb1 with ⟨_, h2, h3, h4⟩ | ⟨h, _⟩
                     · by_cases hw : withinB l cs k = true
                       · refine .inl ⟨hw, fun j hj => ?_, ?_, h4⟩
                         · rcases Nat.lt_succ_iff_lt_or_eq.1 hj with h | h
                           · exact h2 j h
                           · subst h; exact hw
                         · have hacc := acc_step hbo s hkl h2 hw h3
                           first | rw [if_pos c54] at hacc | rw [if_neg c54] at hacc
                           first | rw [if_pos c64] at hacc | rw [if_neg c64] at hacc
                           exact hacc
                       · have hw : withinB l cs k = false := by simpa using hw
                         exact .inr ⟨hw, by rw [areCountsB, all_range_lt hkl hw]; rfl⟩
                     · rw [q42] at h; cases h)
            · skip
              refine Nl (Tn (Cf rfl (Sk (Tn (Sq (Rg (Fb f76_0 rfl (L1 Try.underlying3 (cellAt K11a rfl) rfl (Mv ?_)))))))))
              refine g_eql rfl rfl (h1 := fun c64 => ?_) (h2 := fun c64 => ?_)
              · skip
                refine Nl (Tn (Ct rfl (Rg (Mv (Mv (Mv ?_))))))
                refine g_indexS Try.underlying22 info3 rfl rfl (by omega) (by omega) (Nat.mul_one _) (h := ?_)
                refine L1 Try.underlying3 (hcnt) rfl ?_
                refine g_v (r_subw rfl rfl) (h := ?_)
                refine As (Nl (Bn (Tn (Rg (Mv ?_)))))
                refine g_add rfl rfl (by omega) (h := ?_)
                refine As (Nl ?_)
                refine round_end (l.length - (k + 1)) (by omega) ⟨k + 1, _, _, _, has rfl (has rfl (has rfl (has rfl (has rfl (has rfl rfl))))), hkl, rfl, K2e, hBd, ?_⟩
                first
                  | exact .inr ⟨rfl, by rcases hb1 with ⟨h, _⟩ | ⟨_, h⟩; rw [q42] at h; cases h; exact h⟩
                  | (rcases hb1 with ⟨_, h2, h3, h4⟩ | ⟨h, _⟩
                     · by_cases hw : withinB l cs k = true
                       · refine .inl ⟨hw, fun j hj => ?_, ?_, h4⟩
                         · rcases Nat.lt_succ_iff_lt_or_eq.1 hj with h | h
                           · exact h2 j h
                           · subst h; exact hw
                         · have hacc := acc_step hbo s hkl h2 hw h3
                           first | rw [if_pos c54] at hacc | rw [if_neg c54] at hacc
                           first | rw [if_pos c64] at hacc | rw [if_neg c64] at hacc
                           exact hacc
                       · have hw : withinB l cs k = false := by simpa using hw
                         exact .inr ⟨hw, by rw [areCountsB, all_range_lt hkl hw]; rfl⟩
                     · rw [q42] at h; cases h)
              · skip
                refine Nl (Tn (Cf rfl (Sk (Bn (Tn (Rg (Mv ?_)))))))
                refine g_add rfl rfl (by omega) (h := ?_)
                refine As (Nl ?_)
                refine round_end (l.length - (k + 1)) (by omega) ⟨k + 1, _, _, _, has rfl (has rfl (has rfl (has rfl (has rfl (has rfl rfl))))), hkl, rfl, K2e, hBd, ?_⟩
                first
                  | exact .inr ⟨rfl, by rcases hb1 with ⟨h, _⟩ | ⟨_, h⟩; rw [q42] at h; cases h; exact h⟩
                  | (rcases hb1 with ⟨_, h2, h3, h4⟩ | ⟨h, _⟩
                     · by_cases hw : withinB l cs k = true
                       · refine .inl ⟨hw, fun j hj => ?_, ?_, h4⟩
                         · rcases Nat.lt_succ_iff_lt_or_eq.1 hj with h | h
                           · exact h2 j h
                           · subst h; exact hw
                         · have hacc := acc_step hbo s hkl h2 hw h3
                           first | rw [if_pos c54] at hacc | rw [if_neg c54] at hacc
                           first | rw [if_pos c64] at hacc | rw [if_neg c64] at hacc
                           exact hacc
                       · have hw : withinB l cs k = false := by simpa using hw
                         exact .inr ⟨hw, by rw [areCountsB, all_range_lt hkl hw]; rfl⟩
                     · rw [q42] at h; cases h)
          | false =>
            refine GD_off 2 rfl (by kernel_rfl) (by kernel_rfl) (by kernel_rfl) (by kernel_rfl) rfl rfl ?_
            refine GD_off 3 rfl (by kernel_rfl) (by kernel_rfl) (by kernel_rfl) (by kernel_rfl) rfl rfl ?_
            refine GD_off 4 rfl (by kernel_rfl) (by kernel_rfl) (by kernel_rfl) (by kernel_rfl) rfl rfl ?_
            refine GD_off 5 rfl (by kernel_rfl) (by kernel_rfl) (by kernel_rfl) (by kernel_rfl) rfl rfl ?_
            refine GD_off 6 rfl (by kernel_rfl) (by kernel_rfl) (by kernel_rfl) (by kernel_rfl) rfl rfl ?_
            refine GD_off 7 rfl (by kernel_rfl) (by kernel_rfl) (by kernel_rfl) (by kernel_rfl) rfl rfl ?_
            refine GD_off 8 rfl (by kernel_rfl) (by kernel_rfl) (by kernel_rfl) (by kernel_rfl) rfl rfl ?_
            refine GD_pure 9 rfl (by kernel_rfl) (by kernel_rfl) (by kernel_rfl) (by kernel_rfl) rfl rfl rfl (qv fun wq hC => by exact r_pickF rfl) ?_
            refine GD_pure 10 rfl (by kernel_rfl) (by kernel_rfl) (by kernel_rfl) (by kernel_rfl) rfl rfl rfl (qv fun wq hC => by exact r_assign) ?_
            refine GD_end (by kernel_rfl) (fun _ => ⟨K11a, hcnt⟩) ?_
            refine Tn (Sq (Sq (Rg (Fb f76_1 rfl (L1 Try.underlying3 (cellAt K11a rfl) rfl (Mv ?_))))))
            refine g_eql rfl rfl (h1 := fun c54 => ?_) (h2 := fun c54 => ?_)
            · skip
              refine Nl (Tn (Ct rfl (Rg (Mv (Mv (Mv ?_))))))
              refine g_indexS Try.underlying22 info3 rfl rfl (by omega) (by omega) (Nat.mul_one _) (h := ?_)
              refine L1 Try.underlying3 (hcnt) rfl ?_
              refine g_addw rfl rfl (h := ?_)
              refine As (Nl (Tn (Sq (Rg (Fb f76_0 rfl (L1 Try.underlying3 (cellAt K11a rfl) rfl (Mv ?_)))))))
              refine g_eql rfl rfl (h1 := fun c64 => ?_) (h2 := fun c64 => ?_)
              · skip
                refine Nl (Tn (Ct rfl (Rg (Mv (Mv (Mv ?_))))))
                refine g_indexS Try.underlying22 info3 rfl rfl (by omega) (by omega) (Nat.mul_one _) (h := ?_)
                refine L1 Try.underlying3 (hcnt) rfl ?_
                refine g_v (r_subw rfl rfl) (h := ?_)
                refine As (Nl (Bn (Tn (Rg (Mv ?_)))))
                refine g_add rfl rfl (by omega) (h := ?_)
                refine As (Nl ?_)
                refine round_end (l.length - (k + 1)) (by omega) ⟨k + 1, _, _, _, has rfl (has rfl (has rfl (has rfl (has rfl (has rfl rfl))))), hkl, rfl, K2e, hBd, ?_⟩
                first
                  | exact .inr ⟨rfl, by rcases hb1 with ⟨h, _⟩ | ⟨_, h⟩; rw [q42] at h; cases h; exact h⟩
                  | (rcases hb1 with ⟨_, h2, h3, h4⟩ | ⟨h, _⟩
                     · by_cases hw : withinB l cs k = true
                       · refine .inl ⟨hw, fun j hj => ?_, ?_, h4⟩
                         · rcases Nat.lt_succ_iff_lt_or_eq.1 hj with h | h
                           · exact h2 j h
                           · subst h; exact hw
                         · have hacc := acc_step hbo s hkl h2 hw h3
                           first | rw [if_pos c54] at hacc | rw [if_neg c54] at hacc
                           first | rw [if_pos c64] at hacc | rw [if_neg c64] at hacc
                           exact hacc
                       · have hw : withinB l cs k = false := by simpa using hw
                         exact .inr ⟨hw, by rw [areCountsB, all_range_lt hkl hw]; rfl⟩
                     · rw [q42] at h; cases h)
              · skip
                refine Nl (Tn (Cf rfl (Sk (Bn (Tn (Rg (Mv ?_)))))))
                refine g_add rfl rfl (by omega) (h := ?_)
                refine As (Nl ?_)
                refine round_end (l.length - (k + 1)) (by omega) ⟨k + 1, _, _, _, has rfl (has rfl (has rfl (has rfl (has rfl (has rfl rfl))))), hkl, rfl, K2e, hBd, ?_⟩
                first
                  | exact .inr ⟨rfl, by rcases hb1 with ⟨h, _⟩ | ⟨_, h⟩; rw [q42] at h; cases h; exact h⟩
                  | (rcases hb1 with ⟨_, h2, h3, h4⟩ | ⟨h, _⟩
                     · by_cases hw : withinB l cs k = true
                       · refine .inl ⟨hw, fun j hj => ?_, ?_, h4⟩
                         · rcases Nat.lt_succ_iff_lt_or_eq.1 hj with h | h
                           · exact h2 j h
                           · subst h; exact hw
                         · have hacc := acc_step hbo s hkl h2 hw h3
                           first | rw [if_pos c54] at hacc | rw [if_neg c54] at hacc
                           first | rw [if_pos c64] at hacc | rw [if_neg c64] at hacc
                           exact hacc
                       · have hw : withinB l cs k = false := by simpa using hw
                         exact .inr ⟨hw, by rw [areCountsB, all_range_lt hkl hw]; rfl⟩
                     · rw [q42] at h; cases h)
            · skip
              refine Nl (Tn (Cf rfl (Sk (Tn (Sq (Rg (Fb f76_0 rfl (L1 Try.underlying3 (cellAt K11a rfl) rfl (Mv ?_)))))))))
              refine g_eql rfl rfl (h1 := fun c64 => ?_) (h2 := fun c64 => ?_)
              · skip
                refine Nl (Tn (Ct rfl (Rg (Mv (Mv (Mv ?_))))))
                refine g_indexS Try.underlying22 info3 rfl rfl (by omega) (by omega) (Nat.mul_one _) (h := ?_)
                refine L1 Try.underlying3 (hcnt) rfl ?_
                refine g_v (r_subw rfl rfl) (h := ?_)
                refine As (Nl (Bn (Tn (Rg (Mv ?_)))))
                refine g_add rfl rfl (by omega) (h := ?_)
                refine As (Nl ?_)
                refine round_end (l.length - (k + 1)) (by omega) ⟨k + 1, _, _, _, has rfl (has rfl (has rfl (has rfl (has rfl (has rfl rfl))))), hkl, rfl, K2e, hBd, ?_⟩
                first
                  | exact .inr ⟨rfl, by rcases hb1 with ⟨h, _⟩ | ⟨_, h⟩; rw [q42] at h; cases h; exact h⟩
                  | (rcases hb1 with ⟨_, h2, h3, h4⟩ | ⟨h, _⟩
                     · by_cases hw : withinB l cs k = true
                       · refine .inl ⟨hw, fun j hj => ?_, ?_, h4⟩
                         · rcases Nat.lt_succ_iff_lt_or_eq.1 hj with h | h
                           · exact h2 j h
                           · subst h; exact hw
                         · have hacc := acc_step hbo s hkl h2 hw h3
                           first | rw [if_pos c54] at hacc | rw [if_neg c54] at hacc
                           first | rw [if_pos c64] at hacc | rw [if_neg c64] at hacc
                           exact hacc
                       · have hw : withinB l cs k = false := by simpa using hw
                         exact .inr ⟨hw, by rw [areCountsB, all_range_lt hkl hw]; rfl⟩
                     · rw [q42] at h; cases h)
              · skip
                refine Nl (Tn (Cf rfl (Sk (Bn (Tn (Rg (Mv ?_)))))))
                refine g_add rfl rfl (by omega) (h := ?_)
                refine As (Nl ?_)
                refine round_end (l.length - (k + 1)) (by omega) ⟨k + 1, _, _, _, has rfl (has rfl (has rfl (has rfl (has rfl (has rfl rfl))))), hkl, rfl, K2e, hBd, ?_⟩
                first
                  | exact .inr ⟨rfl, by rcases hb1 with ⟨h, _⟩ | ⟨_, h⟩; rw [q42] at h; cases h; exact h⟩
                  | (rcases hb1 with ⟨_, h2, h3, h4⟩ | ⟨h, _⟩
                     · by_cases hw : withinB l cs k = true
                       · refine .inl ⟨hw, fun j hj => ?_, ?_, h4⟩
                         · rcases Nat.lt_succ_iff_lt_or_eq.1 hj with h | h
                           · exact h2 j h
                           · subst h; exact hw
                         · have hacc := acc_step hbo s hkl h2 hw h3
                           first | rw [if_pos c54] at hacc | rw [if_neg c54] at hacc
                           first | rw [if_pos c64] at hacc | rw [if_neg c64] at hacc
                           exact hacc
                       · have hw : withinB l cs k = false := by simpa using hw
                         exact .inr ⟨hw, by rw [areCountsB, all_range_lt hkl hw]; rfl⟩
                     · rw [q42] at h; cases h)
        · skip
          refine Nl (Tn (Cf rfl (Xi (Tx (Tx (Bs (Tn (Rg (Mv (Mv ?_))))))))))
          cases q72 : b1 with
          | true =>
            have hb2 : (∀ j, j < l.length → withinB l cs j = true) ∧ v = ovf l cs l.length s ∧ ∀ s', s' < s → ovf l cs l.length s' = 0 := by
              rcases hb1 with ⟨_, h2, h3, h4⟩ | ⟨h, _⟩
              · rw [show l.length = k by omega]; rw [show l.length = k by omega] at h4; exact ⟨h2, h3, h4⟩
              · rw [q72] at h; cases h
            refine Mv ?_
            refine g_eql rfl rfl (h1 := fun c74 => ?_) (h2 := fun c74 => ?_)
            · skip
              refine Pt rfl (As (Nl (Bn (Tn (Rg (Mv ?_))))))
              refine g_add rfl rfl (by omega) (h := ?_)
              refine As (Nl ?_)
              have hsl : s < N := by omega
              refine round_end (N - (s + 1)) (by omega) ⟨s + 1, _, _, has rfl (has rfl (has rfl (has rfl rfl))), hsl, rfl, K2d, hB4, ?_⟩
              first
                | exact .inl ⟨rfl, fun _ => hb2.1, fun s' hs' => by
                     rcases Nat.lt_succ_iff_lt_or_eq.1 hs' with h | h
                     · exact hb2.2.2 s' h
                     · subst h; rw [← hb2.2.1]; exact c74⟩
                | exact .inr ⟨rfl, by rw [areCountsB, all_range_lt (k := s) (p := fun s => decide (ovf l cs l.length s = 0)) hsl (decide_eq_false (by rw [← hb2.2.1]; exact c74)), Bool.and_false]⟩
                | exact .inr ⟨rfl, hb2⟩
            · skip
              refine Pt rfl (As (Nl (Bn (Tn (Rg (Mv ?_))))))
              refine g_add rfl rfl (by omega) (h := ?_)
              refine As (Nl ?_)
              have hsl : s < N := by omega
              refine round_end (N - (s + 1)) (by omega) ⟨s + 1, _, _, has rfl (has rfl (has rfl (has rfl rfl))), hsl, rfl, K2d, hB4, ?_⟩
              first
                | exact .inl ⟨rfl, fun _ => hb2.1, fun s' hs' => by
                     rcases Nat.lt_succ_iff_lt_or_eq.1 hs' with h | h
                     · exact hb2.2.2 s' h
                     · subst h; rw [← hb2.2.1]; exact c74⟩
                | exact .inr ⟨rfl, by rw [areCountsB, all_range_lt (k := s) (p := fun s => decide (ovf l cs l.length s = 0)) hsl (decide_eq_false (by rw [← hb2.2.1]; exact c74)), Bool.and_false]⟩
                | exact .inr ⟨rfl, hb2⟩
          | false =>
            have hb2 : areCountsB N l cs = false := by
              rcases hb1 with ⟨h, _⟩ | ⟨_, h⟩
              · rw [q72] at h; cases h
              · exact h
            refine Of (Of (Pf rfl (As (Nl (Bn (Tn (Rg (Mv ?_))))))))
            refine g_add rfl rfl (by omega) (h := ?_)
            refine As (Nl ?_)
            have hsl : s < N := by omega
            refine round_end (N - (s + 1)) (by omega) ⟨s + 1, _, _, has rfl (has rfl (has rfl (has rfl rfl))), hsl, rfl, K2d, hB4, ?_⟩
            first
              | exact .inl ⟨rfl, fun _ => hb2.1, fun s' hs' => by
                   rcases Nat.lt_succ_iff_lt_or_eq.1 hs' with h | h
                   · exact hb2.2.2 s' h
                   · subst h; rw [← hb2.2.1]; exact c74⟩
              | exact .inr ⟨rfl, by rw [areCountsB, all_range_lt (k := s) (p := fun s => decide (ovf l cs l.length s = 0)) hsl (decide_eq_false (by rw [← hb2.2.1]; exact c74)), Bool.and_false]⟩
              | exact .inr ⟨rfl, hb2⟩
      · skip
        refine Nl (Tn (Cf rfl (Xi (Tx (Tx (Bs (Tn (Sq (Rg (Mv (As (As (Nl (Tn (Rt ?_)))))))))))))))
        obtain rfl : s = N := by omega
        have hres : areCountsB s l cs = b := by
          rcases hb with ⟨h1, h2, h3⟩ | ⟨h1, h2⟩
          · rw [h1, areCountsB, Bool.and_eq_true]
            exact ⟨List.all_eq_true.2 fun i hi => h2 (by omega) i (List.mem_range.1 hi), List.all_eq_true.2 fun i hi => decide_eq_true (h3 i (List.mem_range.1 hi))⟩
          · rw [h1, h2]
        exact ret2 rfl ⟨ret2b (by rw [har, hres]), hB⟩
end Go.Proofs.B
