/- barrel: the reference of piles: CheckPile, wide, isBarrel, AreBarrels. -/
import Derived.Test.YtpfoleggapngoaaB47
import Derived.Test.YtpfoleggapngoaaB43
import Derived.Test.YtpfoleggapngoaaGe
set_option linter.unusedVariables false
set_option linter.unusedSimpArgs false
set_option maxRecDepth 10000
namespace Go.Proofs.B
open Go Go.RowKit Go.Proofs Go.Proofs.G Go.Proofs.F Go.Proofs.T Go.Proofs.YtpfoleggapngoaaW.PrintWords
def RngP (l : List Int) (girth play : Int) : Prop := (1 ≤ (l.length : Int) ∧ (l.length : Int) ≤ 10) ∧ (1 ≤ girth ∧ girth ≤ 5000) ∧ (0 ≤ play ∧ play ≤ 100)
set_option maxHeartbeats 2000000 in
theorem checkPileR_c (A : Option Addr) (c : Nat) (l : List Int) (girth play : Int) (w : World) (hr : (Kd.int .i64).C w A l.length l) :
    Calls Try.prog 19 #[.agg #[.slice A l.length c, .int .i64 girth, .int .i64 play]] w fun e w' => e = .returned (.int .i64 (checkPile l girth play)) ∧ Bel w w' := by
  have hmax : l.length ≤ 9223372036854775807 := hr.2.1
  refine G_enter (l := [.agg #[.slice A l.length c, .int .i64 girth, .int .i64 play]]) Try.func19 rfl rfl ?_
  refine Sq (Rg ?_)
  refine g_box rfl (h := fun g1 w1 N1 => ?_)
  have K1 := N1.at_
  have hB1 := Bel.of_new N1
  have K1a : w1.heap[g1]? = some (.cells #[.slice A l.length c, .int .i64 girth, .int .i64 play] 24 (0, 0)) := K1
  refine As (Nl (Tn ?_))
  refine GC_join (fun σ w' => ∃ (b : Bool) (τ : Nat → Value), σ = upd (upd τ 1 (.pointer (some ⟨g1, 0, none⟩))) 3 (.bool b) ∧ w' = w1 ∧ ((b = true ∧ RngP l girth play) ∨ (b = false ∧ ¬ PileOk l girth play))) ?_ ?_
  · skip
    refine Rg (Fb f24_0 rfl (L1 Try.underlying22 (cellAt K1a rfl) rfl (Ln Try.underlying22 rfl ?_)))
    refine g_in rfl rfl rfl (h1 := fun c8 => ?_) (h2 := fun c8 => ?_)
    · skip
      refine Mv (Fb f24_1 rfl (L1 Try.underlying3 (cellAt K1a rfl) rfl ?_))
      refine g_in rfl rfl rfl (h1 := fun c12 => ?_) (h2 := fun c12 => ?_)
      · skip
        refine Pt rfl (Mv (Fb f24_2 rfl (L1 Try.underlying3 (cellAt K1a rfl) rfl ?_)))
        refine g_in rfl rfl rfl (h1 := fun c17 => ?_) (h2 := fun c17 => ?_)
        · skip
          refine Pt rfl (As (Nl ?_))
          exact join_end ⟨true, _, has rfl (has rfl rfl), rfl, .inl ⟨rfl, c8, c12, c17⟩⟩
        · skip
          refine Pt rfl (As (Nl ?_))
          exact join_end ⟨false, _, has rfl (has rfl rfl), rfl, .inr ⟨rfl, fun h => c17 h.2.2.1⟩⟩
      · skip
        refine Pt rfl (Mv (Of (Of (Of (Pf rfl (As (Nl ?_)))))))
        exact join_end ⟨false, _, has rfl (has rfl rfl), rfl, .inr ⟨rfl, fun h => c12 h.2.1⟩⟩
    · skip
      refine Mv (Of (Of (Of (Pf rfl (Mv (Of (Of (Of (Pf rfl (As (Nl ?_)))))))))))
      exact join_end ⟨false, _, has rfl (has rfl rfl), rfl, .inr ⟨rfl, fun h => c8 h.1⟩⟩
  · rintro _ w2 ⟨b, τ, rfl, rfl, hb⟩
    refine Sq (Sq (Rg (As (Nl (Tn (Bk ?_))))))
    refine GC_loop (fun m σ w' => ∃ (k : Nat) (b : Bool) (τ : Nat → Value), σ = upd (upd (upd τ 1 (.pointer (some ⟨g1, 0, none⟩))) 3 (.bool b)) 4 (.int .i64 k) ∧ k ≤ l.length ∧ m = l.length - k ∧ w'.heap[g1]? = some (.cells #[.slice A l.length c, .int .i64 girth, .int .i64 play] 24 (0, 0)) ∧ Bel w w' ∧ ((b = true ∧ RngP l girth play ∧ ∀ j, (h : j < l.length) → j < k → wideB l[j] = true) ∨ (b = false ∧ ¬ PileOk l girth play))) (l.length) ⟨0, b, _, has rfl (has rfl (has rfl rfl)), Nat.zero_le _, rfl, K1a, hB1, by
      rcases hb with ⟨h, h2⟩ | h
      · exact .inl ⟨h, h2, fun j _ hj => absurd hj (Nat.not_lt_zero _)⟩
      · exact .inr h⟩ ?_
    rintro m _ w3 ⟨k, b1, τ1, rfl, hk, rfl, K1b, hB, hb1⟩
    refine Sq (Sq (Rg (Mv (Mv ?_))))
    cases q20 : b1 with
    | true =>
      have hb2 : RngP l girth play ∧ ∀ j, (h : j < l.length) → j < k → wideB l[j] = true := by
        rcases hb1 with ⟨_, h⟩ | ⟨h, _⟩
        · exact h
        · rw [q20] at h; cases h
      refine Mv (Fb f24_0 rfl (L1 Try.underlying22 (cellAt K1b rfl) rfl (Ln Try.underlying22 rfl ?_)))
      refine g_lss rfl rfl (h1 := fun c25 => ?_) (h2 := fun c25 => ?_)
      · skip
        refine Pt rfl (Nl (Tn (Ct rfl (Sk (Tn (Sq (Bk (Rg (Fb f24_0 rfl (L1 Try.underlying22 (cellAt K1b rfl) rfl (Mv ?_)))))))))))
        have hkl : k < l.length := by omega
        have hob  := Kd.at_int (Kd.C_below hr hB) k (by omega) (by omega)
        obtain ⟨ad, hA, h33⟩ := hob
        rw [rd_nat l k hkl] at h33
        refine g_indexH Try.underlying22 info3 hA rfl rfl (by omega) (by omega) (Nat.mul_one _) (h := ?_)
        refine L1 Try.underlying3 (h33) rfl ?_
        refine g_in rfl rfl rfl (h1 := fun c34 => ?_) (h2 := fun c34 => ?_)
        · skip
          refine As (Nl (Bn (Tn (Rg (Mv ?_)))))
          refine g_add rfl rfl (by omega) (h := ?_)
          refine As (Nl ?_)
          exact round_end (l.length - (k + 1)) (by omega) ⟨k + 1, true, _, has rfl (has rfl (has rfl rfl)), hkl, rfl, K1b, hB, .inl ⟨rfl, hb2.1, fun j hj hjk => by
            by_cases e : j = k
            · subst e; exact decide_eq_true c34
            · exact hb2.2 j hj (by omega)⟩⟩
        · skip
          refine As (Nl (Bn (Tn (Rg (Mv ?_)))))
          refine g_add rfl rfl (by omega) (h := ?_)
          refine As (Nl ?_)
          exact round_end (l.length - (k + 1)) (by omega) ⟨k + 1, false, _, has rfl (has rfl (has rfl rfl)), hkl, rfl, K1b, hB, .inr ⟨rfl, fun h => by
            have := List.all_eq_true.1 h.2.2.2 _ (List.getElem_mem hkl)
            exact c34 (of_decide_eq_true this)⟩⟩
      · skip
        refine Pt rfl (Nl (Tn (Cf rfl (Xi (Tx (Tx (Bs (Tn (Sq (Sq (Rg (Mv (Nt rfl (Nl (Tn (Cf rfl (Sk (Tn (Sq (Rg (As (Nl (Tn (Rt ?_))))))))))))))))))))))))
        have hok : PileOk l girth play := ⟨hb2.1.1, hb2.1.2.1, hb2.1.2.2, List.all_eq_true.2 fun x hx => by
          have hob  := List.mem_iff_getElem.1 hx
          obtain ⟨j, hj, rfl⟩ := hob
          exact hb2.2 j hj (by omega)⟩
        exact ret1 rfl ⟨reti (by rw [checkPile, if_pos hok]), hB⟩
    | false =>
      have hb0 : ¬ PileOk l girth play := by
        rcases hb1 with ⟨h, _⟩ | ⟨_, h⟩
        · rw [q20] at h; cases h
        · exact h
      refine Of (Of (Of (Of (Of (Pf rfl (Nl (Tn (Cf rfl (Xi (Tx (Tx (Bs (Tn (Sq (Sq (Rg (Mv (Nt rfl (Nl (Tn (Ct rfl (Sq (Rg (As ?_))))))))))))))))))))))))
      refine Nl (Tn (Rt (Tr ?_)))
      exact ret1 rfl ⟨reti (by rw [checkPile, if_neg hb0]), hB⟩
theorem bitT_c (S k : Nat) (hS : S < 2 ^ 63) (hk : k ≤ 64) (w : World) : Calls Try.prog 86 #[.int .i64 S, .int .i64 k] w fun e w' => e = .returned (.bool (S.testBit k)) ∧ w' = w := by
  rw [Nat.testBit_eq_decide_div_mod_eq]
  exact bit_c S k hS hk w
theorem wideS_bd {ws : List Int} (hb : ∀ x ∈ ws, 0 ≤ x ∧ x ≤ 1000) (S : Nat) : ∀ k, 0 ≤ wideS ws S k ∧ wideS ws S k ≤ 1000 * (k : Int)
  | 0 => by simp [wideS]
  | k + 1 => by
    have h1 := wideS_bd hb S k
    have h2 : 0 ≤ rd ws k ∧ rd ws k ≤ 1000 := by
      by_cases h : k < ws.length
      · exact hb _ (rd_mem (by omega) (by omega))
      · have : rd ws k = 0 := by simp [rd, List.getD_eq_getElem?_getD, show ws.length ≤ k by omega]
        rw [this]; decide
    unfold wideS
    split <;> omega
theorem wide_c (A : Option Addr) (c : Nat) (ws : List Int) (girth play : Int) (S : Nat) (w : World) (hr : (Kd.int .i64).C w A ws.length ws) (hb : ∀ x ∈ ws, 0 ≤ x ∧ x ≤ 1000) (hn : ws.length ≤ 10) (hS : S < 2 ^ 63) :
    Calls Try.prog 91 #[.agg #[.slice A ws.length c, .int .i64 girth, .int .i64 play], .int .i64 S] w fun e w' => e = .returned (.int .i64 (wideS ws S ws.length)) ∧ Bel w w' := by
  refine G_enter (l := [.agg #[.slice A ws.length c, .int .i64 girth, .int .i64 play], .int .i64 S]) Try.func91 rfl rfl ?_
  refine Sq (Rg ?_)
  refine g_box rfl (h := fun g2 w2 N2 => ?_)
  have K2 := N2.at_
  have hB2 := Bel.of_new N2
  have K2a : w2.heap[g2]? = some (.cells #[.slice A ws.length c, .int .i64 girth, .int .i64 play] 24 (0, 0)) := K2
  refine As (Nl (Tn (Sq (Rg (As (Nl (Tn (Sq (Sq (Rg (As (Nl (Tn (Bk ?_))))))))))))))
  refine GC_loop (fun m σ w' => ∃ (k : Nat) (τ : Nat → Value), σ = upd (upd (upd (upd τ 1 (.int .i64 S)) 2 (.pointer (some ⟨g2, 0, none⟩))) 5 (.int .i64 (wideS ws S k))) 6 (.int .i64 k) ∧ k ≤ ws.length ∧ m = ws.length - k ∧ w' = w2) (ws.length) ⟨0, _, has rfl (has rfl (has rfl (has rfl rfl))), Nat.zero_le _, rfl, rfl⟩ ?_
  rintro m _ w3 ⟨k, τ, rfl, hk, rfl, hw3⟩
  subst hw3
  refine Sq (Sq (Rg (Mv (Fb f24_0 rfl (L1 Try.underlying22 (cellAt K2a rfl) rfl (Ln Try.underlying22 rfl ?_))))))
  refine g_lss rfl rfl (h1 := fun c11 => ?_) (h2 := fun c11 => ?_)
  · skip
    refine Nl (Tn (Ct rfl (Sk (Tn (Sq (Bk (Sq (Rg (Mv (Mv ?_))))))))))
    have hkl : k < ws.length := by omega
    have hbd := wideS_bd hb S k
    have hrd := hb _ (rd_mem (xs := ws) (i := (k : Nat)) (by omega) (by omega))
    have hstep : wideS ws S (k + 1) = wideS ws S k + (if S.testBit k = true then rd ws k else 0) := rfl
    have hob  := Kd.at_int (Kd.C_below hr hB2) k (by omega) (by omega)
    obtain ⟨ad, hA, h22⟩ := hob
    refine g_call he86 rfl (bitT_c S k hS (by omega) _) (h := ?_)
    rintro e w16 ⟨rfl, hw16⟩
    have hw16 := hw16.symm
    subst hw16
    refine ⟨_, rfl, ?_⟩
    refine Nl (Tn ?_)
    cases q16 : S.testBit k with
    | true =>
      rw [if_pos q16] at hstep
      refine Ct rfl (Rg (Mv (Fb f24_0 rfl (L1 Try.underlying22 (cellAt K2a rfl) rfl (Mv ?_)))))
      refine g_indexH Try.underlying22 info3 hA rfl rfl (by omega) (by omega) (Nat.mul_one _) (h := ?_)
      refine L1 Try.underlying3 (h22) rfl ?_
      refine g_add rfl rfl (by omega) (h := ?_)
      refine As (Nl (Bn (Tn (Rg (Mv ?_)))))
      refine g_add rfl rfl (by omega) (h := ?_)
      refine As (Nl ?_)
      exact round_end (ws.length - (k + 1)) (by omega) ⟨k + 1, _, has rfl (has (congrArg (Value.int .i64) (by rw [hstep]; try omega)) (has rfl (has rfl rfl))), hkl, rfl, rfl⟩
    | false =>
      rw [if_neg (by rw [q16]; decide)] at hstep
      refine Cf rfl (Sk (Bn (Tn (Rg (Mv ?_)))))
      refine g_add rfl rfl (by omega) (h := ?_)
      refine As (Nl ?_)
      exact round_end (ws.length - (k + 1)) (by omega) ⟨k + 1, _, has rfl (has (congrArg (Value.int .i64) (by rw [hstep]; try omega)) (has rfl (has rfl rfl))), hkl, rfl, rfl⟩
  · skip
    refine Nl (Tn (Cf rfl (Xi (Tx (Tx (Bs (Tn (Sq (Rg (Mv (As (Nl (Tn (Rt ?_))))))))))))))
    obtain rfl : k = ws.length := by omega
    exact ret1 rfl ⟨rfl, hB2⟩
theorem isBarrelR_c (A : Option Addr) (c : Nat) (ws : List Int) (girth play : Int) (S : Nat) (w : World) (hr : (Kd.int .i64).C w A ws.length ws) (hb : ∀ x ∈ ws, 0 ≤ x ∧ x ≤ 1000) (hn : ws.length ≤ 10) (hS : S < 2 ^ 63) (hg : 0 ≤ girth ∧ girth ≤ 100000) (hp : 0 ≤ play ∧ play ≤ 100000) :
    Calls Try.prog 65 #[.agg #[.slice A ws.length c, .int .i64 girth, .int .i64 play], .int .i64 S] w fun e w' => e = .returned (.bool (isBS ws girth play S)) ∧ Bel w w' := by
  refine G_enter (l := [.agg #[.slice A ws.length c, .int .i64 girth, .int .i64 play], .int .i64 S]) Try.func65 rfl rfl ?_
  refine Sq (Rg ?_)
  refine g_box rfl (h := fun g2 w2 N2 => ?_)
  have K2 := N2.at_
  have hB2 := Bel.of_new N2
  have K2a : w2.heap[g2]? = some (.cells #[.slice A ws.length c, .int .i64 girth, .int .i64 play] 24 (0, 0)) := K2
  refine As (Nl (Tn (Sq ?_)))
  have hBd : Bel w (w2.drewN 1) := hB2.drew
  refine GD_start 16 [] (fun w' => w'.heap[g2]? = some (.cells #[.slice A ws.length c, .int .i64 girth, .int .i64 play] 24 (0, 0))) (by kernel_rfl) rfl ?_
  refine GD_pure 0 rfl (by kernel_rfl) (by kernel_rfl) (by kernel_rfl) (by kernel_rfl) rfl rfl rfl (qv fun wq hC => by exact r_move) ?_
  rcases Decidable.em ((S : Int) ≠ 0) with c6 | c6
  · skip
    refine GD_pure 1 rfl (by kernel_rfl) (by kernel_rfl) (by kernel_rfl) (by kernel_rfl) rfl rfl rfl (qv fun wq hC => by exact r_neqT rfl rfl c6) ?_
    refine GD_pure 2 rfl (by kernel_rfl) (by kernel_rfl) (by kernel_rfl) (by kernel_rfl) rfl rfl rfl (qv fun wq hC => by exact r_move) ?_
    refine GD_take 3 rfl (by kernel_rfl) (by kernel_rfl) (by kernel_rfl) (by kernel_rfl) rfl rfl rfl (qv fun wq hC => by exact r_loadA rfl Try.underlying24 info24 (l := [.slice A ws.length c, .int .i64 girth, .int .i64 play]) (cellsAt hC)) ?_
    refine GD_pure 4 rfl (by kernel_rfl) (by kernel_rfl) (by kernel_rfl) (by kernel_rfl) rfl rfl rfl (qv fun wq hC => by exact r_move) ?_
    refine GD_pure 6 rfl (by kernel_rfl) (by kernel_rfl) (by kernel_rfl) (by kernel_rfl) rfl rfl rfl (qv fun wq hC => by exact r_fieldAddrB f24_1 rfl) ?_
    refine GD_take 7 rfl (by kernel_rfl) (by kernel_rfl) (by kernel_rfl) (by kernel_rfl) rfl rfl rfl (qv fun wq hC => by exact r_load1 rfl Try.underlying3 (cellAt hC rfl)) ?_
    refine GD_pure 8 rfl (by kernel_rfl) (by kernel_rfl) (by kernel_rfl) (by kernel_rfl) rfl rfl rfl (qv fun wq hC => by exact r_fieldAddrB f24_2 rfl) ?_
    refine GD_take 9 rfl (by kernel_rfl) (by kernel_rfl) (by kernel_rfl) (by kernel_rfl) rfl rfl rfl (qv fun wq hC => by exact r_load1 rfl Try.underlying3 (cellAt hC rfl)) ?_
    refine GD_pure 10 rfl (by kernel_rfl) (by kernel_rfl) (by kernel_rfl) (by kernel_rfl) rfl rfl rfl (qv fun wq hC => by exact r_sub rfl rfl (by omega)) ?_
    refine GD_pure 11 rfl (by kernel_rfl) (by kernel_rfl) (by kernel_rfl) (by kernel_rfl) rfl rfl rfl (qv fun wq hC => by exact r_fieldAddrB f24_1 rfl) ?_
    refine GD_take 12 rfl (by kernel_rfl) (by kernel_rfl) (by kernel_rfl) (by kernel_rfl) rfl rfl rfl (qv fun wq hC => by exact r_load1 rfl Try.underlying3 (cellAt hC rfl)) ?_
    refine GD_one 5 (by kernel_rfl) (fun _ => K2a) ?_
    refine GO_call rfl rfl rfl he91 rfl (wide_c A c ws girth play S _ (Kd.C_below hr hBd) hb hn hS) (fun e w10 he => ?_)
    obtain ⟨rfl, hb10⟩ := he
    refine ⟨_, rfl, ?_⟩
    have K2a := kB (w1 := w2.drewN 1) K2a hb10
    have hBd := hBd.bel hb10
    refine GD_take 13 rfl (by kernel_rfl) (by kernel_rfl) (by kernel_rfl) (by kernel_rfl) rfl rfl rfl (qc (fun wq hC => by exact r_call he43 rfl) (fun wq hC => by exact in_c _ _ _ _)) ?_
    refine GD_pure 14 rfl (by kernel_rfl) (by kernel_rfl) (by kernel_rfl) (by kernel_rfl) rfl rfl rfl (qv fun wq hC => by exact r_pickT rfl) ?_
    refine GD_pure 15 rfl (by kernel_rfl) (by kernel_rfl) (by kernel_rfl) (by kernel_rfl) rfl rfl rfl (qv fun wq hC => by exact r_assign) ?_
    refine GD_end (by kernel_rfl) (fun _ => K2a) ?_
    refine Tn (Rt ?_)
    exact ret1 rfl ⟨retb (by rw [isBS, decide_eq_true (show S ≠ 0 by omega), Bool.true_and]), hBd⟩
  · skip
    refine GD_pure 1 rfl (by kernel_rfl) (by kernel_rfl) (by kernel_rfl) (by kernel_rfl) rfl rfl rfl (qv fun wq hC => by exact r_neqF rfl rfl c6) ?_
    refine GD_pure 2 rfl (by kernel_rfl) (by kernel_rfl) (by kernel_rfl) (by kernel_rfl) rfl rfl rfl (qv fun wq hC => by exact r_move) ?_
    refine GD_off 3 rfl (by kernel_rfl) (by kernel_rfl) (by kernel_rfl) (by kernel_rfl) rfl rfl ?_
    refine GD_off 4 rfl (by kernel_rfl) (by kernel_rfl) (by kernel_rfl) (by kernel_rfl) rfl rfl ?_
    refine GD_off 6 rfl (by kernel_rfl) (by kernel_rfl) (by kernel_rfl) (by kernel_rfl) rfl rfl ?_
    refine GD_off 7 rfl (by kernel_rfl) (by kernel_rfl) (by kernel_rfl) (by kernel_rfl) rfl rfl ?_
    refine GD_off 8 rfl (by kernel_rfl) (by kernel_rfl) (by kernel_rfl) (by kernel_rfl) rfl rfl ?_
    refine GD_off 9 rfl (by kernel_rfl) (by kernel_rfl) (by kernel_rfl) (by kernel_rfl) rfl rfl ?_
    refine GD_off 10 rfl (by kernel_rfl) (by kernel_rfl) (by kernel_rfl) (by kernel_rfl) rfl rfl ?_
    refine GD_off 11 rfl (by kernel_rfl) (by kernel_rfl) (by kernel_rfl) (by kernel_rfl) rfl rfl ?_
    refine GD_off 12 rfl (by kernel_rfl) (by kernel_rfl) (by kernel_rfl) (by kernel_rfl) rfl rfl ?_
    refine GD_off 5 rfl (by kernel_rfl) (by kernel_rfl) (by kernel_rfl) (by kernel_rfl) rfl rfl ?_
    refine GD_off 13 rfl (by kernel_rfl) (by kernel_rfl) (by kernel_rfl) (by kernel_rfl) rfl rfl ?_
    refine GD_pure 14 rfl (by kernel_rfl) (by kernel_rfl) (by kernel_rfl) (by kernel_rfl) rfl rfl rfl (qv fun wq hC => by exact r_pickF rfl) ?_
    refine GD_pure 15 rfl (by kernel_rfl) (by kernel_rfl) (by kernel_rfl) (by kernel_rfl) rfl rfl rfl (qv fun wq hC => by exact r_assign) ?_
    refine GD_end (by kernel_rfl) (fun _ => K2a) ?_
    refine Tn (Rt ?_)
    exact ret1 rfl ⟨retb (by rw [isBS, decide_eq_false (show ¬ S ≠ 0 by omega), Bool.false_and]), hBd⟩
theorem setN_snoc (st : List Int) (x : Int) : setN (st ++ [x]) = setN st ||| 2 ^ x.toNat := by unfold setN; rw [List.foldl_append]; rfl
theorem setN_lt {n : Nat} {st : List Int} (h : ∀ k ∈ st, 0 ≤ k ∧ k < n) : setN st < 2 ^ n := by
  refine Nat.lt_pow_two_of_testBit _ fun i hi => ?_
  cases hq : (setN st).testBit i with
  | false => rfl
  | true =>
    have := h _ ((setN_rep (n := n) (fun k hk => (h k hk).1) i).1 hq)
    omega
theorem r_orP {σ : Nat → Value} {w : World} {dst : Option Nat} {ty t t' : TypeId} {pos : String} {after : Array Edge} {gd : Option (Nat × Bool)} {x y : Operand} {m q : Nat} {v : Int} (hx : ev σ x = .int .i64 (m : Int)) (hy : ev σ y = .int .i64 v) (hv : v = ((q : Nat) : Int)) (hm : m < 2 ^ 63) (hn : q < 2 ^ 63) :
    (execOp (ev σ) ⟨dst, .binOp .or t x y t', ty, pos, after, gd⟩).run Try.prog w = .ok (.value (.int .i64 ((m ||| q : Nat) : Int))) w := by
  subst hv; exact r_or hx hy hm hn
theorem areR_drop {ws : List Int} {girth play : Int} {l : List (List Int)} {k T : Nat} (hk : k < l.length) : areR ws girth play (l.drop k) T = (rising (rd_L1 l (k : Nat)) ws.length && (decide (setN (rd_L1 l (k : Nat)) &&& T = 0) && isBS ws girth play (setN (rd_L1 l (k : Nat)))) && areR ws girth play (l.drop (k + 1)) (T ||| setN (rd_L1 l (k : Nat)))) := by
  rw [List.drop_eq_getElem_cons hk, areR, rdL_mem hk]
theorem pow10 {n : Nat} (h : n ≤ 10) : 2 ^ n ≤ 1024 := Nat.le_trans (Nat.pow_le_pow_right (by decide) h) (by decide)
set_option maxHeartbeats 8000000 in
theorem areBarrelsR_c (A B : Option Addr) (c d : Nat) (ws : List Int) (girth play : Int) (l : List (List Int)) (w : World) (hw : (Kd.int .i64).C w A ws.length ws) (hs : kRow.C w B l.length l) :
    Calls Try.prog 17 #[.agg #[.slice A ws.length c, .int .i64 girth, .int .i64 play], .slice B l.length d] w fun e w' => e = .returned (.tuple (if PileOk ws girth play then #[.bool (areBarrels ws girth play l), .int .i64 0] else #[.bool false, .int .i64 60])) ∧ Bel w w' := by
  have hml : l.length ≤ 9223372036854775807 := hs.2.1
  refine G_enter (l := [.agg #[.slice A ws.length c, .int .i64 girth, .int .i64 play], .slice B l.length d]) Try.func17 rfl rfl ?_
  refine Sq (Rg ?_)
  refine g_box rfl (h := fun g2 w2 N2 => ?_)
  have K2 := N2.at_
  have hB2 := Bel.of_new N2
  have K2a : w2.heap[g2]? = some (.cells #[.slice A ws.length c, .int .i64 girth, .int .i64 play] 24 (0, 0)) := K2
  refine As (As (Nl (Tn (Sq (Sq (Rg ?_))))))
  refine g_loadA rfl Try.underlying24 info24 (l := [.slice A ws.length c, .int .i64 girth, .int .i64 play]) (cellsAt K2a) (h := ?_)
  refine g_call he19 rfl (checkPileR_c A c ws girth play _ (Kd.C_below hw hB2)) (h := ?_)
  rintro e w12 ⟨rfl, hb12⟩
  refine ⟨_, rfl, ?_⟩
  have hB12 := hB2.bel hb12
  have K2b := kB K2a hb12
  refine As (Nl (Tn (Sq (Rg (Mv ?_)))))
  refine g_neq rfl rfl (h1 := fun c14 => ?_) (h2 := fun c14 => ?_)
  · skip
    have hpo : ¬ PileOk ws girth play := fun h => by rw [checkPile, if_pos h] at c14; exact c14 rfl
    refine Nl (Tn (Ct rfl (Sq (Rg (Mv (As (As (Nl (Tn (Rt (Tr ?_)))))))))))
    exact ret2 rfl ⟨by rw [if_neg hpo, checkPile, if_neg hpo]; rfl, hB12⟩
  · skip
    have hpo : PileOk ws girth play := by by_cases h : PileOk ws girth play; exact h; rw [checkPile, if_neg h] at c14; exact absurd c14 (by decide)
    have hn : ws.length ≤ 10 := by have := hpo.1; omega
    have hwb : ∀ x ∈ ws, 0 ≤ x ∧ x ≤ 1000 := fun x hx => by have := of_decide_eq_true (List.all_eq_true.1 hpo.2.2.2 x hx); omega
    have hgi : 0 ≤ girth ∧ girth ≤ 100000 := by have := hpo.2.1; omega
    have hpl : 0 ≤ play ∧ play ≤ 100000 := by have := hpo.2.2.1; omega
    have hp10 := pow10 hn
    have hsame := areR_same (girth := girth) (play := play) hn l
    refine Nl (Tn (Cf rfl (Sk (Tn (Sq (Rg (As (Nl (Tn (Sq (Sq (Rg (As (Nl (Tn (Bk ?_))))))))))))))))
    refine GC_loop (fun m σ w' => ∃ (k T : Nat) (τ : Nat → Value), σ = upd (upd (upd (upd τ 1 (.slice B l.length d)) 2 (.pointer (some ⟨g2, 0, none⟩))) 7 (.int .i64 T)) 8 (.int .i64 k) ∧ k ≤ l.length ∧ m = l.length - k ∧ T < 2 ^ ws.length ∧ areR ws girth play (l.drop k) T = areBarrels ws girth play l ∧ w'.heap[g2]? = some (.cells #[.slice A ws.length c, .int .i64 girth, .int .i64 play] 24 (0, 0)) ∧ Bel w w') (l.length) ⟨0, 0, _, has rfl (has rfl (has rfl (has rfl rfl))), Nat.zero_le _, rfl, Nat.two_pow_pos _, by rw [List.drop_zero]; exact hsame, K2b, hB12⟩ ?_
    rintro m _ w3 ⟨k, T, τ, rfl, hk, rfl, hT, hgo, K2c, hB⟩
    refine Sq (Sq (Rg (Mv (Mv (Ln Try.underlying25 rfl ?_)))))
    refine g_lss rfl rfl (h1 := fun c19 => ?_) (h2 := fun c19 => ?_)
    · skip
      refine Nl (Tn (Ct rfl (Sk (Tn (Sq (Bk (Sq (Sq ?_))))))))
      have hkl : k < l.length := by omega
      have hBd : Bel w (w3.drewN 1) := hB.drew
      have hgo2 := areR_drop (ws := ws) (girth := girth) (play := play) (T := T) hkl
      rw [hgo] at hgo2
      have hob  := at_L1 hs k (by omega) (by omega)
      obtain ⟨ad, A0, c0, hA, h25, hle0, hC0⟩ := hob
      generalize rd_L1 l (k : Nat) = s at *
      refine GD_start 9 [7] (fun w' => w' = w3.drewN 1) (by kernel_rfl) rfl ?_
      refine GD_pure 0 rfl (by kernel_rfl) (by kernel_rfl) (by kernel_rfl) (by kernel_rfl) rfl rfl rfl (qv fun wq hC => by exact r_move) ?_
      refine GD_pure 1 rfl (by kernel_rfl) (by kernel_rfl) (by kernel_rfl) (by kernel_rfl) rfl rfl rfl (qv fun wq hC => by exact r_move) ?_
      refine GD_pure 2 rfl (by kernel_rfl) (by kernel_rfl) (by kernel_rfl) (by kernel_rfl) rfl rfl rfl (qv fun wq hC => by exact r_indexH Try.underlying25 info22 hA rfl rfl (by omega) (by omega) (Nat.mul_one _)) ?_
      refine GD_take 3 rfl (by kernel_rfl) (by kernel_rfl) (by kernel_rfl) (by kernel_rfl) rfl rfl rfl (qv fun wq hC => by exact r_load1 rfl Try.underlying22 (by subst hC; exact hBd.cellk h25)) ?_
      refine GD_pure 4 rfl (by kernel_rfl) (by kernel_rfl) (by kernel_rfl) (by kernel_rfl) rfl rfl rfl (qv fun wq hC => by exact r_fieldAddrB f24_0 rfl) ?_
      refine GD_take 5 rfl (by kernel_rfl) (by kernel_rfl) (by kernel_rfl) (by kernel_rfl) rfl rfl rfl (qv fun wq hC => by exact r_load1 rfl Try.underlying22 (by subst hC; exact cellAt K2c rfl)) ?_
      refine GD_pure 6 rfl (by kernel_rfl) (by kernel_rfl) (by kernel_rfl) (by kernel_rfl) rfl rfl rfl (qv fun wq hC => by exact r_len Try.underlying22 rfl) ?_
      refine GD_one 7 (by kernel_rfl) (fun _ => rfl) ?_
      refine GO_call rfl rfl rfl he64 rfl (rising_c A0 c0 s ws.length (by omega) _ (Kd.C_below hC0 hBd)) (fun e w29 he => ?_)
      obtain ⟨rfl, hb29⟩ := he
      refine ⟨_, rfl, ?_⟩
      have K2d := kB (w1 := w3.drewN 1) K2c hb29
      have hB29 := hBd.bel hb29
      cases q29 : rising s ws.length with
      | true =>
        have hris := (ris_iff ws.length s).1 q29
        have hsr := hris.2
        have hslt := setN_lt hsr
        refine GD_pure 8 rfl (by kernel_rfl) (by kernel_rfl) (by kernel_rfl) (by kernel_rfl) rfl rfl rfl (qv fun wq hC => by exact r_not rfl) ?_
        refine GD_end (by kernel_rfl) (dead 7 rfl (by kernel_rfl)) ?_
        refine Tn (Cf rfl (Sk (Tn (Sq (Rg (As (Nl (Tn (Sq (Sq (Rg (As (Nl (Tn (Bk ?_)))))))))))))))
        refine GC_loop (fun m σ w' => ∃ (i : Nat) (τ : Nat → Value), σ = upd (upd (upd (upd (upd (upd τ 1 (.slice B l.length d)) 2 (.pointer (some ⟨g2, 0, none⟩))) 7 (.int .i64 T)) 8 (.int .i64 k)) 9 (.int .i64 ((setN (s.take i) : Nat) : Int))) 10 (.int .i64 i) ∧ i ≤ s.length ∧ m = s.length - i ∧ w' = w29) (s.length) ⟨0, _, has rfl (has rfl (has rfl (has rfl (has rfl (has rfl rfl))))), Nat.zero_le _, rfl, rfl⟩ ?_
        rintro m _ w4 ⟨i, τ2, rfl, hi, rfl, hw4⟩
        subst hw4
        have hsml : s.length ≤ 9223372036854775807 := hC0.2.1
        refine Sq (Sq (Rg (Mv (Mv (Mv ?_)))))
        refine g_indexH Try.underlying25 info22 hA rfl rfl (by omega) (by omega) (Nat.mul_one _) (h := ?_)
        refine L1 Try.underlying22 (hB29.cellk h25) rfl (Ln Try.underlying22 rfl ?_)
        refine g_lss rfl rfl (h1 := fun c37 => ?_) (h2 := fun c37 => ?_)
        · skip
          refine Nl (Tn (Ct rfl (Sk (Tn (Sq (Bk (Rg (Mv (Mv (Mv ?_))))))))))
          have hil : i < s.length := by omega
          have hob  := Kd.at_int (Kd.C_below hC0 hB29) i (by omega) (by omega)
          obtain ⟨ads, hAs, h47⟩ := hob
          have hir := hsr _ (rd_mem (xs := s) (i := (i : Nat)) (by omega) (by omega))
          have hq : ((2 : Int) ^ (rd s (i : Nat)).toNat) = ((2 ^ (rd s (i : Nat)).toNat : Nat) : Int) := pow_cast _
          have hq10 := pow10 (n := (rd s (i : Nat)).toNat) (by omega)
          have hql := Nat.two_pow_pos (rd s (i : Nat)).toNat
          have htk := setN_lt (n := ws.length) (st := s.take i) (fun x hx => hsr x (List.mem_of_mem_take hx))
          have hsn : setN (s.take (i + 1)) = setN (s.take i) ||| 2 ^ (rd s (i : Nat)).toNat := by rw [take_snoc' s i hil, setN_snoc, ← rd_nat s i hil]
          refine g_indexH Try.underlying25 info22 hA rfl rfl (by omega) (by omega) (Nat.mul_one _) (h := ?_)
          refine L1 Try.underlying22 (hB29.cellk h25) rfl (Mv ?_)
          refine g_indexH Try.underlying22 info3 hAs rfl rfl (by omega) (by omega) (Nat.mul_one _) (h := ?_)
          refine L1 Try.underlying3 (h47) rfl ?_
          refine g_v (r_shl rfl rfl (n := (rd s (i : Nat)).toNat) (by omega) (by omega) (by omega)) (h := ?_)
          refine g_v (r_orP (q := 2 ^ (rd s (i : Nat)).toNat) rfl rfl (by rw [hq, Int.one_mul]) (by omega) (by omega)) (h := ?_)
          refine As (Nl (Bn (Tn (Rg (Mv ?_)))))
          refine g_add rfl rfl (by omega) (h := ?_)
          refine As (Nl ?_)
          exact round_end (s.length - (i + 1)) (by omega) ⟨i + 1, _, has rfl (has (congrArg (Value.int .i64) (by rw [hsn])) (has rfl (has rfl (has rfl (has rfl rfl))))), hil, rfl, rfl⟩
        · skip
          refine Nl (Tn (Cf rfl (Xi (Tx (Tx (Bs (Tn (Sq (Sq (Rg ?_))))))))))
          have hse : s.take i = s := List.take_of_length_le (by omega)
          rw [hse]
          refine Mv (Mv ?_)
          refine g_v (r_and rfl rfl (by omega) (by omega)) (h := ?_)
          refine g_neq rfl rfl (h1 := fun c53 => ?_) (h2 := fun c53 => ?_)
          · skip
            have hres : areBarrels ws girth play l = false := by rw [hgo2, decide_eq_false (show ¬ setN s &&& T = 0 by omega)]; simp
            refine Mv (Of (Of (Of (Of (Pt rfl (Nl (Tn (Ct rfl (Sq (Rg (As (As (Nl (Tn (Rt (Tr (Br (Tr (Tr (Br (Tr ?_)))))))))))))))))))))
            exact ret2 rfl ⟨by rw [if_pos hpo, hres]; rfl, hB29⟩
          · skip
            have hz : setN s &&& T = 0 := by omega
            refine Mv ?_
            refine g_loadA rfl Try.underlying24 info24 (l := [.slice A ws.length c, .int .i64 girth, .int .i64 play]) (cellsAt K2d) (h := ?_)
            refine Mv ?_
            refine g_call he65 rfl (isBarrelR_c A c ws girth play (setN s) _ (Kd.C_below hw hB29) hwb hn (by omega) hgi hpl) (h := ?_)
            rintro e w57 ⟨rfl, hb57⟩
            refine ⟨_, rfl, ?_⟩
            have hB57 := hB29.bel hb57
            have K2e := kB K2d hb57
            cases q57 : isBS ws girth play (setN s) with
            | true =>
              refine Nt rfl (Pf rfl (Nl (Tn (Cf rfl (Sk (Tn (Rg (Mv (Mv ?_)))))))))
              refine g_v (r_or rfl rfl (by omega) (by omega)) (h := ?_)
              refine As (Nl (Bn (Tn (Rg (Mv ?_)))))
              refine g_add rfl rfl (by omega) (h := ?_)
              refine As (Nl ?_)
              exact round_end (l.length - (k + 1)) (by omega) ⟨k + 1, T ||| setN s, _, has rfl (has rfl (has rfl (has rfl rfl))), hkl, rfl, Nat.or_lt_two_pow hT hslt, by rw [hgo2, q29, q57, decide_eq_true hz]; rfl, K2e, hB57⟩
            | false =>
              have hres : areBarrels ws girth play l = false := by rw [hgo2, q57]; simp
              refine Nt rfl (Pf rfl (Nl (Tn (Ct rfl (Sq (Rg (As (As (Nl (Tn (Rt (Tr (Br (Tr (Tr (Br (Tr ?_)))))))))))))))))
              exact ret2 rfl ⟨by rw [if_pos hpo, hres]; rfl, hB57⟩
      | false =>
        have hres : areBarrels ws girth play l = false := by rw [hgo2, q29]; rfl
        refine GD_pure 8 rfl (by kernel_rfl) (by kernel_rfl) (by kernel_rfl) (by kernel_rfl) rfl rfl rfl (qv fun wq hC => by exact r_not rfl) ?_
        refine GD_end (by kernel_rfl) (dead 7 rfl (by kernel_rfl)) ?_
        refine Tn (Ct rfl (Sq (Rg (As (As (Nl (Tn (Rt (Tr (Br (Tr (Tr (Br (Tr ?_))))))))))))))
        exact ret2 rfl ⟨by rw [if_pos hpo, hres]; rfl, hB29⟩
    · skip
      refine Nl (Tn (Cf rfl (Xi (Tx (Tx (Bs (Tn (Sq (Rg (As (As (Nl (Tn (Rt ?_))))))))))))))
      have hres : areBarrels ws girth play l = true := by rw [← hgo, List.drop_eq_nil_of_le (by omega)]; rfl
      exact ret2 rfl ⟨by rw [if_pos hpo, hres]; rfl, hB⟩
end Go.Proofs.B
