/- barrel: the references of yards: Keeps, First. -/
import Derived.Test.YtpfoleggapngoaaB40
import Derived.Test.YtpfoleggapngoaaB33
set_option linter.unusedVariables false
set_option linter.unusedSimpArgs false
set_option maxRecDepth 10000
namespace Go.Proofs.B
open Go Go.RowKit Go.Proofs Go.Proofs.G Go.Proofs.F Go.Proofs.YtpfoleggapngoaaW.PrintWords
theorem okPlan_drop {y : List S70} {plan : List Int} {k : Nat} {lv : Nat → Int} (hk : k < plan.length) (h : okPlan y lv (plan.drop k)) : dryUp (dryP y lv (hiF y)) y.length < 0 ∧ (0 ≤ rd plan k ∧ rd plan k < y.length) ∧ okPlan y (topF y (rd plan k) (lkF lv (hiF y) y.length)) (plan.drop (k + 1)) := by
  rw [drop_rd hk] at h
  exact h
set_option maxHeartbeats 4000000 in
/-- Keeps says yes of a plan that keeps. -/
theorem keeps_c (A A1 : Option Addr) (c c1 : Nat) (y : List S70) (plan : List Int) (w : World) (hs : k70.C w A y.length y) (hp : (Kd.int .i64).C w A1 plan.length plan) (hy : yardOk y = true) (hok : okPlan y (begF y) plan) :
    Calls Try.prog 32 #[.slice A y.length c, .slice A1 plan.length c1] w fun e w' => e = .returned (.bool true) ∧ Bel w w' := by
  have h4 := yard_len hy
  have hpl := hp.2.1
  refine G_enter (l := [.slice A y.length c, .slice A1 plan.length c1]) Try.func32 rfl rfl ?_
  refine Sq (Rg (As (Nl (Tn (Sq (Rg (Mv ?_)))))))
  refine g_call he74 rfl (now_c A c y _ hs (by omega)) (h := ?_)
  rintro e w10 ⟨v10, rfl, HR10, hb10⟩
  refine ⟨_, rfl, ?_⟩
  refine As (Nl (Tn (Sq (Sq (Rg (As (Nl (Tn (Bk ?_)))))))))
  refine GC_loop (fun m σ w' => ∃ (k : Nat) (lv : Nat → Int) (v : Value) (τ : Nat → Value), σ = upd (upd (upd (upd τ 0 (.slice A y.length c)) 1 (.slice A1 plan.length c1)) 5 v) 6 (.int .i64 k) ∧ k ≤ plan.length ∧ m = plan.length - k ∧ lvOk lv ∧ (Kd.int .i64).R 3 w' w.heap.size (fun _ => True) v (lvList lv y.length) ∧ okPlan y lv (plan.drop k) ∧ Bel w w') (plan.length) ⟨0, begF y, v10, _, has rfl (has rfl (has rfl (has rfl rfl))), Nat.zero_le _, rfl, beg_ok hy, HR10, hok, hb10⟩ ?_
  rintro m _ w3 ⟨k, lv, v, τ, rfl, hk, rfl, hlv, HR, hgo, hB⟩
  refine Sq (Sq (Rg (Mv (Mv (Ln Try.underlying22 rfl ?_)))))
  refine g_lss rfl rfl (h1 := fun c14 => ?_) (h2 := fun c14 => ?_)
  · skip
    refine Nl (Tn (Ct rfl (Sk (Tn (Sq (Bk (Sq (Rg ?_))))))))
    have hkl : k < plan.length := by omega
    obtain ⟨hdry, htop, hnext⟩ := okPlan_drop hkl hgo
    have hI := IntC.of_R HR
    obtain ⟨A5, c5, rfl, hle5, hC5⟩ := hI
    obtain ⟨adp, hA1, h42⟩ := Kd.at_int hp k (by omega) (by omega)
    rw [hA1]
    refine Mv (Mv (Mv ?_))
    refine g_call he79 rfl (greatest_yard_c A c y _ (Kd.C_below hs hB) (by omega)) (h := ?_)
    rintro e w21 ⟨v21, rfl, HR21, hb21⟩
    refine ⟨_, rfl, ?_⟩
    have hI21 := IntC.of_R HR21
    obtain ⟨A21, c21, rfl, hle21, hC21⟩ := hI21
    have hB21 := hB.bel hb21
    refine g_call he75 rfl (month_c A A5 A21 c c5 c21 y (lvList lv y.length) (lvList (hiF y) y.length) lv (hiF y) _ (Kd.C_below hs hB21) (Kd.C_below hC5 hb21) hC21 (by omega) (lvList_len _ _) (lvList_len _ _) (fun i hi => ⟨lvList_rd lv _ i hi, by have := hlv i; omega⟩) (lvs_hi hy)) (h := ?_)
    rintro e w22 ⟨v22, rfl, HR22, hb22⟩
    refine ⟨_, rfl, ?_⟩
    have hB22 := hB21.bel hb22
    have HR22' := Kd.R_lower HR22 hB21.size
    rw [decide_eq_true hdry]
    refine Mv (Xt rfl rfl (Xt rfl rfl (As (As (Nl (Tn (Sq (Sq (Rg (Mv (Nt rfl (Mv (Mv (Mv ?_))))))))))))))
    refine g_indexS Try.underlying22 info3 rfl rfl (by omega) (by omega) (Nat.mul_one _) (h := ?_)
    refine L1 Try.underlying3 (hB22.cellk h42) rfl (Mv (Ln Try.underlying35 rfl ?_))
    refine g_sub rfl rfl (by omega) (h := ?_)
    refine g_inT rfl rfl rfl (by omega) (h := ?_)
    refine Nt rfl (Pf rfl (Nl (Tn (Cf rfl (Sk (Tn (Sq (Rg (Mv (As (Nl (Tn (Sq (Rg (Mv (Mv ?_))))))))))))))))
    refine g_indexS Try.underlying22 info3 rfl rfl (by omega) (by omega) (Nat.mul_one _) (h := ?_)
    refine L1 Try.underlying3 (hB22.cellk h42) rfl ?_
    refine g_v (r_geqT rfl rfl (by omega)) (h := ?_)
    refine Nl (Tn (Ct rfl ?_))
    obtain ⟨gr, cap, rfl, hgr, _, _⟩ := Kd.R_form HR22' (by rw [lvList_len]; omega)
    rw [lvList_len (lkF lv (hiF y) y.length)] at HR22' ⊢
    have htl : (rd plan k).toNat < y.length := by omega
    obtain ⟨ady, hA, h56⟩ := at70 hs (Below.refl _ _) (rd plan k).toNat htl
    rw [hA]
    have h56b := (hB22.drew).cellk (h56 1 (.int .i64 (yd y (rd plan k).toNat).f1) (by rw [yd_get y _ htl]; rfl))
    have h42d := hB22.drew.cellk h42
    have hBd : Bel w (w22.drewN 1) := hB22.drew
    have HRd := rB HR22' (Bel.drew (Below.refl _ _))
    have hlv2 : lvOk (lkF lv (hiF y) y.length) := lk_ok hlv (fun i => (hi_ok hy i).1) _
    refine GD_start 15 [14] (fun w' => w' = w22.drewN 1) (by kernel_rfl) rfl ?_
    refine GD_pure 0 rfl (by kernel_rfl) (by kernel_rfl) (by kernel_rfl) (by kernel_rfl) rfl rfl rfl (qv fun wq hC => by exact r_move) ?_
    refine GD_pure 1 rfl (by kernel_rfl) (by kernel_rfl) (by kernel_rfl) (by kernel_rfl) rfl rfl rfl (qv fun wq hC => by exact r_move) ?_
    refine GD_pure 2 rfl (by kernel_rfl) (by kernel_rfl) (by kernel_rfl) (by kernel_rfl) rfl rfl rfl (qv fun wq hC => by exact r_move) ?_
    refine GD_pure 3 rfl (by kernel_rfl) (by kernel_rfl) (by kernel_rfl) (by kernel_rfl) rfl rfl rfl (qv fun wq hC => by exact r_indexS Try.underlying22 info3 rfl rfl (by omega) (by omega) (Nat.mul_one _)) ?_
    refine GD_take 4 rfl (by kernel_rfl) (by kernel_rfl) (by kernel_rfl) (by kernel_rfl) rfl rfl rfl (qv fun wq hC => by exact r_load1 rfl Try.underlying3 (by subst hC; exact h42d)) ?_
    refine GD_pure 5 rfl (by kernel_rfl) (by kernel_rfl) (by kernel_rfl) (by kernel_rfl) rfl rfl rfl (qv fun wq hC => by exact r_move) ?_
    refine GD_pure 6 rfl (by kernel_rfl) (by kernel_rfl) (by kernel_rfl) (by kernel_rfl) rfl rfl rfl (qv fun wq hC => by exact r_move) ?_
    refine GD_pure 7 rfl (by kernel_rfl) (by kernel_rfl) (by kernel_rfl) (by kernel_rfl) rfl rfl rfl (qv fun wq hC => by exact r_move) ?_
    refine GD_pure 8 rfl (by kernel_rfl) (by kernel_rfl) (by kernel_rfl) (by kernel_rfl) rfl rfl rfl (qv fun wq hC => by exact r_indexS Try.underlying22 info3 rfl rfl (by omega) (by omega) (Nat.mul_one _)) ?_
    refine GD_take 9 rfl (by kernel_rfl) (by kernel_rfl) (by kernel_rfl) (by kernel_rfl) rfl rfl rfl (qv fun wq hC => by exact r_load1 rfl Try.underlying3 (by subst hC; exact h42d)) ?_
    refine GD_pure 10 rfl (by kernel_rfl) (by kernel_rfl) (by kernel_rfl) (by kernel_rfl) rfl rfl rfl (qv fun wq hC => by exact r_indexS Try.underlying35 info70 rfl rfl (by omega) (by omega) rfl) ?_
    refine GD_pure 11 rfl (by kernel_rfl) (by kernel_rfl) (by kernel_rfl) (by kernel_rfl) rfl rfl rfl (qv fun wq hC => by exact r_fieldAddr f70_1 rfl rfl) ?_
    refine GD_take 12 rfl (by kernel_rfl) (by kernel_rfl) (by kernel_rfl) (by kernel_rfl) rfl rfl rfl (qv fun wq hC => by exact r_load1 rfl Try.underlying3 (by subst hC; exact h56b)) ?_
    refine GD_pure 13 rfl (by kernel_rfl) (by kernel_rfl) (by kernel_rfl) (by kernel_rfl) rfl rfl rfl (qv fun wq hC => by exact r_indexO Try.underlying22 info3 rfl rfl  (by omega) (by omega) (Nat.mul_one _)) ?_
    refine GD_one 14 (by kernel_rfl) (fun _ => rfl) ?_
    refine GO_storeR (enc := Value.int .i64) (h1 := fun _ => rfl) rfl rfl rfl rfl info3 HRd (by omega) (by omega) (fun w15 HR15 hg15 => ?_)
    refine GD_end (by kernel_rfl) (dead 14 rfl (by kernel_rfl)) ?_
    refine Bn (Tn (Rg (Mv ?_)))
    refine g_add rfl rfl (by omega) (h := ?_)
    refine As (Nl ?_)
    exact round_end (plan.length - (k + 1)) (by omega) ⟨k + 1, topF y (rd plan k) (lkF lv (hiF y) y.length), .slice (some ⟨gr, 0, none⟩) y.length cap, _, has rfl (has rfl (has rfl (has rfl rfl))), hkl, rfl, top_ok hy hlv2 _, by rw [← topF_set y (rd plan k) _ _ (by omega) htl]; exact HR15, hnext, hBd.grown hg15 (fun q hq => by injection hq with hq; omega)⟩
  · skip
    refine Nl (Tn (Cf rfl (Xi (Tx (Tx (Bs (Tn (Sq (Rg (As (Nl (Tn (Rt ?_)))))))))))))
    exact ret1 rfl ⟨rfl, hB⟩
/-- The reference of First: the program's. -/
def firstB (y : List S70) (n m : Nat) (lv : Nat → Int) : Int × Int × Int := firstGo y n m lv
theorem dryUp_is {p : Nat → Bool} {n k : Nat} (hk : k < n) (hp : p k = true) (hlow : ∀ i, i < k → p i = false) : dryUp p n = k := by
  induction n with
  | zero => omega
  | succ n ih =>
    unfold dryUp
    by_cases e : k = n
    · subst e
      rw [if_pos ⟨(dryUp_neg p k).2 hlow, hp⟩]
    · have h1 := ih (by omega)
      rw [if_neg (by rw [h1]; omega)]
      exact h1
theorem lk_dry (y : List S70) (lv : Nat → Int) (i : Nat) (hi : i < y.length) : dryP y lv (hiF y) i = decide (lkF lv (hiF y) y.length i < (yd y i).f2) := by
  unfold dryP lkF
  rw [if_pos hi]
set_option maxHeartbeats 4000000 in
theorem firstR_c (A : Option Addr) (c : Nat) (y : List S70) (months : Int) (w : World) (hs : k70.C w A y.length y) :
    Calls Try.prog 29 #[.slice A y.length c, .int .i64 months] w fun e w' => e = .returned (.tuple #[.int .i64 (firstL y months).1, .int .i64 (firstL y months).2.1, .int .i64 (firstL y months).2.2]) ∧ Bel w w' := by
  refine G_enter (l := [.slice A y.length c, .int .i64 months]) Try.func29 rfl rfl ?_
  refine Sq (Rg (As (As (As (Nl (Tn (Sq (Sq (Rg (Mv ?_))))))))))
  refine g_call he27 rfl (checkYardR_c A c y _ hs) (h := ?_)
  rintro e w14 ⟨rfl, hb14⟩
  refine ⟨_, rfl, ?_⟩
  refine As (Nl (Tn (Sq (Rg (Mv ?_)))))
  refine g_neq rfl rfl (h1 := fun c16 => ?_) (h2 := fun c16 => ?_)
  · skip
    have hy : ¬ yardOk y = true := fun h => by rw [if_pos h] at c16; exact c16 rfl
    refine Nl (Tn (Ct rfl (Sq (Rg (Mv (As (As (As (Nl (Tn (Rt (Tr ?_))))))))))))
    exact ret3 rfl ⟨ret3i (by rw [firstL, if_neg hy, if_neg hy]), hb14⟩
  · skip
    have hy : yardOk y = true := by by_cases h : yardOk y = true; exact h; rw [if_neg h] at c16; exact absurd c16 (by decide)
    have h4 := yard_len hy
    refine Nl (Tn (Cf rfl (Sk (Tn (Sq (Sq (Rg (Mv ?_))))))))
    refine g_in rfl rfl rfl (h1 := fun c19 => ?_) (h2 := fun c19 => ?_)
    · skip
      have hmo : 0 ≤ months ∧ months ≤ 12 := c19
      have hfl : firstL y months = firstGo y months.toNat 0 (begF y) := by rw [firstL, if_pos hy, if_pos hmo]
      obtain ⟨mo, rfl⟩ := Int.eq_ofNat_of_zero_le hmo.1
      rw [Int.toNat_natCast] at hfl
      refine Nt rfl (Nl (Tn (Cf rfl (Sk (Tn (Sq (Rg (Mv ?_))))))))
      refine g_call he74 rfl (now_c A c y _ (Kd.C_below hs hb14) (by omega)) (h := ?_)
      rintro e w22 ⟨v22, rfl, HR22, hb22⟩
      refine ⟨_, rfl, ?_⟩
      have hB22 := hb14.bel hb22
      have HR22' := Kd.R_lower HR22 hb14.size
      refine As (Nl (Tn (Sq (Sq (Rg (As (Nl (Tn (Bk ?_)))))))))
      refine GC_loop (fun m σ w' => ∃ (k : Nat) (lv : Nat → Int) (v : Value) (τ : Nat → Value), σ = upd (upd (upd (upd (upd (upd (upd τ 0 (.slice A y.length c)) 1 (.int .i64 mo)) 4 (.int .i64 0)) 5 (.int .i64 0)) 6 (.int .i64 0)) 8 v) 9 (.int .i64 k) ∧ k ≤ mo ∧ m = mo - k ∧ lvOk lv ∧ (Kd.int .i64).R 3 w' w.heap.size (fun _ => True) v (lvList lv y.length) ∧ firstL y mo = firstGo y (mo - k) k lv ∧ Bel w w') (mo) ⟨0, begF y, v22, _, has rfl (has rfl (has rfl (has rfl (has rfl (has rfl (has rfl rfl)))))), Nat.zero_le _, rfl, beg_ok hy, HR22', hfl, hB22⟩ ?_
      rintro m _ w3 ⟨k, lv, v, τ, rfl, hk, rfl, hlv, HR, hgo, hB⟩
      refine Sq (Sq (Rg (Mv (Mv ?_))))
      refine g_lss rfl rfl (h1 := fun c25 => ?_) (h2 := fun c25 => ?_)
      · skip
        refine Nl (Tn (Ct rfl (Sk (Tn (Sq (Bk (Sq (Rg ?_))))))))
        have hkl : k < mo := by omega
        have hI := IntC.of_R HR
        obtain ⟨A5, c5, rfl, hle5, hC5⟩ := hI
        rw [show mo - k = (mo - (k + 1)) + 1 by omega, firstGo] at hgo
        refine Mv (Mv (Mv ?_))
        refine g_call he79 rfl (greatest_yard_c A c y _ (Kd.C_below hs hB) (by omega)) (h := ?_)
        rintro e w21 ⟨v21, rfl, HR21, hb21⟩
        refine ⟨_, rfl, ?_⟩
        have hI21 := IntC.of_R HR21
        obtain ⟨A21, c21, rfl, hle21, hC21⟩ := hI21
        have hB21 := hB.bel hb21
        refine g_call he75 rfl (month_c A A5 A21 c c5 c21 y (lvList lv y.length) (lvList (hiF y) y.length) lv (hiF y) _ (Kd.C_below hs hB21) (Kd.C_below hC5 hb21) hC21 (by omega) (lvList_len _ _) (lvList_len _ _) (fun i hi => ⟨lvList_rd lv _ i hi, by have := hlv i; omega⟩) (lvs_hi hy)) (h := ?_)
        rintro e w33 ⟨v33, rfl, HR33, hb33⟩
        refine ⟨_, rfl, ?_⟩
        have hB33 := hB21.bel hb33
        have HR33' := Kd.R_lower HR33 hB21.size
        have hI33 := IntC.of_R HR33'
        obtain ⟨A33, c33, rfl, hle33, hC33⟩ := hI33
        have hlv2 : lvOk (lkF lv (hiF y) y.length) := lk_ok hlv (fun i => (hi_ok hy i).1) _
        refine Mv (Xt rfl rfl (Xt rfl rfl (As (As (Nl (Tn (Sq (Rg (Mv (As (Nl (Tn (Sq (Rg (As (Nl (Tn (Bk ?_))))))))))))))))))
        refine GC_loop (fun m σ w' => ∃ (i : Nat) (τ : Nat → Value), σ = upd (upd (upd (upd (upd (upd (upd (upd τ 0 (.slice A y.length c)) 1 (.int .i64 mo)) 4 (.int .i64 0)) 5 (.int .i64 0)) 6 (.int .i64 0)) 8 (.slice A33 (lvList (lkF lv (hiF y) y.length) y.length).length c33)) 9 (.int .i64 k)) 12 (.int .i64 i) ∧ i ≤ y.length ∧ m = y.length - i ∧ (∀ j, j < i → dryP y lv (hiF y) j = false) ∧ Bel w33 w') (y.length) ⟨0, _, has rfl (has rfl (has rfl (has rfl (has rfl (has rfl (has rfl (has rfl rfl))))))), Nat.zero_le _, rfl, fun j hj => absurd hj (Nat.not_lt_zero _), Below.refl _ _⟩ ?_
        rintro m _ w4 ⟨i, τ2, rfl, hi, rfl, hlow, hB4⟩
        refine Sq (Sq (Rg (Mv (Mv (Ln Try.underlying35 rfl ?_)))))
        refine g_lss rfl rfl (h1 := fun c40 => ?_) (h2 := fun c40 => ?_)
        · skip
          refine Nl (Tn (Ct rfl (Sk (Tn (Sq (Bk (Sq ?_)))))))
          have hil : i < y.length := by omega
          have hBd := hB33.bel hB4.drew
          obtain ⟨ady, hA, h51⟩ := at70 hs hBd i hil
          rw [hA]
          obtain ⟨adl, hAl, h46⟩ := Kd.at_int (Kd.C_below hC33 hB4.drew) i (by omega) (by rw [lvList_len]; omega)
          rw [hAl]
          rw [lvList_rd _ _ i hil] at h46
          have hdi := lk_dry y lv i hil
          refine GD_start 10 [] (fun w' => w' = w4.drewN 1) (by kernel_rfl) rfl ?_
          refine GD_pure 0 rfl (by kernel_rfl) (by kernel_rfl) (by kernel_rfl) (by kernel_rfl) rfl rfl rfl (qv fun wq hC => by exact r_move) ?_
          refine GD_pure 1 rfl (by kernel_rfl) (by kernel_rfl) (by kernel_rfl) (by kernel_rfl) rfl rfl rfl (qv fun wq hC => by exact r_move) ?_
          refine GD_pure 2 rfl (by kernel_rfl) (by kernel_rfl) (by kernel_rfl) (by kernel_rfl) rfl rfl rfl (qv fun wq hC => by exact r_indexS Try.underlying22 info3 rfl rfl (by omega) (by rw [lvList_len]; omega) (Nat.mul_one _)) ?_
          refine GD_take 3 rfl (by kernel_rfl) (by kernel_rfl) (by kernel_rfl) (by kernel_rfl) rfl rfl rfl (qv fun wq hC => by exact r_load1 rfl Try.underlying3 (by subst hC; exact h46)) ?_
          refine GD_pure 4 rfl (by kernel_rfl) (by kernel_rfl) (by kernel_rfl) (by kernel_rfl) rfl rfl rfl (qv fun wq hC => by exact r_move) ?_
          refine GD_pure 5 rfl (by kernel_rfl) (by kernel_rfl) (by kernel_rfl) (by kernel_rfl) rfl rfl rfl (qv fun wq hC => by exact r_move) ?_
          refine GD_pure 6 rfl (by kernel_rfl) (by kernel_rfl) (by kernel_rfl) (by kernel_rfl) rfl rfl rfl (qv fun wq hC => by exact r_indexS Try.underlying35 info70 rfl rfl (by omega) (by omega) rfl) ?_
          refine GD_pure 7 rfl (by kernel_rfl) (by kernel_rfl) (by kernel_rfl) (by kernel_rfl) rfl rfl rfl (qv fun wq hC => by exact r_fieldAddr f70_2 rfl rfl) ?_
          refine GD_take 8 rfl (by kernel_rfl) (by kernel_rfl) (by kernel_rfl) (by kernel_rfl) rfl rfl rfl (qv fun wq hC => by exact r_load1 rfl Try.underlying3 (by subst hC; exact h51 2 (.int .i64 (yd y i).f2) (by rw [yd_get y i hil]; rfl))) ?_
          rcases Decidable.em (lkF lv (hiF y) y.length i < (yd y i).f2) with c52 | c52
          · skip
            refine GD_pure 9 rfl (by kernel_rfl) (by kernel_rfl) (by kernel_rfl) (by kernel_rfl) rfl rfl rfl (qv fun wq hC => by exact r_lssT rfl rfl c52) ?_
            refine GD_end (by kernel_rfl) (fun _ => rfl) ?_
            refine Tn (Ct rfl (Sq (Rg (Mv (Mv (As (As (As (Nl (Tn (Rt (Br (Tr (Tr (Br (Br (Tr (Tr (Br (Tr ?_))))))))))))))))))))
            have hdu := dryUp_is hil (hdi.trans (decide_eq_true c52)) hlow
            exact ret3 rfl ⟨ret3i (by rw [hgo, if_pos (by rw [hdu]; omega), hdu]), hBd⟩
          · skip
            refine GD_pure 9 rfl (by kernel_rfl) (by kernel_rfl) (by kernel_rfl) (by kernel_rfl) rfl rfl rfl (qv fun wq hC => by exact r_lssF rfl rfl c52) ?_
            refine GD_end (by kernel_rfl) (fun _ => rfl) ?_
            refine Tn (Cf rfl (Sk (Bn (Tn (Rg (Mv ?_))))))
            refine g_add rfl rfl (by omega) (h := ?_)
            refine As (Nl ?_)
            exact round_end (y.length - (i + 1)) (by omega) ⟨i + 1, _, has rfl (has rfl (has rfl (has rfl (has rfl (has rfl (has rfl (has rfl rfl))))))), hil, rfl, fun j hj => by rcases Nat.lt_succ_iff_lt_or_eq.1 hj with h | h; exact hlow j h; subst h; exact hdi.trans (decide_eq_false c52), hB4.drew⟩
        · skip
          refine Nl (Tn (Cf rfl (Xi (Tx (Tx (Bs (Bn (Tn (Rg (Mv ?_))))))))))
          refine g_add rfl rfl (by omega) (h := ?_)
          refine As (Nl ?_)
          have hneg := (dryUp_neg (dryP y lv (hiF y)) y.length).2 (fun j hj => hlow j (by omega))
          exact round_end (mo - (k + 1)) (by omega) ⟨k + 1, lkF lv (hiF y) y.length, _, _, has rfl (has rfl (has rfl (has rfl (has rfl (has rfl (has rfl rfl)))))), hkl, rfl, hlv2, rB HR33' hB4, by rw [hgo, if_neg (by omega)]; rfl, hB33.bel hB4⟩
      · skip
        refine Nl (Tn (Cf rfl (Xi (Tx (Tx (Bs (Tn (Sq (Rg (As (As (As (Nl (Tn (Rt ?_)))))))))))))))
        exact ret3 rfl ⟨ret3i (by rw [hgo, show mo - k = 0 by omega]; rfl), hB⟩
    · skip
      have hmo : ¬ (0 ≤ months ∧ months ≤ 12) := c19
      refine Nt rfl (Nl (Tn (Ct rfl (Sq (Rg (As (As (As (Nl (Tn (Rt (Tr ?_))))))))))))
      exact ret3 rfl ⟨ret3i (by rw [firstL, if_pos hy, if_neg hmo]), hb14⟩
end Go.Proofs.B
