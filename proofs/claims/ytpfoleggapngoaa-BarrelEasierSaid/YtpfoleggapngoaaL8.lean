/- barrel: the law BarrelSafe, walked. -/
import Derived.Test.YtpfoleggapngoaaB28
import Derived.Test.YtpfoleggapngoaaB32
set_option linter.unusedVariables false
set_option linter.unusedSimpArgs false
set_option maxRecDepth 10000
namespace Go.Proofs.B
open Go Go.RowKit Go.Proofs Go.Proofs.G Go.Proofs.F Go.Proofs.YtpfoleggapngoaaW.PrintWords
theorem mod_at (n m r : Int) (h : n % m = r) (hm : 0 < m) (hm2 : m ≤ 9223372036854775807) (w : World) : Calls Try.prog 41 #[.int .i64 n, .int .i64 m] w fun e w' => e = .returned (.int .i64 r) ∧ w' = w := by
  subst h; exact mod_c n m hm hm2 w
theorem inT_c (a b c : Int) (h : b ≤ a ∧ a ≤ c) (w : World) : Calls Try.prog 43 #[.int .i64 a, .int .i64 b, .int .i64 c] w fun e w' => e = .returned (.bool true) ∧ w' = w :=
  (in_c a b c w).mono (fun e w' he => ⟨by rw [he.1, decide_eq_true h], he.2⟩)
theorem mod13 (n : Int) : ∃ mo : Nat, n % 13 = mo ∧ mo ≤ 12 := by
  have h1 := Int.emod_nonneg n (show (13 : Int) ≠ 0 by omega)
  have h2 := Int.emod_lt_of_pos n (show 0 < (13 : Int) by omega)
  exact ⟨(n % 13).toNat, by omega, by omega⟩
theorem run_rg {y : List S70} {plan : List Int} {leaks : List (List Int)} : ∀ (n k : Nat) (lv : Nat → Int), (runGo y plan leaks n k lv).2 = -1 ∨ (k : Int) ≤ (runGo y plan leaks n k lv).2 ∧ (runGo y plan leaks n k lv).2 < (k : Int) + n
  | 0, k, lv => .inl rfl
  | n + 1, k, lv => by
    have e : runGo y plan leaks (n + 1) k lv = if 0 ≤ dryUp (dryP y lv (leakAt leaks k)) y.length then (lkF lv (leakAt leaks k) y.length, (k : Int)) else runGo y plan leaks n (k + 1) (topF y (rd plan k) (lkF lv (leakAt leaks k) y.length)) := rfl
    rw [e]
    split
    · right; simp only; omega
    · rcases run_rg n (k + 1) (topF y (rd plan k) (lkF lv (leakAt leaks k) y.length)) with h | h
      · exact .inl h
      · right; omega
theorem runL_ok {y : List S70} (hy : yardOk y = true) {plan : List Int} {leaks : List (List Int)} (hP : PlanOk y plan leaks) : runL y plan leaks = (lvList (runGo y plan leaks plan.length 0 (begF y)).1 y.length, (runGo y plan leaks plan.length 0 (begF y)).2, 0) := by
  rw [runL, if_pos hy, if_pos hP]
theorem hi_leak (y : List S70) (months m i : Nat) (h : m < months) (hi : i < y.length) : leakAt (leaksL y months []) m i = hiF y i := by
  rw [leaksL_leak y months [] m i h hi, lkV, if_pos rfl]
theorem yard_hi {y : List S70} (hy : yardOk y = true) : (∀ i, i < y.length → 0 ≤ hiF y i) ∧ (∀ i, i < y.length → 0 ≤ (yd y i).f1) :=
  ⟨fun i hi => (hi_ok hy i).1, fun i hi => by have := cask_rg (yard_cask hy i hi); omega⟩
/-- No plan keeps: each lets some barrel be dry. -/
theorem bad_run {y : List S70} (hy : yardOk y = true) {months : Nat} (hb : Bad y months (begF y)) {plan : List Int} (hl : plan.length = months) (ht : ∀ j, j < months → -1 ≤ rd plan (j : Nat) ∧ rd plan (j : Nat) ≤ (y.length : Int) - 1) :
    0 ≤ (runGo y plan (leaksL y months []) plan.length 0 (begF y)).2 ∧ (runGo y plan (leaksL y months []) plan.length 0 (begF y)).2 ≤ (months : Int) - 1 := by
  have h4 := yard_len hy
  rcases run_rg (y := y) (plan := plan) (leaks := leaksL y months []) plan.length 0 (begF y) with h | h
  · obtain ⟨p, h1, h2⟩ := run_plan (y := y) (plan := plan) (leaks := leaksL y months []) h4.1 (yard_hi hy).1 plan.length 0 (begF y) (by omega) (fun j _ hj i hi => hi_leak y months j i (by omega) hi) (fun j _ hj => by have := ht j (by omega); omega) (beg_full hy) (yard_hi hy).2 (by rw [h]; decide)
    exact absurd h2 (hb p (by omega))
  · rw [hl] at h ⊢
    generalize (runGo y plan (leaksL y months []) months 0 (begF y)).2 = r at h ⊢
    omega
theorem keep_run {y : List S70} (hy : yardOk y = true) {months : Nat} {plan : List Int} (hl : plan.length = months) (hok : okPlan y (begF y) plan) : (runGo y plan (leaksL y months []) plan.length 0 (begF y)).2 = -1 :=
  run_ok plan.length 0 (begF y) (by omega) (fun j _ hj i hi => hi_leak y months j i (by omega) hi) hok
theorem runK_c (A A1 A2 : Option Addr) (c c1 c2 : Nat) (y : List S70) (plan : List Int) (leaks : List (List Int)) (lv : Nat → Int) (dry : Int) (w : World) (hs : k70.C w A y.length y) (hp : (Kd.int .i64).C w A1 plan.length plan) (hl : kRow.C w A2 leaks.length leaks) (hy : yardOk y = true) (hP : PlanOk y plan leaks) (hlv : (runGo y plan leaks plan.length 0 (begF y)).1 = lv) (hd : (runGo y plan leaks plan.length 0 (begF y)).2 = dry) :
    Calls Try.prog 23 #[.slice A y.length c, .slice A1 plan.length c1, .slice A2 leaks.length c2] w fun e w' => ∃ v, e = .returned (.tuple #[v, .int .i64 dry, .int .i64 0]) ∧ (Kd.int .i64).R 3 w' w.heap.size (fun _ => True) v (lvList lv y.length) ∧ Bel w w' := by
  refine (run_c A A1 A2 c c1 c2 y plan leaks w hs hp hl).mono ?_
  rw [runL_ok hy hP, hlv, hd]
  exact fun e w' h => h
set_option maxHeartbeats 40000000 in
theorem barrelSafe_c (A : Option Addr) (c : Nat) (y : List S70) (n : Int) (B : Option Addr) (d : Nat) (bits : List Int) (w : World) (hs : k70.C w A y.length y) (_ : (Lit.int .i64 n).wf = true) (hbt : (Kd.int .i64).C w B bits.length bits) (hsz : bits.length * 8 ≤ 140737488351232) :
    Calls Try.prog 8 #[.slice A y.length c, .int .i64 n, .slice B bits.length d] w fun e w' => e = .returned (.bool true) ∧ Bel w w' := by
  obtain ⟨mo, hmo, hmo12⟩ := mod13 n
  refine G_enter (l := [.slice A y.length c, .int .i64 n, .slice B bits.length d]) Try.func8 rfl rfl ?_
  refine Sq (Rg (As (Nl (Tn (Sq (Sq (Rg (Mv ?_))))))))
  refine g_call he45 rfl (sound_c A c y _ hs) (h := ?_)
  rintro e w21 ⟨rfl, hb21⟩
  refine ⟨_, rfl, ?_⟩
  cases q21 : yardOk y with
  | true =>
    have hy := q21
    have h4 := yard_len hy
    refine Nt rfl (Nl (Tn (Cf rfl (Sk (Tn (Sq (Rg (Mv ?_))))))))
    refine g_call he41 rfl (mod_at n 13 mo hmo (by decide) (by decide) _) (h := ?_)
    rintro e w25 ⟨rfl, rfl⟩
    refine ⟨_, rfl, ?_⟩
    refine As (Nl (Tn (Sq (Rg (Mv (Mv ?_))))))
    refine g_call he30 rfl (keep_c A c y mo _ (Kd.C_below hs hb21)) (h := ?_)
    rintro e w29 ⟨v29, code, plan, rfl, ⟨A29, c29, rfl, hC29, hc29⟩, hkr, hb29⟩
    refine ⟨_, rfl, ?_⟩
    have hB29 := hb21.bel hb29
    refine Mv (Xt rfl rfl (Xt rfl rfl (As (As (Nl (Tn (Sq (Sq (Rg (Mv ?_))))))))))
    refine g_neq rfl rfl (h1 := fun c33 => ?_) (h2 := fun c33 => ?_)
    · skip
      have hkeep : code = 4 ∧ plan = [] ∧ Bad y mo (begF y) := by
        rcases hkr with ⟨_, _, ⟨h, _⟩ | ⟨h1, h2, h3⟩⟩ | ⟨_, h, _⟩ | ⟨h, _⟩
        · exact absurd h c33
        · exact ⟨h1, h2, by rw [Int.toNat_natCast] at h3; exact h3⟩
        · exact absurd (by omega) h
        · exact absurd hy h
      obtain ⟨rfl, rfl, hbad⟩ := hkeep
      refine Nl (Tn (Ct rfl (Sq (Rg (Mv (Mv (Mv (Mv ?_))))))))
      refine g_call he46 rfl (planLaw_c A B c d y mo bits _ h4.2 hmo12 (Kd.C_below hbt hB29)) (h := ?_)
      rintro e w39 ⟨v39, rfl, HR39, hb39⟩
      refine ⟨_, rfl, ?_⟩
      obtain ⟨A39, c39, rfl, _, hC39⟩ := Kd.R_reads HR39
      refine Mv (Mv ?_)
      refine g_call he47 rfl (leaksLaw_c A none c 0 y mo [] _ (Kd.C_below hs (hB29.bel hb39)) hy hmo12 (Kd.C_nil _ _)) (h := ?_)
      rintro e w42 ⟨v42, rfl, HR42, hb42⟩
      refine ⟨_, rfl, ?_⟩
      obtain ⟨A42, c42, rfl, _, hC42⟩ := Kd.R_reads HR42
      have hB42 := (hB29.bel hb39).bel hb42
      have htops : ∀ j, j < mo → -1 ≤ rd (lvList (planV y.length bits) mo) (j : Nat) ∧ rd (lvList (planV y.length bits) mo) (j : Nat) ≤ (y.length : Int) - 1 := fun j hj => by rw [lvList_rd _ _ _ hj]; exact planV_rg _ _ _
      have hbr := bad_run hy hbad (lvList_len _ _) htops
      obtain ⟨lv0, hlv0⟩ : ∃ f, (runGo y (lvList (planV y.length bits) mo) (leaksL y mo []) (lvList (planV y.length bits) mo).length 0 (begF y)).1 = f := ⟨_, rfl⟩
      obtain ⟨dr0, hdr0⟩ : ∃ f, (runGo y (lvList (planV y.length bits) mo) (leaksL y mo []) (lvList (planV y.length bits) mo).length 0 (begF y)).2 = f := ⟨_, rfl⟩
      rw [hdr0] at hbr
      refine g_call he23 rfl (runK_c A A39 A42 c c39 c42 y (lvList (planV y.length bits) mo) (leaksL y mo []) lv0 dr0 _ (Kd.C_below hs hB42) (Kd.C_below hC39 hb42) hC42 hy (planOk_of hy hmo12 [] (lvList_len _ _) htops) hlv0 hdr0) (h := ?_)
      rintro e w43 ⟨v43, rfl, HR43, hb43⟩
      refine ⟨_, rfl, ?_⟩
      have hB43 := hB42.bel hb43
      refine Mv (Xt rfl rfl (Xt rfl rfl (Xt rfl rfl (As (As (As (Nl (Tn (Sq (Rg (Mv ?_)))))))))))
      refine g_v (r_eqlT rfl rfl (rfl)) (h := ?_)
      refine Mv (Mv (Ln Try.underlying22 rfl ?_))
      refine g_v (r_eqlT rfl rfl (rfl)) (h := ?_)
      refine Pt rfl (Mv (Mv ?_))
      refine g_v (r_eqlT rfl rfl (rfl)) (h := ?_)
      refine Pt rfl (Mv (Mv (Mv ?_)))
      refine g_sub rfl rfl (by omega) (h := ?_)
      refine g_inT rfl rfl rfl (hbr) (h := ?_)
      refine Pt rfl (Mv ?_)
      refine g_call he21 rfl (works_c _) (h := ?_)
      rintro e w65 ⟨rfl, hb65⟩
      refine ⟨_, rfl, ?_⟩
      refine Pt rfl (As (Nl (Tn (Rt (Tr ?_)))))
      exact ret1 rfl ⟨rfl, hB43.bel hb65⟩
    · skip
      have hkeep : plan.length = mo ∧ okPlan y (begF y) plan := by
        rcases hkr with ⟨_, _, ⟨_, h1, h2⟩ | ⟨h, _⟩⟩ | ⟨_, h, _⟩ | ⟨h, _⟩
        · exact ⟨by omega, h2⟩
        · exact absurd c33 (by rw [h]; decide)
        · exact absurd (by omega) h
        · exact absurd hy h
      obtain ⟨hpl, hok⟩ := hkeep
      refine Nl (Tn (Cf rfl (Sk (Tn (Sq (Rg (Mv (Mv (Mv (Mv ?_))))))))))
      refine g_lit1 bs22 rfl rfl (h := fun g72 w72 N72 => ?_)
      have HR72 := litR (xs := [1]) N72 (by decide) w29.heap.size N72.ge
      refine Mv ?_
      refine g_appendRows (Kd.int .i64) Try.underlying22 zi3 rfl (by decide) (by decide) (okp := fun _ => False) HR72 (Kd.C_below hbt (hB29.new N72)) (fun x cs h => h) (fun _ h => h.elim) (fun _ _ => trivial) N72.ch.size (by simp only [List.length_singleton]; omega) rfl rfl (h := fun v74 w74 HR74 hg74 _ => ?_)
      have hb74 : Bel w29 w74 := (Bel.of_new N72).grown hg74 (Kd.R_base HR72)
      obtain ⟨A74, c74, rfl, _, hC74⟩ := Kd.R_reads HR74
      have hB74 := hB29.bel hb74
      refine g_call he47 rfl (leaksLaw_c A A74 c c74 y mo ([1] ++ bits) _ (Kd.C_below hs hB74) hy hmo12 hC74) (h := ?_)
      rintro e w75 ⟨v75, rfl, HR75, hb75⟩
      refine ⟨_, rfl, ?_⟩
      obtain ⟨A75, c75, rfl, _, hC75⟩ := Kd.R_reads HR75
      have hB75 := hB74.bel hb75
      have htops : ∀ j, j < mo → -1 ≤ rd plan (j : Nat) ∧ rd plan (j : Nat) ≤ (y.length : Int) - 1 := fun j hj => by have := okPlan_tops plan _ hok j (by omega); omega
      have hworst := keep_run hy hpl hok
      obtain ⟨hlev, hle⟩ := run_mono (y := y) (plan := plan) (leaks := leaksL y mo []) (leaks' := leaksL y mo ([1] ++ bits)) plan.length 0 (begF y) (begF y) (fun i hi => Int.le_refl _) (fun j _ hj i hi => by rw [leaksL_leak _ _ _ _ _ (by omega) hi, hi_leak _ _ _ _ (by omega) hi]; exact (lkV_rg hy _ _ _ hi).2) (by rw [hworst]; decide)
      obtain ⟨hfull, _⟩ := run_lv hy (plan := plan) (leaks := leaksL y mo ([1] ++ bits)) plan.length 0 (begF y) (fun j _ hj i hi => by rw [leaksL_leak _ _ _ _ _ (by omega) hi]; have := lkV_rg hy ([1] ++ bits) j i hi; have := cask_rg (yard_cask hy i hi); omega) (beg_ok hy) (beg_full hy) (by rw [hlev]; decide)
      obtain ⟨_, hline⟩ := run_lv hy (plan := plan) (leaks := leaksL y mo []) plan.length 0 (begF y) (fun j _ hj i hi => by rw [hi_leak _ _ _ _ (by omega) hi]; exact (hi_ok hy i).1) (beg_ok hy) (beg_full hy) (by rw [hworst]; decide)
      obtain ⟨lv1, hlv1⟩ : ∃ f, (runGo y plan (leaksL y mo ([1] ++ bits)) plan.length 0 (begF y)).1 = f := ⟨_, rfl⟩
      obtain ⟨lv2, hlv2⟩ : ∃ f, (runGo y plan (leaksL y mo []) plan.length 0 (begF y)).1 = f := ⟨_, rfl⟩
      rw [hlv1] at hle hfull
      rw [hlv2] at hle hline
      refine g_call he23 rfl (runK_c A A29 A75 c c29 c75 y plan (leaksL y mo ([1] ++ bits)) lv1 (-1) _ (Kd.C_below hs hB75) (Kd.C_below hC29 (hb74.bel hb75)) hC75 hy (planOk_of hy hmo12 ([1] ++ bits) hpl htops) hlv1 hlev) (h := ?_)
      rintro e w76 ⟨v76, rfl, HR76, hb76⟩
      refine ⟨_, rfl, ?_⟩
      have hB76 := hB75.bel hb76
      obtain ⟨A76, c76, rfl, _, hC76⟩ := Kd.R_reads HR76
      refine Mv (Xt rfl rfl (Xt rfl rfl (Xt rfl rfl (As (As (As (Nl (Tn (Sq (Rg (Mv (Mv (Mv (Mv ?_))))))))))))))
      refine g_call he47 rfl (leaksLaw_c A none c 0 y mo [] _ (Kd.C_below hs hB76) hy hmo12 (Kd.C_nil _ _)) (h := ?_)
      rintro e w85 ⟨v85, rfl, HR85, hb85⟩
      refine ⟨_, rfl, ?_⟩
      obtain ⟨A85, c85, rfl, _, hC85⟩ := Kd.R_reads HR85
      have hB85 := hB76.bel hb85
      refine g_call he23 rfl (runK_c A A29 A85 c c29 c85 y plan (leaksL y mo []) lv2 (-1) _ (Kd.C_below hs hB85) (Kd.C_below hC29 (((hb74.bel hb75).bel hb76).bel hb85)) hC85 hy (planOk_of hy hmo12 [] hpl htops) hlv2 hworst) (h := ?_)
      rintro e w86 ⟨v86, rfl, HR86, hb86⟩
      refine ⟨_, rfl, ?_⟩
      have hB86 := hB85.bel hb86
      obtain ⟨A86, c86, rfl, _, hC86⟩ := Kd.R_reads HR86
      have hC76' := Kd.C_below hC76 (hb85.bel hb86)
      refine Mv (Xt rfl rfl (Xt rfl rfl (Xt rfl rfl (As (As (As (Nl (Tn (Sq (Sq (Rg (Mv (Ln Try.underlying22 rfl (Mv ?_))))))))))))))
      refine g_v (r_neqF rfl rfl (by omega)) (h := ?_)
      refine Mv (Mv ?_)
      refine g_v (r_neqF rfl rfl (by decide)) (h := ?_)
      refine Pf rfl (Mv (Mv ?_))
      refine g_v (r_neqF rfl rfl (by decide)) (h := ?_)
      refine Pf rfl (Mv (Mv ?_))
      refine g_v (r_neqF rfl rfl (by decide)) (h := ?_)
      refine Pf rfl (Mv (Mv ?_))
      refine g_v (r_neqF rfl rfl (by decide)) (h := ?_)
      refine Pf rfl (Mv (Mv (Ln Try.underlying22 rfl (Mv (Ln Try.underlying35 rfl ?_)))))
      refine g_v (r_neqF rfl rfl (by simp [lvList_len])) (h := ?_)
      refine Pf rfl (Mv (Mv (Ln Try.underlying22 rfl (Mv (Ln Try.underlying35 rfl ?_)))))
      refine g_v (r_neqF rfl rfl (by simp [lvList_len])) (h := ?_)
      refine Pf rfl (Nl (Tn (Cf rfl (Sk (Tn (Sq (Sq (Rg (As (Nl (Tn (Bk ?_))))))))))))
      refine GC_loop (fun m σ w' => ∃ (k : Nat) (τ : Nat → Value), σ = upd (upd (upd (upd (upd τ 0 (.slice A y.length c)) 7 (.int .i64 mo)) 13 (.slice A76 (lvList lv1 y.length).length c76)) 16 (.slice A86 (lvList lv2 y.length).length c86)) 19 (.int .i64 k) ∧ k ≤ y.length ∧ m = y.length - k ∧ Bel w86 w') (y.length) ⟨0, _, has rfl (has rfl (has rfl (has rfl (has rfl rfl)))), Nat.zero_le _, rfl, Below.refl _ _⟩ ?_
      rintro m _ w2 ⟨k, τ, rfl, hk, rfl, hBl⟩
      refine Sq (Sq (Rg (Mv (Mv (Ln Try.underlying35 rfl ?_)))))
      refine g_lss rfl rfl (h1 := fun c127 => ?_) (h2 := fun c127 => ?_)
      · skip
        refine Nl (Tn (Ct rfl (Sk (Tn (Sq (Bk (Sq (Sq ?_))))))))
        have hkl : k < y.length := by omega
        have hBd := hBl.drew
        obtain ⟨ad, hA, h148⟩ := at70 hs (hB86.bel hBd) k hkl
        rw [hA]
        obtain ⟨ad76, hA76, h137⟩ := Kd.at_int (Kd.C_below hC76' hBd) k (by omega) (by rw [lvList_len]; omega)
        rw [hA76]
        obtain ⟨ad86, hA86, h133⟩ := Kd.at_int (Kd.C_below hC86 hBd) k (by omega) (by rw [lvList_len]; omega)
        rw [hA86]
        rw [lvList_rd _ _ _ hkl] at h137 h133
        have hle := hle k hkl
        have hfull := hfull k hkl
        refine GD_start 22 [] (fun w' => w' = w2.drewN 1) (by kernel_rfl) rfl ?_
        refine GD_pure 0 rfl (by kernel_rfl) (by kernel_rfl) (by kernel_rfl) (by kernel_rfl) rfl rfl rfl (qv fun wq hC => by exact r_move) ?_
        refine GD_pure 1 rfl (by kernel_rfl) (by kernel_rfl) (by kernel_rfl) (by kernel_rfl) rfl rfl rfl (qv fun wq hC => by exact r_move) ?_
        refine GD_pure 2 rfl (by kernel_rfl) (by kernel_rfl) (by kernel_rfl) (by kernel_rfl) rfl rfl rfl (qv fun wq hC => by exact r_indexS Try.underlying22 info3 rfl rfl (by omega) (by rw [lvList_len]; omega) (Nat.mul_one _)) ?_
        refine GD_take 3 rfl (by kernel_rfl) (by kernel_rfl) (by kernel_rfl) (by kernel_rfl) rfl rfl rfl (qv fun wq hC => by exact r_load1 rfl Try.underlying3 (by subst hC; exact h133)) ?_
        refine GD_pure 4 rfl (by kernel_rfl) (by kernel_rfl) (by kernel_rfl) (by kernel_rfl) rfl rfl rfl (qv fun wq hC => by exact r_move) ?_
        refine GD_pure 5 rfl (by kernel_rfl) (by kernel_rfl) (by kernel_rfl) (by kernel_rfl) rfl rfl rfl (qv fun wq hC => by exact r_move) ?_
        refine GD_pure 6 rfl (by kernel_rfl) (by kernel_rfl) (by kernel_rfl) (by kernel_rfl) rfl rfl rfl (qv fun wq hC => by exact r_indexS Try.underlying22 info3 rfl rfl (by omega) (by rw [lvList_len]; omega) (Nat.mul_one _)) ?_
        refine GD_take 7 rfl (by kernel_rfl) (by kernel_rfl) (by kernel_rfl) (by kernel_rfl) rfl rfl rfl (qv fun wq hC => by exact r_load1 rfl Try.underlying3 (by subst hC; exact h137)) ?_
        refine GD_pure 8 rfl (by kernel_rfl) (by kernel_rfl) (by kernel_rfl) (by kernel_rfl) rfl rfl rfl (qv fun wq hC => by exact r_gtrF rfl rfl (by omega)) ?_
        refine GD_pure 9 rfl (by kernel_rfl) (by kernel_rfl) (by kernel_rfl) (by kernel_rfl) rfl rfl rfl (qv fun wq hC => by exact r_move) ?_
        refine GD_pure 10 rfl (by kernel_rfl) (by kernel_rfl) (by kernel_rfl) (by kernel_rfl) rfl rfl rfl (qv fun wq hC => by exact r_move) ?_
        refine GD_pure 11 rfl (by kernel_rfl) (by kernel_rfl) (by kernel_rfl) (by kernel_rfl) rfl rfl rfl (qv fun wq hC => by exact r_move) ?_
        refine GD_pure 12 rfl (by kernel_rfl) (by kernel_rfl) (by kernel_rfl) (by kernel_rfl) rfl rfl rfl (qv fun wq hC => by exact r_indexS Try.underlying22 info3 rfl rfl (by omega) (by rw [lvList_len]; omega) (Nat.mul_one _)) ?_
        refine GD_take 13 rfl (by kernel_rfl) (by kernel_rfl) (by kernel_rfl) (by kernel_rfl) rfl rfl rfl (qv fun wq hC => by exact r_load1 rfl Try.underlying3 (by subst hC; exact h137)) ?_
        refine GD_pure 14 rfl (by kernel_rfl) (by kernel_rfl) (by kernel_rfl) (by kernel_rfl) rfl rfl rfl (qv fun wq hC => by exact r_move) ?_
        refine GD_pure 15 rfl (by kernel_rfl) (by kernel_rfl) (by kernel_rfl) (by kernel_rfl) rfl rfl rfl (qv fun wq hC => by exact r_move) ?_
        refine GD_pure 16 rfl (by kernel_rfl) (by kernel_rfl) (by kernel_rfl) (by kernel_rfl) rfl rfl rfl (qv fun wq hC => by exact r_indexS Try.underlying35 info70 rfl rfl (by omega) (by omega) rfl) ?_
        refine GD_pure 17 rfl (by kernel_rfl) (by kernel_rfl) (by kernel_rfl) (by kernel_rfl) rfl rfl rfl (qv fun wq hC => by exact r_fieldAddr f70_1 rfl rfl) ?_
        refine GD_take 18 rfl (by kernel_rfl) (by kernel_rfl) (by kernel_rfl) (by kernel_rfl) rfl rfl rfl (qv fun wq hC => by exact r_load1 rfl Try.underlying3 (by subst hC; exact h148 1 (.int .i64 (yd y k).f1) (by rw [yd_get y k hkl]; rfl))) ?_
        refine GD_take 19 rfl (by kernel_rfl) (by kernel_rfl) (by kernel_rfl) (by kernel_rfl) rfl rfl rfl (qc (fun wq hC => by exact r_call he43 rfl) (fun wq hC => by exact inT_c _ 0 (yd y k).f1 hfull _)) ?_
        refine GD_pure 20 rfl (by kernel_rfl) (by kernel_rfl) (by kernel_rfl) (by kernel_rfl) rfl rfl rfl (qv fun wq hC => by exact r_not rfl) ?_
        skip
        refine GD_pure 21 rfl (by kernel_rfl) (by kernel_rfl) (by kernel_rfl) (by kernel_rfl) rfl rfl rfl (qv fun wq hC => by exact r_pickF rfl) ?_
        refine GD_end (by kernel_rfl) (fun _ => rfl) ?_
        refine Tn (Cf rfl (Sk (Tn (Sq ?_))))
        have hBe := hBd.drew
        have h158 := (Bel.drew (Below.refl (w2.drewN 1).heap.size (w2.drewN 1))).cellk h133
        have h163 := (Bel.drew (Below.refl (w2.drewN 1).heap.size (w2.drewN 1))).cellk (h148 2 (.int .i64 (yd y k).f2) (by rw [yd_get y k hkl]; rfl))
        refine GD_start 14 [] (fun w' => w' = (w2.drewN 1).drewN 1) (by kernel_rfl) rfl ?_
        refine GD_pure 0 rfl (by kernel_rfl) (by kernel_rfl) (by kernel_rfl) (by kernel_rfl) rfl rfl rfl (qv fun wq hC => by exact r_move) ?_
        rcases Decidable.em ((mo : Int) > 0) with c153 | c153
        · skip
          refine GD_pure 1 rfl (by kernel_rfl) (by kernel_rfl) (by kernel_rfl) (by kernel_rfl) rfl rfl rfl (qv fun wq hC => by exact r_gtrT rfl rfl c153) ?_
          refine GD_pure 2 rfl (by kernel_rfl) (by kernel_rfl) (by kernel_rfl) (by kernel_rfl) rfl rfl rfl (qv fun wq hC => by exact r_move) ?_
          refine GD_pure 3 rfl (by kernel_rfl) (by kernel_rfl) (by kernel_rfl) (by kernel_rfl) rfl rfl rfl (qv fun wq hC => by exact r_move) ?_
          refine GD_pure 4 rfl (by kernel_rfl) (by kernel_rfl) (by kernel_rfl) (by kernel_rfl) rfl rfl rfl (qv fun wq hC => by exact r_move) ?_
          refine GD_pure 5 rfl (by kernel_rfl) (by kernel_rfl) (by kernel_rfl) (by kernel_rfl) rfl rfl rfl (qv fun wq hC => by exact r_indexS Try.underlying22 info3 rfl rfl (by omega) (by rw [lvList_len]; omega) (Nat.mul_one _)) ?_
          refine GD_take 6 rfl (by kernel_rfl) (by kernel_rfl) (by kernel_rfl) (by kernel_rfl) rfl rfl rfl (qv fun wq hC => by exact r_load1 rfl Try.underlying3 (by subst hC; exact h158)) ?_
          refine GD_pure 7 rfl (by kernel_rfl) (by kernel_rfl) (by kernel_rfl) (by kernel_rfl) rfl rfl rfl (qv fun wq hC => by exact r_move) ?_
          refine GD_pure 8 rfl (by kernel_rfl) (by kernel_rfl) (by kernel_rfl) (by kernel_rfl) rfl rfl rfl (qv fun wq hC => by exact r_move) ?_
          refine GD_pure 9 rfl (by kernel_rfl) (by kernel_rfl) (by kernel_rfl) (by kernel_rfl) rfl rfl rfl (qv fun wq hC => by exact r_indexS Try.underlying35 info70 rfl rfl (by omega) (by omega) rfl) ?_
          refine GD_pure 10 rfl (by kernel_rfl) (by kernel_rfl) (by kernel_rfl) (by kernel_rfl) rfl rfl rfl (qv fun wq hC => by exact r_fieldAddr f70_2 rfl rfl) ?_
          refine GD_take 11 rfl (by kernel_rfl) (by kernel_rfl) (by kernel_rfl) (by kernel_rfl) rfl rfl rfl (qv fun wq hC => by exact r_load1 rfl Try.underlying3 (by subst hC; exact h163)) ?_
          refine GD_pure 12 rfl (by kernel_rfl) (by kernel_rfl) (by kernel_rfl) (by kernel_rfl) rfl rfl rfl (qv fun wq hC => by exact r_lssF rfl rfl (by have := hline (by omega) k hkl; omega)) ?_
          refine GD_pure 13 rfl (by kernel_rfl) (by kernel_rfl) (by kernel_rfl) (by kernel_rfl) rfl rfl rfl (qv fun wq hC => by exact r_pickT rfl) ?_
          refine GD_end (by kernel_rfl) (fun _ => rfl) ?_
          refine Tn (Cf rfl (Sk (Bn (Tn (Rg (Mv ?_))))))
          refine g_add rfl rfl (by omega) (h := ?_)
          refine As (Nl ?_)
          exact round_end (y.length - (k + 1)) (by omega) ⟨k + 1, _, has rfl (has rfl (has rfl (has rfl (has rfl rfl)))), hkl, rfl, hBe⟩
        · skip
          refine GD_pure 1 rfl (by kernel_rfl) (by kernel_rfl) (by kernel_rfl) (by kernel_rfl) rfl rfl rfl (qv fun wq hC => by exact r_gtrF rfl rfl c153) ?_
          refine GD_pure 2 rfl (by kernel_rfl) (by kernel_rfl) (by kernel_rfl) (by kernel_rfl) rfl rfl rfl (qv fun wq hC => by exact r_move) ?_
          refine GD_off 3 rfl (by kernel_rfl) (by kernel_rfl) (by kernel_rfl) (by kernel_rfl) rfl rfl ?_
          refine GD_off 4 rfl (by kernel_rfl) (by kernel_rfl) (by kernel_rfl) (by kernel_rfl) rfl rfl ?_
          refine GD_off 5 rfl (by kernel_rfl) (by kernel_rfl) (by kernel_rfl) (by kernel_rfl) rfl rfl ?_
          refine GD_off 6 rfl (by kernel_rfl) (by kernel_rfl) (by kernel_rfl) (by kernel_rfl) rfl rfl ?_
          refine GD_off 7 rfl (by kernel_rfl) (by kernel_rfl) (by kernel_rfl) (by kernel_rfl) rfl rfl ?_
          refine GD_off 8 rfl (by kernel_rfl) (by kernel_rfl) (by kernel_rfl) (by kernel_rfl) rfl rfl ?_
          refine GD_off 9 rfl (by kernel_rfl) (by kernel_rfl) (by kernel_rfl) (by kernel_rfl) rfl rfl ?_
          refine GD_off 10 rfl (by kernel_rfl) (by kernel_rfl) (by kernel_rfl) (by kernel_rfl) rfl rfl ?_
          refine GD_off 11 rfl (by kernel_rfl) (by kernel_rfl) (by kernel_rfl) (by kernel_rfl) rfl rfl ?_
          refine GD_off 12 rfl (by kernel_rfl) (by kernel_rfl) (by kernel_rfl) (by kernel_rfl) rfl rfl ?_
          refine GD_pure 13 rfl (by kernel_rfl) (by kernel_rfl) (by kernel_rfl) (by kernel_rfl) rfl rfl rfl (qv fun wq hC => by exact r_pickF rfl) ?_
          refine GD_end (by kernel_rfl) (fun _ => rfl) ?_
          refine Tn (Cf rfl (Sk (Bn (Tn (Rg (Mv ?_))))))
          refine g_add rfl rfl (by omega) (h := ?_)
          refine As (Nl ?_)
          exact round_end (y.length - (k + 1)) (by omega) ⟨k + 1, _, has rfl (has rfl (has rfl (has rfl (has rfl rfl)))), hkl, rfl, hBe⟩
      · skip
        refine Nl (Tn (Cf rfl (Xi (Tx (Tx (Bs (Tn (Sq (Rg ?_)))))))))
        refine g_call he21 rfl (works_c _) (h := ?_)
        rintro e w166 ⟨rfl, hb166⟩
        refine ⟨_, rfl, ?_⟩
        refine As (Nl (Tn (Rt ?_)))
        exact ret1 rfl ⟨rfl, (hB86.bel hBl).bel hb166⟩
  | false =>
    skip
    refine Nt rfl (Nl (Tn (Ct rfl (Sq (Rg ?_)))))
    refine g_call he21 rfl (works_c _) (h := ?_)
    rintro e w23 ⟨rfl, hb23⟩
    refine ⟨_, rfl, ?_⟩
    refine As (Nl (Tn (Rt (Tr ?_))))
    exact ret1 rfl ⟨rfl, hb21.bel hb23⟩
end Go.Proofs.B
