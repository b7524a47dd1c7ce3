/- barrel: the law BarrelKeeps, walked. -/
import Derived.Test.YtpfoleggapngoaaB28
import Derived.Test.YtpfoleggapngoaaB41
set_option linter.unusedVariables false
set_option linter.unusedSimpArgs false
set_option maxRecDepth 10000
namespace Go.Proofs.B
open Go Go.RowKit Go.Proofs Go.Proofs.G Go.Proofs.F Go.Proofs.YtpfoleggapngoaaW.PrintWords
theorem firstGo_code (y : List S70) : ∀ (n : Nat) (m : Int) (lv : Nat → Int), (firstGo y n m lv).2.2 = 0 ∨ (firstGo y n m lv).2.2 = 4
  | 0, m, lv => .inr rfl
  | n + 1, m, lv => by
    unfold firstGo
    split
    · exact .inl rfl
    · exact firstGo_code y n _ _
/-- What the third answer of First says. -/
theorem firstL_code (y : List S70) (months : Int) : (yardOk y = true ∧ (0 ≤ months ∧ months ≤ 12) ∧ ((firstL y months).2.2 = 0 ∨ (firstL y months).2.2 = 4)) ∨ (yardOk y = true ∧ ¬ (0 ≤ months ∧ months ≤ 12) ∧ (firstL y months).2.2 = 62) ∨ (¬ yardOk y = true ∧ (firstL y months).2.2 = 61) := by
  unfold firstL
  by_cases h : yardOk y = true
  · rw [if_pos h]
    by_cases h2 : 0 ≤ months ∧ months ≤ 12
    · rw [if_pos h2]; exact .inl ⟨h, h2, firstGo_code _ _ _ _⟩
    · rw [if_neg h2]; exact .inr (.inl ⟨h, h2, rfl⟩)
  · rw [if_neg h]; exact .inr (.inr ⟨h, rfl⟩)
theorem keeps_bad {y : List S70} {months code : Int} {plan : List Int} (h : KeepRes y months code plan) (h0 : (firstL y months).2.2 ≠ 0) (h4 : (firstL y months).2.2 ≠ 4) : code = (firstL y months).2.2 ∧ plan = [] := by
  rcases firstL_code y months with ⟨h1, h2, h3⟩ | ⟨h1, h2, h3⟩ | ⟨h1, h3⟩
  · omega
  · rw [h3]
    rcases h with ⟨_, h5, _⟩ | ⟨_, _, h5, h6⟩ | ⟨h5, _⟩
    · exact absurd h5 h2
    · exact ⟨h5, h6⟩
    · exact absurd h1 h5
  · rw [h3]
    rcases h with ⟨h5, _⟩ | ⟨h5, _⟩ | ⟨_, h5, h6⟩
    · exact absurd h5 h1
    · exact absurd h5 h1
    · exact ⟨h5, h6⟩
theorem keeps_ok {y : List S70} {months : Int} (h : (firstL y months).2.2 = 0 ∨ (firstL y months).2.2 = 4) : yardOk y = true ∧ ∃ mo : Nat, months = mo ∧ mo ≤ 12 := by
  rcases firstL_code y months with ⟨h1, h2, h3⟩ | ⟨h1, h2, h3⟩ | ⟨h1, h3⟩
  · exact ⟨h1, months.toNat, by omega, by omega⟩
  · omega
  · omega
theorem keeps_two {y : List S70} {mo : Nat} {code : Int} {plan : List Int} (h : KeepRes y mo code plan) (hy : yardOk y = true) (h12 : mo ≤ 12) : (KF y mo (begF y) → code = 0 ∧ (plan.length : Int) = mo ∧ okPlan y (begF y) plan) ∧ (¬ KF y mo (begF y) → code = 4 ∧ plan = []) := by
  rcases h with ⟨_, _, ⟨h1, h2, h3⟩ | ⟨h1, h2, h3⟩⟩ | ⟨_, h5, _⟩ | ⟨h5, _⟩
  · exact ⟨fun _ => ⟨h1, by omega, h3⟩, fun hn => absurd ⟨plan, by omega, h3⟩ hn⟩
  · exact ⟨fun hk => absurd (by simpa using h3) (kf_bad.1 hk), fun _ => ⟨h1, h2⟩⟩
  · exact absurd (by omega) h5
  · exact absurd hy h5
set_option maxHeartbeats 8000000 in
theorem barrelKeeps_c (A : Option Addr) (c : Nat) (y : List S70) (months : Int) (w : World) (hs : k70.C w A y.length y) (_ : (Lit.int IntKind.i64 months).wf = true) :
    Calls Try.prog 5 #[.slice A y.length c, .int .i64 months] w fun e w' => e = .returned (.bool true) ∧ Bel w w' := by
  refine G_enter (l := [.slice A y.length c, .int .i64 months]) Try.func5 rfl rfl ?_
  refine Sq (Rg (As (Nl (Tn (Sq (Rg (Mv (Mv ?_))))))))
  refine g_call he28 rfl (first_c A c y months _ hs) (h := ?_)
  rintro e w16 ⟨rfl, hb16⟩
  refine ⟨_, rfl, ?_⟩
  refine Mv (Xt rfl rfl (Xt rfl rfl (Xt rfl rfl (As (As (As (Nl (Tn (Sq (Rg (Mv (Mv ?_))))))))))))
  refine g_call he29 rfl (firstR_c A c y months _ (Kd.C_below hs hb16)) (h := ?_)
  rintro e w23 ⟨rfl, hb23⟩
  refine ⟨_, rfl, ?_⟩
  have hB23 := hb16.bel hb23
  refine Mv (Xt rfl rfl (Xt rfl rfl (Xt rfl rfl (As (As (As (Nl (Tn (Sq (Rg (Mv (Mv ?_))))))))))))
  refine g_call he30 rfl (keep_c A c y months _ (Kd.C_below hs hB23)) (h := ?_)
  rintro e w30 ⟨v30, code, plan, rfl, ⟨A30, c30, rfl, hC30, hc30⟩, hkr, hb30⟩
  refine ⟨_, rfl, ?_⟩
  have hB30 := hB23.bel hb30
  have hbad := keeps_bad hkr
  have hgood := keeps_ok (y := y) (months := months)
  generalize (firstL y months).2.2 = f at *
  generalize (firstL y months).2.1 = f1 at *
  generalize (firstL y months).1 = f0 at *
  refine Mv (Xt rfl rfl (Xt rfl rfl (As (As (Nl (Tn (Sq (Sq (Rg (Mv (Mv ?_)))))))))))
  refine g_v (r_neqF rfl rfl (fun h => h rfl)) (h := ?_)
  refine Mv (Mv (Mv ?_))
  refine g_v (r_neqF rfl rfl (fun h => h rfl)) (h := ?_)
  refine Pf rfl (Mv (Mv (Mv ?_)))
  refine g_v (r_neqF rfl rfl (fun h => h rfl)) (h := ?_)
  refine Pf rfl (Nl (Tn (Cf rfl (Sk (Tn (Sq (Sq (Rg (Mv ?_)))))))))
  refine g_neq rfl rfl (h1 := fun c47 => ?_) (h2 := fun c47 => ?_)
  · skip
    refine Mv (Mv ?_)
    refine g_neq rfl rfl (h1 := fun c50 => ?_) (h2 := fun c50 => ?_)
    · skip
      have hbb := hbad c47 c50
      refine Pt rfl (Nl (Tn (Ct rfl (Sq (Rg (Mv (Mv ?_)))))))
      refine g_v (r_eqlT rfl rfl (hbb.1)) (h := ?_)
      refine Mv (Mv (Ln Try.underlying22 rfl ?_))
      refine g_v (r_eqlT rfl rfl (by rw [hbb.2]; rfl)) (h := ?_)
      refine Pt rfl (Mv ?_)
      refine g_call he21 rfl (works_c _) (h := ?_)
      rintro e w61 ⟨rfl, hb61⟩
      refine ⟨_, rfl, ?_⟩
      refine Pt rfl (As (Nl (Tn (Rt (Tr ?_)))))
      exact ret1 rfl ⟨rfl, hB30.bel hb61⟩
    · skip
      have hg := hgood (.inr c50)
      obtain ⟨hy, mo, rfl, h12⟩ := hg
      have htwo := keeps_two hkr hy h12
      refine Pt rfl (Nl (Tn (Cf rfl (Sk (Tn (Sq (Sq (Rg (Mv (Mv ?_))))))))))
      refine g_call he31 rfl (kept_c A c y mo _ (Kd.C_below hs hB30) hy h12) (h := ?_)
      rintro e w65 ⟨b65, rfl, hb65, hbe65⟩
      refine ⟨_, rfl, ?_⟩
      have hB65 := hB30.bel hbe65
      cases q65 : b65 with
      | true =>
        have hk := htwo.1 (hb65.1 q65)
        refine Nt rfl (Nl (Tn (Cf rfl (Sk (Tn (Sq (Rg (Mv ?_))))))))
        refine g_v (r_eqlT rfl rfl (hk.1)) (h := ?_)
        refine Mv (Mv (Ln Try.underlying22 rfl (Mv ?_)))
        refine g_v (r_eqlT rfl rfl (hk.2.1)) (h := ?_)
        refine Pt rfl (Mv (Mv (Mv ?_)))
        refine g_call he32 rfl (keeps_c A A30 c c30 y plan _ (Kd.C_below hs hB65) (Kd.C_below hC30 hbe65) hy hk.2.2) (h := ?_)
        rintro e w88 ⟨rfl, hb88⟩
        refine ⟨_, rfl, ?_⟩
        refine Pt rfl (Mv ?_)
        refine g_call he21 rfl (works_c _) (h := ?_)
        rintro e w91 ⟨rfl, hb91⟩
        refine ⟨_, rfl, ?_⟩
        refine Pt rfl (As (Nl (Tn (Rt ?_))))
        exact ret1 rfl ⟨rfl, hB65.bel (hb88.bel hb91)⟩
      | false =>
        have hk := htwo.2 (fun h => by rw [hb65.2 h] at q65; cases q65)
        refine Nt rfl (Nl (Tn (Ct rfl (Sq (Rg (Mv ?_))))))
        refine g_v (r_eqlT rfl rfl (hk.1)) (h := ?_)
        refine Mv (Mv (Ln Try.underlying22 rfl ?_))
        refine g_v (r_eqlT rfl rfl (by rw [hk.2]; rfl)) (h := ?_)
        refine Pt rfl (Mv ?_)
        refine g_call he21 rfl (works_c _) (h := ?_)
        rintro e w75 ⟨rfl, hb75⟩
        refine ⟨_, rfl, ?_⟩
        refine Pt rfl (As (Nl (Tn (Rt (Tr ?_)))))
        exact ret1 rfl ⟨rfl, hB65.bel hb75⟩
  · skip
    have hg := hgood (.inl c47)
    obtain ⟨hy, mo, rfl, h12⟩ := hg
    have htwo := keeps_two hkr hy h12
    refine Mv (Of (Of (Pf rfl (Nl (Tn (Cf rfl (Sk (Tn (Sq (Sq (Rg (Mv (Mv ?_)))))))))))))
    refine g_call he31 rfl (kept_c A c y mo _ (Kd.C_below hs hB30) hy h12) (h := ?_)
    rintro e w65 ⟨b65, rfl, hb65, hbe65⟩
    refine ⟨_, rfl, ?_⟩
    have hB65 := hB30.bel hbe65
    cases q65 : b65 with
    | true =>
      have hk := htwo.1 (hb65.1 q65)
      refine Nt rfl (Nl (Tn (Cf rfl (Sk (Tn (Sq (Rg (Mv ?_))))))))
      refine g_v (r_eqlT rfl rfl (hk.1)) (h := ?_)
      refine Mv (Mv (Ln Try.underlying22 rfl (Mv ?_)))
      refine g_v (r_eqlT rfl rfl (hk.2.1)) (h := ?_)
      refine Pt rfl (Mv (Mv (Mv ?_)))
      refine g_call he32 rfl (keeps_c A A30 c c30 y plan _ (Kd.C_below hs hB65) (Kd.C_below hC30 hbe65) hy hk.2.2) (h := ?_)
      rintro e w88 ⟨rfl, hb88⟩
      refine ⟨_, rfl, ?_⟩
      refine Pt rfl (Mv ?_)
      refine g_call he21 rfl (works_c _) (h := ?_)
      rintro e w91 ⟨rfl, hb91⟩
      refine ⟨_, rfl, ?_⟩
      refine Pt rfl (As (Nl (Tn (Rt ?_))))
      exact ret1 rfl ⟨rfl, hB65.bel (hb88.bel hb91)⟩
    | false =>
      have hk := htwo.2 (fun h => by rw [hb65.2 h] at q65; cases q65)
      refine Nt rfl (Nl (Tn (Ct rfl (Sq (Rg (Mv ?_))))))
      refine g_v (r_eqlT rfl rfl (hk.1)) (h := ?_)
      refine Mv (Mv (Ln Try.underlying22 rfl ?_))
      refine g_v (r_eqlT rfl rfl (by rw [hk.2]; rfl)) (h := ?_)
      refine Pt rfl (Mv ?_)
      refine g_call he21 rfl (works_c _) (h := ?_)
      rintro e w75 ⟨rfl, hb75⟩
      refine ⟨_, rfl, ?_⟩
      refine Pt rfl (As (Nl (Tn (Rt (Tr ?_)))))
      exact ret1 rfl ⟨rfl, hB65.bel hb75⟩
end Go.Proofs.B
