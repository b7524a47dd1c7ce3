/- barrel: the law BarrelRuns, walked. -/
import Derived.Test.YtpfoleggapngoaaB28
import Derived.Test.YtpfoleggapngoaaB30
set_option linter.unusedVariables false
set_option linter.unusedSimpArgs false
set_option maxRecDepth 10000
namespace Go.Proofs.B
open Go Go.RowKit Go.Proofs Go.Proofs.G Go.Proofs.F Go.Proofs.YtpfoleggapngoaaW.PrintWords
theorem barrelRuns_c (A : Option Addr) (c : Nat) (y : List S70) (A1 : Option Addr) (c1 : Nat) (plan : List Int) (A2 : Option Addr) (c2 : Nat) (leaks : List (List Int)) (w : World) (hs : k70.C w A y.length y) (hp : (Kd.int .i64).C w A1 plan.length plan) (_ : plan.length * 8 ≤ 140737488351232) (hl : kRow.C w A2 leaks.length leaks) :
    Calls Try.prog 4 #[.slice A y.length c, .slice A1 plan.length c1, .slice A2 leaks.length c2] w fun e w' => e = .returned (.bool true) ∧ Bel w w' := by
  refine G_enter (l := [.slice A y.length c, .slice A1 plan.length c1, .slice A2 leaks.length c2]) Try.func4 rfl rfl ?_
  refine Sq (Rg (As (Nl (Tn (Sq (Rg (Mv (Mv (Mv ?_)))))))))
  refine g_call he23 rfl (run_c A A1 A2 c c1 c2 y plan leaks _ hs hp hl) (h := ?_)
  rintro e w17 ⟨v17, rfl, HR17, hb17⟩
  refine ⟨_, rfl, ?_⟩
  obtain ⟨A17, c17, rfl, _, hC17⟩ := Kd.R_reads HR17
  refine Mv (Xt rfl rfl (Xt rfl rfl (Xt rfl rfl (As (As (As (Nl (Tn (Sq (Rg (Mv (Mv (Mv ?_)))))))))))))
  refine g_call he24 rfl (runR_c A A1 A2 c c1 c2 y plan leaks _ (Kd.C_below hs hb17) (Kd.C_below hp hb17) (Kd.C_below hl hb17)) (h := ?_)
  rintro e w25 ⟨v25, rfl, HR25, hb25⟩
  refine ⟨_, rfl, ?_⟩
  obtain ⟨A25, c25, rfl, _, hC25⟩ := Kd.R_reads HR25
  have hB25 := hb17.bel hb25
  refine Mv (Xt rfl rfl (Xt rfl rfl (Xt rfl rfl (As (As (As (Nl (Tn (Sq (Rg (Mv (Mv ?_))))))))))))
  refine g_call he25 rfl (sameEx_c A17 A25 c17 c25 _ (runL y plan leaks).1 _ rfl (Kd.C_below hC17 hb25) hC25) (h := ?_)
  rintro e w31 ⟨rfl, hb31⟩
  refine ⟨_, rfl, ?_⟩
  have hB31 := hB25.bel hb31
  refine Mv (Mv (Mv ?_))
  refine g_v (r_eqlT rfl rfl (rfl)) (h := ?_)
  refine Pt rfl (Mv (Mv (Mv ?_)))
  refine g_v (r_eqlT rfl rfl (rfl)) (h := ?_)
  refine Pt rfl (Mv (Mv ?_))
  refine g_call he26 rfl (checkYard_c A c y _ (Kd.C_below hs hB31)) (h := ?_)
  rintro e w44 ⟨rfl, hb44⟩
  refine ⟨_, rfl, ?_⟩
  have hB44 := hB31.bel hb44
  refine Mv ?_
  refine g_call he27 rfl (checkYardR_c A c y _ (Kd.C_below hs hB44)) (h := ?_)
  rintro e w46 ⟨rfl, hb46⟩
  refine ⟨_, rfl, ?_⟩
  have hB46 := hB44.bel hb46
  refine g_v (r_eqlT rfl rfl (rfl)) (h := ?_)
  refine Pt rfl (Mv ?_)
  refine g_call he21 rfl (works_c _) (h := ?_)
  rintro e w50 ⟨rfl, hb50⟩
  refine ⟨_, rfl, ?_⟩
  refine Pt rfl (As (Nl (Tn (Rt ?_))))
  exact ret1 rfl ⟨rfl, hB46.bel hb50⟩
end Go.Proofs.B
