/- barrel: the examples, walked. -/
import Derived.Test.YtpfoleggapngoaaB27
set_option linter.unusedVariables false
set_option linter.unusedSimpArgs false
set_option maxRecDepth 10000
namespace Go.Proofs.B
open Go Go.RowKit Go.Proofs Go.Proofs.G Go.Proofs.F Go.Proofs.YtpfoleggapngoaaW.PrintWords
set_option maxHeartbeats 8000000 in
theorem works_c (w : World) : Calls Try.prog 21 #[] w fun e w' => e = .returned (.bool true) ∧ Bel w w' := by
  refine G_enter (l := []) Try.func21 rfl rfl ?_
  refine Sq (Rg (As (Nl (Tn (Sq (Rg ?_))))))
  refine g_call he59 rfl (pile_c _) (h := ?_)
  rintro e w17 ⟨g17, rfl, HR17, hB17⟩
  refine ⟨_, rfl, ?_⟩
  refine g_lits (bs22_2 _ _ _) rfl (h := fun g18 w18 N18 => ?_)
  refine g_lits (bs22_2 _ _ _) rfl (h := fun g19 w19 N19 => ?_)
  refine g_lits (bs25_2 _ _ _ _ _ _ _) rfl (h := fun g20 w20 N20 => ?_)
  have hB20 := ((hB17.new N18).new N19).new N20
  have hb20 := ((Bel.of_new N18).new N19).new N20
  have hrow20 : kRow.C w20 (some ⟨g20, 0, none⟩) 2 [[1, 2], [3, 5]] := litC2 (x := [1, 2]) (y := [3, 5]) (litC (kN (kN N18.at_ N19) N20) (by decide)) (litC (kN N19.at_ N20) (by decide)) (Nat.le_refl 2) (Nat.le_refl 2) N20.at_
  refine g_call he16 rfl (are_ex (some ⟨g17, 0, none⟩) (some ⟨g20, 0, none⟩) 7 2 w20 (Kd.C_below (Kd.R_reads' HR17).2.2 hb20) hrow20) (h := ?_)
  rintro e w21 ⟨rfl, hb21⟩
  refine ⟨_, rfl, ?_⟩
  have hB21 := hB20.bel hb21
  refine Mv (Xt rfl rfl (Xt rfl rfl (As (As (Nl (Tn (Sq (Rg ?_))))))))
  refine g_call he59 rfl (pile_c _) (h := ?_)
  rintro e w25 ⟨g25, rfl, HR25, hb25⟩
  refine ⟨_, rfl, ?_⟩
  refine g_call he20 rfl (set_ex (some ⟨g25, 0, none⟩) 7 w25 (Kd.R_reads' HR25).2.2) (h := ?_)
  rintro e w26 ⟨⟨A26, rfl⟩, hb26⟩
  refine ⟨_, rfl, ?_⟩
  have hB26 := (hB21.bel hb25).bel hb26
  refine Mv (Xt rfl rfl (Xt rfl rfl (As (As (Nl (Tn (Sq (Rg ?_))))))))
  refine g_call he60 rfl (yard_c _) (h := ?_)
  rintro e w30 ⟨g30, rfl, HR30, hb30⟩
  refine ⟨_, rfl, ?_⟩
  refine g_lits (bs22_2 _ _ _) rfl (h := fun g31 w31 N31 => ?_)
  refine g_lits (bs22_2 _ _ _) rfl (h := fun g32 w32 N32 => ?_)
  refine g_lits (bs22_2 _ _ _) rfl (h := fun g33 w33 N33 => ?_)
  refine g_lits (bs25_2 _ _ _ _ _ _ _) rfl (h := fun g34 w34 N34 => ?_)
  have hb34 := (((Bel.of_new N31).new N32).new N33).new N34
  have hB34 := (hB26.bel hb30).bel hb34
  refine g_call he23 rfl (runEx_c (some ⟨g30, 0, none⟩) (some ⟨g31, 0, none⟩) (some ⟨g34, 0, none⟩) 2 2 2 w34 (Kd.C_below (Kd.R_reads' HR30).2.2 hb34) (litC (xs := [1, 0]) (kN (kN (kN N31.at_ N32) N33) N34) (by decide)) (litC2 (x := [10, 8]) (y := [5, 2]) (litC (kN (kN N32.at_ N33) N34) (by decide)) (litC (kN N33.at_ N34) (by decide)) (Nat.le_refl 2) (Nat.le_refl 2) N34.at_)) (h := ?_)
  rintro e w35 ⟨A35, c35, rfl, hC35, hb35⟩
  refine ⟨_, rfl, ?_⟩
  have hB35 := hB34.bel hb35
  refine Mv (Xt rfl rfl (Xt rfl rfl (Xt rfl rfl (As (As (As (Nl (Tn (Sq (Rg ?_))))))))))
  refine g_call he60 rfl (yard_c _) (h := ?_)
  rintro e w40 ⟨g40, rfl, HR40, hb40⟩
  refine ⟨_, rfl, ?_⟩
  refine g_call he28 rfl (firstEx_c (some ⟨g40, 0, none⟩) 2 w40 (Kd.R_reads' HR40).2.2) (h := ?_)
  rintro e w41 ⟨rfl, hb41⟩
  refine ⟨_, rfl, ?_⟩
  refine Mv (Xt rfl rfl (Xt rfl rfl (Xt rfl rfl (As (As (As (Nl (Tn (Sq (Rg ?_))))))))))
  refine g_call he60 rfl (yard_c _) (h := ?_)
  rintro e w46 ⟨g46, rfl, HR46, hb46⟩
  refine ⟨_, rfl, ?_⟩
  refine g_call he30 rfl (keepEx_c (some ⟨g46, 0, none⟩) 2 w46 (Kd.R_reads' HR46).2.2) (h := ?_)
  rintro e w47 ⟨⟨A47, c47, rfl⟩, hb47⟩
  refine ⟨_, rfl, ?_⟩
  have hb3547 := ((hb40.bel hb41).bel hb46).bel hb47
  have hB47 := hB35.bel hb3547
  have hC47 := Kd.C_below hC35 hb3547
  refine Mv (Xt rfl rfl (Xt rfl rfl (As (As (Nl (Tn (Sq (Sq (Rg (Mv ?_))))))))))
  refine g_v (r_neqF rfl rfl (by decide)) (h := ?_)
  refine Mv (Mv ?_)
  refine g_v (r_neqF rfl rfl (by decide)) (h := ?_)
  refine Pf rfl (Mv (Mv ?_))
  refine g_v (r_neqF rfl rfl (by decide)) (h := ?_)
  refine Pf rfl (Mv (Mv ?_))
  refine g_v (r_neqF rfl rfl (by decide)) (h := ?_)
  refine Pf rfl (Mv (Mv ?_))
  refine g_v (r_neqF rfl rfl (by decide)) (h := ?_)
  refine Pf rfl (Mv (Mv (Nt rfl (Pf rfl (Mv (Mv (Ln Try.underlying25 rfl ?_)))))))
  refine g_v (r_neqF rfl rfl (by decide)) (h := ?_)
  refine Pf rfl (Mv (Mv ?_))
  refine g_lits (bs22_2 _ _ _) rfl (h := fun g79 w79 N79 => ?_)
  have hB79 := hB47.new N79
  refine g_call he25 rfl (sameEx_c A35 (some ⟨g79, 0, none⟩) c35 2 2 [60, 58] w79 rfl (Kd.C_below hC47 (Bel.of_new N79)) (litC (xs := [60, 58]) N79.at_ (by decide))) (h := ?_)
  rintro e w80 ⟨rfl, hb80⟩
  refine ⟨_, rfl, ?_⟩
  have hB80 := hB79.bel hb80
  refine Nt rfl (Pf rfl (Mv (Mv ?_)))
  refine g_v (r_neqF rfl rfl (by decide)) (h := ?_)
  refine Pf rfl (Mv (Mv ?_))
  refine g_v (r_neqF rfl rfl (by decide)) (h := ?_)
  refine Pf rfl (Mv (Mv ?_))
  refine g_v (r_neqF rfl rfl (by decide)) (h := ?_)
  refine Pf rfl (Mv (Mv (Ln Try.underlying22 rfl ?_)))
  refine g_v (r_neqF rfl rfl (by decide)) (h := ?_)
  refine Pf rfl (Nl (Tn (Cf rfl (Sk (Tn (Sq (Rg ?_)))))))
  refine g_call he61 rfl (book_c 9 _) (h := ?_)
  rintro e w101 ⟨g101, rfl, HR101, hb101⟩
  refine ⟨_, rfl, ?_⟩
  refine g_call he37 rfl (balEx_c (some ⟨g101, 0, none⟩) 4 w101 (Kd.R_reads' HR101).2.2) (h := ?_)
  rintro e w102 ⟨A102, rfl, hC102, hb102⟩
  refine ⟨_, rfl, ?_⟩
  have hB102 := (hB80.bel hb101).bel hb102
  refine Mv (Xt rfl rfl (Xt rfl rfl (As (As (Nl (Tn (Sq (Rg ?_))))))))
  refine g_call he61 rfl (book_c 4 _) (h := ?_)
  rintro e w106 ⟨g106, rfl, HR106, hb106⟩
  refine ⟨_, rfl, ?_⟩
  refine g_call he52 rfl (provesEx_c (some ⟨g106, 0, none⟩) 4 w106 (Kd.R_reads' HR106).2.2) (h := ?_)
  rintro e w107 ⟨rfl, hb107⟩
  refine ⟨_, rfl, ?_⟩
  refine Mv (Xt rfl rfl (Xt rfl rfl (As (As (Nl (Tn (Sq (Rg ?_))))))))
  refine g_call he61 rfl (book_c 9 _) (h := ?_)
  rintro e w111 ⟨g111, rfl, HR111, hb111⟩
  refine ⟨_, rfl, ?_⟩
  refine g_lits (bs22_4 _ _ _ _ _) rfl (h := fun g112 w112 N112 => ?_)
  refine g_call he33 rfl (countsEx_c (some ⟨g111, 0, none⟩) (some ⟨g112, 0, none⟩) 4 4 w112 (Kd.C_below (Kd.R_reads' HR111).2.2 (Bel.of_new N112)) (litC (xs := [11, 8, 3, 8]) N112.at_ (by decide))) (h := ?_)
  rintro e w113 ⟨rfl, hb113⟩
  refine ⟨_, rfl, ?_⟩
  have hb113' := ((((hb106.bel hb107).bel hb111).new N112).bel hb113)
  have hB113 := hB102.bel hb113'
  refine Mv (Xt rfl rfl (Xt rfl rfl (As (As (Nl (Tn (Sq (Rg (Mv ?_)))))))))
  refine g_v (r_eqlT rfl rfl (by decide)) (h := ?_)
  refine Mv (Mv ?_)
  refine g_v (r_eqlT rfl rfl (by decide)) (h := ?_)
  refine Pt rfl (Mv (Mv ?_))
  refine g_v (r_eqlT rfl rfl (by decide)) (h := ?_)
  refine Pt rfl (Mv (Mv (Pt rfl (Mv (Mv (Pt rfl (Mv (Mv ?_))))))))
  refine g_call he51 rfl (to_c 10 13 _) (h := ?_)
  rintro e w134 ⟨rfl, hb134⟩
  refine ⟨_, rfl, ?_⟩
  refine g_call he51 rfl (to_c 6 9 _) (h := ?_)
  rintro e w135 ⟨rfl, hb135⟩
  refine ⟨_, rfl, ?_⟩
  refine g_call he51 rfl (to_c 2 4 _) (h := ?_)
  rintro e w136 ⟨rfl, hb136⟩
  refine ⟨_, rfl, ?_⟩
  refine g_call he51 rfl (to_c 6 9 _) (h := ?_)
  rintro e w137 ⟨rfl, hb137⟩
  refine ⟨_, rfl, ?_⟩
  refine g_lits (bs52_4 _ _ _ _ _ _ _ _ _) rfl (h := fun g138 w138 N138 => ?_)
  have hb138 := (((hb134.bel hb135).bel hb136).bel hb137).new N138
  refine g_call he39 rfl (spansEx_c A102 (some ⟨g138, 0, none⟩) 4 4 4 spansL w138 rfl (Kd.C_below hC102 (hb113'.bel hb138)) (spansC N138)) (h := ?_)
  rintro e w139 ⟨rfl, hb139⟩
  refine ⟨_, rfl, ?_⟩
  refine Pt rfl (As (Nl (Tn (Rt ?_))))
  exact ret1 rfl ⟨rfl, (hB113.bel hb138).bel hb139⟩
end Go.Proofs.B
