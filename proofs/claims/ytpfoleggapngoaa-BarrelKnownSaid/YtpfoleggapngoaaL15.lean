/- barrel: the law BarrelKnown, walked. -/
import Derived.Test.YtpfoleggapngoaaB53
set_option linter.unusedVariables false
set_option linter.unusedSimpArgs false
set_option maxRecDepth 10000
namespace Go.Proofs.B
open Go Go.RowKit Go.Proofs Go.Proofs.G Go.Proofs.F Go.Proofs.T Go.Proofs.YtpfoleggapngoaaW.PrintWords
set_option maxHeartbeats 40000000 in
theorem barrelKnown_c (w : World) : Calls Try.prog 15 #[] w fun e w' => e = .returned (.bool true) ∧ Bel w w' := by
  refine G_enter (l := []) Try.func15 rfl rfl ?_
  refine Sq (Rg (As (Nl (Tn (Sq (Rg ?_))))))
  refine g_bld (build24_0 _) rfl (h := ?_)
  refine g_call he59 rfl (pileX_c _) (h := ?_)
  rintro e w66 ⟨g66, rfl, Q1, b66, hb66⟩
  refine ⟨_, rfl, ?_⟩
  have hB := hb66
  have o1 := blt Q1
  refine g_call he59 rfl (pileX_c _) (h := ?_)
  rintro e w67 ⟨g67, rfl, Q2, b67, hb67⟩
  refine ⟨_, rfl, ?_⟩
  have hB := hB.bel hb67
  have o2 := blt Q2
  have Q1 := kB Q1 hb67
  refine g_call he59 rfl (pileX_c _) (h := ?_)
  rintro e w68 ⟨g68, rfl, Q3, b68, hb68⟩
  refine ⟨_, rfl, ?_⟩
  have hB := hB.bel hb68
  have o3 := blt Q3
  have Q1 := kB Q1 hb68
  have Q2 := kB Q2 hb68
  refine g_call he59 rfl (pileX_c _) (h := ?_)
  rintro e w69 ⟨g69, rfl, Q4, b69, hb69⟩
  refine ⟨_, rfl, ?_⟩
  have hB := hB.bel hb69
  have o4 := blt Q4
  have Q1 := kB Q1 hb69
  have Q2 := kB Q2 hb69
  have Q3 := kB Q3 hb69
  refine g_call he59 rfl (pileX_c _) (h := ?_)
  rintro e w70 ⟨g70, rfl, Q5, b70, hb70⟩
  refine ⟨_, rfl, ?_⟩
  have hB := hB.bel hb70
  have o5 := blt Q5
  have Q1 := kB Q1 hb70
  have Q2 := kB Q2 hb70
  have Q3 := kB Q3 hb70
  have Q4 := kB Q4 hb70
  refine g_lits (bs92_6 _ _ _ _ _ _) rfl (h := fun g71 w71 N71 => ?_)
  have hB := hB.new N71
  have o6 := N71.ge
  have Q1 := kN Q1 N71
  have Q2 := kN Q2 N71
  have Q3 := kN Q3 N71
  have Q4 := kN Q4 N71
  have Q5 := kN Q5 N71
  have K := N71.at_
  refine As (Nl (Tn (Sq (Rg (Mv ?_)))))
  refine g_indexO Try.underlying92 info24 rfl rfl  (by omega) (by omega) rfl (h := ?_)
  refine Fb f24_0 rfl (L1 Try.underlying22 (cellAt K rfl) rfl ?_)
  refine g_indexO Try.underlying22 info3 rfl rfl  (by omega) (by omega) (Nat.mul_one _) (h := ?_)
  refine g_store1 rfl rfl info3 Q1 (Nat.le_of_ble_eq_true rfl) rfl (h := fun w76 P76 => ?_)
  have Q1 : w76.heap[g66]? = some (.cells #[.int .i64 30, .int .i64 40, .int .i64 50, .int .i64 0, .int .i64 45, .int .i64 60, .int .i64 25] 3 (0, 0)) := P76.at_
  have Q2 := kP Q2 P76 (by omega)
  have Q3 := kP Q3 P76 (by omega)
  have Q4 := kP Q4 P76 (by omega)
  have Q5 := kP Q5 P76 (by omega)
  have K := kP K P76 (by omega)
  have hB := hB.put P76 (by omega)
  refine Nl (Tn (Sq (Rg (Mv ?_))))
  refine g_indexO Try.underlying92 info24 rfl rfl  (by omega) (by omega) rfl (h := ?_)
  refine Fb f24_0 rfl (L1 Try.underlying22 (cellAt K rfl) rfl ?_)
  refine g_indexO Try.underlying22 info3 rfl rfl  (by omega) (by omega) (Nat.mul_one _) (h := ?_)
  refine g_store1 rfl rfl info3 Q2 (Nat.le_of_ble_eq_true rfl) rfl (h := fun w81 P81 => ?_)
  have Q2 : w81.heap[g67]? = some (.cells #[.int .i64 30, .int .i64 40, .int .i64 50, .int .i64 501, .int .i64 45, .int .i64 60, .int .i64 25] 3 (0, 0)) := P81.at_
  have Q1 := kP Q1 P81 (by omega)
  have Q3 := kP Q3 P81 (by omega)
  have Q4 := kP Q4 P81 (by omega)
  have Q5 := kP Q5 P81 (by omega)
  have K := kP K P81 (by omega)
  have hB := hB.put P81 (by omega)
  refine Nl (Tn (Sq (Rg (Mv ?_))))
  refine g_indexO Try.underlying92 info24 rfl rfl  (by omega) (by omega) rfl (h := ?_)
  refine Fb f24_1 rfl ?_
  refine g_store1 rfl rfl info3 K (Nat.le_of_ble_eq_true rfl) rfl (h := fun w84 P84 => ?_)
  have K : w84.heap[g71]? = some (.cells #[.slice none 0 0, .int .i64 0, .int .i64 0, .slice (some ⟨g66, 0, none⟩) 7 7, .int .i64 100, .int .i64 10, .slice (some ⟨g67, 0, none⟩) 7 7, .int .i64 100, .int .i64 10, .slice (some ⟨g68, 0, none⟩) 7 7, .int .i64 0, .int .i64 10, .slice (some ⟨g69, 0, none⟩) 7 7, .int .i64 100, .int .i64 10, .slice (some ⟨g70, 0, none⟩) 7 7, .int .i64 100, .int .i64 10] 24 (0, 0)) := P84.at_
  have Q1 := kP Q1 P84 (by omega)
  have Q2 := kP Q2 P84 (by omega)
  have Q3 := kP Q3 P84 (by omega)
  have Q4 := kP Q4 P84 (by omega)
  have Q5 := kP Q5 P84 (by omega)
  have hB := hB.put P84 (by omega)
  refine Nl (Tn (Sq (Rg (Mv ?_))))
  refine g_indexO Try.underlying92 info24 rfl rfl  (by omega) (by omega) rfl (h := ?_)
  refine Fb f24_2 rfl ?_
  refine g_store1 rfl rfl info3 K (Nat.le_of_ble_eq_true rfl) rfl (h := fun w87 P87 => ?_)
  have K : w87.heap[g71]? = some (.cells #[.slice none 0 0, .int .i64 0, .int .i64 0, .slice (some ⟨g66, 0, none⟩) 7 7, .int .i64 100, .int .i64 10, .slice (some ⟨g67, 0, none⟩) 7 7, .int .i64 100, .int .i64 10, .slice (some ⟨g68, 0, none⟩) 7 7, .int .i64 0, .int .i64 10, .slice (some ⟨g69, 0, none⟩) 7 7, .int .i64 100, .int .i64 101, .slice (some ⟨g70, 0, none⟩) 7 7, .int .i64 100, .int .i64 10] 24 (0, 0)) := P87.at_
  have Q1 := kP Q1 P87 (by omega)
  have Q2 := kP Q2 P87 (by omega)
  have Q3 := kP Q3 P87 (by omega)
  have Q4 := kP Q4 P87 (by omega)
  have Q5 := kP Q5 P87 (by omega)
  have hB := hB.put P87 (by omega)
  refine Nl (Tn (Sq (Rg (Mv ?_))))
  refine g_makeR (Kd.int .i64) (n := 11) (z := .int .i64 0) (z0 := 0) (bytes := 8) (okp := fun _ => True) Try.underlying22 zi3 rfl (by decide) (by decide) rfl rfl rfl (by omega) (h := fun g89 w89 HR89 hg89 => ?_)
  have hb89 : Bel w87 w89 := Bel.grown (Below.refl _ _) hg89 (fun k hk => by cases hk)
  have Q6 := (rawI HR89).1
  have o7 := (rawI HR89).2
  have o8 := blt K
  have Q1 := kB Q1 hb89
  have Q2 := kB Q2 hb89
  have Q3 := kB Q3 hb89
  have Q4 := kB Q4 hb89
  have Q5 := kB Q5 hb89
  have K := kB K hb89
  have hB := hB.bel hb89
  refine g_indexO Try.underlying92 info24 rfl rfl  (by omega) (by omega) rfl (h := ?_)
  refine Fb f24_0 rfl ?_
  refine g_store1 rfl rfl info22 K (Nat.le_of_ble_eq_true rfl) rfl (h := fun w91 P91 => ?_)
  have K : w91.heap[g71]? = some (.cells #[.slice none 0 0, .int .i64 0, .int .i64 0, .slice (some ⟨g66, 0, none⟩) 7 7, .int .i64 100, .int .i64 10, .slice (some ⟨g67, 0, none⟩) 7 7, .int .i64 100, .int .i64 10, .slice (some ⟨g68, 0, none⟩) 7 7, .int .i64 0, .int .i64 10, .slice (some ⟨g69, 0, none⟩) 7 7, .int .i64 100, .int .i64 101, .slice (some ⟨g89, 0, none⟩) 11 11, .int .i64 100, .int .i64 10] 24 (0, 0)) := P91.at_
  have Q1 := kP Q1 P91 (by omega)
  have Q2 := kP Q2 P91 (by omega)
  have Q3 := kP Q3 P91 (by omega)
  have Q4 := kP Q4 P91 (by omega)
  have Q5 := kP Q5 P91 (by omega)
  have Q6 := kP Q6 P91 (by omega)
  have hB := hB.put P91 (by omega)
  have hPB : PB w91 g71 := fun i hi => by
    match i, hi with
    | 0, _ => exact ⟨none, 0, [], 0, 0, at3 (o := 0) K rfl rfl rfl, Kd.C_nil _ _, by unfold PileOk; decide⟩
    | 1, _ => exact ⟨some ⟨g66, 0, none⟩, 7, [30, 40, 50, 0, 45, 60, 25], 100, 10, at3 (o := 3) K rfl rfl rfl, CI Q1 rfl rfl (by decide), by unfold PileOk; decide⟩
    | 2, _ => exact ⟨some ⟨g67, 0, none⟩, 7, [30, 40, 50, 501, 45, 60, 25], 100, 10, at3 (o := 6) K rfl rfl rfl, CI Q2 rfl rfl (by decide), by unfold PileOk; decide⟩
    | 3, _ => exact ⟨some ⟨g68, 0, none⟩, 7, pileL, 0, 10, at3 (o := 9) K rfl rfl rfl, CI Q3 rfl rfl (by decide), by unfold PileOk; decide⟩
    | 4, _ => exact ⟨some ⟨g69, 0, none⟩, 7, pileL, 100, 101, at3 (o := 12) K rfl rfl rfl, CI Q4 rfl rfl (by decide), by unfold PileOk; decide⟩
    | 5, _ => exact ⟨some ⟨g89, 0, none⟩, 11, (List.replicate 11 0), 100, 10, at3 (o := 15) K rfl rfl rfl, CI Q6 rfl rfl (by decide), by unfold PileOk; decide⟩
  refine Nl (Tn (Sq (Sq (Rg (As (Nl (Tn (Bk ?_))))))))
  refine GC_loop (fun m σ w' => ∃ (i : Nat) (τ : Nat → Value), σ = upd (upd τ 1 (.slice (some ⟨g71, 0, none⟩) 6 6)) 2 (.int .i64 i) ∧ i ≤ 6 ∧ m = 6 - i ∧ PB w' g71 ∧ Bel w w') (6) ⟨0, _, has rfl (has rfl rfl), Nat.zero_le _, rfl, hPB, hB⟩ ?_
  rintro m _ w92 ⟨i, τ, rfl, hi, rfl, hPB, hB⟩
  refine Sq (Sq (Rg (Mv (Mv (Ln Try.underlying92 rfl ?_)))))
  refine g_lss rfl rfl (h1 := fun c95 => ?_) (h2 := fun c95 => ?_)
  · skip
    refine Nl (Tn (Ct rfl (Sk (Tn (Sq (Bk (Sq (Rg (Mv (Mv ?_))))))))))
    have hi6 : i < 6 := by omega
    have hob  := hPB i hi6
    obtain ⟨A, c, ws, girth, play, hcell, hC, hno⟩ := hob
    refine g_indexS Try.underlying92 info24 rfl rfl (by omega) (by omega) rfl (h := ?_)
    refine g_loadA rfl Try.underlying24 info24 (l := [.slice A ws.length c, .int .i64 girth, .int .i64 play]) hcell (h := ?_)
    refine g_call he16 rfl (areBad_c A c ws girth play _ hC hno) (h := ?_)
    rintro e w103 ⟨rfl, hb103⟩
    refine ⟨_, rfl, ?_⟩
    have hB := hB.bel hb103
    have hcell := fun j v hj => hb103.cellk (hcell j v hj)
    have hC := Kd.C_below hC hb103
    refine Mv (Xt rfl rfl (Xt rfl rfl (As (As (Nl (Tn (Sq (Rg (Mv (Mv ?_))))))))))
    refine g_indexS Try.underlying92 info24 rfl rfl (by omega) (by omega) rfl (h := ?_)
    refine g_loadA rfl Try.underlying24 info24 (l := [.slice A ws.length c, .int .i64 girth, .int .i64 play]) hcell (h := ?_)
    refine g_call he20 rfl (setBad_c A c ws girth play _ hC hno) (h := ?_)
    rintro e w111 ⟨rfl, hb111⟩
    refine ⟨_, rfl, ?_⟩
    have hB := hB.bel hb111
    have hcell := fun j v hj => hb111.cellk (hcell j v hj)
    have hC := Kd.C_below hC hb111
    refine Mv (Xt rfl rfl (Xt rfl rfl (As (As (Nl (Tn (Sq (Rg (Mv (Mv ?_))))))))))
    refine g_indexS Try.underlying92 info24 rfl rfl (by omega) (by omega) rfl (h := ?_)
    refine g_loadA rfl Try.underlying24 info24 (l := [.slice A ws.length c, .int .i64 girth, .int .i64 play]) hcell (h := ?_)
    refine g_call he18 rfl (pileBad_c A c ws girth play _ hC hno) (h := ?_)
    rintro e w118 ⟨rfl, hb118⟩
    refine ⟨_, rfl, ?_⟩
    have hB := hB.bel hb118
    refine g_v (r_neqF rfl rfl (by decide)) (h := ?_)
    refine Mv (Mv ?_)
    refine g_v (r_neqF rfl rfl (by decide)) (h := ?_)
    refine Pf rfl (Mv (Mv ?_))
    refine g_v (r_neqF rfl rfl (by decide)) (h := ?_)
    refine Pf rfl (Nl (Tn (Cf rfl (Sk (Bn (Tn (Rg (Mv ?_))))))))
    refine g_add rfl rfl (by omega) (h := ?_)
    refine As (Nl ?_)
    exact round_end (6 - (i + 1)) (by omega) ⟨i + 1, _, has rfl (has rfl rfl), hi6, rfl, hPB.bel ((hb103.bel hb111).bel hb118), hB⟩
  · skip
    refine Nl (Tn (Cf rfl (Xi (Tx (Tx (Bs (Tn (Sq (Rg ?_)))))))))
    refine g_lits (bs22_2 _ _ _) rfl (h := fun g128 w128 N128 => ?_)
    have hB := hB.new N128
    have V128 := N128.at_
    refine g_lits (bs25_1 _ _ _ _) rfl (h := fun g129 w129 N129 => ?_)
    have hB := hB.new N129
    have V128 := kN V128 N129
    have V129 := N129.at_
    have X129 : kRow.C w129 (some ⟨g129, 0, none⟩) 1 [[0, 1]] := litC1 (x := [0, 1]) (CI V128 rfl rfl (by decide)) (by decide) V129
    refine g_lits (bs22_2 _ _ _) rfl (h := fun g130 w130 N130 => ?_)
    have hB := hB.new N130
    have V128 := kN V128 N130
    have V129 := kN V129 N130
    have V130 := N130.at_
    have X129 := Kd.C_below X129 (Bel.of_new N130)
    refine g_lits (bs25_1 _ _ _ _) rfl (h := fun g131 w131 N131 => ?_)
    have hB := hB.new N131
    have V128 := kN V128 N131
    have V129 := kN V129 N131
    have V130 := kN V130 N131
    have V131 := N131.at_
    have X131 : kRow.C w131 (some ⟨g131, 0, none⟩) 1 [[2, 1]] := litC1 (x := [2, 1]) (CI V130 rfl rfl (by decide)) (by decide) V131
    have X129 := Kd.C_below X129 (Bel.of_new N131)
    refine g_lits (bs22_2 _ _ _) rfl (h := fun g132 w132 N132 => ?_)
    have hB := hB.new N132
    have V128 := kN V128 N132
    have V129 := kN V129 N132
    have V130 := kN V130 N132
    have V131 := kN V131 N132
    have V132 := N132.at_
    have X129 := Kd.C_below X129 (Bel.of_new N132)
    have X131 := Kd.C_below X131 (Bel.of_new N132)
    refine g_lits (bs22_2 _ _ _) rfl (h := fun g133 w133 N133 => ?_)
    have hB := hB.new N133
    have V128 := kN V128 N133
    have V129 := kN V129 N133
    have V130 := kN V130 N133
    have V131 := kN V131 N133
    have V132 := kN V132 N133
    have V133 := N133.at_
    have X129 := Kd.C_below X129 (Bel.of_new N133)
    have X131 := Kd.C_below X131 (Bel.of_new N133)
    refine g_lits (bs25_2 _ _ _ _ _ _ _) rfl (h := fun g134 w134 N134 => ?_)
    have hB := hB.new N134
    have V128 := kN V128 N134
    have V129 := kN V129 N134
    have V130 := kN V130 N134
    have V131 := kN V131 N134
    have V132 := kN V132 N134
    have V133 := kN V133 N134
    have V134 := N134.at_
    have X134 : kRow.C w134 (some ⟨g134, 0, none⟩) 2 [[1, 2], [2, 4]] := litC2 (x := [1, 2]) (y := [2, 4]) (CI V132 rfl rfl (by decide)) (CI V133 rfl rfl (by decide)) (by decide) (by decide) V134
    have X129 := Kd.C_below X129 (Bel.of_new N134)
    have X131 := Kd.C_below X131 (Bel.of_new N134)
    refine g_lits (bs22_2 _ _ _) rfl (h := fun g135 w135 N135 => ?_)
    have hB := hB.new N135
    have V128 := kN V128 N135
    have V129 := kN V129 N135
    have V130 := kN V130 N135
    have V131 := kN V131 N135
    have V132 := kN V132 N135
    have V133 := kN V133 N135
    have V134 := kN V134 N135
    have V135 := N135.at_
    have X129 := Kd.C_below X129 (Bel.of_new N135)
    have X131 := Kd.C_below X131 (Bel.of_new N135)
    have X134 := Kd.C_below X134 (Bel.of_new N135)
    refine g_lits (bs25_2 _ _ _ _ _ _ _) rfl (h := fun g136 w136 N136 => ?_)
    have hB := hB.new N136
    have V128 := kN V128 N136
    have V129 := kN V129 N136
    have V130 := kN V130 N136
    have V131 := kN V131 N136
    have V132 := kN V132 N136
    have V133 := kN V133 N136
    have V134 := kN V134 N136
    have V135 := kN V135 N136
    have V136 := N136.at_
    have X136 : kRow.C w136 (some ⟨g136, 0, none⟩) 2 [[1, 2], []] := litC2 (x := [1, 2]) (y := []) (CI V135 rfl rfl (by decide)) (Kd.C_nil _ _) (by decide) (by decide) V136
    have X129 := Kd.C_below X129 (Bel.of_new N136)
    have X131 := Kd.C_below X131 (Bel.of_new N136)
    have X134 := Kd.C_below X134 (Bel.of_new N136)
    refine g_lits (bs22_2 _ _ _) rfl (h := fun g137 w137 N137 => ?_)
    have hB := hB.new N137
    have V128 := kN V128 N137
    have V129 := kN V129 N137
    have V130 := kN V130 N137
    have V131 := kN V131 N137
    have V132 := kN V132 N137
    have V133 := kN V133 N137
    have V134 := kN V134 N137
    have V135 := kN V135 N137
    have V136 := kN V136 N137
    have V137 := N137.at_
    have X129 := Kd.C_below X129 (Bel.of_new N137)
    have X131 := Kd.C_below X131 (Bel.of_new N137)
    have X134 := Kd.C_below X134 (Bel.of_new N137)
    have X136 := Kd.C_below X136 (Bel.of_new N137)
    refine g_lits (bs25_1 _ _ _ _) rfl (h := fun g138 w138 N138 => ?_)
    have hB := hB.new N138
    have V128 := kN V128 N138
    have V129 := kN V129 N138
    have V130 := kN V130 N138
    have V131 := kN V131 N138
    have V132 := kN V132 N138
    have V133 := kN V133 N138
    have V134 := kN V134 N138
    have V135 := kN V135 N138
    have V136 := kN V136 N138
    have V137 := kN V137 N138
    have V138 := N138.at_
    have X138 : kRow.C w138 (some ⟨g138, 0, none⟩) 1 [[1, 7]] := litC1 (x := [1, 7]) (CI V137 rfl rfl (by decide)) (by decide) V138
    have X129 := Kd.C_below X129 (Bel.of_new N138)
    have X131 := Kd.C_below X131 (Bel.of_new N138)
    have X134 := Kd.C_below X134 (Bel.of_new N138)
    have X136 := Kd.C_below X136 (Bel.of_new N138)
    refine g_lits (bs22_2 _ _ _) rfl (h := fun g139 w139 N139 => ?_)
    have hB := hB.new N139
    have V128 := kN V128 N139
    have V129 := kN V129 N139
    have V130 := kN V130 N139
    have V131 := kN V131 N139
    have V132 := kN V132 N139
    have V133 := kN V133 N139
    have V134 := kN V134 N139
    have V135 := kN V135 N139
    have V136 := kN V136 N139
    have V137 := kN V137 N139
    have V138 := kN V138 N139
    have V139 := N139.at_
    have X129 := Kd.C_below X129 (Bel.of_new N139)
    have X131 := Kd.C_below X131 (Bel.of_new N139)
    have X134 := Kd.C_below X134 (Bel.of_new N139)
    have X136 := Kd.C_below X136 (Bel.of_new N139)
    have X138 := Kd.C_below X138 (Bel.of_new N139)
    refine g_lits (bs25_1 _ _ _ _) rfl (h := fun g140 w140 N140 => ?_)
    have hB := hB.new N140
    have V128 := kN V128 N140
    have V129 := kN V129 N140
    have V130 := kN V130 N140
    have V131 := kN V131 N140
    have V132 := kN V132 N140
    have V133 := kN V133 N140
    have V134 := kN V134 N140
    have V135 := kN V135 N140
    have V136 := kN V136 N140
    have V137 := kN V137 N140
    have V138 := kN V138 N140
    have V139 := kN V139 N140
    have V140 := N140.at_
    have X140 : kRow.C w140 (some ⟨g140, 0, none⟩) 1 [[4, 5]] := litC1 (x := [4, 5]) (CI V139 rfl rfl (by decide)) (by decide) V140
    have X129 := Kd.C_below X129 (Bel.of_new N140)
    have X131 := Kd.C_below X131 (Bel.of_new N140)
    have X134 := Kd.C_below X134 (Bel.of_new N140)
    have X136 := Kd.C_below X136 (Bel.of_new N140)
    have X138 := Kd.C_below X138 (Bel.of_new N140)
    refine g_lits (bs93_6 _ _ _ _ _ _ _ _ _ _ _ _ _ _ _ _ _ _ _) rfl (h := fun g141 w141 N141 => ?_)
    have hB := hB.new N141
    have K := N141.at_
    have hWB : WB w141 g141 := fun i hi => by
      match i, hi with
      | 0, _ => exact ⟨some ⟨g129, 0, none⟩, 1, [[0, 1]], at1 (o := 0) K rfl, Kd.C_below X129 (Bel.of_new N141), by decide⟩
      | 1, _ => exact ⟨some ⟨g131, 0, none⟩, 1, [[2, 1]], at1 (o := 1) K rfl, Kd.C_below X131 (Bel.of_new N141), by decide⟩
      | 2, _ => exact ⟨some ⟨g134, 0, none⟩, 2, [[1, 2], [2, 4]], at1 (o := 2) K rfl, Kd.C_below X134 (Bel.of_new N141), by decide⟩
      | 3, _ => exact ⟨some ⟨g136, 0, none⟩, 2, [[1, 2], []], at1 (o := 3) K rfl, Kd.C_below X136 (Bel.of_new N141), by decide⟩
      | 4, _ => exact ⟨some ⟨g138, 0, none⟩, 1, [[1, 7]], at1 (o := 4) K rfl, Kd.C_below X138 (Bel.of_new N141), by decide⟩
      | 5, _ => exact ⟨some ⟨g140, 0, none⟩, 1, [[4, 5]], at1 (o := 5) K rfl, Kd.C_below X140 (Bel.of_new N141), by decide⟩
    refine As (Nl (Tn (Sq (Sq (Rg (As (Nl (Tn (Bk ?_)))))))))
    refine GC_loop (fun m σ w' => ∃ (i : Nat) (τ : Nat → Value), σ = upd (upd τ 7 (.slice (some ⟨g141, 0, none⟩) 6 6)) 8 (.int .i64 i) ∧ i ≤ 6 ∧ m = 6 - i ∧ WB w' g141 ∧ Bel w w') (6) ⟨0, _, has rfl (has rfl rfl), Nat.zero_le _, rfl, hWB, hB⟩ ?_
    rintro m _ w142 ⟨i, τ, rfl, hi, rfl, hWB, hB⟩
    refine Sq (Sq (Rg (Mv (Mv (Ln Try.underlying93 rfl ?_)))))
    refine g_lss rfl rfl (h1 := fun c145 => ?_) (h2 := fun c145 => ?_)
    · skip
      refine Nl (Tn (Ct rfl (Sk (Tn (Sq (Bk (Sq ?_)))))))
      have hi6 : i < 6 := by omega
      have hob  := hWB i hi6
      obtain ⟨B, d, l, hcell, hC, hno⟩ := hob
      have hBd : Bel w142 (w142.drewN 1) := Bel.drew (Below.refl _ _)
      have hcell := hBd.cellk hcell
      refine GD_start 11 [] (fun w' => w'.cell? ((⟨g141, 0, none⟩ : Addr).add i) = some (.slice B l.length d)) (by kernel_rfl) rfl ?_
      refine GD_pure 1 rfl (by kernel_rfl) (by kernel_rfl) (by kernel_rfl) (by kernel_rfl) rfl rfl rfl (qv fun wq hC => by exact r_move) ?_
      refine GD_pure 2 rfl (by kernel_rfl) (by kernel_rfl) (by kernel_rfl) (by kernel_rfl) rfl rfl rfl (qv fun wq hC => by exact r_move) ?_
      refine GD_pure 3 rfl (by kernel_rfl) (by kernel_rfl) (by kernel_rfl) (by kernel_rfl) rfl rfl rfl (qv fun wq hC => by exact r_indexS Try.underlying93 info25 rfl rfl (by omega) (by omega) (Nat.mul_one _)) ?_
      refine GD_take 4 rfl (by kernel_rfl) (by kernel_rfl) (by kernel_rfl) (by kernel_rfl) rfl rfl rfl (qv fun wq hC => by exact r_load1 rfl Try.underlying25 (hC)) ?_
      refine GD_one 0 (by kernel_rfl) (fun _ => hcell) ?_
      refine GO_call rfl rfl rfl he59 rfl (pileX_c _) (fun e w149 he => ?_)
      obtain ⟨g149, rfl, P149, b149, hb149⟩ := he
      refine ⟨_, rfl, ?_⟩
      have hBd := hBd.bel hb149
      have hcell := hb149.cellk hcell
      refine GD_one 5 (by kernel_rfl) (fun _ => hcell) ?_
      refine GO_call rfl rfl rfl he16 rfl (areP_c (some ⟨g149, 0, none⟩) B 7 d l.length l false _ (CI P149 rfl rfl (by decide)) (Kd.C_below hC (by assumption)) rfl hno) (fun e w154 he => ?_)
      obtain ⟨rfl, hb154⟩ := he
      refine ⟨_, rfl, ?_⟩
      have hBd := hBd.bel hb154
      have hcell := hb154.cellk hcell
      refine GD_pure 6 rfl (by kernel_rfl) (by kernel_rfl) (by kernel_rfl) (by kernel_rfl) rfl rfl rfl (qv fun wq hC => by exact r_move) ?_
      refine GD_pure 7 rfl (by kernel_rfl) (by kernel_rfl) (by kernel_rfl) (by kernel_rfl) rfl rfl rfl (qv fun wq hC => by exact r_extract rfl rfl) ?_
      refine GD_pure 8 rfl (by kernel_rfl) (by kernel_rfl) (by kernel_rfl) (by kernel_rfl) rfl rfl rfl (qv fun wq hC => by exact r_extract rfl rfl) ?_
      refine GD_pure 9 rfl (by kernel_rfl) (by kernel_rfl) (by kernel_rfl) (by kernel_rfl) rfl rfl rfl (qv fun wq hC => by exact r_assign) ?_
      refine GD_pure 10 rfl (by kernel_rfl) (by kernel_rfl) (by kernel_rfl) (by kernel_rfl) rfl rfl rfl (qv fun wq hC => by exact r_assign) ?_
      refine GD_end (by kernel_rfl) (fun _ => hcell) ?_
      refine Tn (Sq (Rg (Mv (Mv (Mv ?_)))))
      refine g_v (r_neqF rfl rfl (by decide)) (h := ?_)
      refine Pf rfl (Nl (Tn (Cf rfl (Sk (Bn (Tn (Rg (Mv ?_))))))))
      refine g_add rfl rfl (by omega) (h := ?_)
      refine As (Nl ?_)
      exact round_end (6 - (i + 1)) (by omega) ⟨i + 1, _, has rfl (has rfl rfl), hi6, rfl, hWB.bel hBd, hB.bel hBd⟩
    · skip
      refine Nl (Tn (Cf rfl (Xi (Tx (Tx (Bs (Tn (Sq (Rg ?_)))))))))
      refine g_call he59 rfl (pileX_c _) (h := ?_)
      rintro e w162 ⟨g162, rfl, P162, b162, hb162⟩
      refine ⟨_, rfl, ?_⟩
      have hB := hB.bel hb162
      refine g_alloc (z := .agg #[.slice none 0 0, .int .i64 0, .int .i64 0]) (by kernel_rfl) (h := fun g11 w11 N11 => ?_)
      have K11 := N11.at_
      have hg11 : w.heap.size ≤ g11 := Nat.le_trans hB.size N11.ge
      have hB := hB.new N11
      refine g_storeA rfl rfl info24 K11 rfl (by simp [Value.oneCell']) (h := fun w21 P21 => ?_)
      have K11 : w21.heap[g11]? = some (.cells #[.slice (some ⟨g162, 0, none⟩) 7 7, .int .i64 100, .int .i64 10] 24 (0, 0)) := P21.at_
      have hB := hB.put P21 hg11
      refine Nl (Tn (Sq (Rg ?_)))
      refine g_lits (bs22_2 _ _ _) rfl (h := fun g163 w163 N163 => ?_)
      have hB := hB.new N163
      have o163 := N163.ne K11
      have K11 := kN K11 N163
      have V163 := N163.at_
      refine Fb f24_0 rfl ?_
      refine g_store1 rfl rfl info22 K11 (Nat.le_of_ble_eq_true rfl) rfl (h := fun w22 P22 => ?_)
      have K11 : w22.heap[g11]? = some (.cells #[.slice (some ⟨g163, 0, none⟩) 2 2, .int .i64 100, .int .i64 10] 24 (0, 0)) := P22.at_
      have V163 := kP V163 P22 (fun e => o163 e.symm)
      have hB := hB.put P22 hg11
      refine Nl (Tn (Sq (Rg ?_)))
      refine g_loadA rfl Try.underlying24 info24 (l := [.slice (some ⟨g163, 0, none⟩) 2 2, .int .i64 100, .int .i64 10]) (cellsAt K11) (h := ?_)
      refine g_call he20 rfl (short_c (some ⟨g163, 0, none⟩) 2 _ (CI V163 rfl rfl (by decide))) (h := ?_)
      rintro e w167 ⟨v167, rfl, hb167⟩
      refine ⟨_, rfl, ?_⟩
      have hB := hB.bel hb167
      refine Mv (Xt rfl rfl (Xt rfl rfl (As (As (Nl (Tn (Sq (Rg ?_))))))))
      refine g_call he59 rfl (pileX_c _) (h := ?_)
      rintro e w171 ⟨g171, rfl, P171, b171, hb171⟩
      refine ⟨_, rfl, ?_⟩
      have hB := hB.bel hb171
      refine g_call he16 rfl (areP_c (some ⟨g171, 0, none⟩) none 7 0 0 [] true _ (CI P171 rfl rfl (by decide)) (Kd.C_nil _ _) rfl (by decide)) (h := ?_)
      rintro e w172 ⟨rfl, hb172⟩
      refine ⟨_, rfl, ?_⟩
      have hB := hB.bel hb172
      refine Mv (Xt rfl rfl (Xt rfl rfl (As (As (Nl (Tn ?_))))))
      refine GC_join (fun σ w' => ∃ (g175 g176 g177 g178 g179 g180 : Nat) (τ : Nat → Value), σ = upd (upd (upd (upd τ 13 (.int .i64 4)) 14 (.bool true)) 15 (.int .i64 0)) 16 (.slice (some ⟨g180, 0, none⟩) 6 6) ∧ w'.heap[g175]? = some (.cells zeroW 70 (0, 0)) ∧ w'.heap[g176]? = some (.cells yardW 70 (0, 0)) ∧ w'.heap[g177]? = some (.cells yardW 70 (0, 0)) ∧ w'.heap[g178]? = some (.cells yardW 70 (0, 0)) ∧ w'.heap[g179]? = some (.cells yardW 70 (0, 0)) ∧ w'.heap[g180]? = some (.cells #[.slice none 0 0, .slice (some ⟨g175, 0, none⟩) 5 5, .slice (some ⟨g176, 0, none⟩) 2 2, .slice (some ⟨g177, 0, none⟩) 2 2, .slice (some ⟨g178, 0, none⟩) 2 2, .slice (some ⟨g179, 0, none⟩) 2 2] 35 (0, 0)) ∧ ((g176 < g177 ∧ g177 < g178 ∧ g178 < g179 ∧ g179 < g180) ∧ (g175 ≠ g176 ∧ g175 ≠ g177 ∧ g175 ≠ g178 ∧ g175 ≠ g179) ∧ w.heap.size ≤ g176) ∧ Bel w w') ?_ ?_
      · skip
        have hBd : Bel w (w172.drewN 1) := hB.drew
        refine GD_start 7 [] (fun _ => True) (by kernel_rfl) rfl ?_
        refine GD_two 0 1 (by kernel_rfl) (fun _ => trivial) ?_ ?_
        · skip
          refine GO_new rfl rfl rfl rfl (mk35 _ _ _ _ _ _ _) (fun g175 w175 N175 => ?_)
          have hBd := hBd.new N175
          have Qm := N175.at_
          have bm := N175.ge
          have om := blt Qm
          have sm := N175.ch.size
          try (have Y2 := kN Y2 N175)
          try (have Y3 := kN Y3 N175)
          try (have Y4 := kN Y4 N175)
          try (have Y5 := kN Y5 N175)
          refine GD_one 1 (by kernel_rfl) (fun _ => trivial) ?_
          refine GO_call rfl rfl rfl he60 rfl (yardX_c _) (fun e w176 he => ?_)
          obtain ⟨g176, rfl, Y2, b176, hb176⟩ := he
          refine ⟨_, rfl, ?_⟩
          have o176 := blt Y2
          have s176 := hb176.size
          have hBd := hBd.bel hb176
          try (have Qm := kB Qm hb176)
          refine GD_one 2 (by kernel_rfl) (fun _ => trivial) ?_
          refine GO_call rfl rfl rfl he60 rfl (yardX_c _) (fun e w177 he => ?_)
          obtain ⟨g177, rfl, Y3, b177, hb177⟩ := he
          refine ⟨_, rfl, ?_⟩
          have o177 := blt Y3
          have s177 := hb177.size
          have hBd := hBd.bel hb177
          try (have Qm := kB Qm hb177)
          have Y2 := kB Y2 hb177
          refine GD_one 3 (by kernel_rfl) (fun _ => trivial) ?_
          refine GO_call rfl rfl rfl he60 rfl (yardX_c _) (fun e w178 he => ?_)
          obtain ⟨g178, rfl, Y4, b178, hb178⟩ := he
          refine ⟨_, rfl, ?_⟩
          have o178 := blt Y4
          have s178 := hb178.size
          have hBd := hBd.bel hb178
          try (have Qm := kB Qm hb178)
          have Y2 := kB Y2 hb178
          have Y3 := kB Y3 hb178
          refine GD_one 4 (by kernel_rfl) (fun _ => trivial) ?_
          refine GO_call rfl rfl rfl he60 rfl (yardX_c _) (fun e w179 he => ?_)
          obtain ⟨g179, rfl, Y5, b179, hb179⟩ := he
          refine ⟨_, rfl, ?_⟩
          have o179 := blt Y5
          have s179 := hb179.size
          have hBd := hBd.bel hb179
          try (have Qm := kB Qm hb179)
          have Y2 := kB Y2 hb179
          have Y3 := kB Y3 hb179
          have Y4 := kB Y4 hb179
          refine GD_one 5 (by kernel_rfl) (fun _ => trivial) ?_
          refine GO_lits rfl rfl rfl (bs95_6 _ _ _ _ _ _ _ _ _ _ _ _ _ _ _ _ _ _ _) rfl (fun g180 w180 N180 => ?_)
          have o180 := N180.ge
          have q1 := blt Qm
          have q2 := blt Y2
          have q3 := blt Y3
          have q4 := blt Y4
          have q5 := blt Y5
          have s0 := hB.size
          have hBd := hBd.new N180
          have s1 : w172.heap.size = (w172.drewN 1).heap.size := rfl
          have Qm := kN Qm N180
          have Y2 := kN Y2 N180
          have Y3 := kN Y3 N180
          have Y4 := kN Y4 N180
          have Y5 := kN Y5 N180
          have K := N180.at_
          refine GD_pure 6 rfl (by kernel_rfl) (by kernel_rfl) (by kernel_rfl) (by kernel_rfl) rfl rfl rfl (qv fun wq hC => by exact r_assign) ?_
          refine GD_end (by kernel_rfl) (fun _ => trivial) ?_
          exact join_end ⟨g175, g176, g177, g178, g179, g180, _, has rfl (has rfl (has rfl (has rfl rfl))), Qm, Y2, Y3, Y4, Y5, K, ⟨⟨by omega, by omega, by omega, by omega⟩, ⟨by omega, by omega, by omega, by omega⟩, by omega⟩, hBd⟩
        · skip
          refine GO_call rfl rfl rfl he60 rfl (yardX_c _) (fun e w176 he => ?_)
          obtain ⟨g176, rfl, Y2, b176, hb176⟩ := he
          refine ⟨_, rfl, ?_⟩
          have o176 := blt Y2
          have s176 := hb176.size
          have hBd := hBd.bel hb176
          try (have Qm := kB Qm hb176)
          refine GD_two 0 2 (by kernel_rfl) (fun _ => trivial) ?_ ?_
          · skip
            refine GO_new rfl rfl rfl rfl (mk35 _ _ _ _ _ _ _) (fun g175 w175 N175 => ?_)
            have hBd := hBd.new N175
            have Qm := N175.at_
            have bm := N175.ge
            have om := blt Qm
            have sm := N175.ch.size
            try (have Y2 := kN Y2 N175)
            try (have Y3 := kN Y3 N175)
            try (have Y4 := kN Y4 N175)
            try (have Y5 := kN Y5 N175)
            refine GD_one 2 (by kernel_rfl) (fun _ => trivial) ?_
            refine GO_call rfl rfl rfl he60 rfl (yardX_c _) (fun e w177 he => ?_)
            obtain ⟨g177, rfl, Y3, b177, hb177⟩ := he
            refine ⟨_, rfl, ?_⟩
            have o177 := blt Y3
            have s177 := hb177.size
            have hBd := hBd.bel hb177
            try (have Qm := kB Qm hb177)
            have Y2 := kB Y2 hb177
            refine GD_one 3 (by kernel_rfl) (fun _ => trivial) ?_
            refine GO_call rfl rfl rfl he60 rfl (yardX_c _) (fun e w178 he => ?_)
            obtain ⟨g178, rfl, Y4, b178, hb178⟩ := he
            refine ⟨_, rfl, ?_⟩
            have o178 := blt Y4
            have s178 := hb178.size
            have hBd := hBd.bel hb178
            try (have Qm := kB Qm hb178)
            have Y2 := kB Y2 hb178
            have Y3 := kB Y3 hb178
            refine GD_one 4 (by kernel_rfl) (fun _ => trivial) ?_
            refine GO_call rfl rfl rfl he60 rfl (yardX_c _) (fun e w179 he => ?_)
            obtain ⟨g179, rfl, Y5, b179, hb179⟩ := he
            refine ⟨_, rfl, ?_⟩
            have o179 := blt Y5
            have s179 := hb179.size
            have hBd := hBd.bel hb179
            try (have Qm := kB Qm hb179)
            have Y2 := kB Y2 hb179
            have Y3 := kB Y3 hb179
            have Y4 := kB Y4 hb179
            refine GD_one 5 (by kernel_rfl) (fun _ => trivial) ?_
            refine GO_lits rfl rfl rfl (bs95_6 _ _ _ _ _ _ _ _ _ _ _ _ _ _ _ _ _ _ _) rfl (fun g180 w180 N180 => ?_)
            have o180 := N180.ge
            have q1 := blt Qm
            have q2 := blt Y2
            have q3 := blt Y3
            have q4 := blt Y4
            have q5 := blt Y5
            have s0 := hB.size
            have hBd := hBd.new N180
            have s1 : w172.heap.size = (w172.drewN 1).heap.size := rfl
            have Qm := kN Qm N180
            have Y2 := kN Y2 N180
            have Y3 := kN Y3 N180
            have Y4 := kN Y4 N180
            have Y5 := kN Y5 N180
            have K := N180.at_
            refine GD_pure 6 rfl (by kernel_rfl) (by kernel_rfl) (by kernel_rfl) (by kernel_rfl) rfl rfl rfl (qv fun wq hC => by exact r_assign) ?_
            refine GD_end (by kernel_rfl) (fun _ => trivial) ?_
            exact join_end ⟨g175, g176, g177, g178, g179, g180, _, has rfl (has rfl (has rfl (has rfl rfl))), Qm, Y2, Y3, Y4, Y5, K, ⟨⟨by omega, by omega, by omega, by omega⟩, ⟨by omega, by omega, by omega, by omega⟩, by omega⟩, hBd⟩
          · skip
            refine GO_call rfl rfl rfl he60 rfl (yardX_c _) (fun e w177 he => ?_)
            obtain ⟨g177, rfl, Y3, b177, hb177⟩ := he
            refine ⟨_, rfl, ?_⟩
            have o177 := blt Y3
            have s177 := hb177.size
            have hBd := hBd.bel hb177
            try (have Qm := kB Qm hb177)
            have Y2 := kB Y2 hb177
            refine GD_two 0 3 (by kernel_rfl) (fun _ => trivial) ?_ ?_
            · skip
              refine GO_new rfl rfl rfl rfl (mk35 _ _ _ _ _ _ _) (fun g175 w175 N175 => ?_)
              have hBd := hBd.new N175
              have Qm := N175.at_
              have bm := N175.ge
              have om := blt Qm
              have sm := N175.ch.size
              try (have Y2 := kN Y2 N175)
              try (have Y3 := kN Y3 N175)
              try (have Y4 := kN Y4 N175)
              try (have Y5 := kN Y5 N175)
              refine GD_one 3 (by kernel_rfl) (fun _ => trivial) ?_
              refine GO_call rfl rfl rfl he60 rfl (yardX_c _) (fun e w178 he => ?_)
              obtain ⟨g178, rfl, Y4, b178, hb178⟩ := he
              refine ⟨_, rfl, ?_⟩
              have o178 := blt Y4
              have s178 := hb178.size
              have hBd := hBd.bel hb178
              try (have Qm := kB Qm hb178)
              have Y2 := kB Y2 hb178
              have Y3 := kB Y3 hb178
              refine GD_one 4 (by kernel_rfl) (fun _ => trivial) ?_
              refine GO_call rfl rfl rfl he60 rfl (yardX_c _) (fun e w179 he => ?_)
              obtain ⟨g179, rfl, Y5, b179, hb179⟩ := he
              refine ⟨_, rfl, ?_⟩
              have o179 := blt Y5
              have s179 := hb179.size
              have hBd := hBd.bel hb179
              try (have Qm := kB Qm hb179)
              have Y2 := kB Y2 hb179
              have Y3 := kB Y3 hb179
              have Y4 := kB Y4 hb179
              refine GD_one 5 (by kernel_rfl) (fun _ => trivial) ?_
              refine GO_lits rfl rfl rfl (bs95_6 _ _ _ _ _ _ _ _ _ _ _ _ _ _ _ _ _ _ _) rfl (fun g180 w180 N180 => ?_)
              have o180 := N180.ge
              have q1 := blt Qm
              have q2 := blt Y2
              have q3 := blt Y3
              have q4 := blt Y4
              have q5 := blt Y5
              have s0 := hB.size
              have hBd := hBd.new N180
              have s1 : w172.heap.size = (w172.drewN 1).heap.size := rfl
              have Qm := kN Qm N180
              have Y2 := kN Y2 N180
              have Y3 := kN Y3 N180
              have Y4 := kN Y4 N180
              have Y5 := kN Y5 N180
              have K := N180.at_
              refine GD_pure 6 rfl (by kernel_rfl) (by kernel_rfl) (by kernel_rfl) (by kernel_rfl) rfl rfl rfl (qv fun wq hC => by exact r_assign) ?_
              refine GD_end (by kernel_rfl) (fun _ => trivial) ?_
              exact join_end ⟨g175, g176, g177, g178, g179, g180, _, has rfl (has rfl (has rfl (has rfl rfl))), Qm, Y2, Y3, Y4, Y5, K, ⟨⟨by omega, by omega, by omega, by omega⟩, ⟨by omega, by omega, by omega, by omega⟩, by omega⟩, hBd⟩
            · skip
              refine GO_call rfl rfl rfl he60 rfl (yardX_c _) (fun e w178 he => ?_)
              obtain ⟨g178, rfl, Y4, b178, hb178⟩ := he
              refine ⟨_, rfl, ?_⟩
              have o178 := blt Y4
              have s178 := hb178.size
              have hBd := hBd.bel hb178
              try (have Qm := kB Qm hb178)
              have Y2 := kB Y2 hb178
              have Y3 := kB Y3 hb178
              refine GD_two 0 4 (by kernel_rfl) (fun _ => trivial) ?_ ?_
              · skip
                refine GO_new rfl rfl rfl rfl (mk35 _ _ _ _ _ _ _) (fun g175 w175 N175 => ?_)
                have hBd := hBd.new N175
                have Qm := N175.at_
                have bm := N175.ge
                have om := blt Qm
                have sm := N175.ch.size
                try (have Y2 := kN Y2 N175)
                try (have Y3 := kN Y3 N175)
                try (have Y4 := kN Y4 N175)
                try (have Y5 := kN Y5 N175)
                refine GD_one 4 (by kernel_rfl) (fun _ => trivial) ?_
                refine GO_call rfl rfl rfl he60 rfl (yardX_c _) (fun e w179 he => ?_)
                obtain ⟨g179, rfl, Y5, b179, hb179⟩ := he
                refine ⟨_, rfl, ?_⟩
                have o179 := blt Y5
                have s179 := hb179.size
                have hBd := hBd.bel hb179
                try (have Qm := kB Qm hb179)
                have Y2 := kB Y2 hb179
                have Y3 := kB Y3 hb179
                have Y4 := kB Y4 hb179
                refine GD_one 5 (by kernel_rfl) (fun _ => trivial) ?_
                refine GO_lits rfl rfl rfl (bs95_6 _ _ _ _ _ _ _ _ _ _ _ _ _ _ _ _ _ _ _) rfl (fun g180 w180 N180 => ?_)
                have o180 := N180.ge
                have q1 := blt Qm
                have q2 := blt Y2
                have q3 := blt Y3
                have q4 := blt Y4
                have q5 := blt Y5
                have s0 := hB.size
                have hBd := hBd.new N180
                have s1 : w172.heap.size = (w172.drewN 1).heap.size := rfl
                have Qm := kN Qm N180
                have Y2 := kN Y2 N180
                have Y3 := kN Y3 N180
                have Y4 := kN Y4 N180
                have Y5 := kN Y5 N180
                have K := N180.at_
                refine GD_pure 6 rfl (by kernel_rfl) (by kernel_rfl) (by kernel_rfl) (by kernel_rfl) rfl rfl rfl (qv fun wq hC => by exact r_assign) ?_
                refine GD_end (by kernel_rfl) (fun _ => trivial) ?_
                exact join_end ⟨g175, g176, g177, g178, g179, g180, _, has rfl (has rfl (has rfl (has rfl rfl))), Qm, Y2, Y3, Y4, Y5, K, ⟨⟨by omega, by omega, by omega, by omega⟩, ⟨by omega, by omega, by omega, by omega⟩, by omega⟩, hBd⟩
              · skip
                refine GO_call rfl rfl rfl he60 rfl (yardX_c _) (fun e w179 he => ?_)
                obtain ⟨g179, rfl, Y5, b179, hb179⟩ := he
                refine ⟨_, rfl, ?_⟩
                have o179 := blt Y5
                have s179 := hb179.size
                have hBd := hBd.bel hb179
                try (have Qm := kB Qm hb179)
                have Y2 := kB Y2 hb179
                have Y3 := kB Y3 hb179
                have Y4 := kB Y4 hb179
                refine GD_one 0 (by kernel_rfl) (fun _ => trivial) ?_
                refine GO_new rfl rfl rfl rfl (mk35 _ _ _ _ _ _ _) (fun g175 w175 N175 => ?_)
                have hBd := hBd.new N175
                have Qm := N175.at_
                have bm := N175.ge
                have om := blt Qm
                have sm := N175.ch.size
                try (have Y2 := kN Y2 N175)
                try (have Y3 := kN Y3 N175)
                try (have Y4 := kN Y4 N175)
                try (have Y5 := kN Y5 N175)
                refine GD_one 5 (by kernel_rfl) (fun _ => trivial) ?_
                refine GO_lits rfl rfl rfl (bs95_6 _ _ _ _ _ _ _ _ _ _ _ _ _ _ _ _ _ _ _) rfl (fun g180 w180 N180 => ?_)
                have o180 := N180.ge
                have q1 := blt Qm
                have q2 := blt Y2
                have q3 := blt Y3
                have q4 := blt Y4
                have q5 := blt Y5
                have s0 := hB.size
                have hBd := hBd.new N180
                have s1 : w172.heap.size = (w172.drewN 1).heap.size := rfl
                have Qm := kN Qm N180
                have Y2 := kN Y2 N180
                have Y3 := kN Y3 N180
                have Y4 := kN Y4 N180
                have Y5 := kN Y5 N180
                have K := N180.at_
                refine GD_pure 6 rfl (by kernel_rfl) (by kernel_rfl) (by kernel_rfl) (by kernel_rfl) rfl rfl rfl (qv fun wq hC => by exact r_assign) ?_
                refine GD_end (by kernel_rfl) (fun _ => trivial) ?_
                exact join_end ⟨g175, g176, g177, g178, g179, g180, _, has rfl (has rfl (has rfl (has rfl rfl))), Qm, Y2, Y3, Y4, Y5, K, ⟨⟨by omega, by omega, by omega, by omega⟩, ⟨by omega, by omega, by omega, by omega⟩, by omega⟩, hBd⟩
      · rintro _ w181 ⟨g175, g176, g177, g178, g179, g180, τ5, rfl, Qm, Y2, Y3, Y4, Y5, K, hor, hB⟩
        refine Sq (Rg (Mv ?_))
        refine g_indexO Try.underlying95 info35 rfl rfl  (by omega) (by omega) (Nat.mul_one _) (h := ?_)
        refine L1 Try.underlying35 (cellAt K rfl) rfl ?_
        refine g_indexO Try.underlying35 info70 rfl rfl  (by omega) (by omega) rfl (h := ?_)
        refine Fb f70_1 rfl ?_
        refine g_store1 rfl rfl info3 Y2 (Nat.le_of_ble_eq_true rfl) rfl (h := fun w185 P185 => ?_)
        have Y2 : w185.heap[g176]? = some (.cells #[.int .i64 50, .int .i64 1001, .int .i64 20, .int .i64 5, .int .i64 10, .int .i64 40, .int .i64 60, .int .i64 30, .int .i64 2, .int .i64 8] 70 (0, 0)) := P185.at_
        have Qm := kP Qm P185 (by omega)
        have Y3 := kP Y3 P185 (by omega)
        have Y4 := kP Y4 P185 (by omega)
        have Y5 := kP Y5 P185 (by omega)
        have K := kP K P185 (by omega)
        have hB := hB.put P185 (by omega)
        refine Nl (Tn (Sq (Rg (Mv ?_))))
        refine g_indexO Try.underlying95 info35 rfl rfl  (by omega) (by omega) (Nat.mul_one _) (h := ?_)
        refine L1 Try.underlying35 (cellAt K rfl) rfl ?_
        refine g_indexO Try.underlying35 info70 rfl rfl  (by omega) (by omega) rfl (h := ?_)
        refine Fb f70_0 rfl ?_
        refine g_store1 rfl rfl info3 Y3 (Nat.le_of_ble_eq_true rfl) rfl (h := fun w190 P190 => ?_)
        have Y3 : w190.heap[g177]? = some (.cells #[.int .i64 61, .int .i64 60, .int .i64 20, .int .i64 5, .int .i64 10, .int .i64 40, .int .i64 60, .int .i64 30, .int .i64 2, .int .i64 8] 70 (0, 0)) := P190.at_
        have Qm := kP Qm P190 (by omega)
        have Y2 := kP Y2 P190 (by omega)
        have Y4 := kP Y4 P190 (by omega)
        have Y5 := kP Y5 P190 (by omega)
        have K := kP K P190 (by omega)
        have hB := hB.put P190 (by omega)
        refine Nl (Tn (Sq (Rg (Mv ?_))))
        refine g_indexO Try.underlying95 info35 rfl rfl  (by omega) (by omega) (Nat.mul_one _) (h := ?_)
        refine L1 Try.underlying35 (cellAt K rfl) rfl ?_
        refine g_indexO Try.underlying35 info70 rfl rfl  (by omega) (by omega) rfl (h := ?_)
        refine Fb f70_2 rfl ?_
        refine g_store1 rfl rfl info3 Y4 (Nat.le_of_ble_eq_true rfl) rfl (h := fun w195 P195 => ?_)
        have Y4 : w195.heap[g178]? = some (.cells #[.int .i64 50, .int .i64 60, .int .i64 20, .int .i64 5, .int .i64 10, .int .i64 40, .int .i64 60, .int .i64 61, .int .i64 2, .int .i64 8] 70 (0, 0)) := P195.at_
        have Qm := kP Qm P195 (by omega)
        have Y2 := kP Y2 P195 (by omega)
        have Y3 := kP Y3 P195 (by omega)
        have Y5 := kP Y5 P195 (by omega)
        have K := kP K P195 (by omega)
        have hB := hB.put P195 (by omega)
        refine Nl (Tn (Sq ?_))
        have hBd : Bel w195 (w195.drewN 1) := Bel.drew (Below.refl _ _)
        have Qm := kB Qm hBd
        have Y2 := kB Y2 hBd
        have Y3 := kB Y3 hBd
        have Y4 := kB Y4 hBd
        have Y5 := kB Y5 hBd
        have K := kB K hBd
        refine GD_start 7 [] (fun w' => w'.heap[g180]? = some (.cells #[.slice none 0 0, .slice (some ⟨g175, 0, none⟩) 5 5, .slice (some ⟨g176, 0, none⟩) 2 2, .slice (some ⟨g177, 0, none⟩) 2 2, .slice (some ⟨g178, 0, none⟩) 2 2, .slice (some ⟨g179, 0, none⟩) 2 2] 35 (0, 0))) (by kernel_rfl) rfl ?_
        refine GD_pure 0 rfl (by kernel_rfl) (by kernel_rfl) (by kernel_rfl) (by kernel_rfl) rfl rfl rfl (qv fun wq hC => by exact r_move) ?_
        refine GD_pure 1 rfl (by kernel_rfl) (by kernel_rfl) (by kernel_rfl) (by kernel_rfl) rfl rfl rfl (qv fun wq hC => by exact r_indexO Try.underlying95 info35 rfl rfl  (by omega) (by omega) (Nat.mul_one _)) ?_
        refine GD_take 2 rfl (by kernel_rfl) (by kernel_rfl) (by kernel_rfl) (by kernel_rfl) rfl rfl rfl (qv fun wq hC => by exact r_load1 rfl Try.underlying35 (cellAt hC rfl)) ?_
        refine GD_one 3 (by kernel_rfl) (fun _ => K) ?_
        refine GO_call rfl rfl rfl he51 rfl (to_c 8 2 _) (fun e w199 he => ?_)
        obtain ⟨rfl, hb199⟩ := he
        refine ⟨_, rfl, ?_⟩
        have hBd := hBd.bel hb199
        have Qm := kB Qm hb199
        have Y2 := kB Y2 hb199
        have Y3 := kB Y3 hb199
        have Y4 := kB Y4 hb199
        have Y5 := kB Y5 hb199
        have K := kB K hb199
        have HY := R_of_raw (enc := enc70) (d := k70) (base := w.heap.size) (xs := yardL) (fun _ _ _ x => k70_mkM _ _ _ x) (fun _ => rfl) Y5 rfl rfl (by decide) (by omega)
        refine GD_pure 4 rfl (by kernel_rfl) (by kernel_rfl) (by kernel_rfl) (by kernel_rfl) rfl rfl rfl (qv fun wq hC => by exact r_indexO Try.underlying35 info70 rfl rfl  (by omega) (by omega) rfl) ?_
        refine GD_pure 5 rfl (by kernel_rfl) (by kernel_rfl) (by kernel_rfl) (by kernel_rfl) rfl rfl rfl (qv fun wq hC => by exact r_fieldAddrB f70_3 rfl) ?_
        refine GD_one 6 (by kernel_rfl) (fun _ => K) ?_
        refine GO_storeSeg k70 rfl rfl HY (i := 1) (j := 3) (o := 8) (u := .agg #[.int .i64 8, .int .i64 2]) (seg := [.int .i64 8, .int .i64 2]) (c := enc70 ⟨40, 60, 30, ⟨2, 8⟩⟩) (x' := ⟨40, 60, 30, ⟨8, 2⟩⟩) (okp := fun _ => False) (by decide) rfl rfl info68 (by intro q hq; simp at hq; rcases hq with rfl | rfl <;> rfl) rfl (fun q v hq => by have := at5 (o := 5) Y5 rfl rfl rfl rfl rfl q v hq; rwa [add_lit, add_lit, Nat.zero_add] at this) (by decide) (k70_mkM _ _ _ ⟨40, 60, 30, ⟨8, 2⟩⟩) (fun _ h => h.elim) rfl rfl (fun w201 HY2 hg201 => ?_)
        have Y5 := (raw70 HY2).1
        have Qm := kG Qm hg201 (fun e => by injection e with e; omega)
        have Y2 := kG Y2 hg201 (fun e => by injection e with e; omega)
        have Y3 := kG Y3 hg201 (fun e => by injection e with e; omega)
        have Y4 := kG Y4 hg201 (fun e => by injection e with e; omega)
        have K := kG K hg201 (fun e => by injection e with e; omega)
        have hB := (hB.bel hBd).grown hg201 (fun k hk => by injection hk with hk; omega)
        have hYB : YB w201 g180 := fun i hi => by
          match i, hi with
          | 0, _ => exact ⟨none, 0, [], at1 (o := 0) K rfl, Kd.C_nil _ _, by decide⟩
          | 1, _ => exact ⟨some ⟨g175, 0, none⟩, 5, List.replicate 5 ⟨0, 0, 0, ⟨0, 0⟩⟩, at1 (o := 1) K rfl, C70 Qm rfl rfl (by decide), by decide⟩
          | 2, _ => exact ⟨some ⟨g176, 0, none⟩, 2, [⟨50, 1001, 20, ⟨5, 10⟩⟩, ⟨40, 60, 30, ⟨2, 8⟩⟩], at1 (o := 2) K rfl, C70 Y2 rfl rfl (by decide), by decide⟩
          | 3, _ => exact ⟨some ⟨g177, 0, none⟩, 2, [⟨61, 60, 20, ⟨5, 10⟩⟩, ⟨40, 60, 30, ⟨2, 8⟩⟩], at1 (o := 3) K rfl, C70 Y3 rfl rfl (by decide), by decide⟩
          | 4, _ => exact ⟨some ⟨g178, 0, none⟩, 2, [⟨50, 60, 20, ⟨5, 10⟩⟩, ⟨40, 60, 61, ⟨2, 8⟩⟩], at1 (o := 4) K rfl, C70 Y4 rfl rfl (by decide), by decide⟩
          | 5, _ => exact ⟨some ⟨g179, 0, none⟩, 2, [⟨50, 60, 20, ⟨5, 10⟩⟩, ⟨40, 60, 30, ⟨8, 2⟩⟩], at1 (o := 5) K rfl, C70 Y5 rfl rfl (by decide), by decide⟩
        refine GD_end (by kernel_rfl) (fun _ => K) ?_
        refine Tn (Sq (Sq (Rg (As (Nl (Tn (Bk ?_)))))))
        refine GC_loop (fun m σ w' => ∃ (i : Nat) (τ : Nat → Value), σ = upd (upd (upd (upd (upd τ 13 (.int .i64 4)) 14 (.bool true)) 15 (.int .i64 0)) 16 (.slice (some ⟨g180, 0, none⟩) 6 6)) 17 (.int .i64 i) ∧ i ≤ 6 ∧ m = 6 - i ∧ YB w' g180 ∧ Bel w w') (6) ⟨0, _, has rfl (has rfl (has rfl (has rfl (has rfl rfl)))), Nat.zero_le _, rfl, hYB, hB⟩ ?_
        rintro m _ w202 ⟨i, τ, rfl, hi, rfl, hYB, hB⟩
        refine Sq (Sq (Rg (Mv (Mv (Ln Try.underlying95 rfl ?_)))))
        refine g_lss rfl rfl (h1 := fun c205 => ?_) (h2 := fun c205 => ?_)
        · skip
          refine Nl (Tn (Ct rfl (Sk (Tn (Sq (Bk (Sq (Rg (Mv (Mv ?_))))))))))
          have hi6 : i < 6 := by omega
          have hob  := hYB i hi6
          obtain ⟨A, c, y, hcell, hC, hno⟩ := hob
          refine g_indexS Try.underlying95 info35 rfl rfl (by omega) (by omega) (Nat.mul_one _) (h := ?_)
          refine L1 Try.underlying35 (hcell) rfl ?_
          refine g_lit1 bs22 rfl rfl (h := fun g213 w213 N213 => ?_)
          have hcell := (Bel.of_new N213).cellk hcell
          have hC := Kd.C_below hC (Bel.of_new N213)
          have hB := hB.new N213
          refine g_call he23 rfl (runBad_c A (some ⟨g213, 0, none⟩) c 1 y [5] _ hC (CI N213.at_ rfl rfl (by decide)) hno) (h := ?_)
          rintro e w214 ⟨v214, a214, rfl, hb214⟩
          refine ⟨_, rfl, ?_⟩
          have hB := hB.bel hb214
          have hcell := hb214.cellk hcell
          have hC := Kd.C_below hC hb214
          refine Mv (Xt rfl rfl (Xt rfl rfl (Xt rfl rfl (As (As (As (Nl (Tn (Sq (Rg (Mv (Mv ?_))))))))))))
          refine g_indexS Try.underlying95 info35 rfl rfl (by omega) (by omega) (Nat.mul_one _) (h := ?_)
          refine L1 Try.underlying35 (hcell) rfl ?_
          refine g_call he28 rfl (firstBad_c A c y (-1) _ hC hno) (h := ?_)
          rintro e w223 ⟨a223, b223, rfl, hb223⟩
          refine ⟨_, rfl, ?_⟩
          have hB := hB.bel hb223
          have hcell := hb223.cellk hcell
          have hC := Kd.C_below hC hb223
          refine Mv (Xt rfl rfl (Xt rfl rfl (Xt rfl rfl (As (As (As (Nl (Tn (Sq (Rg (Mv (Mv ?_))))))))))))
          refine g_indexS Try.underlying95 info35 rfl rfl (by omega) (by omega) (Nat.mul_one _) (h := ?_)
          refine L1 Try.underlying35 (hcell) rfl ?_
          refine g_call he30 rfl (keepBad_c A c y 13 _ hC hno) (h := ?_)
          rintro e w232 ⟨v232, rfl, hb232⟩
          refine ⟨_, rfl, ?_⟩
          have hB := hB.bel hb232
          have hcell := hb232.cellk hcell
          have hC := Kd.C_below hC hb232
          refine Mv (Xt rfl rfl (Xt rfl rfl (As (As (Nl (Tn (Sq (Rg (Mv (Mv ?_))))))))))
          refine g_indexS Try.underlying95 info35 rfl rfl (by omega) (by omega) (Nat.mul_one _) (h := ?_)
          refine L1 Try.underlying35 (hcell) rfl ?_
          refine g_call he26 rfl (yardBad_c A c y _ hC hno) (h := ?_)
          rintro e w239 ⟨rfl, hb239⟩
          refine ⟨_, rfl, ?_⟩
          have hB := hB.bel hb239
          refine g_v (r_neqF rfl rfl (by decide)) (h := ?_)
          refine Mv (Mv ?_)
          refine g_v (r_neqF rfl rfl (by decide)) (h := ?_)
          refine Pf rfl (Mv (Mv ?_))
          refine g_v (r_neqF rfl rfl (by decide)) (h := ?_)
          refine Pf rfl (Mv (Mv ?_))
          refine g_v (r_neqF rfl rfl (by decide)) (h := ?_)
          refine Pf rfl (Nl (Tn (Cf rfl (Sk (Bn (Tn (Rg (Mv ?_))))))))
          refine g_add rfl rfl (by omega) (h := ?_)
          refine As (Nl ?_)
          exact round_end (6 - (i + 1)) (by omega) ⟨i + 1, _, has rfl (has rfl (has rfl (has rfl (has rfl rfl)))), hi6, rfl, hYB.bel (((((Bel.of_new N213).bel hb214).bel hb223).bel hb232).bel hb239), hB⟩
        · skip
          refine Nl (Tn (Cf rfl (Xi (Tx (Tx (Bs (Tn ?_)))))))
          refine GC_join (fun σ w' => ∃ (τ : Nat → Value), σ = upd (upd (upd (upd τ 13 (.int .i64 4)) 14 (.bool true)) 15 (.int .i64 0)) 28 (.int .i64 62) ∧ Bel w w') ?_ ?_
          · skip
            refine Rg ?_
            refine g_call he60 rfl (yardX_c _) (h := ?_)
            rintro e w254 ⟨g254, rfl, Y254, b254, hb254⟩
            refine ⟨_, rfl, ?_⟩
            have hB := hB.bel hb254
            refine g_lit1 bs22 rfl rfl (h := fun g255 w255 N255 => ?_)
            have hB := hB.new N255
            have Y254 := kN Y254 N255
            have V255 := N255.at_
            refine g_lits (bs22_2 _ _ _) rfl (h := fun g256 w256 N256 => ?_)
            have hB := hB.new N256
            have Y254 := kN Y254 N256
            have V255 := kN V255 N256
            have V256 := N256.at_
            refine g_lits (bs25_1 _ _ _ _) rfl (h := fun g257 w257 N257 => ?_)
            have hB := hB.new N257
            have Y254 := kN Y254 N257
            have V255 := kN V255 N257
            have V256 := kN V256 N257
            have V257 := N257.at_
            refine g_call he23 rfl (runK_c (some ⟨g254, 0, none⟩) (some ⟨g255, 0, none⟩) (some ⟨g257, 0, none⟩) 2 1 1 1 1 [2] [[5, 2]] 62 _ (C70 Y254 rfl rfl (by decide)) (CI V255 rfl rfl (by decide)) (litC1 (x := [5, 2]) (CI V256 rfl rfl (by decide)) (by decide) V257) rfl rfl run_no1) (h := ?_)
            rintro e w258 ⟨v258, a258, rfl, hb258⟩
            refine ⟨_, rfl, ?_⟩
            have hB := hB.bel hb258
            refine Mv (Xt rfl rfl (Xt rfl rfl (Xt rfl rfl (As (As (As (Nl ?_)))))))
            exact join_end ⟨_, has rfl (has rfl (has rfl (has rfl rfl))), hB⟩
          · rintro _ wj38 ⟨τ38, rfl, hB⟩
            refine GC_join (fun σ w' => ∃ (τ : Nat → Value), σ = upd (upd (upd (upd (upd τ 13 (.int .i64 4)) 14 (.bool true)) 15 (.int .i64 0)) 28 (.int .i64 62)) 31 (.int .i64 62) ∧ Bel w w') ?_ ?_
            · skip
              refine Rg ?_
              refine g_call he60 rfl (yardX_c _) (h := ?_)
              rintro e w263 ⟨g263, rfl, Y263, b263, hb263⟩
              refine ⟨_, rfl, ?_⟩
              have hB := hB.bel hb263
              refine g_lit1 bs22 rfl rfl (h := fun g264 w264 N264 => ?_)
              have hB := hB.new N264
              have Y263 := kN Y263 N264
              have V264 := N264.at_
              refine g_lits (bs22_2 _ _ _) rfl (h := fun g265 w265 N265 => ?_)
              have hB := hB.new N265
              have Y263 := kN Y263 N265
              have V264 := kN V264 N265
              have V265 := N265.at_
              refine g_lits (bs25_1 _ _ _ _) rfl (h := fun g266 w266 N266 => ?_)
              have hB := hB.new N266
              have Y263 := kN Y263 N266
              have V264 := kN V264 N266
              have V265 := kN V265 N266
              have V266 := N266.at_
              refine g_call he23 rfl (runK_c (some ⟨g263, 0, none⟩) (some ⟨g264, 0, none⟩) (some ⟨g266, 0, none⟩) 2 1 1 1 1 [1] [[5, 9]] 62 _ (C70 Y263 rfl rfl (by decide)) (CI V264 rfl rfl (by decide)) (litC1 (x := [5, 9]) (CI V265 rfl rfl (by decide)) (by decide) V266) rfl rfl run_no2) (h := ?_)
              rintro e w267 ⟨v267, a267, rfl, hb267⟩
              refine ⟨_, rfl, ?_⟩
              have hB := hB.bel hb267
              refine Mv (Xt rfl rfl (Xt rfl rfl (Xt rfl rfl (As (As (As (Nl ?_)))))))
              exact join_end ⟨_, has rfl (has rfl (has rfl (has rfl (has rfl rfl)))), hB⟩
            · rintro _ wj39 ⟨τ39, rfl, hB⟩
              refine GC_join (fun σ w' => ∃ (τ : Nat → Value), σ = upd (upd (upd (upd (upd (upd τ 13 (.int .i64 4)) 14 (.bool true)) 15 (.int .i64 0)) 28 (.int .i64 62)) 31 (.int .i64 62)) 34 (.int .i64 62) ∧ Bel w w') ?_ ?_
              · skip
                refine Rg ?_
                refine g_call he60 rfl (yardX_c _) (h := ?_)
                rintro e w272 ⟨g272, rfl, Y272, b272, hb272⟩
                refine ⟨_, rfl, ?_⟩
                have hB := hB.bel hb272
                refine g_lit1 bs22 rfl rfl (h := fun g273 w273 N273 => ?_)
                have hB := hB.new N273
                have Y272 := kN Y272 N273
                have V273 := N273.at_
                refine g_call he23 rfl (runK_c (some ⟨g272, 0, none⟩) (some ⟨g273, 0, none⟩) none 2 1 0 1 0 [1] [] 62 _ (C70 Y272 rfl rfl (by decide)) (CI V273 rfl rfl (by decide)) (Kd.C_nil _ _) rfl rfl run_no3) (h := ?_)
                rintro e w274 ⟨v274, a274, rfl, hb274⟩
                refine ⟨_, rfl, ?_⟩
                have hB := hB.bel hb274
                refine Mv (Xt rfl rfl (Xt rfl rfl (Xt rfl rfl (As (As (As (Nl ?_)))))))
                exact join_end ⟨_, has rfl (has rfl (has rfl (has rfl (has rfl (has rfl rfl))))), hB⟩
              · rintro _ wj40 ⟨τ40, rfl, hB⟩
                refine GC_join (fun σ w' => ∃ (τ : Nat → Value), σ = upd (upd (upd (upd (upd (upd (upd τ 13 (.int .i64 4)) 14 (.bool true)) 15 (.int .i64 0)) 28 (.int .i64 62)) 31 (.int .i64 62)) 34 (.int .i64 62)) 37 (.int .i64 62) ∧ Bel w w') ?_ ?_
                · skip
                  refine Rg ?_
                  refine g_call he60 rfl (yardX_c _) (h := ?_)
                  rintro e w279 ⟨g279, rfl, Y279, b279, hb279⟩
                  refine ⟨_, rfl, ?_⟩
                  have hB := hB.bel hb279
                  refine g_call he28 rfl (firstK_c' (some ⟨g279, 0, none⟩) 2 13 62 _ (C70 Y279 rfl rfl (by decide)) first13) (h := ?_)
                  rintro e w280 ⟨a280, b280, rfl, hb280⟩
                  refine ⟨_, rfl, ?_⟩
                  have hB := hB.bel hb280
                  refine Mv (Xt rfl rfl (Xt rfl rfl (Xt rfl rfl (As (As (As (Nl ?_)))))))
                  exact join_end ⟨_, has rfl (has rfl (has rfl (has rfl (has rfl (has rfl (has rfl rfl)))))), hB⟩
                · rintro _ wj41 ⟨τ41, rfl, hB⟩
                  refine GC_join (fun σ w' => ∃ (τ : Nat → Value), σ = upd (upd (upd (upd (upd (upd (upd (upd τ 13 (.int .i64 4)) 14 (.bool true)) 15 (.int .i64 0)) 28 (.int .i64 62)) 31 (.int .i64 62)) 34 (.int .i64 62)) 37 (.int .i64 62)) 39 (.int .i64 62) ∧ Bel w w') ?_ ?_
                  · skip
                    refine Rg ?_
                    refine g_call he60 rfl (yardX_c _) (h := ?_)
                    rintro e w285 ⟨g285, rfl, Y285, b285, hb285⟩
                    refine ⟨_, rfl, ?_⟩
                    have hB := hB.bel hb285
                    refine g_call he30 rfl (keepNo_c (some ⟨g285, 0, none⟩) 2 _ (C70 Y285 rfl rfl (by decide))) (h := ?_)
                    rintro e w286 ⟨v286, rfl, hb286⟩
                    refine ⟨_, rfl, ?_⟩
                    have hB := hB.bel hb286
                    refine Mv (Xt rfl rfl (Xt rfl rfl (As (As (Nl ?_)))))
                    exact join_end ⟨_, has rfl (has rfl (has rfl (has rfl (has rfl (has rfl (has rfl (has rfl rfl))))))), hB⟩
                  · rintro _ wj42 ⟨τ42, rfl, hB⟩
                    refine GC_join (fun σ w' => ∃ (τ : Nat → Value), σ = upd (upd (upd (upd (upd (upd (upd (upd (upd τ 13 (.int .i64 4)) 14 (.bool true)) 15 (.int .i64 0)) 28 (.int .i64 62)) 31 (.int .i64 62)) 34 (.int .i64 62)) 37 (.int .i64 62)) 39 (.int .i64 62)) 42 (.int .i64 4) ∧ Bel w w') ?_ ?_
                    · skip
                      refine Rg ?_
                      refine g_call he60 rfl (yardX_c _) (h := ?_)
                      rintro e w290 ⟨g290, rfl, Y290, b290, hb290⟩
                      refine ⟨_, rfl, ?_⟩
                      have hB := hB.bel hb290
                      refine g_call he28 rfl (firstK_c' (some ⟨g290, 0, none⟩) 2 1 4 _ (C70 Y290 rfl rfl (by decide)) first1) (h := ?_)
                      rintro e w291 ⟨a291, b291, rfl, hb291⟩
                      refine ⟨_, rfl, ?_⟩
                      have hB := hB.bel hb291
                      refine Mv (Xt rfl rfl (Xt rfl rfl (Xt rfl rfl (As (As (As (Nl ?_)))))))
                      exact join_end ⟨_, has rfl (has rfl (has rfl (has rfl (has rfl (has rfl (has rfl (has rfl (has rfl rfl)))))))), hB⟩
                    · rintro _ wj43 ⟨τ43, rfl, hB⟩
                      refine GC_join (fun σ w' => ∃ (A301 : Option Addr) (c301 : Nat) (τ : Nat → Value), σ = upd (upd (upd (upd (upd (upd (upd (upd (upd (upd (upd (upd τ 13 (.int .i64 4)) 14 (.bool true)) 15 (.int .i64 0)) 28 (.int .i64 62)) 31 (.int .i64 62)) 34 (.int .i64 62)) 37 (.int .i64 62)) 39 (.int .i64 62)) 42 (.int .i64 4)) 43 (.slice A301 2 c301)) 44 (.int .i64 1)) 45 (.int .i64 0) ∧ (Kd.int .i64).C w' A301 2 [30, 24] ∧ Bel w w') ?_ ?_
                      · skip
                        refine Rg ?_
                        refine g_call he60 rfl (yardX_c _) (h := ?_)
                        rintro e w296 ⟨g296, rfl, Y296, b296, hb296⟩
                        refine ⟨_, rfl, ?_⟩
                        have hB := hB.bel hb296
                        refine g_lits (bs22_2 _ _ _) rfl (h := fun g297 w297 N297 => ?_)
                        have hB := hB.new N297
                        have Y296 := kN Y296 N297
                        have V297 := N297.at_
                        refine g_lits (bs22_2 _ _ _) rfl (h := fun g298 w298 N298 => ?_)
                        have hB := hB.new N298
                        have Y296 := kN Y296 N298
                        have V297 := kN V297 N298
                        have V298 := N298.at_
                        refine g_lits (bs22_2 _ _ _) rfl (h := fun g299 w299 N299 => ?_)
                        have hB := hB.new N299
                        have Y296 := kN Y296 N299
                        have V297 := kN V297 N299
                        have V298 := kN V298 N299
                        have V299 := N299.at_
                        refine g_lits (bs25_2 _ _ _ _ _ _ _) rfl (h := fun g300 w300 N300 => ?_)
                        have hB := hB.new N300
                        have Y296 := kN Y296 N300
                        have V297 := kN V297 N300
                        have V298 := kN V298 N300
                        have V299 := kN V299 N300
                        have V300 := N300.at_
                        refine g_call he23 rfl (runDry_c (some ⟨g296, 0, none⟩) (some ⟨g297, 0, none⟩) (some ⟨g300, 0, none⟩) 2 2 2 _ (C70 Y296 rfl rfl (by decide)) (CI V297 rfl rfl (by decide)) (litC2 (x := [10, 8]) (y := [10, 8]) (CI V298 rfl rfl (by decide)) (CI V299 rfl rfl (by decide)) (by decide) (by decide) V300)) (h := ?_)
                        rintro e w301 ⟨A301, c301, rfl, hC301, hb301⟩
                        refine ⟨_, rfl, ?_⟩
                        have hB := hB.bel hb301
                        refine Mv (Xt rfl rfl (Xt rfl rfl (Xt rfl rfl (As (As (As (Nl ?_)))))))
                        exact join_end ⟨A301, c301, _, has rfl (has rfl (has rfl (has rfl (has rfl (has rfl (has rfl (has rfl (has rfl (has rfl (has rfl (has rfl rfl))))))))))), hC301, hB⟩
                      · rintro _ wj44 ⟨A301, c301, τ44, rfl, hC301, hB⟩
                        refine Sq (Rg ?_)
                        have s305 := hB.size
                        refine g_call he60 rfl (yardX_c _) (h := ?_)
                        rintro e w305 ⟨g305, rfl, Y305, b305, hb305⟩
                        refine ⟨_, rfl, ?_⟩
                        have hB := hB.bel hb305
                        have hE := hb305
                        refine As (Nl (Tn ?_))
                        refine GC_join (fun σ w' => ∃ (A301 : Option Addr) (c301 g305 : Nat) (τ : Nat → Value), σ = upd (upd (upd (upd (upd (upd (upd (upd (upd (upd (upd (upd (upd τ 13 (.int .i64 4)) 14 (.bool true)) 15 (.int .i64 0)) 28 (.int .i64 62)) 31 (.int .i64 62)) 34 (.int .i64 62)) 37 (.int .i64 62)) 39 (.int .i64 62)) 42 (.int .i64 4)) 43 (.slice A301 2 c301)) 44 (.int .i64 1)) 45 (.int .i64 0)) 46 (.slice (some ⟨g305, 0, none⟩) 2 2) ∧ (Kd.int .i64).C w' A301 2 [30, 24] ∧ w'.heap[g305]? = some (.cells #[.int .i64 50, .int .i64 60, .int .i64 20, .int .i64 5, .int .i64 10, .int .i64 37, .int .i64 60, .int .i64 30, .int .i64 2, .int .i64 8] 70 (0, 0)) ∧ Bel w w') ?_ ?_
                        · skip
                          refine Rg (Mv ?_)
                          refine g_indexO Try.underlying35 info70 rfl rfl  (by omega) (by omega) rfl (h := ?_)
                          refine Fb f70_0 rfl ?_
                          refine g_store1 rfl rfl info3 Y305 (Nat.le_of_ble_eq_true rfl) rfl (h := fun w307 P307 => ?_)
                          have Y305 : w307.heap[g305]? = some (.cells #[.int .i64 50, .int .i64 60, .int .i64 20, .int .i64 5, .int .i64 10, .int .i64 37, .int .i64 60, .int .i64 30, .int .i64 2, .int .i64 8] 70 (0, 0)) := P307.at_
                          have hB := hB.put P307 (Nat.le_trans s305 b305)
                          have hE := hE.put P307 b305
                          have hC301 := Kd.C_below hC301 hE
                          refine Nl ?_
                          exact join_end ⟨A301, c301, g305, _, has rfl (has rfl (has rfl (has rfl (has rfl (has rfl (has rfl (has rfl (has rfl (has rfl (has rfl (has rfl (has rfl rfl)))))))))))), hC301, Y305, hB⟩
                        · rintro _ wj46 ⟨A301, c301, g305, τ46, rfl, hC301, Y305, hB⟩
                          refine Sq (Rg (Mv ?_))
                          refine g_call he30 rfl (keepLow_c (some ⟨g305, 0, none⟩) 2 _ (C70 Y305 rfl rfl (by decide))) (h := ?_)
                          rintro e w311 ⟨v311, rfl, hb311⟩
                          refine ⟨_, rfl, ?_⟩
                          have hB := hB.bel hb311
                          have hC301 := Kd.C_below hC301 hb311
                          have Y305 := kB Y305 hb311
                          refine Mv (Xt rfl rfl (Xt rfl rfl (As (As (Nl (Tn ?_))))))
                          refine GC_join (fun σ w' => ∃ (A301 : Option Addr) (c301 : Nat) (A316 : Option Addr) (c316 : Nat) (τ : Nat → Value), σ = upd (upd (upd (upd (upd (upd (upd (upd (upd (upd (upd (upd (upd (upd (upd τ 13 (.int .i64 4)) 14 (.bool true)) 15 (.int .i64 0)) 28 (.int .i64 62)) 31 (.int .i64 62)) 34 (.int .i64 62)) 37 (.int .i64 62)) 39 (.int .i64 62)) 42 (.int .i64 4)) 43 (.slice A301 2 c301)) 44 (.int .i64 1)) 45 (.int .i64 0)) 48 (.int .i64 4)) 49 (.slice A316 0 c316)) 50 (.int .i64 0) ∧ (Kd.int .i64).C w' A301 2 [30, 24] ∧ Bel w w') ?_ ?_
                          · skip
                            refine Rg (Mv ?_)
                            refine g_call he30 rfl (keepZero_c (some ⟨g305, 0, none⟩) 2 _ (C70 Y305 rfl rfl (by decide))) (h := ?_)
                            rintro e w316 ⟨A316, c316, rfl, hb316⟩
                            refine ⟨_, rfl, ?_⟩
                            have hB := hB.bel hb316
                            have hC301 := Kd.C_below hC301 hb316
                            refine Mv (Xt rfl rfl (Xt rfl rfl (As (As (Nl ?_)))))
                            exact join_end ⟨A301, c301, A316, c316, _, has rfl (has rfl (has rfl (has rfl (has rfl (has rfl (has rfl (has rfl (has rfl (has rfl (has rfl (has rfl (has rfl (has rfl (has rfl rfl)))))))))))))), hC301, hB⟩
                          · rintro _ wj48 ⟨A301, c301, A316, c316, τ48, rfl, hC301, hB⟩
                            refine Sq (Sq (Rg (Mv ?_)))
                            refine g_v (r_neqF rfl rfl (by decide)) (h := ?_)
                            refine Mv (Mv ?_)
                            refine g_v (r_neqF rfl rfl (by decide)) (h := ?_)
                            refine Pf rfl (Mv (Mv (Nt rfl (Pf rfl (Mv (Mv ?_))))))
                            refine g_v (r_neqF rfl rfl (by decide)) (h := ?_)
                            refine Pf rfl (Mv (Mv ?_))
                            refine g_v (r_neqF rfl rfl (by decide)) (h := ?_)
                            refine Pf rfl (Mv (Mv ?_))
                            refine g_v (r_neqF rfl rfl (by decide)) (h := ?_)
                            refine Pf rfl (Mv (Mv ?_))
                            refine g_v (r_neqF rfl rfl (by decide)) (h := ?_)
                            refine Pf rfl (Mv (Mv ?_))
                            refine g_v (r_neqF rfl rfl (by decide)) (h := ?_)
                            refine Pf rfl (Mv (Mv ?_))
                            refine g_v (r_neqF rfl rfl (by decide)) (h := ?_)
                            refine Pf rfl (Mv (Mv ?_))
                            refine g_v (r_neqF rfl rfl (by decide)) (h := ?_)
                            refine Pf rfl (Mv (Mv ?_))
                            refine g_v (r_neqF rfl rfl (by decide)) (h := ?_)
                            refine Pf rfl (Mv (Mv ?_))
                            refine g_lits (bs22_2 _ _ _) rfl (h := fun g363 w363 N363 => ?_)
                            have hB := hB.new N363
                            have V363 := N363.at_
                            refine g_call he25 rfl (sameEx_c A301 (some ⟨g363, 0, none⟩) c301 2 2 [30, 24] w363 rfl (Kd.C_below hC301 (Bel.of_new N363)) (CI V363 rfl rfl (by decide))) (h := ?_)
                            rintro e w364 ⟨rfl, hb364⟩
                            refine ⟨_, rfl, ?_⟩
                            have hB := hB.bel hb364
                            refine Nt rfl (Pf rfl (Mv (Mv ?_)))
                            refine g_v (r_neqF rfl rfl (by decide)) (h := ?_)
                            refine Pf rfl (Mv (Mv ?_))
                            refine g_v (r_neqF rfl rfl (by decide)) (h := ?_)
                            refine Pf rfl (Mv (Mv (Ln Try.underlying22 rfl ?_)))
                            refine g_v (r_neqF rfl rfl (fun h => h rfl)) (h := ?_)
                            refine Pf rfl (Nl (Tn (Cf rfl (Sk (Tn (Sq (Rg ?_)))))))
                            refine g_bld (build49_0 _) rfl (h := ?_)
                            have s381 := hB.size
                            refine g_call he61 rfl (bookX_c 9 _) (h := ?_)
                            rintro e w381 ⟨g381, rfl, Z1, b381, hb381⟩
                            refine ⟨_, rfl, ?_⟩
                            have hB := hB.bel hb381
                            have o381 := blt Z1
                            have s382 := hB.size
                            refine g_call he61 rfl (bookX_c 9 _) (h := ?_)
                            rintro e w382 ⟨g382, rfl, Z2, b382, hb382⟩
                            refine ⟨_, rfl, ?_⟩
                            have hB := hB.bel hb382
                            have o382 := blt Z2
                            have Z1 := kB Z1 hb382
                            have s383 := hB.size
                            refine g_call he61 rfl (bookX_c 9 _) (h := ?_)
                            rintro e w383 ⟨g383, rfl, Z3, b383, hb383⟩
                            refine ⟨_, rfl, ?_⟩
                            have hB := hB.bel hb383
                            have o383 := blt Z3
                            have Z1 := kB Z1 hb383
                            have Z2 := kB Z2 hb383
                            have s384 := hB.size
                            refine g_call he61 rfl (bookX_c 9 _) (h := ?_)
                            rintro e w384 ⟨g384, rfl, Z4, b384, hb384⟩
                            refine ⟨_, rfl, ?_⟩
                            have hB := hB.bel hb384
                            have o384 := blt Z4
                            have Z1 := kB Z1 hb384
                            have Z2 := kB Z2 hb384
                            have Z3 := kB Z3 hb384
                            refine g_lits (bs97_5 _ _ _ _ _) rfl (h := fun g385 w385 N385 => ?_)
                            have s385 := hB.size
                            have hB := hB.new N385
                            have o385 := N385.ge
                            have Z1 := kN Z1 N385
                            have Z2 := kN Z2 N385
                            have Z3 := kN Z3 N385
                            have Z4 := kN Z4 N385
                            have K := N385.at_
                            refine As (Nl (Tn (Sq (Rg (Mv ?_)))))
                            refine g_indexO Try.underlying97 info49 rfl rfl  (by omega) (by omega) rfl (h := ?_)
                            refine Fb f49_0 rfl ?_
                            refine g_store1 rfl rfl info3 K (Nat.le_of_ble_eq_true rfl) rfl (h := fun w388 P388 => ?_)
                            have K : w388.heap[g385]? = some (.cells #[.int .i64 0, .slice none 0 0, .int .i64 2, .slice (some ⟨g381, 0, none⟩) 4 4, .int .i64 3, .slice (some ⟨g382, 0, none⟩) 4 4, .int .i64 3, .slice (some ⟨g383, 0, none⟩) 4 4, .int .i64 3, .slice (some ⟨g384, 0, none⟩) 4 4] 49 (0, 0)) := P388.at_
                            have Z1 := kP Z1 P388 (by omega)
                            have Z2 := kP Z2 P388 (by omega)
                            have Z3 := kP Z3 P388 (by omega)
                            have Z4 := kP Z4 P388 (by omega)
                            have hB := hB.put P388 (by omega)
                            refine Nl (Tn (Sq (Rg (Mv ?_))))
                            refine g_indexO Try.underlying97 info49 rfl rfl  (by omega) (by omega) rfl (h := ?_)
                            refine Fb f49_1 rfl (L1 Try.underlying47 (cellAt K rfl) rfl ?_)
                            refine g_indexO Try.underlying47 info76 rfl rfl  (by omega) (by omega) rfl (h := ?_)
                            refine Fb f76_1 rfl ?_
                            refine g_store1 rfl rfl info3 Z2 (Nat.le_of_ble_eq_true rfl) rfl (h := fun w394 P394 => ?_)
                            have Z2 : w394.heap[g382]? = some (.cells #[.int .i64 0, .int .i64 0, .int .i64 10, .int .i64 20, .int .i64 1, .int .i64 2, .int .i64 5, .int .i64 12, .int .i64 1, .int .i64 0, .int .i64 2, .int .i64 4, .int .i64 2, .int .i64 0, .int .i64 0, .int .i64 9] 76 (0, 0)) := P394.at_
                            have Z1 := kP Z1 P394 (by omega)
                            have Z3 := kP Z3 P394 (by omega)
                            have Z4 := kP Z4 P394 (by omega)
                            have K := kP K P394 (by omega)
                            have hB := hB.put P394 (by omega)
                            refine Nl (Tn (Sq ?_))
                            have hBd : Bel w394 (w394.drewN 1) := Bel.drew (Below.refl _ _)
                            have Z1 := kB Z1 hBd
                            have Z2 := kB Z2 hBd
                            have Z3 := kB Z3 hBd
                            have Z4 := kB Z4 hBd
                            have K := kB K hBd
                            refine GD_start 8 [] (fun w' => w'.heap[g385]? = some (.cells #[.int .i64 0, .slice none 0 0, .int .i64 2, .slice (some ⟨g381, 0, none⟩) 4 4, .int .i64 3, .slice (some ⟨g382, 0, none⟩) 4 4, .int .i64 3, .slice (some ⟨g383, 0, none⟩) 4 4, .int .i64 3, .slice (some ⟨g384, 0, none⟩) 4 4] 49 (0, 0))) (by kernel_rfl) rfl ?_
                            refine GD_pure 0 rfl (by kernel_rfl) (by kernel_rfl) (by kernel_rfl) (by kernel_rfl) rfl rfl rfl (qv fun wq hC => by exact r_move) ?_
                            refine GD_pure 1 rfl (by kernel_rfl) (by kernel_rfl) (by kernel_rfl) (by kernel_rfl) rfl rfl rfl (qv fun wq hC => by exact r_indexO Try.underlying97 info49 rfl rfl  (by omega) (by omega) rfl) ?_
                            refine GD_pure 2 rfl (by kernel_rfl) (by kernel_rfl) (by kernel_rfl) (by kernel_rfl) rfl rfl rfl (qv fun wq hC => by exact r_fieldAddrB f49_1 rfl) ?_
                            refine GD_take 3 rfl (by kernel_rfl) (by kernel_rfl) (by kernel_rfl) (by kernel_rfl) rfl rfl rfl (qv fun wq hC => by exact r_load1 rfl Try.underlying47 (cellAt hC rfl)) ?_
                            refine GD_one 4 (by kernel_rfl) (fun _ => K) ?_
                            refine GO_call rfl rfl rfl he51 rfl (to_c 5 4 _) (fun e w399 he => ?_)
                            obtain ⟨rfl, hb399⟩ := he
                            refine ⟨_, rfl, ?_⟩
                            have hBd := hBd.bel hb399
                            have Z1 := kB Z1 hb399
                            have Z2 := kB Z2 hb399
                            have Z3 := kB Z3 hb399
                            have Z4 := kB Z4 hb399
                            have K := kB K hb399
                            have HZ := R_of_raw (enc := enc76) (d := k76) (base := w.heap.size) (xs := bookL 9) (fun _ _ _ x => k76_mkM _ _ _ x) (fun _ => rfl) Z3 rfl rfl (by decide) (by omega)
                            refine GD_pure 5 rfl (by kernel_rfl) (by kernel_rfl) (by kernel_rfl) (by kernel_rfl) rfl rfl rfl (qv fun wq hC => by exact r_indexO Try.underlying47 info76 rfl rfl  (by omega) (by omega) rfl) ?_
                            refine GD_pure 6 rfl (by kernel_rfl) (by kernel_rfl) (by kernel_rfl) (by kernel_rfl) rfl rfl rfl (qv fun wq hC => by exact r_fieldAddrB f76_2 rfl) ?_
                            refine GD_one 7 (by kernel_rfl) (fun _ => K) ?_
                            refine GO_storeSeg k76 rfl rfl HZ (i := 1) (j := 2) (o := 6) (u := .agg #[.int .i64 5, .int .i64 4]) (seg := [.int .i64 5, .int .i64 4]) (c := enc76 ⟨1, 2, ⟨5, 12⟩⟩) (x' := ⟨1, 2, ⟨5, 4⟩⟩) (okp := fun _ => False) (by decide) rfl rfl info68 (by intro q hq; simp at hq; rcases hq with rfl | rfl <;> rfl) rfl (fun q v hq => by have := at4 (o := 4) Z3 rfl rfl rfl rfl q v hq; rwa [add_lit, add_lit, Nat.zero_add] at this) (by decide) (k76_mkM _ _ _ ⟨1, 2, ⟨5, 4⟩⟩) (fun _ h => h.elim) rfl rfl (fun w401 HZ2 hg54 => ?_)
                            have Z3 := (raw76 HZ2).1
                            have Z1 := kG Z1 hg54 (fun e => by injection e with e; omega)
                            have Z2 := kG Z2 hg54 (fun e => by injection e with e; omega)
                            have Z4 := kG Z4 hg54 (fun e => by injection e with e; omega)
                            have K := kG K hg54 (fun e => by injection e with e; omega)
                            have hB := (hB.bel hBd).grown hg54 (fun k hk => by injection hk with hk; omega)
                            refine GD_end (by kernel_rfl) (fun _ => K) ?_
                            refine Tn (Sq ?_)
                            have hBd : Bel w401 (w401.drewN 1) := Bel.drew (Below.refl _ _)
                            have Z1 := kB Z1 hBd
                            have Z2 := kB Z2 hBd
                            have Z3 := kB Z3 hBd
                            have Z4 := kB Z4 hBd
                            have K := kB K hBd
                            refine GD_start 8 [] (fun w' => w'.heap[g385]? = some (.cells #[.int .i64 0, .slice none 0 0, .int .i64 2, .slice (some ⟨g381, 0, none⟩) 4 4, .int .i64 3, .slice (some ⟨g382, 0, none⟩) 4 4, .int .i64 3, .slice (some ⟨g383, 0, none⟩) 4 4, .int .i64 3, .slice (some ⟨g384, 0, none⟩) 4 4] 49 (0, 0))) (by kernel_rfl) rfl ?_
                            refine GD_pure 0 rfl (by kernel_rfl) (by kernel_rfl) (by kernel_rfl) (by kernel_rfl) rfl rfl rfl (qv fun wq hC => by exact r_move) ?_
                            refine GD_pure 1 rfl (by kernel_rfl) (by kernel_rfl) (by kernel_rfl) (by kernel_rfl) rfl rfl rfl (qv fun wq hC => by exact r_indexO Try.underlying97 info49 rfl rfl  (by omega) (by omega) rfl) ?_
                            refine GD_pure 2 rfl (by kernel_rfl) (by kernel_rfl) (by kernel_rfl) (by kernel_rfl) rfl rfl rfl (qv fun wq hC => by exact r_fieldAddrB f49_1 rfl) ?_
                            refine GD_take 3 rfl (by kernel_rfl) (by kernel_rfl) (by kernel_rfl) (by kernel_rfl) rfl rfl rfl (qv fun wq hC => by exact r_load1 rfl Try.underlying47 (cellAt hC rfl)) ?_
                            refine GD_one 4 (by kernel_rfl) (fun _ => K) ?_
                            refine GO_call rfl rfl rfl he51 rfl (to_c 5 1001 _) (fun e w406 he => ?_)
                            obtain ⟨rfl, hb406⟩ := he
                            refine ⟨_, rfl, ?_⟩
                            have hBd := hBd.bel hb406
                            have Z1 := kB Z1 hb406
                            have Z2 := kB Z2 hb406
                            have Z3 := kB Z3 hb406
                            have Z4 := kB Z4 hb406
                            have K := kB K hb406
                            have HZ := R_of_raw (enc := enc76) (d := k76) (base := w.heap.size) (xs := bookL 9) (fun _ _ _ x => k76_mkM _ _ _ x) (fun _ => rfl) Z4 rfl rfl (by decide) (by omega)
                            refine GD_pure 5 rfl (by kernel_rfl) (by kernel_rfl) (by kernel_rfl) (by kernel_rfl) rfl rfl rfl (qv fun wq hC => by exact r_indexO Try.underlying47 info76 rfl rfl  (by omega) (by omega) rfl) ?_
                            refine GD_pure 6 rfl (by kernel_rfl) (by kernel_rfl) (by kernel_rfl) (by kernel_rfl) rfl rfl rfl (qv fun wq hC => by exact r_fieldAddrB f76_2 rfl) ?_
                            refine GD_one 7 (by kernel_rfl) (fun _ => K) ?_
                            refine GO_storeSeg k76 rfl rfl HZ (i := 1) (j := 2) (o := 6) (u := .agg #[.int .i64 5, .int .i64 1001]) (seg := [.int .i64 5, .int .i64 1001]) (c := enc76 ⟨1, 2, ⟨5, 12⟩⟩) (x' := ⟨1, 2, ⟨5, 1001⟩⟩) (okp := fun _ => False) (by decide) rfl rfl info68 (by intro q hq; simp at hq; rcases hq with rfl | rfl <;> rfl) rfl (fun q v hq => by have := at4 (o := 4) Z4 rfl rfl rfl rfl q v hq; rwa [add_lit, add_lit, Nat.zero_add] at this) (by decide) (k76_mkM _ _ _ ⟨1, 2, ⟨5, 1001⟩⟩) (fun _ h => h.elim) rfl rfl (fun w408 HZ2 hg55 => ?_)
                            have Z4 := (raw76 HZ2).1
                            have Z1 := kG Z1 hg55 (fun e => by injection e with e; omega)
                            have Z2 := kG Z2 hg55 (fun e => by injection e with e; omega)
                            have Z3 := kG Z3 hg55 (fun e => by injection e with e; omega)
                            have K := kG K hg55 (fun e => by injection e with e; omega)
                            have hB := (hB.bel hBd).grown hg55 (fun k hk => by injection hk with hk; omega)
                            have hBB : BB w408 g385 := fun i hi => by
                              match i, hi with
                              | 0, _ => exact ⟨0, none, 0, [], at2 (o := 0) K rfl rfl, Kd.C_nil _ _, by decide⟩
                              | 1, _ => exact ⟨2, some ⟨g381, 0, none⟩, 4, (bookL 9), at2 (o := 2) K rfl rfl, C76 Z1 rfl rfl (by decide), by decide⟩
                              | 2, _ => exact ⟨3, some ⟨g382, 0, none⟩, 4, [⟨0, 0, ⟨10, 20⟩⟩, ⟨1, 2, ⟨5, 12⟩⟩, ⟨1, 0, ⟨2, 4⟩⟩, ⟨2, 0, ⟨0, 9⟩⟩], at2 (o := 4) K rfl rfl, C76 Z2 rfl rfl (by decide), by decide⟩
                              | 3, _ => exact ⟨3, some ⟨g383, 0, none⟩, 4, [⟨0, 1, ⟨10, 20⟩⟩, ⟨1, 2, ⟨5, 4⟩⟩, ⟨1, 0, ⟨2, 4⟩⟩, ⟨2, 0, ⟨0, 9⟩⟩], at2 (o := 6) K rfl rfl, C76 Z3 rfl rfl (by decide), by decide⟩
                              | 4, _ => exact ⟨3, some ⟨g384, 0, none⟩, 4, [⟨0, 1, ⟨10, 20⟩⟩, ⟨1, 2, ⟨5, 1001⟩⟩, ⟨1, 0, ⟨2, 4⟩⟩, ⟨2, 0, ⟨0, 9⟩⟩], at2 (o := 8) K rfl rfl, C76 Z4 rfl rfl (by decide), by decide⟩
                            refine GD_end (by kernel_rfl) (fun _ => K) ?_
                            refine Tn (Sq (Sq (Rg (As (Nl (Tn (Bk ?_)))))))
                            refine GC_loop (fun m σ w' => ∃ (i : Nat) (τ : Nat → Value), σ = upd (upd τ 51 (.slice (some ⟨g385, 0, none⟩) 5 5)) 52 (.int .i64 i) ∧ i ≤ 5 ∧ m = 5 - i ∧ BB w' g385 ∧ Bel w w') (5) ⟨0, _, has rfl (has rfl rfl), Nat.zero_le _, rfl, hBB, hB⟩ ?_
                            rintro m _ w409 ⟨i, τ, rfl, hi, rfl, hBB, hB⟩
                            refine Sq (Sq (Rg (Mv (Mv (Ln Try.underlying97 rfl ?_)))))
                            refine g_lss rfl rfl (h1 := fun c412 => ?_) (h2 := fun c412 => ?_)
                            · skip
                              refine Nl (Tn (Ct rfl (Sk (Tn (Sq (Bk (Sq (Rg (Mv (Mv ?_))))))))))
                              have hi5 : i < 5 := by omega
                              have hob  := hBB i hi5
                              obtain ⟨n, A, c, l, hcell, hC, hno⟩ := hob
                              refine g_indexS Try.underlying97 info49 rfl rfl (by omega) (by omega) rfl (h := ?_)
                              refine g_loadA rfl Try.underlying49 info49 (l := [.int .i64 n, .slice A l.length c]) hcell (h := ?_)
                              refine g_call he33 rfl (countsBad_c A c n l _ hC hno) (h := ?_)
                              rintro e w420 ⟨rfl, hb420⟩
                              refine ⟨_, rfl, ?_⟩
                              have hB := hB.bel hb420
                              have hcell := fun j v hj => hb420.cellk (hcell j v hj)
                              have hC := Kd.C_below hC hb420
                              refine Mv (Xt rfl rfl (Xt rfl rfl (As (As (Nl (Tn (Sq (Rg (Mv (Mv ?_))))))))))
                              refine g_indexS Try.underlying97 info49 rfl rfl (by omega) (by omega) rfl (h := ?_)
                              refine g_loadA rfl Try.underlying49 info49 (l := [.int .i64 n, .slice A l.length c]) hcell (h := ?_)
                              refine g_call he37 rfl (balBad_c A c n l _ hC hno) (h := ?_)
                              rintro e w428 ⟨v428, rfl, hb428⟩
                              refine ⟨_, rfl, ?_⟩
                              have hB := hB.bel hb428
                              have hcell := fun j v hj => hb428.cellk (hcell j v hj)
                              have hC := Kd.C_below hC hb428
                              refine Mv (Xt rfl rfl (Xt rfl rfl (As (As (Nl (Tn (Sq (Rg (Mv (Mv ?_))))))))))
                              refine g_indexS Try.underlying97 info49 rfl rfl (by omega) (by omega) rfl (h := ?_)
                              refine g_loadA rfl Try.underlying49 info49 (l := [.int .i64 n, .slice A l.length c]) hcell (h := ?_)
                              refine g_call he52 rfl (provBad_c A c n l (-1) _ hC hno) (h := ?_)
                              rintro e w436 ⟨rfl, hb436⟩
                              refine ⟨_, rfl, ?_⟩
                              have hB := hB.bel hb436
                              have hcell := fun j v hj => hb436.cellk (hcell j v hj)
                              have hC := Kd.C_below hC hb436
                              refine Mv (Xt rfl rfl (Xt rfl rfl (As (As (Nl (Tn (Sq (Rg (Mv (Mv ?_))))))))))
                              refine g_indexS Try.underlying97 info49 rfl rfl (by omega) (by omega) rfl (h := ?_)
                              refine g_loadA rfl Try.underlying49 info49 (l := [.int .i64 n, .slice A l.length c]) hcell (h := ?_)
                              refine g_call he54 rfl (proofBad_c A c n l _ hC hno) (h := ?_)
                              rintro e w444 ⟨rfl, hb444⟩
                              refine ⟨_, rfl, ?_⟩
                              have hB := hB.bel hb444
                              have hcell := fun j v hj => hb444.cellk (hcell j v hj)
                              have hC := Kd.C_below hC hb444
                              refine Mv (Xt rfl rfl (Xt rfl rfl (As (As (Nl (Tn (Sq (Rg (Mv (Mv ?_))))))))))
                              refine g_indexS Try.underlying97 info49 rfl rfl (by omega) (by omega) rfl (h := ?_)
                              refine g_loadA rfl Try.underlying49 info49 (l := [.int .i64 n, .slice A l.length c]) hcell (h := ?_)
                              refine g_call he35 rfl (bookBad_c A c n l _ hC hno) (h := ?_)
                              rintro e w451 ⟨rfl, hb451⟩
                              refine ⟨_, rfl, ?_⟩
                              have hB := hB.bel hb451
                              have hcell := fun j v hj => hb451.cellk (hcell j v hj)
                              have hC := Kd.C_below hC hb451
                              refine g_v (r_neqF rfl rfl (by decide)) (h := ?_)
                              refine Mv (Mv ?_)
                              refine g_v (r_neqF rfl rfl (by decide)) (h := ?_)
                              refine Pf rfl (Mv (Mv ?_))
                              refine g_v (r_neqF rfl rfl (by decide)) (h := ?_)
                              refine Pf rfl (Mv (Mv ?_))
                              refine g_v (r_neqF rfl rfl (by decide)) (h := ?_)
                              refine Pf rfl (Mv (Mv ?_))
                              refine g_v (r_neqF rfl rfl (by decide)) (h := ?_)
                              refine Pf rfl (Nl (Tn (Cf rfl (Sk (Bn (Tn (Rg (Mv ?_))))))))
                              refine g_add rfl rfl (by omega) (h := ?_)
                              refine As (Nl ?_)
                              exact round_end (5 - (i + 1)) (by omega) ⟨i + 1, _, has rfl (has rfl rfl), hi5, rfl, hBB.bel ((((hb420.bel hb428).bel hb436).bel hb444).bel hb451), hB⟩
                            · skip
                              refine Nl (Tn (Cf rfl (Xi (Tx (Tx (Bs (Tn (Sq (Rg ?_)))))))))
                              refine g_call he61 rfl (bookX_c 9 _) (h := ?_)
                              rintro e w470 ⟨g470, rfl, Z470, b470, hb470⟩
                              refine ⟨_, rfl, ?_⟩
                              have hB := hB.bel hb470
                              refine g_lits (bs22_4 _ _ _ _ _) rfl (h := fun g471 w471 N471 => ?_)
                              have hB := hB.new N471
                              have Z470 := kN Z470 N471
                              have V471 := N471.at_
                              refine g_call he33 rfl (countsK_c (some ⟨g470, 0, none⟩) (some ⟨g471, 0, none⟩) 4 4 4 [11, 8, 3, 9] false 0 _ (C76 Z470 rfl rfl (by decide)) (CI V471 rfl rfl (by decide)) rfl counts1) (h := ?_)
                              rintro e w472 ⟨rfl, hb472⟩
                              refine ⟨_, rfl, ?_⟩
                              have hB := hB.bel hb472
                              refine Mv (Xt rfl rfl (Xt rfl rfl (As (As (Nl (Tn (Sq (Rg ?_))))))))
                              refine g_call he61 rfl (bookX_c 9 _) (h := ?_)
                              rintro e w476 ⟨g476, rfl, Z476, b476, hb476⟩
                              refine ⟨_, rfl, ?_⟩
                              have hB := hB.bel hb476
                              refine g_lits (bs22_4 _ _ _ _ _) rfl (h := fun g477 w477 N477 => ?_)
                              have hB := hB.new N477
                              have Z476 := kN Z476 N477
                              have V477 := N477.at_
                              refine g_call he33 rfl (countsK_c (some ⟨g476, 0, none⟩) (some ⟨g477, 0, none⟩) 4 4 4 [9, 6, 3, 6] false 0 _ (C76 Z476 rfl rfl (by decide)) (CI V477 rfl rfl (by decide)) rfl counts2) (h := ?_)
                              rintro e w478 ⟨rfl, hb478⟩
                              refine ⟨_, rfl, ?_⟩
                              have hB := hB.bel hb478
                              refine Mv (Xt rfl rfl (Xt rfl rfl (As (As (Nl (Tn (Sq (Rg ?_))))))))
                              refine g_call he61 rfl (bookX_c 9 _) (h := ?_)
                              rintro e w482 ⟨g482, rfl, Z482, b482, hb482⟩
                              refine ⟨_, rfl, ?_⟩
                              have hB := hB.bel hb482
                              refine g_lits (bs22_3 _ _ _ _) rfl (h := fun g483 w483 N483 => ?_)
                              have hB := hB.new N483
                              have Z482 := kN Z482 N483
                              have V483 := N483.at_
                              refine g_call he33 rfl (countsK_c (some ⟨g482, 0, none⟩) (some ⟨g483, 0, none⟩) 4 3 3 [11, 8, 3] false 64 _ (C76 Z482 rfl rfl (by decide)) (CI V483 rfl rfl (by decide)) rfl counts3) (h := ?_)
                              rintro e w484 ⟨rfl, hb484⟩
                              refine ⟨_, rfl, ?_⟩
                              have hB := hB.bel hb484
                              refine Mv (Xt rfl rfl (Xt rfl rfl (As (Nl (Tn (Sq (Rg ?_)))))))
                              refine g_call he61 rfl (bookX_c 9 _) (h := ?_)
                              rintro e w488 ⟨g488, rfl, Z488, b488, hb488⟩
                              refine ⟨_, rfl, ?_⟩
                              have hB := hB.bel hb488
                              refine g_call he52 rfl (provesK_c (some ⟨g488, 0, none⟩) 4 9 8 false 64 _ (C76 Z488 rfl rfl (by decide)) proves1) (h := ?_)
                              rintro e w489 ⟨rfl, hb489⟩
                              refine ⟨_, rfl, ?_⟩
                              have hB := hB.bel hb489
                              refine Mv (Xt rfl rfl (Xt rfl rfl (As (Nl (Tn (Sq (Rg ?_)))))))
                              refine g_call he61 rfl (bookX_c 9 _) (h := ?_)
                              rintro e w493 ⟨g493, rfl, Z493, b493, hb493⟩
                              refine ⟨_, rfl, ?_⟩
                              have hB := hB.bel hb493
                              refine g_call he52 rfl (provesK_c (some ⟨g493, 0, none⟩) 4 9 (-1) false 64 _ (C76 Z493 rfl rfl (by decide)) proves2) (h := ?_)
                              rintro e w494 ⟨rfl, hb494⟩
                              refine ⟨_, rfl, ?_⟩
                              have hB := hB.bel hb494
                              refine Mv (Xt rfl rfl (Xt rfl rfl (As (Nl (Tn (Sq (Rg ?_)))))))
                              refine g_call he61 rfl (bookX_c 4 _) (h := ?_)
                              rintro e w498 ⟨g498, rfl, Z498, b498, hb498⟩
                              refine ⟨_, rfl, ?_⟩
                              have hB := hB.bel hb498
                              refine g_call he37 rfl (bal4_c (some ⟨g498, 0, none⟩) 4 _ (C76 Z498 rfl rfl (by decide))) (h := ?_)
                              rintro e w499 ⟨v499, rfl, hb499⟩
                              refine ⟨_, rfl, ?_⟩
                              have hB := hB.bel hb499
                              refine Mv (Xt rfl rfl (Xt rfl rfl (As (Nl (Tn (Sq (Rg ?_)))))))
                              refine g_call he61 rfl (bookX_c 9 _) (h := ?_)
                              rintro e w503 ⟨g503, rfl, Z503, b503, hb503⟩
                              refine ⟨_, rfl, ?_⟩
                              have hB := hB.bel hb503
                              refine g_call he54 rfl (proof9_c (some ⟨g503, 0, none⟩) 4 _ (C76 Z503 rfl rfl (by decide))) (h := ?_)
                              rintro e w504 ⟨rfl, hb504⟩
                              refine ⟨_, rfl, ?_⟩
                              have hB := hB.bel hb504
                              refine Mv (Xt rfl rfl (Xt rfl rfl (As (Nl (Tn (Sq (Rg ?_)))))))
                              refine g_call he61 rfl (bookX_c 4 _) (h := ?_)
                              rintro e w508 ⟨g508, rfl, Z508, b508, hb508⟩
                              refine ⟨_, rfl, ?_⟩
                              have hB := hB.bel hb508
                              refine g_call he54 rfl (proof4_c (some ⟨g508, 0, none⟩) 4 _ (C76 Z508 rfl rfl (by decide))) (h := ?_)
                              rintro e w509 ⟨set, hset, rfl, hb509⟩
                              refine ⟨_, rfl, ?_⟩
                              have hB := hB.bel hb509
                              refine Mv (Xt rfl rfl (Xt rfl rfl (As (As (Nl (Tn (Sq (Rg ?_))))))))
                              refine g_call he61 rfl (bookX_c 4 _) (h := ?_)
                              rintro e w513 ⟨g513, rfl, Z513, b513, hb513⟩
                              refine ⟨_, rfl, ?_⟩
                              have hB := hB.bel hb513
                              refine g_call he52 rfl (provesK_c (some ⟨g513, 0, none⟩) 4 4 0 false 0 _ (C76 Z513 rfl rfl (by decide)) proves3) (h := ?_)
                              rintro e w514 ⟨rfl, hb514⟩
                              refine ⟨_, rfl, ?_⟩
                              have hB := hB.bel hb514
                              refine Mv (Xt rfl rfl (Xt rfl rfl (As (As (Nl (Tn (Sq (Rg (Mv ?_)))))))))
                              refine g_v (r_eqlT rfl rfl (by decide)) (h := ?_)
                              refine Mv (Mv (Nt rfl (Pt rfl (Mv (Mv ?_)))))
                              refine g_v (r_eqlT rfl rfl (by decide)) (h := ?_)
                              refine Pt rfl (Mv (Mv (Nt rfl (Pt rfl (Mv (Mv ?_))))))
                              refine g_v (r_eqlT rfl rfl (by decide)) (h := ?_)
                              refine Pt rfl (Mv (Mv ?_))
                              refine g_v (r_eqlT rfl rfl (by decide)) (h := ?_)
                              refine Pt rfl (Mv (Mv ?_))
                              refine g_v (r_eqlT rfl rfl (by decide)) (h := ?_)
                              refine Pt rfl (Mv (Mv ?_))
                              refine g_v (r_eqlT rfl rfl (by decide)) (h := ?_)
                              refine Pt rfl (Mv (Mv ?_))
                              refine g_v (r_eqlT rfl rfl (by decide)) (h := ?_)
                              refine Pt rfl (Mv (Mv ?_))
                              refine g_v (r_eqlT rfl rfl (by decide)) (h := ?_)
                              refine Pt rfl (Mv (Mv ?_))
                              refine g_v (r_gtrT rfl rfl (hset)) (h := ?_)
                              refine Pt rfl (Mv (Mv ?_))
                              refine g_v (r_eqlT rfl rfl (by decide)) (h := ?_)
                              refine Pt rfl (Mv (Mv (Nt rfl (Pt rfl (Mv (Pt rfl (Mv ?_)))))))
                              refine g_call he21 rfl (works_c _) (h := ?_)
                              rintro e w570 ⟨rfl, hb570⟩
                              refine ⟨_, rfl, ?_⟩
                              refine Pt rfl (As (Nl (Tn (Rt ?_))))
                              exact ret1 rfl ⟨rfl, hB.bel hb570⟩
end Go.Proofs.B
