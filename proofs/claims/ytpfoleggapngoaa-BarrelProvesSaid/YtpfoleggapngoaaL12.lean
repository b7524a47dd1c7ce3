/- barrel: the law BarrelProves, walked. -/
import Derived.Test.YtpfoleggapngoaaL6
set_option linter.unusedVariables false
set_option linter.unusedSimpArgs false
set_option maxRecDepth 10000
namespace Go.Proofs.B
open Go Go.RowKit Go.Proofs Go.Proofs.G Go.Proofs.F Go.Proofs.YtpfoleggapngoaaW.PrintWords
/-- A proof is one. -/
theorem provesL_yes {n : Int} {l : List S76} {S : Nat} (h : bookOk n l = true) (hS : S < 2 ^ n.toNat) (hp : 0 < provF l S l.length) : provesL n l S = (true, 0) := by
  have hpc := pow_cast n.toNat
  rw [provesL, if_pos h, if_pos (by omega), Int.toNat_natCast, decide_eq_true hp]
theorem prv_no {n : Int} {l : List S76} {set c1 c2 : Int} {b : Bool} (h1 : PAns n l set c1) (h2 : BlsRes n l b c2) :
    (c2 ≠ 0 → c2 = 63 ∧ c1 = 63 ∧ set = 0) ∧ (c2 = 0 → b = true → c1 = 4 ∧ set = 0) ∧ (c2 = 0 → b = false → c1 = 0 ∧ provesL n l set = (true, 0)) := by
  rcases h2 with ⟨h3, rfl, rfl⟩ | ⟨h3, rfl, ⟨rfl, S, hS, hp⟩ | ⟨rfl, hall⟩⟩
  · rcases h1 with ⟨_, rfl, rfl⟩ | ⟨h4, _⟩ | ⟨h4, _⟩
    · exact ⟨fun _ => ⟨rfl, rfl, rfl⟩, fun h => (by omega), fun h => (by omega)⟩
    · rw [h3] at h4; cases h4
    · rw [h3] at h4; cases h4
  · rcases h1 with ⟨h4, _⟩ | ⟨_, ⟨cs, hb⟩, _⟩ | ⟨_, rfl, T, rfl, hT, hq⟩
    · rw [h3] at h4; cases h4
    · have := prov_no h3 hb S; omega
    · exact ⟨fun h => absurd rfl h, fun _ h => (by cases h), fun _ _ => ⟨rfl, provesL_yes h3 hT hq⟩⟩
  · rcases h1 with ⟨h4, _⟩ | ⟨_, _, rfl, rfl⟩ | ⟨_, rfl, T, rfl, hT, hq⟩
    · rw [h3] at h4; cases h4
    · exact ⟨fun h => absurd rfl h, fun _ _ => ⟨rfl, rfl⟩, fun _ h => (by cases h)⟩
    · have := hall T hT; omega
set_option maxHeartbeats 4000000 in
theorem barrelProves_c (n : Int) (A : Option Addr) (c : Nat) (l : List S76) (set : Int) (w : World) (hs : k76.C w A l.length l) (_ : (Lit.int IntKind.i64 set).wf = true) :
    Calls Try.prog 12 #[.agg #[.int .i64 n, .slice A l.length c], .int .i64 set] w fun e w' => e = .returned (.bool true) ∧ Bel w w' := by
  refine G_enter (l := [.agg #[.int .i64 n, .slice A l.length c], .int .i64 set]) Try.func12 rfl rfl ?_
  refine Sq (Rg ?_)
  refine g_box rfl (h := fun g2 w2 N2 => ?_)
  have K2 := N2.at_
  have hB2 := Bel.of_new N2
  have K2a : w2.heap[g2]? = some (.cells #[.int .i64 n, .slice A l.length c] 49 (0, 0)) := K2
  refine As (Nl (Tn (Sq (Rg ?_))))
  refine g_loadA rfl Try.underlying49 info49 (l := [.int .i64 n, .slice A l.length c]) (cellsAt K2a) (h := ?_)
  refine Mv ?_
  refine g_call he52 rfl (proves_c A c n l set _ (Kd.C_below hs hB2)) (h := ?_)
  rintro e w14 ⟨rfl, hb14⟩
  refine ⟨_, rfl, ?_⟩
  have hB14 := hB2.bel hb14
  have K2b := kB K2a hb14
  refine Mv (Xt rfl rfl (Xt rfl rfl (As (As (Nl (Tn (Sq (Rg ?_))))))))
  refine g_loadA rfl Try.underlying49 info49 (l := [.int .i64 n, .slice A l.length c]) (cellsAt K2b) (h := ?_)
  refine Mv ?_
  refine g_call he53 rfl (provesR_c A c n l set _ (Kd.C_below hs hB14)) (h := ?_)
  rintro e w20 ⟨rfl, hb20⟩
  refine ⟨_, rfl, ?_⟩
  have hB20 := hB14.bel hb20
  have K2c := kB K2b hb20
  refine Mv (Xt rfl rfl (Xt rfl rfl (As (As (Nl (Tn (Sq (Sq (Rg (Mv (Mv ?_)))))))))))
  refine g_v (r_neqBs Try.underlying4 rfl rfl rfl) (h := ?_)
  refine Mv (Mv (Mv ?_))
  refine g_v (r_neqF rfl rfl (fun h => h rfl)) (h := ?_)
  refine Pf rfl (Nl (Tn (Cf rfl (Sk (Tn (Sq (Rg ?_)))))))
  refine g_loadA rfl Try.underlying49 info49 (l := [.int .i64 n, .slice A l.length c]) (cellsAt K2c) (h := ?_)
  refine g_call he54 rfl (proofA_c n l A c _ (Kd.C_below hs hB20)) (h := ?_)
  rintro e w33 ⟨set33, code33, rfl, hpa, hb33⟩
  refine ⟨_, rfl, ?_⟩
  have hB33 := hB20.bel hb33
  have K2d := kB K2c hb33
  refine Mv (Xt rfl rfl (Xt rfl rfl (As (As (Nl (Tn (Sq (Rg ?_))))))))
  refine g_loadA rfl Try.underlying49 info49 (l := [.int .i64 n, .slice A l.length c]) (cellsAt K2d) (h := ?_)
  refine g_call he55 rfl (balances_c A c n l _ (Kd.C_below hs hB33)) (h := ?_)
  rintro e w38 ⟨b38, code38, rfl, hbr, hb38⟩
  refine ⟨_, rfl, ?_⟩
  have hB38 := hB33.bel hb38
  have K2e := kB K2d hb38
  have hno := prv_no hpa hbr
  refine Mv (Xt rfl rfl (Xt rfl rfl (As (As (Nl (Tn (Sq (Sq (Rg (Mv ?_))))))))))
  refine g_neq rfl rfl (h1 := fun c42 => ?_) (h2 := fun c42 => ?_)
  · skip
    have hf := hno.1 c42
    refine Mv (Of (Pt rfl (Nl (Tn (Ct rfl (Sq (Rg (Mv ?_))))))))
    refine g_v (r_eqlT rfl rfl (by omega)) (h := ?_)
    refine Mv (Mv ?_)
    refine g_neq rfl rfl (h1 := fun c50 => ?_) (h2 := fun c50 => ?_)
    · skip
      refine Mv (Mv (Mv ?_))
      refine g_v (r_eqlT rfl rfl (by omega)) (h := ?_)
      refine Pt rfl (Mv (Of (Of (Of (Of (Of (Of (Pt rfl (Pt rfl (Mv ?_))))))))))
      refine g_call he21 rfl (works_c _) (h := ?_)
      rintro e w66 ⟨rfl, hb66⟩
      refine ⟨_, rfl, ?_⟩
      refine Pt rfl (As (Nl (Tn (Rt (Tr ?_)))))
      first
      | exact ret1 rfl ⟨rfl, hB71.bel hb84⟩
      | exact ret1 rfl ⟨rfl, hB38.bel hb66⟩
    · skip
      refine Mv (Of (Of (Of (Pf rfl (Mv (Mv ?_))))))
      refine g_v (r_eqlT rfl rfl (by omega)) (h := ?_)
      refine Mv (Mv ?_)
      refine g_v (r_eqlT rfl rfl (by omega)) (h := ?_)
      refine Pt rfl (Pf rfl (Pt rfl (Mv ?_)))
      refine g_call he21 rfl (works_c _) (h := ?_)
      rintro e w66 ⟨rfl, hb66⟩
      refine ⟨_, rfl, ?_⟩
      refine Pt rfl (As (Nl (Tn (Rt (Tr ?_)))))
      first
      | exact ret1 rfl ⟨rfl, hB71.bel hb84⟩
      | exact ret1 rfl ⟨rfl, hB38.bel hb66⟩
  · skip
    refine Mv (Mv (Pf rfl (Nl (Tn ?_))))
    cases q45 : b38 with
    | true =>
      have hf := hno.2.1 c42 q45
      refine Ct rfl (Sq (Rg (Mv ?_)))
      refine g_v (r_eqlT rfl rfl (by omega)) (h := ?_)
      refine Mv (Mv ?_)
      refine g_neq rfl rfl (h1 := fun c50 => ?_) (h2 := fun c50 => ?_)
      · skip
        refine Mv (Mv (Mv ?_))
        refine g_v (r_eqlT rfl rfl (by omega)) (h := ?_)
        refine Pt rfl (Mv (Of (Of (Of (Of (Of (Of (Pt rfl (Pt rfl (Mv ?_))))))))))
        refine g_call he21 rfl (works_c _) (h := ?_)
        rintro e w66 ⟨rfl, hb66⟩
        refine ⟨_, rfl, ?_⟩
        refine Pt rfl (As (Nl (Tn (Rt (Tr ?_)))))
        first
        | exact ret1 rfl ⟨rfl, hB71.bel hb84⟩
        | exact ret1 rfl ⟨rfl, hB38.bel hb66⟩
      · skip
        refine Mv (Of (Of (Of (Pf rfl (Mv (Mv ?_))))))
        refine g_v (r_eqlT rfl rfl (by omega)) (h := ?_)
        refine Mv (Mv ?_)
        refine g_v (r_eqlT rfl rfl (by omega)) (h := ?_)
        refine Pt rfl (Pf rfl (Pt rfl (Mv ?_)))
        refine g_call he21 rfl (works_c _) (h := ?_)
        rintro e w66 ⟨rfl, hb66⟩
        refine ⟨_, rfl, ?_⟩
        refine Pt rfl (As (Nl (Tn (Rt (Tr ?_)))))
        first
        | exact ret1 rfl ⟨rfl, hB71.bel hb84⟩
        | exact ret1 rfl ⟨rfl, hB38.bel hb66⟩
    | false =>
      have hf := hno.2.2 c42 q45
      refine Cf rfl (Sk (Tn (Sq (Rg ?_))))
      refine g_loadA rfl Try.underlying49 info49 (l := [.int .i64 n, .slice A l.length c]) (cellsAt K2e) (h := ?_)
      refine Mv ?_
      refine g_call he53 rfl ((by have h := provesR_c A c n l set33 _ (Kd.C_below hs hB38); rw [hf.2] at h; exact h)) (h := ?_)
      rintro e w71 ⟨rfl, hb71⟩
      refine ⟨_, rfl, ?_⟩
      have hB71 := hB38.bel hb71
      refine Mv (Xt rfl rfl (Xt rfl rfl (As (As (Nl (Tn (Sq (Rg (Mv ?_)))))))))
      refine g_v (r_eqlT rfl rfl (hf.1)) (h := ?_)
      refine Mv (Mv ?_)
      refine g_v (r_eqlT rfl rfl (rfl)) (h := ?_)
      refine Pt rfl (Mv (Mv (Pt rfl (Mv ?_))))
      refine g_call he21 rfl (works_c _) (h := ?_)
      rintro e w84 ⟨rfl, hb84⟩
      refine ⟨_, rfl, ?_⟩
      refine Pt rfl (As (Nl (Tn (Rt ?_))))
      first
      | exact ret1 rfl ⟨rfl, hB71.bel hb84⟩
      | exact ret1 rfl ⟨rfl, hB38.bel hb66⟩
end Go.Proofs.B
