/- barrel: the law BarrelSets, walked. -/
import Derived.Test.YtpfoleggapngoaaB28
import Derived.Test.YtpfoleggapngoaaB49
set_option linter.unusedVariables false
set_option linter.unusedSimpArgs false
set_option maxRecDepth 10000
namespace Go.Proofs.B
open Go Go.RowKit Go.Proofs Go.Proofs.G Go.Proofs.F Go.Proofs.T Go.Proofs.YtpfoleggapngoaaW.PrintWords
theorem r_neqBs {P : Program} {σ : Nat → Value} {w : World} {ty : TypeId} {pos : String} {after : Array Edge} {gd : Option (Nat × Bool)} {dst : Option Nat} {x y : Operand} {t t' : TypeId} {a b : Bool} (ht : P.underlying t = some .bool) (hx : ev σ x = .bool a) (hy : ev σ y = .bool b) (h : a = b) :
    (execOp (ev σ) ⟨dst, .binOp .neq t x y t', ty, pos, after, gd⟩).run P w = .ok (.value (.bool false)) w := by
  subst h
  have := r_neqB (w := w) (dst := dst) (ty := ty) (pos := pos) (after := after) (gd := gd) (t' := t') ht hx hy
  simpa using this
def arB (ws : List Int) (girth play : Int) (l : List (List Int)) : Bool := if PileOk ws girth play then areBarrels ws girth play l else false
theorem arB_eq (ws : List Int) (girth play : Int) (l : List (List Int)) : (if PileOk ws girth play then #[Value.bool (areBarrels ws girth play l), .int .i64 0] else #[.bool false, .int .i64 60]) = #[.bool (arB ws girth play l), .int .i64 (checkPile ws girth play)] := by
  unfold arB checkPile
  split <;> rfl
theorem are_cT (A B : Option Addr) (c d : Nat) (ws : List Int) (girth play : Int) (l : List (List Int)) (w : World) (hw : (Kd.int .i64).C w A ws.length ws) (hs : kRow.C w B l.length l) :
    Calls Try.prog 16 #[.agg #[.slice A ws.length c, .int .i64 girth, .int .i64 play], .slice B l.length d] w fun e w' => e = .returned (.tuple #[.bool (arB ws girth play l), .int .i64 (checkPile ws girth play)]) ∧ Bel w w' :=
  (areBarrels_c A B c d ws girth play l w hw hs).mono fun e w' ⟨h1, h2⟩ => ⟨by rw [h1, arB_eq], h2⟩
theorem areR_cT (A B : Option Addr) (c d : Nat) (ws : List Int) (girth play : Int) (l : List (List Int)) (w : World) (hw : (Kd.int .i64).C w A ws.length ws) (hs : kRow.C w B l.length l) :
    Calls Try.prog 17 #[.agg #[.slice A ws.length c, .int .i64 girth, .int .i64 play], .slice B l.length d] w fun e w' => e = .returned (.tuple #[.bool (arB ws girth play l), .int .i64 (checkPile ws girth play)]) ∧ Bel w w' :=
  (areBarrelsR_c A B c d ws girth play l w hw hs).mono fun e w' ⟨h1, h2⟩ => ⟨by rw [h1, arB_eq], h2⟩
/-- What Set answers, in one form. -/
def SetA (ws : List Int) (girth play : Int) (ls : List (List Int)) (code : Int) : Prop := (¬ PileOk ws girth play ∧ ls = [] ∧ code = 60) ∨ (PileOk ws girth play ∧ Best ws.length (isBarrelL ws girth play) g0 ls ∧ code = if ls.length = 0 then 4 else 0)
theorem setA_c (A : Option Addr) (c : Nat) (ws : List Int) (girth play : Int) (w : World) (hw : (Kd.int .i64).C w A ws.length ws) :
    Calls Try.prog 20 #[.agg #[.slice A ws.length c, .int .i64 girth, .int .i64 play]] w fun e w' => ∃ ls A' code, e = .returned (.tuple #[.slice A' ls.length ls.length, .int .i64 code]) ∧ SetA ws girth play ls code ∧ kRow.C w' A' ls.length ls ∧ Bel w w' :=
  (set_c A c ws girth play w hw).mono fun e w' ⟨h1, h2⟩ => by
    rcases h1 with ⟨h3, rfl⟩ | ⟨h3, h4, rfl⟩ | ⟨h3, ls, A', h4, h5, h6, rfl⟩
    · exact ⟨[], none, 60, rfl, .inl ⟨h3, rfl, rfl⟩, Kd.C_nil _ _, h2⟩
    · exact ⟨[], none, 4, rfl, .inr ⟨h3, h4, rfl⟩, Kd.C_nil _ _, h2⟩
    · refine ⟨ls, A', 0, rfl, .inr ⟨h3, h5, ?_⟩, h6, h2⟩
      rw [if_neg (fun e => h4 (List.length_eq_zero_iff.1 e))]
theorem pk_are {ws : List Int} {girth play : Int} {l : List (List Int)} (hpo : PileOk ws girth play) (h : Pk ws.length (isBarrelL ws girth play) g0 l) : arB ws girth play l = true := by
  have hn : ws.length ≤ 10 := by have := hpo.1; omega
  unfold arB
  rw [if_pos hpo]
  exact (areGo_iff ws.length (isBarrelL ws girth play) l g0 (by simpa [g0] using hn)).2 h
theorem cp_ok {ws : List Int} {girth play : Int} (h : PileOk ws girth play) : checkPile ws girth play = 0 := if_pos h
theorem cp_no {ws : List Int} {girth play : Int} (h : ¬ PileOk ws girth play) : checkPile ws girth play = 60 := if_neg h
set_option maxHeartbeats 4000000 in
theorem barrelSets_c (A : Option Addr) (c : Nat) (ws : List Int) (girth play : Int) (B : Option Addr) (d : Nat) (l : List (List Int)) (w : World) (hw : (Kd.int .i64).C w A ws.length ws) (hs : kRow.C w B l.length l) :
    Calls Try.prog 3 #[.agg #[.slice A ws.length c, .int .i64 girth, .int .i64 play], .slice B l.length d] w fun e w' => e = .returned (.bool true) ∧ Bel w w' := by
  refine G_enter (l := [.agg #[.slice A ws.length c, .int .i64 girth, .int .i64 play], .slice B l.length d]) Try.func3 rfl rfl ?_
  refine Sq (Rg ?_)
  refine g_box rfl (h := fun g2 w2 N2 => ?_)
  have K2 := N2.at_
  have hB2 := Bel.of_new N2
  have K2a : w2.heap[g2]? = some (.cells #[.slice A ws.length c, .int .i64 girth, .int .i64 play] 24 (0, 0)) := K2
  refine As (Nl (Tn (Sq (Rg ?_))))
  refine g_loadA rfl Try.underlying24 info24 (l := [.slice A ws.length c, .int .i64 girth, .int .i64 play]) (cellsAt K2a) (h := ?_)
  refine Mv ?_
  refine g_call he16 rfl (are_cT A B c d ws girth play l _ (Kd.C_below hw hB2) (Kd.C_below hs hB2)) (h := ?_)
  rintro e w14 ⟨rfl, hb14⟩
  refine ⟨_, rfl, ?_⟩
  have hB14 := hB2.bel hb14
  have K2b := kB K2a hb14
  refine Mv (Xt rfl rfl (Xt rfl rfl (As (As (Nl (Tn (Sq (Rg ?_))))))))
  refine g_loadA rfl Try.underlying24 info24 (l := [.slice A ws.length c, .int .i64 girth, .int .i64 play]) (cellsAt K2b) (h := ?_)
  refine Mv ?_
  refine g_call he17 rfl (areR_cT A B c d ws girth play l _ (Kd.C_below hw hB14) (Kd.C_below hs hB14)) (h := ?_)
  rintro e w20 ⟨rfl, hb20⟩
  refine ⟨_, rfl, ?_⟩
  have hB20 := hB14.bel hb20
  have K2c := kB K2b hb20
  refine Mv (Xt rfl rfl (Xt rfl rfl (As (As (Nl (Tn (Sq (Sq ?_))))))))
  have hBd : Bel w20 (w20.drewN 1) := Bel.drew (Below.refl _ _)
  refine GD_start 15 [] (fun w' => w'.heap[g2]? = some (.cells #[.slice A ws.length c, .int .i64 girth, .int .i64 play] 24 (0, 0))) (by kernel_rfl) rfl ?_
  refine GD_pure 0 rfl (by kernel_rfl) (by kernel_rfl) (by kernel_rfl) (by kernel_rfl) rfl rfl rfl (qv fun wq hC => by exact r_move) ?_
  refine GD_pure 1 rfl (by kernel_rfl) (by kernel_rfl) (by kernel_rfl) (by kernel_rfl) rfl rfl rfl (qv fun wq hC => by exact r_move) ?_
  refine GD_take 2 rfl (by kernel_rfl) (by kernel_rfl) (by kernel_rfl) (by kernel_rfl) rfl rfl rfl (qv fun wq hC => by exact r_neqBs Try.underlying4 rfl rfl rfl) ?_
  refine GD_pure 3 rfl (by kernel_rfl) (by kernel_rfl) (by kernel_rfl) (by kernel_rfl) rfl rfl rfl (qv fun wq hC => by exact r_move) ?_
  refine GD_pure 4 rfl (by kernel_rfl) (by kernel_rfl) (by kernel_rfl) (by kernel_rfl) rfl rfl rfl (qv fun wq hC => by exact r_move) ?_
  refine GD_pure 5 rfl (by kernel_rfl) (by kernel_rfl) (by kernel_rfl) (by kernel_rfl) rfl rfl rfl (qv fun wq hC => by exact r_move) ?_
  refine GD_pure 6 rfl (by kernel_rfl) (by kernel_rfl) (by kernel_rfl) (by kernel_rfl) rfl rfl rfl (qv fun wq hC => by exact r_neqF rfl rfl (fun h => h rfl)) ?_
  refine GD_pure 7 rfl (by kernel_rfl) (by kernel_rfl) (by kernel_rfl) (by kernel_rfl) rfl rfl rfl (qv fun wq hC => by exact r_pickF rfl) ?_
  refine GD_pure 8 rfl (by kernel_rfl) (by kernel_rfl) (by kernel_rfl) (by kernel_rfl) rfl rfl rfl (qv fun wq hC => by exact r_move) ?_
  refine GD_take 9 rfl (by kernel_rfl) (by kernel_rfl) (by kernel_rfl) (by kernel_rfl) rfl rfl rfl (qv fun wq hC => by exact r_loadA rfl Try.underlying24 info24 (l := [.slice A ws.length c, .int .i64 girth, .int .i64 play]) (cellsAt hC)) ?_
  refine GD_take 11 rfl (by kernel_rfl) (by kernel_rfl) (by kernel_rfl) (by kernel_rfl) rfl rfl rfl (qv fun wq hC => by exact r_loadA rfl Try.underlying24 info24 (l := [.slice A ws.length c, .int .i64 girth, .int .i64 play]) (cellsAt hC)) ?_
  refine GD_one 10 (by kernel_rfl) (fun _ => K2c) ?_
  refine GO_call rfl rfl rfl he18 rfl (checkPile_c A c ws girth play _ (Kd.C_below hw (hB20.bel hBd))) (fun e w33 he => ?_)
  obtain ⟨rfl, hb33⟩ := he
  refine ⟨_, rfl, ?_⟩
  have K2c := kB (w1 := w20.drewN 1) K2c hb33
  have hB33 := (hB20.bel hBd).bel hb33
  refine GD_one 12 (by kernel_rfl) (fun _ => K2c) ?_
  refine GO_call rfl rfl rfl he19 rfl (checkPileR_c A c ws girth play _ (Kd.C_below hw hB33)) (fun e w35 he => ?_)
  obtain ⟨rfl, hb35⟩ := he
  refine ⟨_, rfl, ?_⟩
  have K2c := kB K2c hb35
  have hB35 := hB33.bel hb35
  refine GD_pure 13 rfl (by kernel_rfl) (by kernel_rfl) (by kernel_rfl) (by kernel_rfl) rfl rfl rfl (qv fun wq hC => by exact r_neqF rfl rfl (fun h => h rfl)) ?_
  refine GD_pure 14 rfl (by kernel_rfl) (by kernel_rfl) (by kernel_rfl) (by kernel_rfl) rfl rfl rfl (qv fun wq hC => by exact r_pickF rfl) ?_
  refine GD_end (by kernel_rfl) (fun _ => K2c) ?_
  refine Tn (Cf rfl (Sk (Tn (Sq (Rg ?_)))))
  refine g_loadA rfl Try.underlying24 info24 (l := [.slice A ws.length c, .int .i64 girth, .int .i64 play]) (cellsAt K2c) (h := ?_)
  refine g_call he20 rfl (setA_c A c ws girth play _ (Kd.C_below hw hB35)) (h := ?_)
  rintro e w40 ⟨ls, A40, code, rfl, hset, hC40, hb40⟩
  refine ⟨_, rfl, ?_⟩
  have hB40 := hB35.bel hb40
  have K2d := kB K2c hb40
  refine Mv (Xt rfl rfl (Xt rfl rfl (As (As (Nl (Tn (Sq (Sq (Rg (Mv ?_))))))))))
  refine g_neq rfl rfl (h1 := fun c44 => ?_) (h2 := fun c44 => ?_)
  · skip
    have hpo : ¬ PileOk ws girth play := fun h => c44 (cp_ok h)
    have hs1 : ls = [] ∧ code = 60 := by
      rcases hset with ⟨_, h⟩ | ⟨h, _⟩
      · exact h
      · exact absurd h hpo
    refine Nl (Tn (Ct rfl (Sq (Rg (Mv (Mv ?_))))))
    refine g_v (r_eqlT rfl rfl (by rw [hs1.2, cp_no hpo])) (h := ?_)
    refine Mv (Mv (Ln Try.underlying25 rfl ?_))
    refine g_v (r_eqlT rfl rfl (by rw [hs1.1]; rfl)) (h := ?_)
    refine Pt rfl (Mv ?_)
    refine g_call he21 rfl (works_c _) (h := ?_)
    rintro e w54 ⟨rfl, hb54⟩
    refine ⟨_, rfl, ?_⟩
    refine Pt rfl (As (Nl (Tn (Rt (Tr ?_)))))
    exact ret1 rfl ⟨rfl, hB40.bel hb54⟩
  · skip
    have hpo : PileOk ws girth play := by by_cases h : PileOk ws girth play; exact h; rw [cp_no h] at c44; exact absurd c44 (by decide)
    have hn : ws.length ≤ 10 := by have := hpo.1; omega
    have hs2 : Best ws.length (isBarrelL ws girth play) g0 ls ∧ code = if ls.length = 0 then 4 else 0 := by
      rcases hset with ⟨h, _⟩ | ⟨_, h⟩
      · exact absurd hpo h
      · exact h
    refine Nl (Tn (Cf rfl (Sk (Tn (Sq (Sq (Rg ?_)))))))
    refine g_loadA rfl Try.underlying24 info24 (l := [.slice A ws.length c, .int .i64 girth, .int .i64 play]) (cellsAt K2d) (h := ?_)
    refine g_call he22 rfl (mostR_c A c ws girth play _ (Kd.C_below hw hB40) hpo) (h := ?_)
    rintro e w57 ⟨m, rfl, hm, hb57⟩
    refine ⟨_, rfl, ?_⟩
    have hB57 := hB40.bel hb57
    have K2e := kB K2d hb57
    have hml : m = ls.length := hm.uniq (best_most hn hs2.1)
    refine As (Nl (Tn (Sq (Rg (Mv ?_)))))
    refine g_eql rfl rfl (h1 := fun c59 => ?_) (h2 := fun c59 => ?_)
    · skip
      refine Nl (Tn (Ct rfl (Sq (Rg (Mv ?_)))))
      refine g_v (r_eqlT rfl rfl (by rw [hs2.2, if_pos (by omega)])) (h := ?_)
      refine Mv (Mv (Ln Try.underlying25 rfl ?_))
      refine g_v (r_eqlT rfl rfl (by omega)) (h := ?_)
      refine Pt rfl (Mv ?_)
      refine g_call he21 rfl (works_c _) (h := ?_)
      rintro e w68 ⟨rfl, hb68⟩
      refine ⟨_, rfl, ?_⟩
      refine Pt rfl (As (Nl (Tn (Rt (Tr ?_)))))
      exact ret1 rfl ⟨rfl, hB57.bel hb68⟩
    · skip
      refine Nl (Tn (Cf rfl (Sq (Rg (Mv (Ln Try.underlying25 rfl (Mv ?_)))))))
      refine g_v (r_neqF rfl rfl (fun h => h (by omega))) (h := ?_)
      refine Nl (Tn (Cf rfl (Sk (Tn (Sq (Rg ?_))))))
      refine g_loadA rfl Try.underlying24 info24 (l := [.slice A ws.length c, .int .i64 girth, .int .i64 play]) (cellsAt K2e) (h := ?_)
      refine Mv ?_
      have hR := areR_cT A A40 c ls.length ws girth play ls w57 (Kd.C_below hw hB57) (Kd.C_below hC40 hb57)
      rw [pk_are hpo hs2.1.1] at hR
      refine g_call he17 rfl (hR) (h := ?_)
      rintro e w77 ⟨rfl, hb77⟩
      refine ⟨_, rfl, ?_⟩
      have hB77 := hB57.bel hb77
      refine Mv (Xt rfl rfl (Xt rfl rfl (As (As (Nl (Tn (Sq (Rg (Mv ?_)))))))))
      refine g_v (r_eqlT rfl rfl (by rw [hs2.2, if_neg (by omega)])) (h := ?_)
      refine Mv (Mv ?_)
      refine g_v (r_eqlT rfl rfl (cp_ok hpo)) (h := ?_)
      refine Pt rfl (Mv (Mv (Pt rfl (Mv ?_))))
      refine g_call he21 rfl (works_c _) (h := ?_)
      rintro e w90 ⟨rfl, hb90⟩
      refine ⟨_, rfl, ?_⟩
      refine Pt rfl (As (Nl (Tn (Rt ?_))))
      exact ret1 rfl ⟨rfl, hB77.bel hb90⟩
end Go.Proofs.B
