/- barrel: the law BarrelBooks, walked. -/
import Derived.Test.YtpfoleggapngoaaB28
import Derived.Test.YtpfoleggapngoaaB44
set_option linter.unusedVariables false
set_option linter.unusedSimpArgs false
set_option maxRecDepth 10000
namespace Go.Proofs.B
open Go Go.RowKit Go.Proofs Go.Proofs.G Go.Proofs.F Go.Proofs.YtpfoleggapngoaaW.PrintWords
theorem r_neqBs {P : Program} {σ : Nat → Value} {w : World} {ty : TypeId} {pos : String} {after : Array Edge} {gd : Option (Nat × Bool)} {dst : Option Nat} {x y : Operand} {t t' : TypeId} {a b : Bool} (ht : P.underlying t = some .bool) (hx : ev σ x = .bool a) (hy : ev σ y = .bool b) (h : a = b) :
    (execOp (ev σ) ⟨dst, .binOp .neq t x y t', ty, pos, after, gd⟩).run P w = .ok (.value (.bool false)) w := by
  subst h
  have := r_neqB (w := w) (dst := dst) (ty := ty) (pos := pos) (after := after) (gd := gd) (t' := t') ht hx hy
  simpa using this
theorem sameSpT_c (A B : Option Addr) (c d : Nat) (xs ys : List S68) (w : World) (hx : k68.C w A xs.length xs) (hy : k68.C w B ys.length ys) (h : xs = ys) :
    Calls Try.prog 39 #[.slice A xs.length c, .slice B ys.length d] w fun e w' => e = .returned (.bool true) ∧ Bel w w' :=
  (sameSpans_c A B c d xs ys w hx hy).mono fun e w' ⟨h1, h2⟩ => ⟨by rw [h1, decide_eq_true h], h2⟩
set_option maxHeartbeats 4000000 in
theorem barrelBooks_c (n : Int) (A : Option Addr) (c : Nat) (l : List S76) (B : Option Addr) (d : Nat) (cs : List Int) (w : World) (hs : k76.C w A l.length l) (hc : (Kd.int .i64).C w B cs.length cs) (_ : cs.length * 8 ≤ 140737488351232) :
    Calls Try.prog 6 #[.agg #[.int .i64 n, .slice A l.length c], .slice B cs.length d] w fun e w' => e = .returned (.bool true) ∧ Bel w w' := by
  refine G_enter (l := [.agg #[.int .i64 n, .slice A l.length c], .slice B cs.length d]) Try.func6 rfl rfl ?_
  refine Sq (Rg ?_)
  refine g_box rfl (h := fun g2 w2 N2 => ?_)
  have K2 := N2.at_
  have hB2 := Bel.of_new N2
  have K2a : w2.heap[g2]? = some (.cells #[.int .i64 n, .slice A l.length c] 49 (0, 0)) := K2
  refine As (Nl (Tn (Sq (Rg ?_))))
  refine g_loadA rfl Try.underlying49 info49 (l := [.int .i64 n, .slice A l.length c]) (cellsAt K2a) (h := ?_)
  refine Mv ?_
  refine g_call he33 rfl (areCounts_c A B c d n l cs _ (Kd.C_below hs hB2) (Kd.C_below hc hB2)) (h := ?_)
  rintro e w14 ⟨rfl, hb14⟩
  refine ⟨_, rfl, ?_⟩
  have hB14 := hB2.bel hb14
  have K2b := kB K2a hb14
  refine Mv (Xt rfl rfl (Xt rfl rfl (As (As (Nl (Tn (Sq (Rg ?_))))))))
  refine g_loadA rfl Try.underlying49 info49 (l := [.int .i64 n, .slice A l.length c]) (cellsAt K2b) (h := ?_)
  refine Mv ?_
  refine g_call he34 rfl (areCountsR_c A B c d n l cs _ (Kd.C_below hs hB14) (Kd.C_below hc hB14)) (h := ?_)
  rintro e w20 ⟨rfl, hb20⟩
  refine ⟨_, rfl, ?_⟩
  have hB20 := hB14.bel hb20
  have K2c := kB K2b hb20
  refine Mv (Xt rfl rfl (Xt rfl rfl (As (As (Nl (Tn (Sq (Sq ?_))))))))
  have hBd : Bel w20 (w20.drewN 1) := Bel.drew (Below.refl _ _)
  refine GD_start 15 [] (fun w' => w'.heap[g2]? = some (.cells #[.int .i64 n, .slice A l.length c] 49 (0, 0))) (by kernel_rfl) rfl ?_
  refine GD_pure 0 rfl (by kernel_rfl) (by kernel_rfl) (by kernel_rfl) (by kernel_rfl) rfl rfl rfl (qv fun wq hC => by exact r_move) ?_
  refine GD_pure 1 rfl (by kernel_rfl) (by kernel_rfl) (by kernel_rfl) (by kernel_rfl) rfl rfl rfl (qv fun wq hC => by exact r_move) ?_
  refine GD_take 2 rfl (by kernel_rfl) (by kernel_rfl) (by kernel_rfl) (by kernel_rfl) rfl rfl rfl (qv fun wq hC => by exact r_neqBs Try.underlying4 rfl rfl rfl) ?_
  refine GD_pure 3 rfl (by kernel_rfl) (by kernel_rfl) (by kernel_rfl) (by kernel_rfl) rfl rfl rfl (qv fun wq hC => by exact r_move) ?_
  refine GD_pure 4 rfl (by kernel_rfl) (by kernel_rfl) (by kernel_rfl) (by kernel_rfl) rfl rfl rfl (qv fun wq hC => by exact r_move) ?_
  refine GD_pure 5 rfl (by kernel_rfl) (by kernel_rfl) (by kernel_rfl) (by kernel_rfl) rfl rfl rfl (qv fun wq hC => by exact r_move) ?_
  refine GD_pure 6 rfl (by kernel_rfl) (by kernel_rfl) (by kernel_rfl) (by kernel_rfl) rfl rfl rfl (qv fun wq hC => by exact r_neqF rfl rfl (fun h => h rfl)) ?_
  refine GD_pure 7 rfl (by kernel_rfl) (by kernel_rfl) (by kernel_rfl) (by kernel_rfl) rfl rfl rfl (qv fun wq hC => by exact r_pickF rfl) ?_
  refine GD_pure 8 rfl (by kernel_rfl) (by kernel_rfl) (by kernel_rfl) (by kernel_rfl) rfl rfl rfl (qv fun wq hC => by exact r_move) ?_
  refine GD_take 9 rfl (by kernel_rfl) (by kernel_rfl) (by kernel_rfl) (by kernel_rfl) rfl rfl rfl (qv fun wq hC => by exact r_loadA rfl Try.underlying49 info49 (l := [.int .i64 n, .slice A l.length c]) (cellsAt hC)) ?_
  refine GD_take 11 rfl (by kernel_rfl) (by kernel_rfl) (by kernel_rfl) (by kernel_rfl) rfl rfl rfl (qv fun wq hC => by exact r_loadA rfl Try.underlying49 info49 (l := [.int .i64 n, .slice A l.length c]) (cellsAt hC)) ?_
  refine GD_one 10 (by kernel_rfl) (fun _ => K2c) ?_
  refine GO_call rfl rfl rfl he35 rfl (checkBook_c A c n l _ (Kd.C_below hs (hB20.bel hBd))) (fun e w33 he => ?_)
  obtain ⟨rfl, hb33⟩ := he
  refine ⟨_, rfl, ?_⟩
  have K2c := kB (w1 := w20.drewN 1) K2c hb33
  have hB33 := (hB20.bel hBd).bel hb33
  refine GD_one 12 (by kernel_rfl) (fun _ => K2c) ?_
  refine GO_call rfl rfl rfl he36 rfl (checkBookR_c A c n l _ (Kd.C_below hs hB33)) (fun e w35 he => ?_)
  obtain ⟨rfl, hb35⟩ := he
  refine ⟨_, rfl, ?_⟩
  have K2c := kB K2c hb35
  have hB35 := hB33.bel hb35
  refine GD_pure 13 rfl (by kernel_rfl) (by kernel_rfl) (by kernel_rfl) (by kernel_rfl) rfl rfl rfl (qv fun wq hC => by exact r_neqF rfl rfl (fun h => h rfl)) ?_
  refine GD_pure 14 rfl (by kernel_rfl) (by kernel_rfl) (by kernel_rfl) (by kernel_rfl) rfl rfl rfl (qv fun wq hC => by exact r_pickF rfl) ?_
  refine GD_end (by kernel_rfl) (fun _ => K2c) ?_
  refine Tn (Cf rfl (Sk (Tn (Sq (Rg ?_)))))
  refine g_loadA rfl Try.underlying49 info49 (l := [.int .i64 n, .slice A l.length c]) (cellsAt K2c) (h := ?_)
  refine g_call he37 rfl (balanceA_c n l A c _ (Kd.C_below hs hB35)) (h := ?_)
  rintro e w40 ⟨A40, out1, code1, rfl, hC40, hans, hb40⟩
  refine ⟨_, rfl, ?_⟩
  have hB40 := hB35.bel hb40
  have K2d := kB K2c hb40
  refine Mv (Xt rfl rfl (Xt rfl rfl (As (As (Nl (Tn (Sq (Rg ?_))))))))
  refine g_loadA rfl Try.underlying49 info49 (l := [.int .i64 n, .slice A l.length c]) (cellsAt K2d) (h := ?_)
  refine g_call he38 rfl (balanceR_c n l A c _ (Kd.C_below hs hB40)) (h := ?_)
  rintro e w45 ⟨v45, out2, code2, rfl, HR45, href, hb45⟩
  refine ⟨_, rfl, ?_⟩
  have hB45 := hB40.bel hb45
  have hsame := bal_same hans href
  have h45 := Kd.R_reads HR45
  obtain ⟨A45, c45, rfl, _, hC45⟩ := h45
  refine Mv (Xt rfl rfl (Xt rfl rfl (As (As (Nl (Tn (Sq (Rg (Mv (Mv ?_))))))))))
  refine g_call he39 rfl (sameSpT_c A40 A45 out1.length c45 out1 out2 _ (Kd.C_below hC40 hb45) hC45 hsame.2) (h := ?_)
  rintro e w50 ⟨rfl, hb50⟩
  refine ⟨_, rfl, ?_⟩
  refine Mv (Mv (Mv ?_))
  refine g_v (r_eqlT rfl rfl (hsame.1)) (h := ?_)
  refine Pt rfl (Mv ?_)
  refine g_call he21 rfl (works_c _) (h := ?_)
  rintro e w57 ⟨rfl, hb57⟩
  refine ⟨_, rfl, ?_⟩
  refine Pt rfl (As (Nl (Tn (Rt ?_))))
  exact ret1 rfl ⟨rfl, hB45.bel (hb50.bel hb57)⟩
end Go.Proofs.B
