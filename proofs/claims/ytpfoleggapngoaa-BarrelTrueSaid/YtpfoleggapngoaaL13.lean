/- barrel: the law BarrelTrue, walked. -/
import Derived.Test.YtpfoleggapngoaaB28
import Derived.Test.YtpfoleggapngoaaB46
set_option linter.unusedVariables false
set_option linter.unusedSimpArgs false
set_option maxRecDepth 10000
namespace Go.Proofs.B
open Go Go.RowKit Go.Proofs Go.Proofs.G Go.Proofs.F Go.Proofs.YtpfoleggapngoaaW.PrintWords
theorem all_range {p : Nat → Bool} {n : Nat} (h : ∀ i, i < n → p i = true) : (List.range n).all p = true := List.all_eq_true.2 fun i hi => h i (List.mem_range.1 hi)
theorem bal_are {n : Int} {l : List S76} {cs : List Int} (h : bookOk n l = true) (hb : Bal n.toNat l cs) : areCounts n l cs = (true, 0) := by
  rw [areCounts, if_pos h, if_pos hb.1.1, areCountsB, all_range (p := withinB l cs) (fun k hk => decide_eq_true (hb.1.2 k hk)), all_range (fun s hs => decide_eq_true (hb.2 s hs))]; rfl
theorem areT_c (A B : Option Addr) (c d : Nat) (n : Int) (l : List S76) (cs : List Int) (w : World) (hs : k76.C w A l.length l) (hc : (Kd.int .i64).C w B cs.length cs) (h : areCounts n l cs = (true, 0)) :
    Calls Try.prog 33 #[.agg #[.int .i64 n, .slice A l.length c], .slice B cs.length d] w fun e w' => e = .returned (.tuple #[.bool true, .int .i64 0]) ∧ Bel w w' := by
  have := areCounts_c A B c d n l cs w hs hc
  rw [h] at this; exact this
theorem provesT_c (A : Option Addr) (c : Nat) (n : Int) (l : List S76) (set : Int) (b : Bool) (w : World) (hs : k76.C w A l.length l) (h : provesL n l set = (b, 0)) :
    Calls Try.prog 52 #[.agg #[.int .i64 n, .slice A l.length c], .int .i64 set] w fun e w' => e = .returned (.tuple #[.bool b, .int .i64 0]) ∧ Bel w w' := by
  have := proves_c A c n l set w hs
  rw [h] at this; exact this
theorem proves_none {n : Int} {l : List S76} {S : Nat} (h : bookOk n l = true) (hS : S < 2 ^ n.toNat) (hp : provF l S l.length ≤ 0) : provesL n l S = (false, 0) := by
  have hpc := pow_cast n.toNat
  rw [provesL, if_pos h, if_pos (by omega), Int.toNat_natCast, decide_eq_false (by omega)]
theorem PAns.four {n : Int} {l : List S76} {set code : Int} (h : PAns n l set code) (hbo : bookOk n l = true) {cs : List Int} (hb : Bal n.toNat l cs) : set = 0 ∧ code = 4 := by
  rcases h with ⟨h1, _⟩ | ⟨_, _, h1, h2⟩ | ⟨_, _, S, _, _, h1⟩
  · rw [hbo] at h1; cases h1
  · exact ⟨h1, h2⟩
  · have := prov_no hbo hb S; omega
theorem modq (n : Int) (m : Nat) (hm : 0 < m) : ∃ q : Nat, n % (m : Int) = q ∧ q < m := by
  have h1 := Int.emod_nonneg n (show (m : Int) ≠ 0 by omega)
  have h2 := Int.emod_lt_of_pos n (show 0 < (m : Int) by omega)
  exact ⟨(n % m).toNat, by omega, by omega⟩
theorem spanAtB {w w' : World} {ad : Addr} {x : S68} (h : ∀ j v, [Value.int .i64 x.f0, Value.int .i64 x.f1][j]? = some v → w.cell? (ad.add j) = some v) (hB : Bel w w') : ∀ j v, [Value.int .i64 x.f0, Value.int .i64 x.f1][j]? = some v → w'.cell? (ad.add j) = some v := fun j v hv => hB.cellk (h j v hv)
theorem holdsT_c (lo hi n : Int) (w : World) (h : lo ≤ n ∧ n ≤ hi) : Calls Try.prog 57 #[.agg #[.int .i64 lo, .int .i64 hi], .int .i64 n] w fun e w' => e = .returned (.bool true) ∧ Bel w w' := by
  have := holds_c lo hi n w
  rw [decide_eq_true h] at this
  exact this
set_option maxHeartbeats 40000000 in
theorem barrelTrue_c (B : Option Addr) (d : Nat) (bits : List Int) (set : Int) (w : World) (hbt : (Kd.int .i64).C w B bits.length bits) (_ : bits.length * 8 ≤ 140737488351232) (_ : (Lit.int IntKind.i64 set).wf = true) :
    Calls Try.prog 13 #[.slice B bits.length d, .int .i64 set] w fun e w' => e = .returned (.bool true) ∧ Bel w w' := by
  refine G_enter (l := [.slice B bits.length d, .int .i64 set]) Try.func13 rfl rfl ?_
  refine Sq (Rg (As (Nl (Tn (Sq (Rg (Mv ?_)))))))
  refine g_call he56 rfl (true6_c B d bits _ hbt) (h := ?_)
  rintro e w18 ⟨n, A, c, nl, l, v18, cs, rfl, rfl, hCl, ⟨A6, c6, rfl, hC6, hc6⟩, hTru, hb18⟩
  refine ⟨_, rfl, ?_⟩
  refine Mv (Xt rfl rfl (Xt rfl rfl ?_))
  refine g_alloc (z := .agg #[.int .i64 0, .slice none 0 0]) (by kernel_rfl) (h := fun g5 w5 N5 => ?_)
  have K5 := N5.at_
  refine g_storeA rfl rfl info49 K5 rfl (by simp [Value.oneCell']) (h := fun w1 P1 => ?_)
  have K5 : w1.heap[g5]? = some (.cells #[.int .i64 n, .slice A l.length c] 49 (0, 0)) := P1.at_
  have hB1 : Bel w18 w1 := (Bel.of_new N5).put P1 N5.ge
  have hB := hb18.bel hB1
  have hs := Kd.C_below hCl hB1
  have hc := Kd.C_below hC6 hB1
  have hlen := hTru.1
  refine As (Nl (Tn (Sq (Sq (Rg (Mv (Ln Try.underlying22 rfl ?_)))))))
  refine g_eql rfl rfl (h1 := fun c23 => ?_) (h2 := fun c23 => ?_)
  · skip
    refine Nl (Tn (Ct rfl (Sq (Rg ?_))))
    refine g_call he21 rfl (works_c _) (h := ?_)
    rintro e w24 ⟨rfl, hb24⟩
    refine ⟨_, rfl, ?_⟩
    have hB := hB.bel hb24
    refine As (Nl (Tn (Rt (Tr ?_))))
    exact ret1 rfl ⟨rfl, hB⟩
  · skip
    have hne : l ≠ [] := fun h => absurd (show cs.length = 0 by rw [hlen, h]; rfl) (by omega)
    have hbb := hTru.2 hne
    have hbo := hbb.1
    have hbal := hbb.2
    have hare := bal_are hbo hbal
    have hnl := book_n hbo
    have hp6 := pow6n (N := n.toNat) (by omega)
    have hpc := pow_cast n.toNat
    refine Nl (Tn (Cf rfl (Sk (Tn (Sq (Rg ?_))))))
    refine g_loadA rfl Try.underlying49 info49 (l := [.int .i64 n, .slice A l.length c]) (cellsAt K5) (h := ?_)
    refine Mv ?_
    refine g_call he33 rfl (areT_c A A6 c c6 n l cs _ hs hc hare) (h := ?_)
    rintro e w28 ⟨rfl, hb28⟩
    refine ⟨_, rfl, ?_⟩
    have hB := hB.bel hb28
    have K5 := kB K5 hb28
    have hs := Kd.C_below hs hb28
    have hc := Kd.C_below hc hb28
    refine Mv (Xt rfl rfl (Xt rfl rfl (As (As (Nl (Tn (Sq (Rg ?_))))))))
    refine g_loadA rfl Try.underlying49 info49 (l := [.int .i64 n, .slice A l.length c]) (cellsAt K5) (h := ?_)
    refine g_call he37 rfl (balanceA_c n l A c _ hs) (h := ?_)
    rintro e w33 ⟨A33, out, code, rfl, hC33, hans, hb33⟩
    refine ⟨_, rfl, ?_⟩
    have hB := hB.bel hb33
    have K5 := kB K5 hb33
    have hs := Kd.C_below hs hb33
    have hc := Kd.C_below hc hb33
    have hok := hans.ok hbo ⟨cs, hbal⟩
    have hol := hok.2.1
    refine Mv (Xt rfl rfl (Xt rfl rfl (As (As (Nl (Tn (Sq (Rg ?_))))))))
    refine g_loadA rfl Try.underlying49 info49 (l := [.int .i64 n, .slice A l.length c]) (cellsAt K5) (h := ?_)
    refine g_call he54 rfl (proofA_c n l A c _ hs) (h := ?_)
    rintro e w38 ⟨set38, code38, rfl, hpa, hb38⟩
    refine ⟨_, rfl, ?_⟩
    have hB := hB.bel hb38
    have K5 := kB K5 hb38
    have hs := Kd.C_below hs hb38
    have hc := Kd.C_below hc hb38
    have hC33 := Kd.C_below hC33 hb38
    have hp4 := hpa.four hbo hbal
    refine Mv (Xt rfl rfl (Xt rfl rfl (As (As (Nl (Tn (Sq ?_)))))))
    have hob  := modq set (2 ^ n.toNat) (by omega)
    obtain ⟨S, hS, hS2⟩ := hob
    have hpl := proves_none hbo hS2 (prov_no hbo hbal S)
    have hBd : Bel w38 (w38.drewN 1) := Bel.drew (Below.refl _ _)
    refine GD_start 12 [] (fun w' => Bel w38 w') (by kernel_rfl) rfl ?_
    refine GD_take 0 rfl (by kernel_rfl) (by kernel_rfl) (by kernel_rfl) (by kernel_rfl) rfl rfl rfl (qv fun wq hC => by exact r_loadA rfl Try.underlying49 info49 (l := [.int .i64 n, .slice A l.length c]) (cellsAt (kB K5 hC))) ?_
    refine GD_pure 1 rfl (by kernel_rfl) (by kernel_rfl) (by kernel_rfl) (by kernel_rfl) rfl rfl rfl (qv fun wq hC => by exact r_move) ?_
    refine GD_pure 2 rfl (by kernel_rfl) (by kernel_rfl) (by kernel_rfl) (by kernel_rfl) rfl rfl rfl (qv fun wq hC => by exact r_fieldAddrB f49_0 rfl) ?_
    refine GD_take 3 rfl (by kernel_rfl) (by kernel_rfl) (by kernel_rfl) (by kernel_rfl) rfl rfl rfl (qv fun wq hC => by exact r_load1 rfl Try.underlying3 (cellAt (kB K5 hC) rfl)) ?_
    refine GD_pure 4 rfl (by kernel_rfl) (by kernel_rfl) (by kernel_rfl) (by kernel_rfl) rfl rfl rfl (qv fun wq hC => by exact r_shl (n := n.toNat) rfl rfl (by omega) (by omega) (by omega)) ?_
    refine GD_take 5 rfl (by kernel_rfl) (by kernel_rfl) (by kernel_rfl) (by kernel_rfl) rfl rfl rfl (qc (fun wq hC => by exact r_call he41 rfl) (fun wq hC => by exact modT_c set (1 * 2 ^ n.toNat) S (by rw [← hS, hpc, Int.one_mul]) (by omega) (by omega) _)) ?_
    refine GD_one 6 (by kernel_rfl) (fun _ => hBd) ?_
    refine GO_call rfl rfl rfl he52 rfl (provesT_c A c n l S false _ (Kd.C_below hs hBd) hpl) (fun e w48 he => ?_)
    obtain ⟨rfl, hb48⟩ := he
    refine ⟨_, rfl, ?_⟩
    have hBd := hBd.bel hb48
    refine GD_pure 7 rfl (by kernel_rfl) (by kernel_rfl) (by kernel_rfl) (by kernel_rfl) rfl rfl rfl (qv fun wq hC => by exact r_move) ?_
    refine GD_pure 8 rfl (by kernel_rfl) (by kernel_rfl) (by kernel_rfl) (by kernel_rfl) rfl rfl rfl (qv fun wq hC => by exact r_extract rfl rfl) ?_
    refine GD_pure 9 rfl (by kernel_rfl) (by kernel_rfl) (by kernel_rfl) (by kernel_rfl) rfl rfl rfl (qv fun wq hC => by exact r_extract rfl rfl) ?_
    refine GD_pure 10 rfl (by kernel_rfl) (by kernel_rfl) (by kernel_rfl) (by kernel_rfl) rfl rfl rfl (qv fun wq hC => by exact r_assign) ?_
    refine GD_pure 11 rfl (by kernel_rfl) (by kernel_rfl) (by kernel_rfl) (by kernel_rfl) rfl rfl rfl (qv fun wq hC => by exact r_assign) ?_
    refine GD_end (by kernel_rfl) (fun _ => hBd) ?_
    refine Tn (Sq (Sq (Rg ?_)))
    have hB := hB.bel hBd
    have K5 := kB K5 hBd
    have hs := Kd.C_below hs hBd
    have hc := Kd.C_below hc hBd
    have hC33 := Kd.C_below hC33 hBd
    refine Mv ?_
    refine g_v (r_neqF rfl rfl (fun h => h rfl)) (h := ?_)
    refine Mv (Mv ?_)
    refine g_v (r_neqF rfl rfl (by omega)) (h := ?_)
    refine Pf rfl (Mv (Mv ?_))
    refine g_v (r_neqF rfl rfl (by omega)) (h := ?_)
    refine Pf rfl (Mv (Mv ?_))
    refine g_v (r_neqF rfl rfl (fun h => h rfl)) (h := ?_)
    refine Pf rfl (Mv (Mv (Nt rfl (Pf rfl (Mv (Mv ?_))))))
    refine g_v (r_neqF rfl rfl (by omega)) (h := ?_)
    refine Pf rfl (Mv (Mv (Pf rfl (Mv (Mv (Ln Try.underlying52 rfl (Mv (Ln Try.underlying22 rfl ?_))))))))
    refine g_v (r_neqF rfl rfl (by omega)) (h := ?_)
    refine Pf rfl (Nl (Tn (Cf rfl (Sk (Tn (Sq (Sq (Rg (As (Nl (Tn (Bk ?_))))))))))))
    refine GC_loop (fun m σ w' => ∃ (i : Nat) (τ : Nat → Value), σ = upd (upd (upd (upd τ 5 (.pointer (some ⟨g5, 0, none⟩))) 6 (.slice A6 cs.length c6)) 9 (.slice A33 out.length out.length)) 15 (.int .i64 i) ∧ i ≤ out.length ∧ m = out.length - i ∧ Bel w48 w') (out.length) ⟨0, _, has rfl (has rfl (has rfl (has rfl rfl))), Nat.zero_le _, rfl, Below.refl _ _⟩ ?_
    rintro m _ w5 ⟨i, τ5, rfl, hi1, rfl, hBl⟩
    refine Sq (Sq (Rg (Mv (Mv (Ln Try.underlying52 rfl ?_)))))
    refine g_lss rfl rfl (h1 := fun c86 => ?_) (h2 := fun c86 => ?_)
    · skip
      refine Nl (Tn (Ct rfl (Sk (Tn (Sq (Bk (Sq ?_)))))))
      have hil : i < out.length := by omega
      have hBe : Bel w48 (w5.drewN 1) := hBl.drew
      have hob  := at68 hC33 (Below.refl _ _) i (by omega)
      obtain ⟨ad6, hA6, h92⟩ := hob
      have hob  := Kd.at_int hc i (by omega) (by omega)
      obtain ⟨ad7, hA7, h96⟩ := hob
      have hob  := at76 hs (Below.refl _ _) i (by omega)
      obtain ⟨ad8, hA8, h76⟩ := hob
      rw [← mv_get l i (by omega)] at h76
      have hmn := (hok.2.2 i (by omega)).1
      have hmx := (hok.2.2 i (by omega)).2
      have e6 : (sp68 out i).f0 = (rd_T68 out (i : Nat)).f0 ∧ (sp68 out i).f1 = (rd_T68 out (i : Nat)).f1 := ⟨rfl, rfl⟩
      rw [← e6.1] at hmn
      rw [← e6.2] at hmx
      have hmb1 := mn_bd hbo (by omega) hmn
      have hmb2 := mx_bd hbo (by omega) hmx
      have hh1 := hmn.2 cs hbal
      have hh2 := hmx.2 cs hbal
      refine GD_start 40 [] (fun w' => Bel w48 w') (by kernel_rfl) rfl ?_
      refine GD_pure 0 rfl (by kernel_rfl) (by kernel_rfl) (by kernel_rfl) (by kernel_rfl) rfl rfl rfl (qv fun wq hC => by exact r_move) ?_
      refine GD_pure 1 rfl (by kernel_rfl) (by kernel_rfl) (by kernel_rfl) (by kernel_rfl) rfl rfl rfl (qv fun wq hC => by exact r_move) ?_
      refine GD_pure 2 rfl (by kernel_rfl) (by kernel_rfl) (by kernel_rfl) (by kernel_rfl) rfl rfl rfl (qv fun wq hC => by exact r_indexH Try.underlying52 info68 hA6 rfl rfl (by omega) (by omega) rfl) ?_
      refine GD_take 3 rfl (by kernel_rfl) (by kernel_rfl) (by kernel_rfl) (by kernel_rfl) rfl rfl rfl (qv fun wq hC => by exact r_loadA rfl Try.underlying68 info68 (l := [.int .i64 (sp68 out i).f0, .int .i64 (sp68 out i).f1]) (spanAtB h92 hC)) ?_
      refine GD_pure 4 rfl (by kernel_rfl) (by kernel_rfl) (by kernel_rfl) (by kernel_rfl) rfl rfl rfl (qv fun wq hC => by exact r_move) ?_
      refine GD_pure 5 rfl (by kernel_rfl) (by kernel_rfl) (by kernel_rfl) (by kernel_rfl) rfl rfl rfl (qv fun wq hC => by exact r_move) ?_
      refine GD_pure 6 rfl (by kernel_rfl) (by kernel_rfl) (by kernel_rfl) (by kernel_rfl) rfl rfl rfl (qv fun wq hC => by exact r_indexH Try.underlying22 info3 hA7 rfl rfl (by omega) (by omega) (Nat.mul_one _)) ?_
      refine GD_take 7 rfl (by kernel_rfl) (by kernel_rfl) (by kernel_rfl) (by kernel_rfl) rfl rfl rfl (qv fun wq hC => by exact r_load1 rfl Try.underlying3 (hC.cellk h96)) ?_
      refine GD_one 8 (by kernel_rfl) (fun _ => hBe) ?_
      refine GO_call rfl rfl rfl he57 rfl (holdsT_c (sp68 out i).f0 (sp68 out i).f1 (rd cs i) _ ⟨hh1, hh2⟩) (fun e w97 he => ?_)
      obtain ⟨rfl, hb97⟩ := he
      refine ⟨_, rfl, ?_⟩
      have hBe := hBe.bel hb97
      refine GD_pure 9 rfl (by kernel_rfl) (by kernel_rfl) (by kernel_rfl) (by kernel_rfl) rfl rfl rfl (qv fun wq hC => by exact r_not rfl) ?_
      refine GD_pure 10 rfl (by kernel_rfl) (by kernel_rfl) (by kernel_rfl) (by kernel_rfl) rfl rfl rfl (qv fun wq hC => by exact r_move) ?_
      refine GD_pure 11 rfl (by kernel_rfl) (by kernel_rfl) (by kernel_rfl) (by kernel_rfl) rfl rfl rfl (qv fun wq hC => by exact r_move) ?_
      refine GD_pure 12 rfl (by kernel_rfl) (by kernel_rfl) (by kernel_rfl) (by kernel_rfl) rfl rfl rfl (qv fun wq hC => by exact r_move) ?_
      refine GD_pure 13 rfl (by kernel_rfl) (by kernel_rfl) (by kernel_rfl) (by kernel_rfl) rfl rfl rfl (qv fun wq hC => by exact r_indexH Try.underlying52 info68 hA6 rfl rfl (by omega) (by omega) rfl) ?_
      refine GD_pure 14 rfl (by kernel_rfl) (by kernel_rfl) (by kernel_rfl) (by kernel_rfl) rfl rfl rfl (qv fun wq hC => by exact r_fieldAddr f68_0 rfl rfl) ?_
      refine GD_take 15 rfl (by kernel_rfl) (by kernel_rfl) (by kernel_rfl) (by kernel_rfl) rfl rfl rfl (qv fun wq hC => by exact r_load1 rfl Try.underlying3 (spanAtB h92 hC 0 _ rfl)) ?_
      refine GD_pure 16 rfl (by kernel_rfl) (by kernel_rfl) (by kernel_rfl) (by kernel_rfl) rfl rfl rfl (qv fun wq hC => by exact r_fieldAddrB f49_1 rfl) ?_
      refine GD_take 17 rfl (by kernel_rfl) (by kernel_rfl) (by kernel_rfl) (by kernel_rfl) rfl rfl rfl (qv fun wq hC => by exact r_load1 rfl Try.underlying47 (cellAt (kB K5 hC) rfl)) ?_
      refine GD_pure 18 rfl (by kernel_rfl) (by kernel_rfl) (by kernel_rfl) (by kernel_rfl) rfl rfl rfl (qv fun wq hC => by exact r_move) ?_
      refine GD_pure 19 rfl (by kernel_rfl) (by kernel_rfl) (by kernel_rfl) (by kernel_rfl) rfl rfl rfl (qv fun wq hC => by exact r_indexH Try.underlying47 info76 hA8 rfl rfl (by omega) (by omega) rfl) ?_
      refine GD_pure 20 rfl (by kernel_rfl) (by kernel_rfl) (by kernel_rfl) (by kernel_rfl) rfl rfl rfl (qv fun wq hC => by exact r_fieldAddr f76_2 rfl rfl) ?_
      refine GD_pure 21 rfl (by kernel_rfl) (by kernel_rfl) (by kernel_rfl) (by kernel_rfl) rfl rfl rfl (qv fun wq hC => by exact r_fieldAddr f68_0 rfl rfl) ?_
      refine GD_take 22 rfl (by kernel_rfl) (by kernel_rfl) (by kernel_rfl) (by kernel_rfl) rfl rfl rfl (qv fun wq hC => by exact r_load1 rfl Try.underlying3 (by rw [add_add' _ 2 0]; exact hC.cellk (h76 2 _ rfl))) ?_
      refine GD_pure 23 rfl (by kernel_rfl) (by kernel_rfl) (by kernel_rfl) (by kernel_rfl) rfl rfl rfl (qv fun wq hC => by exact r_lssF rfl rfl (by omega)) ?_
      refine GD_pure 24 rfl (by kernel_rfl) (by kernel_rfl) (by kernel_rfl) (by kernel_rfl) rfl rfl rfl (qv fun wq hC => by exact r_pickF rfl) ?_
      refine GD_pure 25 rfl (by kernel_rfl) (by kernel_rfl) (by kernel_rfl) (by kernel_rfl) rfl rfl rfl (qv fun wq hC => by exact r_move) ?_
      refine GD_pure 26 rfl (by kernel_rfl) (by kernel_rfl) (by kernel_rfl) (by kernel_rfl) rfl rfl rfl (qv fun wq hC => by exact r_move) ?_
      refine GD_pure 27 rfl (by kernel_rfl) (by kernel_rfl) (by kernel_rfl) (by kernel_rfl) rfl rfl rfl (qv fun wq hC => by exact r_move) ?_
      refine GD_pure 28 rfl (by kernel_rfl) (by kernel_rfl) (by kernel_rfl) (by kernel_rfl) rfl rfl rfl (qv fun wq hC => by exact r_indexH Try.underlying52 info68 hA6 rfl rfl (by omega) (by omega) rfl) ?_
      refine GD_pure 29 rfl (by kernel_rfl) (by kernel_rfl) (by kernel_rfl) (by kernel_rfl) rfl rfl rfl (qv fun wq hC => by exact r_fieldAddr f68_1 rfl rfl) ?_
      refine GD_take 30 rfl (by kernel_rfl) (by kernel_rfl) (by kernel_rfl) (by kernel_rfl) rfl rfl rfl (qv fun wq hC => by exact r_load1 rfl Try.underlying3 (spanAtB h92 hC 1 _ rfl)) ?_
      refine GD_pure 31 rfl (by kernel_rfl) (by kernel_rfl) (by kernel_rfl) (by kernel_rfl) rfl rfl rfl (qv fun wq hC => by exact r_fieldAddrB f49_1 rfl) ?_
      refine GD_take 32 rfl (by kernel_rfl) (by kernel_rfl) (by kernel_rfl) (by kernel_rfl) rfl rfl rfl (qv fun wq hC => by exact r_load1 rfl Try.underlying47 (cellAt (kB K5 hC) rfl)) ?_
      refine GD_pure 33 rfl (by kernel_rfl) (by kernel_rfl) (by kernel_rfl) (by kernel_rfl) rfl rfl rfl (qv fun wq hC => by exact r_move) ?_
      refine GD_pure 34 rfl (by kernel_rfl) (by kernel_rfl) (by kernel_rfl) (by kernel_rfl) rfl rfl rfl (qv fun wq hC => by exact r_indexH Try.underlying47 info76 hA8 rfl rfl (by omega) (by omega) rfl) ?_
      refine GD_pure 35 rfl (by kernel_rfl) (by kernel_rfl) (by kernel_rfl) (by kernel_rfl) rfl rfl rfl (qv fun wq hC => by exact r_fieldAddr f76_2 rfl rfl) ?_
      refine GD_pure 36 rfl (by kernel_rfl) (by kernel_rfl) (by kernel_rfl) (by kernel_rfl) rfl rfl rfl (qv fun wq hC => by exact r_fieldAddr f68_1 rfl rfl) ?_
      refine GD_take 37 rfl (by kernel_rfl) (by kernel_rfl) (by kernel_rfl) (by kernel_rfl) rfl rfl rfl (qv fun wq hC => by exact r_load1 rfl Try.underlying3 (by rw [add_add' _ 2 1]; exact hC.cellk (h76 3 _ rfl))) ?_
      refine GD_pure 38 rfl (by kernel_rfl) (by kernel_rfl) (by kernel_rfl) (by kernel_rfl) rfl rfl rfl (qv fun wq hC => by exact r_gtrF rfl rfl (by omega)) ?_
      refine GD_pure 39 rfl (by kernel_rfl) (by kernel_rfl) (by kernel_rfl) (by kernel_rfl) rfl rfl rfl (qv fun wq hC => by exact r_pickF rfl) ?_
      refine GD_end (by kernel_rfl) (fun _ => hBe) ?_
      refine Tn (Cf rfl (Sk (Bn (Tn (Rg (Mv ?_))))))
      refine g_add rfl rfl (by omega) (h := ?_)
      refine As (Nl ?_)
      exact round_end (out.length - (i + 1)) (by omega) ⟨i + 1, _, has rfl (has rfl (has rfl (has rfl rfl))), hil, rfl, hBe⟩
    · skip
      refine Nl (Tn (Cf rfl (Xi (Tx (Tx (Bs (Tn (Sq (Rg ?_)))))))))
      refine g_call he21 rfl (works_c _) (h := ?_)
      rintro e w129 ⟨rfl, hb129⟩
      refine ⟨_, rfl, ?_⟩
      have hB := hB.bel (hBl.bel hb129)
      refine As (Nl (Tn (Rt ?_)))
      exact ret1 rfl ⟨rfl, hB⟩
end Go.Proofs.B
