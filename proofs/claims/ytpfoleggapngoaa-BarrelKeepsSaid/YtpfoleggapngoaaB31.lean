/- barrel: the laws' own helpers on yards: sound, plan, leaks. -/
import Derived.Test.YtpfoleggapngoaaB26
import Derived.Test.YtpfoleggapngoaaB29
set_option linter.unusedVariables false
set_option linter.unusedSimpArgs false
set_option maxRecDepth 10000
namespace Go.Proofs.B
open Go Go.RowKit Go.Proofs Go.Proofs.G Go.Proofs.F Go.Proofs.YtpfoleggapngoaaW.PrintWords
theorem sound_c (A : Option Addr) (c : Nat) (y : List S70) (w : World) (hs : k70.C w A y.length y) :
    Calls Try.prog 45 #[.slice A y.length c] w fun e w' => e = .returned (.bool (yardOk y)) ∧ Bel w w' := by
  refine G_enter (l := [.slice A y.length c]) Try.func45 rfl rfl ?_
  refine Sq (Rg (As (Nl (Tn (Sq (Rg (Mv ?_)))))))
  refine g_call he26 rfl (checkYard_c A c y _ hs) (h := ?_)
  rintro e w4 ⟨rfl, hb4⟩
  refine ⟨_, rfl, ?_⟩
  refine g_eql rfl rfl (h1 := fun c5 => ?_) (h2 := fun c5 => ?_)
  · skip
    have hy : yardOk y = true := by by_cases h : yardOk y = true; exact h; rw [if_neg h] at c5; exact absurd c5 (by decide)
    have h4 := yard_len hy
    refine Mv (Mv (Ln Try.underlying35 rfl ?_))
    refine g_inT rfl rfl rfl (by omega) (h := ?_)
    refine Pt rfl (As (Nl (Tn (Rt ?_))))
    exact ret1 rfl ⟨retb hy.symm, hb4⟩
  · skip
    have hy : yardOk y = false := by cases h : yardOk y with | false => rfl | true => rw [if_pos h] at c5; exact absurd rfl c5
    refine Mv (Of (Of (Of (Pf rfl (As (Nl (Tn (Rt ?_))))))))
    exact ret1 rfl ⟨retb hy.symm, hb4⟩
def planV (n : Nat) (bits : List Int) (m : Nat) : Int := pickL bits ((m : Int) + 1) % ((n : Int) + 1) - 1
theorem planV_rg (n : Nat) (bits : List Int) (m : Nat) : -1 ≤ planV n bits m ∧ planV n bits m ≤ (n : Int) - 1 := by
  unfold planV
  have h1 := Int.emod_nonneg (pickL bits ((m : Int) + 1)) (show ((n : Int) + 1) ≠ 0 by omega)
  have h2 := Int.emod_lt_of_pos (pickL bits ((m : Int) + 1)) (show 0 < ((n : Int) + 1) by omega)
  omega
theorem planLaw_c (A B : Option Addr) (c d : Nat) (y : List S70) (months : Nat) (bits : List Int) (w : World) (hl : y.length ≤ 4) (hm : months ≤ 12) (hbt : (Kd.int .i64).C w B bits.length bits) :
    Calls Try.prog 46 #[.slice A y.length c, .int .i64 months, .slice B bits.length d] w fun e w' => ∃ v, e = .returned v ∧ (Kd.int .i64).R 3 w' w.heap.size (fun _ => True) v (lvList (planV y.length bits) months) ∧ Bel w w' := by
  refine G_enter (l := [.slice A y.length c, .int .i64 months, .slice B bits.length d]) Try.func46 rfl rfl ?_
  refine Sq (Rg (As (Nl (Tn (Sq (Rg (As (Nl (Tn (Sq (Sq (Rg (As (Nl (Tn (Bk ?_))))))))))))))))
  refine GC_loop (fun m σ w' => ∃ (k : Nat) (v : Value) (τ : Nat → Value), σ = upd (upd (upd (upd (upd τ 0 (.slice A y.length c)) 1 (.int .i64 months)) 2 (.slice B bits.length d)) 7 v) 8 (.int .i64 k) ∧ k ≤ months ∧ m = months - k ∧ (Kd.int .i64).R 3 w' w.heap.size (fun _ => True) v (lvList (planV y.length bits) k) ∧ Bel w w') (months) ⟨0, _, _, has rfl (has rfl (has rfl (has rfl (has rfl rfl)))), Nat.zero_le _, rfl, Kd.R_nil _ _ _ _ _, Below.refl _ _⟩ ?_
  rintro m _ w1 ⟨k, v, τ, rfl, hk, rfl, HR, hB⟩
  refine Sq (Sq (Rg (Mv (Mv ?_))))
  refine g_lss rfl rfl (h1 := fun c11 => ?_) (h2 := fun c11 => ?_)
  · skip
    refine Nl (Tn (Ct rfl (Sk (Tn (Sq (Bk (Rg ?_)))))))
    have hkl : k < months := by omega
    have hpv := planV_rg y.length bits k
    refine Mv (Mv (Mv ?_))
    refine g_add rfl rfl (by omega) (h := ?_)
    refine g_call he42 rfl (pick_c B d bits ((k : Int) + 1) _ (Kd.C_below hbt hB)) (h := ?_)
    rintro e w18 ⟨rfl, rfl⟩
    refine ⟨_, rfl, ?_⟩
    refine Mv (Ln Try.underlying35 rfl ?_)
    refine g_add rfl rfl (by omega) (h := ?_)
    refine g_call he41 rfl (mod_c (pickL bits ((k : Int) + 1)) ((y.length : Int) + 1) (by omega) (by omega) _) (h := ?_)
    rintro e w22 ⟨rfl, rfl⟩
    refine ⟨_, rfl, ?_⟩
    refine g_sub rfl rfl (by unfold planV at hpv; omega) (h := ?_)
    refine g_lit1 bs22 rfl rfl (h := fun g17 w17 N17 => ?_)
    refine g_appendR (Kd.int .i64) Try.underlying22 zi3 rfl (by decide) (rN HR N17) (cs := [.int .i64 (planV y.length bits k)]) N17.at_ (p := planV y.length bits k) (okp := fun _ => False) rfl (fun _ h => h.elim) (fun _ _ => trivial) (Nat.le_trans hB.size N17.ch.size) (by rw [lvList_len]; omega) (by rw [lvList_len]; simp [maxLen]; omega) rfl rfl (h := fun v18 w18' HR18 hg18 _ => ?_)
    refine As (Nl (Bn (Tn (Rg (Mv ?_)))))
    refine g_add rfl rfl (by omega) (h := ?_)
    refine As (Nl ?_)
    exact round_end (months - (k + 1)) (by omega) ⟨k + 1, v18, _, has rfl (has rfl (has rfl (has rfl (has rfl rfl)))), hkl, rfl, by rw [lvList_succ]; exact HR18, (hB.new N17).grown hg18 (Kd.R_base HR)⟩
  · skip
    refine Nl (Tn (Cf rfl (Xi (Tx (Tx (Bs (Tn (Sq (Rg (Mv (As (Nl (Tn (Rt ?_))))))))))))))
    obtain rfl : k = months := by omega
    exact ret1 rfl ⟨v, rfl, HR, hB⟩
def lkV (y : List S70) (bits : List Int) (m i : Nat) : Int := if bits = [] then hiF y i else chosen (yd y i).f3.f0 (yd y i).f3.f1 (pickL bits (3 * (m : Int) + i))
def leaksL (y : List S70) (months : Nat) (bits : List Int) : List (List Int) := (List.range months).map (fun m => lvList (lkV y bits m) y.length)
theorem leaksL_len (y : List S70) (months : Nat) (bits : List Int) : (leaksL y months bits).length = months := by simp [leaksL]
theorem leaksL_succ (y : List S70) (k : Nat) (bits : List Int) : leaksL y (k + 1) bits = leaksL y k bits ++ [lvList (lkV y bits k) y.length] := by simp [leaksL, List.range_succ]
theorem R_bound {α : Type} {d : Kd α} {e base : Nat} {ok : Nat → Prop} {w : World} {v : Value} {xs : List α} (h : d.R e w base ok v xs) : d.R e w base (fun k => ok k ∧ k < w.heap.size) v xs := by
  have hlt := Kd.R_lt h
  obtain ⟨h0, inner, hown, hr⟩ := h
  exact ⟨fun k hk => ⟨h0 k hk, hlt k hk⟩, inner, hown, hr.imp_ (fun p c hq => d.M_mono (fun k hk => ⟨⟨hk.1.1, hk.2.2.1⟩, hk.1.2⟩) (d.M_bound hq))⟩
theorem R_okS {α : Type} {enc : α → Value} {h1 : ∀ x, (enc x).oneCell' = true} {e base : Nat} {ok ok' : Nat → Prop} {w : World} {v : Value} {xs : List α} (h : (Kd.scalar enc h1).R e w base ok v xs) (hok : ∀ k, v.ownBlock = some k → ok' k) : (Kd.scalar enc h1).R e w base ok' v xs := Kd.R_of_own (Kd.own_of_R h) hok
set_option maxHeartbeats 2000000 in
theorem leaksLaw_c (A B : Option Addr) (c d : Nat) (y : List S70) (months : Nat) (bits : List Int) (w : World) (hs : k70.C w A y.length y) (hy : yardOk y = true) (hm : months ≤ 12) (hbt : (Kd.int .i64).C w B bits.length bits) :
    Calls Try.prog 47 #[.slice A y.length c, .int .i64 months, .slice B bits.length d] w fun e w' => ∃ v, e = .returned v ∧ kRow.R 22 w' w.heap.size (fun _ => True) v (leaksL y months bits) ∧ Bel w w' := by
  have h4 := yard_len hy
  refine G_enter (l := [.slice A y.length c, .int .i64 months, .slice B bits.length d]) Try.func47 rfl rfl ?_
  refine Sq (Rg (As (Nl (Tn (Sq (Rg (As (Nl (Tn (Sq (Sq (Rg (As (Nl (Tn (Bk ?_))))))))))))))))
  refine GC_loop (fun m σ w' => ∃ (k : Nat) (v : Value) (τ : Nat → Value), σ = upd (upd (upd (upd (upd τ 0 (.slice A y.length c)) 1 (.int .i64 months)) 2 (.slice B bits.length d)) 7 v) 8 (.int .i64 k) ∧ k ≤ months ∧ m = months - k ∧ kRow.R 22 w' w.heap.size (fun _ => True) v (leaksL y k bits) ∧ Bel w w') (months) ⟨0, _, _, has rfl (has rfl (has rfl (has rfl (has rfl rfl)))), Nat.zero_le _, rfl, Kd.R_nil _ _ _ _ _, Below.refl _ _⟩ ?_
  rintro m _ w1 ⟨k, v, τ, rfl, hk, rfl, HR, hB⟩
  refine Sq (Sq (Rg (Mv (Mv ?_))))
  refine g_lss rfl rfl (h1 := fun c13 => ?_) (h2 := fun c13 => ?_)
  · skip
    refine Nl (Tn (Ct rfl (Sk (Tn (Sq (Bk (Sq (Rg ?_))))))))
    have hkl : k < months := by omega
    refine As (Nl (Tn (Sq (Sq (Rg (As (Nl (Tn (Bk ?_)))))))))
    refine GC_loop (fun m σ w' => ∃ (j : Nat) (u : Value) (τ' : Nat → Value), σ = upd (upd (upd (upd (upd (upd (upd τ' 0 (.slice A y.length c)) 1 (.int .i64 months)) 2 (.slice B bits.length d)) 7 v) 8 (.int .i64 k)) 9 u) 10 (.int .i64 j) ∧ j ≤ y.length ∧ m = y.length - j ∧ (Kd.int .i64).R 3 w' w1.heap.size (fun _ => True) u (lvList (lkV y bits k) j) ∧ Bel w1 w') (y.length) ⟨0, _, _, has rfl (has rfl (has rfl (has rfl (has rfl (has rfl (has rfl rfl)))))), Nat.zero_le _, rfl, Kd.R_nil _ _ _ _ _, Below.refl _ _⟩ ?_
    rintro m _ w2 ⟨j, u, τ', rfl, hj, rfl, HU, hB2⟩
    refine Sq (Sq (Rg (Mv (Mv (Ln Try.underlying35 rfl ?_)))))
    refine g_lss rfl rfl (h1 := fun c19 => ?_) (h2 := fun c19 => ?_)
    · skip
      refine Nl (Tn (Ct rfl (Sk (Tn (Sq (Bk (Sq (Rg ?_))))))))
      have hjl : j < y.length := by omega
      have hBj := hB.bel hB2
      obtain ⟨ad, hA, h31⟩ := at70 hs hBj j hjl
      rw [hA]
      have hcr := cask_rg (yard_cask hy j hjl)
      refine Mv (Ln Try.underlying22 rfl ?_)
      refine g_eql rfl rfl (h1 := fun c24 => ?_) (h2 := fun c24 => ?_)
      · skip
        have hlk : lkV y bits k j = hiF y j := by
          have : bits = [] := List.length_eq_zero_iff.1 (by omega)
          rw [lkV, if_pos this]
        refine Nl (Tn (Ct rfl (Rg (Mv (Mv (Mv ?_))))))
        refine g_indexS Try.underlying35 info70 rfl rfl (by omega) (by omega) rfl (h := ?_)
        refine Fa f70_3 rfl (Fa f68_1 rfl (L1 Try.underlying3 (by rw [add_add' _ 3 1]; exact h31 4 (.int .i64 (lkV y bits k j)) (by rw [hlk]; show (enc70 y[j])[4]? = some (.int .i64 (yd y j).f3.f1); rw [yd_get y j hjl]; rfl)) rfl ?_))
        refine g_lit1 bs22 rfl rfl (h := fun g17 w17 N17 => ?_)
        refine g_appendR (Kd.int .i64) Try.underlying22 zi3 rfl (by decide) (rN HU N17) (cs := [.int .i64 (lkV y bits k j)]) N17.at_ (p := lkV y bits k j) (okp := fun _ => False) rfl (fun _ h => h.elim) (fun _ _ => trivial) (Nat.le_trans hB2.size N17.ch.size) (by rw [lvList_len]; omega) (by rw [lvList_len]; simp [maxLen]; omega) rfl rfl (h := fun v18 w18 HR18 hg18 _ => ?_)
        have hkl : k < months := by omega
        refine As (Nl (Bn (Tn (Rg (Mv ?_)))))
        refine g_add rfl rfl (by omega) (h := ?_)
        refine As (Nl ?_)
        exact round_end (y.length - (j + 1)) (by omega) ⟨j + 1, v18, _, has rfl (has rfl (has rfl (has rfl (has rfl (has rfl (has rfl rfl)))))), hjl, rfl, by rw [lvList_succ]; exact HR18, (hB2.new N17).grown hg18 (Kd.R_base HU)⟩
      · skip
        have hne : bits ≠ [] := fun e => by rw [e] at c24; exact c24 rfl
        have hlk : lkV y bits k j = chosen (yd y j).f3.f0 (yd y j).f3.f1 (pickL bits (3 * (k : Int) + j)) := by rw [lkV, if_neg hne]
        refine Nl (Tn (Cf rfl ?_))
        have hBd : Bel w2 (w2.drewN 1) := Bel.drew (Below.refl _ _)
        refine GD_start 23 [21] (fun w' => Bel w2 w') (by kernel_rfl) rfl ?_
        refine GD_pure 0 rfl (by kernel_rfl) (by kernel_rfl) (by kernel_rfl) (by kernel_rfl) rfl rfl rfl (qv fun wq hC => by exact r_move) ?_
        refine GD_pure 1 rfl (by kernel_rfl) (by kernel_rfl) (by kernel_rfl) (by kernel_rfl) rfl rfl rfl (qv fun wq hC => by exact r_move) ?_
        refine GD_pure 2 rfl (by kernel_rfl) (by kernel_rfl) (by kernel_rfl) (by kernel_rfl) rfl rfl rfl (qv fun wq hC => by exact r_move) ?_
        refine GD_pure 3 rfl (by kernel_rfl) (by kernel_rfl) (by kernel_rfl) (by kernel_rfl) rfl rfl rfl (qv fun wq hC => by exact r_indexS Try.underlying35 info70 rfl rfl (by omega) (by omega) rfl) ?_
        refine GD_pure 4 rfl (by kernel_rfl) (by kernel_rfl) (by kernel_rfl) (by kernel_rfl) rfl rfl rfl (qv fun wq hC => by exact r_fieldAddr f70_3 rfl rfl) ?_
        refine GD_pure 5 rfl (by kernel_rfl) (by kernel_rfl) (by kernel_rfl) (by kernel_rfl) rfl rfl rfl (qv fun wq hC => by exact r_fieldAddr f68_0 rfl rfl) ?_
        refine GD_take 6 rfl (by kernel_rfl) (by kernel_rfl) (by kernel_rfl) (by kernel_rfl) rfl rfl rfl (qv fun wq hC => by exact r_load1 rfl Try.underlying3 (by rw [add_add' _ 3 0]; exact hC.cellk (h31 3 (.int .i64 (yd y j).f3.f0) (by rw [yd_get y j hjl]; rfl)))) ?_
        refine GD_pure 7 rfl (by kernel_rfl) (by kernel_rfl) (by kernel_rfl) (by kernel_rfl) rfl rfl rfl (qv fun wq hC => by exact r_move) ?_
        refine GD_pure 8 rfl (by kernel_rfl) (by kernel_rfl) (by kernel_rfl) (by kernel_rfl) rfl rfl rfl (qv fun wq hC => by exact r_move) ?_
        refine GD_pure 9 rfl (by kernel_rfl) (by kernel_rfl) (by kernel_rfl) (by kernel_rfl) rfl rfl rfl (qv fun wq hC => by exact r_indexS Try.underlying35 info70 rfl rfl (by omega) (by omega) rfl) ?_
        refine GD_pure 10 rfl (by kernel_rfl) (by kernel_rfl) (by kernel_rfl) (by kernel_rfl) rfl rfl rfl (qv fun wq hC => by exact r_fieldAddr f70_3 rfl rfl) ?_
        refine GD_pure 11 rfl (by kernel_rfl) (by kernel_rfl) (by kernel_rfl) (by kernel_rfl) rfl rfl rfl (qv fun wq hC => by exact r_fieldAddr f68_1 rfl rfl) ?_
        refine GD_take 12 rfl (by kernel_rfl) (by kernel_rfl) (by kernel_rfl) (by kernel_rfl) rfl rfl rfl (qv fun wq hC => by exact r_load1 rfl Try.underlying3 (by rw [add_add' _ 3 1]; exact hC.cellk (h31 4 (.int .i64 (yd y j).f3.f1) (by rw [yd_get y j hjl]; rfl)))) ?_
        refine GD_pure 13 rfl (by kernel_rfl) (by kernel_rfl) (by kernel_rfl) (by kernel_rfl) rfl rfl rfl (qv fun wq hC => by exact r_move) ?_
        refine GD_pure 14 rfl (by kernel_rfl) (by kernel_rfl) (by kernel_rfl) (by kernel_rfl) rfl rfl rfl (qv fun wq hC => by exact r_move) ?_
        refine GD_pure 15 rfl (by kernel_rfl) (by kernel_rfl) (by kernel_rfl) (by kernel_rfl) rfl rfl rfl (qv fun wq hC => by exact r_mul rfl rfl (by omega)) ?_
        refine GD_pure 16 rfl (by kernel_rfl) (by kernel_rfl) (by kernel_rfl) (by kernel_rfl) rfl rfl rfl (qv fun wq hC => by exact r_move) ?_
        refine GD_pure 17 rfl (by kernel_rfl) (by kernel_rfl) (by kernel_rfl) (by kernel_rfl) rfl rfl rfl (qv fun wq hC => by exact r_add rfl rfl (by omega)) ?_
        refine GD_one 18 (by kernel_rfl) (fun _ => hBd) ?_
        refine GO_call rfl rfl rfl he42 rfl (pick_c B d bits (3 * (k : Int) + j) _ (Kd.C_below hbt (hBj.bel hBd))) (fun e w52 he => ?_)
        obtain ⟨rfl, rfl⟩ := he
        refine ⟨_, rfl, ?_⟩
        refine GD_one 19 (by kernel_rfl) (fun _ => hBd) ?_
        refine GO_call rfl rfl rfl he44 rfl (chosen_c _ _ _ (by rw [yd_get y j hjl] at *; omega) (by rw [yd_get y j hjl] at *; omega) _) (fun e w53 he => ?_)
        obtain ⟨rfl, rfl⟩ := he
        refine ⟨_, rfl, ?_⟩
        rw [← hlk]
        refine GD_one 20 (by kernel_rfl) (fun _ => hBd) ?_
        refine GO_lit1 rfl rfl rfl bs22 rfl rfl (fun g54 w54 N54 => ?_)
        have hBd := hBd.new N54
        refine GD_one 21 (by kernel_rfl) (fun _ => hBd) ?_
        refine GO_appendR (Kd.int .i64) rfl rfl rfl Try.underlying22 zi3 rfl (by decide) (rB HU hBd) (cs := [.int .i64 (lkV y bits k j)]) N54.at_ (p := lkV y bits k j) (okp := fun _ => False) rfl (fun _ h => h.elim) (fun _ _ => trivial) (Nat.le_trans hB2.size hBd.size) (by rw [lvList_len]; omega) (by rw [lvList_len]; simp [maxLen]; omega) rfl rfl (fun v55 w55 HR55 hg55 _ => ?_)
        have hkl : k < months := by omega
        refine GD_pure 22 rfl (by kernel_rfl) (by kernel_rfl) (by kernel_rfl) (by kernel_rfl) rfl rfl rfl (qv fun wq hC => by exact r_assign) ?_
        refine GD_end (by kernel_rfl) (dead 21 rfl (by kernel_rfl)) ?_
        refine Bn (Tn (Rg (Mv ?_)))
        refine g_add rfl rfl (by omega) (h := ?_)
        refine As (Nl ?_)
        exact round_end (y.length - (j + 1)) (by omega) ⟨j + 1, v55, _, has rfl (has rfl (has rfl (has rfl (has rfl (has rfl (has rfl rfl)))))), hjl, rfl, by rw [lvList_succ]; exact HR55, (hB2.bel hBd).grown hg55 (Kd.R_base HU)⟩
    · skip
      refine Nl (Tn (Cf rfl (Xi (Tx (Tx (Bs (Tn (Rg ?_))))))))
      obtain rfl : j = y.length := by omega
      obtain ⟨gu, cu, rfl, hgu, _, _⟩ := Kd.R_form HU (by rw [lvList_len]; omega)
      refine Mv (Mv ?_)
      refine g_lit1 bs25 rfl rfl (h := fun g58 w58 N58 => ?_)
      have hB58 := hB2.new N58
      have HV := rB HR hB58
      have hvne : some gu ≠ v.ownBlock := fun e => by have := Kd.R_lt HR gu e.symm; omega
      refine g_appendR kRow Try.underlying25 zi22 rfl (by decide) HV (cs := [.slice (some ⟨gu, 0, none⟩) (lvList (lkV y bits k) y.length).length cu]) N58.at_ (p := lvList (lkV y bits k) y.length) (okp := fun q => q = gu) ⟨_, rfl, R_okS (Kd.R_lower (rN HU N58) hB.size) (fun q hq => by simpa [Value.ownBlock] using hq.symm)⟩ (fun q hq => ⟨trivial, by rw [hq]; exact hvne⟩) (fun _ _ => trivial) (Nat.le_trans hB.size hB58.size) (by rw [leaksL_len]; omega) (by rw [leaksL_len]; simp [maxLen]; omega) rfl rfl (h := fun v59 w59 HR59 hg59 _ => ?_)
      refine As (Nl (Bn (Tn (Rg (Mv ?_)))))
      refine g_add rfl rfl (by omega) (h := ?_)
      refine As (Nl ?_)
      exact round_end (months - (k + 1)) (by omega) ⟨k + 1, v59, _, has rfl (has rfl (has rfl (has rfl (has rfl rfl)))), hkl, rfl, by rw [leaksL_succ]; exact HR59, (hB.bel hB58).grown hg59 (Kd.R_base HR)⟩
  · skip
    refine Nl (Tn (Cf rfl (Xi (Tx (Tx (Bs (Tn (Sq (Rg (Mv (As (Nl (Tn (Rt ?_))))))))))))))
    obtain rfl : k = months := by omega
    exact ret1 rfl ⟨v, rfl, HR, hB⟩
end Go.Proofs.B
