/- barrel: the law BarrelEasier, walked. -/
import Derived.Test.YtpfoleggapngoaaL8
import Derived.Test.YtpfoleggapngoaaB34
set_option linter.unusedVariables false
set_option linter.unusedSimpArgs false
set_option maxRecDepth 10000
namespace Go.Proofs.B
open Go Go.RowKit Go.Proofs Go.Proofs.G Go.Proofs.F Go.Proofs.YtpfoleggapngoaaW.PrintWords
theorem bs35_0 (w : World) : (Instr.buildSlice 35 0 #[]).run Try.prog w = .ok (.slice (some ⟨w.heap.size, 0, none⟩) 0 0) (w.alloc (.cells #[] 70)) := by kernel_rfl
theorem mod_nat (n : Int) (m : Nat) (hm : 0 < m) : ∃ q : Nat, n % (m : Int) = q ∧ q < m := by
  have h1 := Int.emod_nonneg n (show (m : Int) ≠ 0 by omega)
  have h2 := Int.emod_lt_of_pos n (show 0 < (m : Int) by omega)
  exact ⟨(n % m).toNat, by omega, by omega⟩
theorem f3ex (c : S70) (u : Int) : [Value.int .i64 c.f0, .int .i64 c.f1, .int .i64 c.f2, .int .i64 c.f3.f0, .int .i64 u] = [Value.int .i64 c.f0, .int .i64 c.f1, .int .i64 c.f2, .int .i64 c.f3.f0, .int .i64 c.f3.f1].set 4 (.int .i64 u) := rfl
theorem cask_mk {c : S70} (h : (1 ≤ c.f1 ∧ c.f1 ≤ 1000) ∧ (0 ≤ c.f0 ∧ c.f0 ≤ c.f1) ∧ (0 ≤ c.f2 ∧ c.f2 ≤ c.f1) ∧ (0 ≤ c.f3.f0 ∧ c.f3.f0 ≤ c.f3.f1 ∧ c.f3.f1 ≤ 1000)) : caskOk c = true := by
  simp only [caskOk, spanOk, decide_eq_true_eq]; exact h
theorem r_subE {P : Program} {σ : Nat → Value} {w : World} {ty : TypeId} {pos : String} {after : Array Edge} {gd : Option (Nat × Bool)} {dst : Option Nat} {x y : Operand} {t t' : TypeId} {a b c : Int} (hx : ev σ x = .int .i64 a) (hy : ev σ y = .int .i64 b) (he : a - b = c) (hr : -9223372036854775808 ≤ a - b ∧ a - b ≤ 9223372036854775807) : (execOp (ev σ) ⟨dst, .binOp .sub t x y t', ty, pos, after, gd⟩).run P w = .ok (.value (.int .i64 c)) w := by
  subst he; exact r_sub hx hy hr
theorem pred_n {mo : Nat} (h : ¬ (mo : Int) = 0) (h12 : mo ≤ 12) : ∃ m1 : Nat, (mo : Int) - 1 = m1 ∧ m1 + 1 = mo ∧ m1 ≤ 12 := ⟨mo - 1, by omega, by omega, by omega⟩
theorem take_l {plan : List Int} {mo m1 : Nat} (h : plan.length = mo) (h2 : m1 + 1 = mo) : (plan.take m1).length = m1 ∧ m1 ≤ plan.length := by
  rw [List.length_take]; omega
theorem tops_of {y : List S70} {p : List Int} {lv : Nat → Int} {n : Nat} (h : okPlan y lv p) (hl : p.length = n) : ∀ j, j < n → -1 ≤ rd p (j : Nat) ∧ rd p (j : Nat) ≤ (y.length : Int) - 1 := fun j hj => by have := okPlan_tops p _ h j (by omega); omega
set_option maxHeartbeats 40000000 in
theorem barrelEasier_c (A : Option Addr) (c : Nat) (y : List S70) (n0 n1 n2 n3 : Int) (w : World) (hs : k70.C w A y.length y) :
    Calls Try.prog 10 #[.slice A y.length c, .agg #[.int .i64 n0, .int .i64 n1, .int .i64 n2, .int .i64 n3]] w fun e w' => e = .returned (.bool true) ∧ Bel w w' := by
  obtain ⟨mo, hmo, hmo12⟩ := mod13 n0
  refine G_enter (l := [.slice A y.length c, .agg #[.int .i64 n0, .int .i64 n1, .int .i64 n2, .int .i64 n3]]) Try.func10 rfl rfl ?_
  refine Sq (Rg ?_)
  refine g_box rfl (h := fun g3 w3 N3 => ?_)
  have K3 := N3.at_
  have hB3 := Bel.of_new N3
  have K3a : w3.heap[g3]? = some (.cells #[.int .i64 n0, .int .i64 n1, .int .i64 n2, .int .i64 n3] 72 (0, 0)) := K3
  have hs3 := Kd.C_below hs hB3
  refine As (Nl (Tn (Sq (Sq (Rg (Mv ?_))))))
  refine g_call he45 rfl (sound_c A c y _ hs3) (h := ?_)
  rintro e w16 ⟨rfl, hb16⟩
  refine ⟨_, rfl, ?_⟩
  cases q16 : yardOk y with
  | true =>
    have hy := q16
    have h4 := yard_len hy
    refine Nt rfl (Nl (Tn (Cf rfl (Sk (Tn (Sq (Rg ?_)))))))
    refine g_indexA Try.underlying72 info3 rfl rfl (by omega) (by omega) (add0 _ _) (h := ?_)
    refine L1 Try.underlying3 (cellAt (kB K3a hb16) rfl) rfl ?_
    refine g_call he41 rfl (mod_at n0 13 mo hmo (by decide) (by decide) _) (h := ?_)
    rintro e w21 ⟨rfl, rfl⟩
    refine ⟨_, rfl, ?_⟩
    refine As (Nl (Tn (Sq (Rg (Mv (Mv ?_))))))
    refine g_call he30 rfl (keep_c A c y mo _ (Kd.C_below hs3 hb16)) (h := ?_)
    rintro e w25 ⟨v25, code, plan, rfl, ⟨A25, c25, rfl, hC25, hc25⟩, hkr, hb25⟩
    refine ⟨_, rfl, ?_⟩
    have hB25 := hb16.bel hb25
    refine Mv (Xt rfl rfl (Xt rfl rfl (As (As (Nl (Tn (Sq (Sq (Rg (Mv ?_))))))))))
    refine g_neq rfl rfl (h1 := fun c29 => ?_) (h2 := fun c29 => ?_)
    · skip
      have hkeep : code = 4 ∧ plan = [] := by
        rcases hkr with ⟨_, _, ⟨h, _⟩ | ⟨h1, h2, h3⟩⟩ | ⟨_, h, _⟩ | ⟨h, _⟩
        · exact absurd h c29
        · exact ⟨h1, h2⟩
        · exact absurd (by omega) h
        · exact absurd hy h
      obtain ⟨rfl, rfl⟩ := hkeep
      refine Nl (Tn (Ct rfl (Sq (Rg (Mv ?_)))))
      refine g_v (r_eqlT rfl rfl (by decide)) (h := ?_)
      refine Mv (Mv (Ln Try.underlying22 rfl ?_))
      refine g_v (r_eqlT rfl rfl (rfl)) (h := ?_)
      refine Pt rfl (Mv ?_)
      refine g_call he21 rfl (works_c _) (h := ?_)
      rintro e w38 ⟨rfl, hb38⟩
      refine ⟨_, rfl, ?_⟩
      refine Pt rfl (As (Nl (Tn (Rt (Tr ?_)))))
      exact ret1 rfl ⟨rfl, hB3.bel (hB25.bel hb38)⟩
    · skip
      have hkeep : plan.length = mo ∧ okPlan y (begF y) plan := by
        rcases hkr with ⟨_, _, ⟨_, h1, h2⟩ | ⟨h, _⟩⟩ | ⟨_, h, _⟩ | ⟨h, _⟩
        · exact ⟨by omega, h2⟩
        · rw [c29] at h; exact absurd h (by decide)
        · exact absurd (by omega) h
        · exact absurd hy h
      obtain ⟨hpl, hok⟩ := hkeep
      refine Nl (Tn (Cf rfl (Sk (Tn (Sq (Sq (Rg (Mv (Ln Try.underlying22 rfl (Mv ?_))))))))))
      refine g_v (r_neqF rfl rfl (by omega)) (h := ?_)
      refine Nl (Tn (Cf rfl (Sk (Tn (Sq (Rg ?_))))))
      refine g_litsR k70 (xs := []) (inner := []) (okp := fun _ => True) (bs35_0 _) rfl rfl (by decide) (Reps.none _ _) (h := fun g44 w44 HR44 hg44 => ?_)
      have hB44 : Bel w25 w44 := Bel.grown (Below.refl _ _) hg44 (fun k hk => by cases hk)
      refine Mv ?_
      refine g_appendRows k70 Try.underlying35 zi70 rfl (by decide) (by decide) (okp := fun _ => False) HR44 (Kd.C_below hs3 (hB25.bel hB44)) (fun x cs h => by rw [k70_open h]; exact k70_mkM _ _ _ _) (fun _ h => h.elim) (fun _ _ => trivial) hg44.size (by simp only [List.length_nil]; omega) rfl rfl (h := fun v46 w46 HR46 hg46 _ => ?_)
      have hB46 := hB44.grown hg46 (Kd.R_base HR44)
      rw [List.nil_append] at HR46
      obtain ⟨gx, cx0, rfl, hgx, _, _⟩ := Kd.R_form HR46 (by omega)
      refine As (Nl (Tn (Sq (Rg ?_))))
      refine g_indexA Try.underlying72 info3 rfl rfl (by omega) (by omega) (add0 _ _) (h := ?_)
      refine L1 Try.underlying3 (cellAt (kB K3a (hB25.bel hB46)) rfl) rfl (Mv (Ln Try.underlying35 rfl ?_))
      obtain ⟨k, hk, hkl⟩ := mod_nat n1 y.length (by omega)
      refine g_call he41 rfl (mod_at n1 y.length k hk (by omega) (by omega) _) (h := ?_)
      rintro e w51 ⟨rfl, rfl⟩
      clear hk
      have hck := cask_rg (yard_cask hy k hkl)
      refine ⟨_, rfl, ?_⟩
      refine As (Nl (Tn ?_))
      refine GC_join (fun σ w' => ∃ (x : List S70) (nx : Nat) (Ax : Option Addr) (cx : Nat) (τ : Nat → Value), σ = upd (upd (upd (upd τ 0 (.slice A y.length c)) 5 (.int .i64 mo)) 6 (.slice A25 plan.length c25)) 8 (.slice Ax nx cx) ∧ nx = x.length ∧ k70.C w' Ax x.length x ∧ Easy y x ∧ Bel w25 w') ?_ ?_
      · skip
        refine Sq (Rg ?_)
        refine g_indexA Try.underlying72 info3 rfl rfl (by omega) (by omega) (add0 _ _) (h := ?_)
        refine L1 Try.underlying3 (cellAt (kB K3a (hB25.bel hB46)) rfl) rfl ?_
        obtain ⟨q, hq, hq3⟩ := mod_nat n2 3 (by decide)
        refine g_call he41 rfl (mod_at n2 3 q hq (by decide) (by decide) _) (h := ?_)
        rintro e w54 ⟨rfl, rfl⟩
        clear hq
        have hBd : Bel w25 (w54.drewN 1) := hB46.drew
        have HRd : k70.R 70 (w54.drewN 1) w25.heap.size (fun _ => True) (.slice (some ⟨gx, 0, none⟩) y.length cx0) y := rB HR46 (Bel.drew (Below.refl _ _))
        obtain ⟨ad, hA, hcell⟩ := at70 hs3 (hB25.bel hBd) k hkl
        refine ⟨_, rfl, ?_⟩
        refine Nl (Tn (Bk (Sq (Rg ?_))))
        refine g_eql rfl rfl (h1 := fun c83 => ?_) (h2 := fun c83 => ?_)
        · skip
          refine As (Nl (Tn (Ct rfl ?_)))
          rw [hA]
          refine GD_start 24 [23] (fun w' => w' = w54.drewN 1) (by kernel_rfl) rfl ?_
          refine GD_pure 0 rfl (by kernel_rfl) (by kernel_rfl) (by kernel_rfl) (by kernel_rfl) rfl rfl rfl (qv fun wq hC => by exact r_move) ?_
          refine GD_pure 1 rfl (by kernel_rfl) (by kernel_rfl) (by kernel_rfl) (by kernel_rfl) rfl rfl rfl (qv fun wq hC => by exact r_move) ?_
          refine GD_pure 2 rfl (by kernel_rfl) (by kernel_rfl) (by kernel_rfl) (by kernel_rfl) rfl rfl rfl (qv fun wq hC => by exact r_move) ?_
          refine GD_pure 3 rfl (by kernel_rfl) (by kernel_rfl) (by kernel_rfl) (by kernel_rfl) rfl rfl rfl (qv fun wq hC => by exact r_move) ?_
          refine GD_pure 4 rfl (by kernel_rfl) (by kernel_rfl) (by kernel_rfl) (by kernel_rfl) rfl rfl rfl (qv fun wq hC => by exact r_indexS Try.underlying35 info70 rfl rfl (by omega) (by omega) rfl) ?_
          refine GD_pure 5 rfl (by kernel_rfl) (by kernel_rfl) (by kernel_rfl) (by kernel_rfl) rfl rfl rfl (qv fun wq hC => by exact r_fieldAddr f70_0 rfl rfl) ?_
          refine GD_take 6 rfl (by kernel_rfl) (by kernel_rfl) (by kernel_rfl) (by kernel_rfl) rfl rfl rfl (qv fun wq hC => by exact r_load1 rfl Try.underlying3 (by subst hC; exact hcell 0 (.int .i64 (yd y k).f0) (by rw [yd_get y k hkl]; rfl))) ?_
          refine GD_pure 7 rfl (by kernel_rfl) (by kernel_rfl) (by kernel_rfl) (by kernel_rfl) rfl rfl rfl (qv fun wq hC => by exact r_move) ?_
          refine GD_pure 8 rfl (by kernel_rfl) (by kernel_rfl) (by kernel_rfl) (by kernel_rfl) rfl rfl rfl (qv fun wq hC => by exact r_move) ?_
          refine GD_pure 9 rfl (by kernel_rfl) (by kernel_rfl) (by kernel_rfl) (by kernel_rfl) rfl rfl rfl (qv fun wq hC => by exact r_indexS Try.underlying35 info70 rfl rfl (by omega) (by omega) rfl) ?_
          refine GD_pure 10 rfl (by kernel_rfl) (by kernel_rfl) (by kernel_rfl) (by kernel_rfl) rfl rfl rfl (qv fun wq hC => by exact r_fieldAddr f70_0 rfl rfl) ?_
          refine GD_take 11 rfl (by kernel_rfl) (by kernel_rfl) (by kernel_rfl) (by kernel_rfl) rfl rfl rfl (qv fun wq hC => by exact r_load1 rfl Try.underlying3 (by subst hC; exact hcell 0 (.int .i64 (yd y k).f0) (by rw [yd_get y k hkl]; rfl))) ?_
          refine GD_pure 12 rfl (by kernel_rfl) (by kernel_rfl) (by kernel_rfl) (by kernel_rfl) rfl rfl rfl (qv fun wq hC => by exact r_move) ?_
          refine GD_pure 13 rfl (by kernel_rfl) (by kernel_rfl) (by kernel_rfl) (by kernel_rfl) rfl rfl rfl (qv fun wq hC => by exact r_move) ?_
          refine GD_pure 14 rfl (by kernel_rfl) (by kernel_rfl) (by kernel_rfl) (by kernel_rfl) rfl rfl rfl (qv fun wq hC => by exact r_indexS Try.underlying35 info70 rfl rfl (by omega) (by omega) rfl) ?_
          refine GD_pure 15 rfl (by kernel_rfl) (by kernel_rfl) (by kernel_rfl) (by kernel_rfl) rfl rfl rfl (qv fun wq hC => by exact r_fieldAddr f70_1 rfl rfl) ?_
          refine GD_take 16 rfl (by kernel_rfl) (by kernel_rfl) (by kernel_rfl) (by kernel_rfl) rfl rfl rfl (qv fun wq hC => by exact r_load1 rfl Try.underlying3 (by subst hC; exact hcell 1 (.int .i64 (yd y k).f1) (by rw [yd_get y k hkl]; rfl))) ?_
          refine GD_pure 17 rfl (by kernel_rfl) (by kernel_rfl) (by kernel_rfl) (by kernel_rfl) rfl rfl rfl (qv fun wq hC => by exact r_max rfl rfl rfl) ?_
          refine GD_pure 18 rfl (by kernel_rfl) (by kernel_rfl) (by kernel_rfl) (by kernel_rfl) rfl rfl rfl (qv fun wq hC => by exact r_indexA Try.underlying72 info3 rfl rfl (by omega) (by omega) (add0 _ _)) ?_
          refine GD_take 19 rfl (by kernel_rfl) (by kernel_rfl) (by kernel_rfl) (by kernel_rfl) rfl rfl rfl (qv fun wq hC => by exact r_load1 rfl Try.underlying3 (by subst hC; exact cellAt (kB K3a (hB25.bel hBd)) rfl)) ?_
          refine GD_take 20 rfl (by kernel_rfl) (by kernel_rfl) (by kernel_rfl) (by kernel_rfl) rfl rfl rfl (qc (fun wq hC => by exact r_call he44 rfl) (fun wq hC => by exact chosen_c _ _ _ (by omega) (by omega) _)) ?_
          refine GD_pure 21 rfl (by kernel_rfl) (by kernel_rfl) (by kernel_rfl) (by kernel_rfl) rfl rfl rfl (qv fun wq hC => by exact r_indexO Try.underlying35 info70 rfl rfl  (by omega) (by omega) rfl) ?_
          refine GD_pure 22 rfl (by kernel_rfl) (by kernel_rfl) (by kernel_rfl) (by kernel_rfl) rfl rfl rfl (qv fun wq hC => by exact r_fieldAddrB f70_0 rfl) ?_
          refine GD_one 23 (by kernel_rfl) (fun _ => rfl) ?_
          refine GO_storeF rfl rfl rfl rfl info3 HRd hkl (by decide) (x' := { yd y k with f0 := chosen (yd y k).f0 (max (yd y k).f0 (yd y k).f1) n3 }) rfl (fun w14 HR14 hg14 => ?_)
          have hch := chosen_rg (show (yd y k).f0 ≤ max (yd y k).f0 (yd y k).f1 by omega) n3
          refine GD_end (by kernel_rfl) (dead 23 rfl (by kernel_rfl)) ?_
          refine Bn ?_
          exact join_end ⟨_, _, _, _, _, has rfl (has rfl (has rfl (has rfl rfl))), List.length_set.symm, (Kd.R_reads' HR14).2.2, easy_set hy hkl _ (cask_mk ⟨hck.1, ⟨by simp only; omega, by simp only; omega⟩, hck.2.2⟩) rfl hch.1 (Int.le_refl _) (Int.le_refl _), hBd.grown hg14 (fun q hq => Kd.R_base HRd q hq)⟩
        · skip
          refine As (Nl (Tn (Cf rfl (Sq (Rg ?_)))))
          refine g_eql rfl rfl (h1 := fun c108 => ?_) (h2 := fun c108 => ?_)
          · skip
            refine As (Nl (Tn (Ct rfl ?_)))
            rw [hA]
            refine GD_start 14 [13] (fun w' => w' = w54.drewN 1) (by kernel_rfl) rfl ?_
            refine GD_pure 0 rfl (by kernel_rfl) (by kernel_rfl) (by kernel_rfl) (by kernel_rfl) rfl rfl rfl (qv fun wq hC => by exact r_move) ?_
            refine GD_pure 1 rfl (by kernel_rfl) (by kernel_rfl) (by kernel_rfl) (by kernel_rfl) rfl rfl rfl (qv fun wq hC => by exact r_move) ?_
            refine GD_pure 2 rfl (by kernel_rfl) (by kernel_rfl) (by kernel_rfl) (by kernel_rfl) rfl rfl rfl (qv fun wq hC => by exact r_move) ?_
            refine GD_pure 3 rfl (by kernel_rfl) (by kernel_rfl) (by kernel_rfl) (by kernel_rfl) rfl rfl rfl (qv fun wq hC => by exact r_move) ?_
            refine GD_pure 4 rfl (by kernel_rfl) (by kernel_rfl) (by kernel_rfl) (by kernel_rfl) rfl rfl rfl (qv fun wq hC => by exact r_indexS Try.underlying35 info70 rfl rfl (by omega) (by omega) rfl) ?_
            refine GD_pure 5 rfl (by kernel_rfl) (by kernel_rfl) (by kernel_rfl) (by kernel_rfl) rfl rfl rfl (qv fun wq hC => by exact r_fieldAddr f70_2 rfl rfl) ?_
            refine GD_take 6 rfl (by kernel_rfl) (by kernel_rfl) (by kernel_rfl) (by kernel_rfl) rfl rfl rfl (qv fun wq hC => by exact r_load1 rfl Try.underlying3 (by subst hC; exact hcell 2 (.int .i64 (yd y k).f2) (by rw [yd_get y k hkl]; rfl))) ?_
            refine GD_pure 7 rfl (by kernel_rfl) (by kernel_rfl) (by kernel_rfl) (by kernel_rfl) rfl rfl rfl (qv fun wq hC => by exact r_max rfl rfl rfl) ?_
            refine GD_pure 8 rfl (by kernel_rfl) (by kernel_rfl) (by kernel_rfl) (by kernel_rfl) rfl rfl rfl (qv fun wq hC => by exact r_indexA Try.underlying72 info3 rfl rfl (by omega) (by omega) (add0 _ _)) ?_
            refine GD_take 9 rfl (by kernel_rfl) (by kernel_rfl) (by kernel_rfl) (by kernel_rfl) rfl rfl rfl (qv fun wq hC => by exact r_load1 rfl Try.underlying3 (by subst hC; exact cellAt (kB K3a (hB25.bel hBd)) rfl)) ?_
            refine GD_take 10 rfl (by kernel_rfl) (by kernel_rfl) (by kernel_rfl) (by kernel_rfl) rfl rfl rfl (qc (fun wq hC => by exact r_call he44 rfl) (fun wq hC => by exact chosen_c _ _ _ (by omega) (by omega) _)) ?_
            refine GD_pure 11 rfl (by kernel_rfl) (by kernel_rfl) (by kernel_rfl) (by kernel_rfl) rfl rfl rfl (qv fun wq hC => by exact r_indexO Try.underlying35 info70 rfl rfl  (by omega) (by omega) rfl) ?_
            refine GD_pure 12 rfl (by kernel_rfl) (by kernel_rfl) (by kernel_rfl) (by kernel_rfl) rfl rfl rfl (qv fun wq hC => by exact r_fieldAddrB f70_2 rfl) ?_
            refine GD_one 13 (by kernel_rfl) (fun _ => rfl) ?_
            refine GO_storeF rfl rfl rfl rfl info3 HRd hkl (by decide) (x' := { yd y k with f2 := chosen 0 (max 0 (yd y k).f2) n3 }) rfl (fun w14 HR14 hg14 => ?_)
            have hch := chosen_rg (show 0 ≤ max 0 (yd y k).f2 by omega) n3
            refine GD_end (by kernel_rfl) (dead 13 rfl (by kernel_rfl)) ?_
            refine Bn ?_
            exact join_end ⟨_, _, _, _, _, has rfl (has rfl (has rfl (has rfl rfl))), List.length_set.symm, (Kd.R_reads' HR14).2.2, easy_set hy hkl _ (cask_mk ⟨hck.1, hck.2.1, ⟨by simp only; omega, by simp only; omega⟩, hck.2.2.2⟩) rfl (Int.le_refl _) (by simp only; omega) (Int.le_refl _), hBd.grown hg14 (fun q hq => Kd.R_base HRd q hq)⟩
          · skip
            refine As (Nl (Tn (Cf rfl ?_)))
            rw [hA]
            refine GD_start 28 [27] (fun w' => w' = w54.drewN 1) (by kernel_rfl) rfl ?_
            refine GD_pure 0 rfl (by kernel_rfl) (by kernel_rfl) (by kernel_rfl) (by kernel_rfl) rfl rfl rfl (qv fun wq hC => by exact r_move) ?_
            refine GD_pure 1 rfl (by kernel_rfl) (by kernel_rfl) (by kernel_rfl) (by kernel_rfl) rfl rfl rfl (qv fun wq hC => by exact r_move) ?_
            refine GD_pure 2 rfl (by kernel_rfl) (by kernel_rfl) (by kernel_rfl) (by kernel_rfl) rfl rfl rfl (qv fun wq hC => by exact r_move) ?_
            refine GD_pure 3 rfl (by kernel_rfl) (by kernel_rfl) (by kernel_rfl) (by kernel_rfl) rfl rfl rfl (qv fun wq hC => by exact r_move) ?_
            refine GD_pure 4 rfl (by kernel_rfl) (by kernel_rfl) (by kernel_rfl) (by kernel_rfl) rfl rfl rfl (qv fun wq hC => by exact r_indexS Try.underlying35 info70 rfl rfl (by omega) (by omega) rfl) ?_
            refine GD_pure 5 rfl (by kernel_rfl) (by kernel_rfl) (by kernel_rfl) (by kernel_rfl) rfl rfl rfl (qv fun wq hC => by exact r_fieldAddr f70_3 rfl rfl) ?_
            refine GD_pure 6 rfl (by kernel_rfl) (by kernel_rfl) (by kernel_rfl) (by kernel_rfl) rfl rfl rfl (qv fun wq hC => by exact r_fieldAddr f68_0 rfl rfl) ?_
            refine GD_take 7 rfl (by kernel_rfl) (by kernel_rfl) (by kernel_rfl) (by kernel_rfl) rfl rfl rfl (qv fun wq hC => by exact r_load1 rfl Try.underlying3 (by subst hC; rw [add_add' _ 3 0]; exact hcell 3 (.int .i64 (yd y k).f3.f0) (by rw [yd_get y k hkl]; rfl))) ?_
            refine GD_pure 8 rfl (by kernel_rfl) (by kernel_rfl) (by kernel_rfl) (by kernel_rfl) rfl rfl rfl (qv fun wq hC => by exact r_move) ?_
            refine GD_pure 9 rfl (by kernel_rfl) (by kernel_rfl) (by kernel_rfl) (by kernel_rfl) rfl rfl rfl (qv fun wq hC => by exact r_move) ?_
            refine GD_pure 10 rfl (by kernel_rfl) (by kernel_rfl) (by kernel_rfl) (by kernel_rfl) rfl rfl rfl (qv fun wq hC => by exact r_indexS Try.underlying35 info70 rfl rfl (by omega) (by omega) rfl) ?_
            refine GD_pure 11 rfl (by kernel_rfl) (by kernel_rfl) (by kernel_rfl) (by kernel_rfl) rfl rfl rfl (qv fun wq hC => by exact r_fieldAddr f70_3 rfl rfl) ?_
            refine GD_pure 12 rfl (by kernel_rfl) (by kernel_rfl) (by kernel_rfl) (by kernel_rfl) rfl rfl rfl (qv fun wq hC => by exact r_fieldAddr f68_0 rfl rfl) ?_
            refine GD_take 13 rfl (by kernel_rfl) (by kernel_rfl) (by kernel_rfl) (by kernel_rfl) rfl rfl rfl (qv fun wq hC => by exact r_load1 rfl Try.underlying3 (by subst hC; rw [add_add' _ 3 0]; exact hcell 3 (.int .i64 (yd y k).f3.f0) (by rw [yd_get y k hkl]; rfl))) ?_
            refine GD_pure 14 rfl (by kernel_rfl) (by kernel_rfl) (by kernel_rfl) (by kernel_rfl) rfl rfl rfl (qv fun wq hC => by exact r_move) ?_
            refine GD_pure 15 rfl (by kernel_rfl) (by kernel_rfl) (by kernel_rfl) (by kernel_rfl) rfl rfl rfl (qv fun wq hC => by exact r_move) ?_
            refine GD_pure 16 rfl (by kernel_rfl) (by kernel_rfl) (by kernel_rfl) (by kernel_rfl) rfl rfl rfl (qv fun wq hC => by exact r_indexS Try.underlying35 info70 rfl rfl (by omega) (by omega) rfl) ?_
            refine GD_pure 17 rfl (by kernel_rfl) (by kernel_rfl) (by kernel_rfl) (by kernel_rfl) rfl rfl rfl (qv fun wq hC => by exact r_fieldAddr f70_3 rfl rfl) ?_
            refine GD_pure 18 rfl (by kernel_rfl) (by kernel_rfl) (by kernel_rfl) (by kernel_rfl) rfl rfl rfl (qv fun wq hC => by exact r_fieldAddr f68_1 rfl rfl) ?_
            refine GD_take 19 rfl (by kernel_rfl) (by kernel_rfl) (by kernel_rfl) (by kernel_rfl) rfl rfl rfl (qv fun wq hC => by exact r_load1 rfl Try.underlying3 (by subst hC; rw [add_add' _ 3 1]; exact hcell 4 (.int .i64 (yd y k).f3.f1) (by rw [yd_get y k hkl]; rfl))) ?_
            refine GD_pure 20 rfl (by kernel_rfl) (by kernel_rfl) (by kernel_rfl) (by kernel_rfl) rfl rfl rfl (qv fun wq hC => by exact r_max rfl rfl rfl) ?_
            refine GD_pure 21 rfl (by kernel_rfl) (by kernel_rfl) (by kernel_rfl) (by kernel_rfl) rfl rfl rfl (qv fun wq hC => by exact r_indexA Try.underlying72 info3 rfl rfl (by omega) (by omega) (add0 _ _)) ?_
            refine GD_take 22 rfl (by kernel_rfl) (by kernel_rfl) (by kernel_rfl) (by kernel_rfl) rfl rfl rfl (qv fun wq hC => by exact r_load1 rfl Try.underlying3 (by subst hC; exact cellAt (kB K3a (hB25.bel hBd)) rfl)) ?_
            refine GD_take 23 rfl (by kernel_rfl) (by kernel_rfl) (by kernel_rfl) (by kernel_rfl) rfl rfl rfl (qc (fun wq hC => by exact r_call he44 rfl) (fun wq hC => by exact chosen_c _ _ _ (by omega) (by omega) _)) ?_
            refine GD_pure 24 rfl (by kernel_rfl) (by kernel_rfl) (by kernel_rfl) (by kernel_rfl) rfl rfl rfl (qv fun wq hC => by exact r_indexO Try.underlying35 info70 rfl rfl  (by omega) (by omega) rfl) ?_
            refine GD_pure 25 rfl (by kernel_rfl) (by kernel_rfl) (by kernel_rfl) (by kernel_rfl) rfl rfl rfl (qv fun wq hC => by exact r_fieldAddrB f70_3 rfl) ?_
            refine GD_pure 26 rfl (by kernel_rfl) (by kernel_rfl) (by kernel_rfl) (by kernel_rfl) rfl rfl rfl (qv fun wq hC => by exact r_fieldAddrB f68_1 rfl) ?_
            refine GD_one 27 (by kernel_rfl) (fun _ => rfl) ?_
            refine GO_storeF (f := 4) rfl rfl rfl rfl info3 HRd hkl (by decide) (x' := { yd y k with f3 := ⟨(yd y k).f3.f0, chosen (yd y k).f3.f0 (max (yd y k).f3.f0 (yd y k).f3.f1) n3⟩ }) rfl (fun w14 HR14 hg14 => ?_)
            have hch := chosen_rg (show (yd y k).f3.f0 ≤ max (yd y k).f3.f0 (yd y k).f3.f1 by omega) n3
            refine GD_end (by kernel_rfl) (dead 27 rfl (by kernel_rfl)) ?_
            refine Bn ?_
            exact join_end ⟨_, _, _, _, _, has rfl (has rfl (has rfl (has rfl rfl))), List.length_set.symm, (Kd.R_reads' HR14).2.2, easy_set hy hkl _ (cask_mk ⟨hck.1, hck.2.1, hck.2.2.1, ⟨hck.2.2.2.1, by simp only; omega, by simp only; omega⟩⟩) rfl (Int.le_refl _) (Int.le_refl _) (by simp only; omega), hBd.grown hg14 (fun q hq => Kd.R_base HRd q hq)⟩
      · rintro _ w17 ⟨x, nx, Ax, cx, τ, rfl, rfl, hCx, hE, hB17⟩
        refine Sq (Rg (Mv (Mv (Mv (Mv ?_)))))
        have hyx := hE.ok
        have hokx := okPlan_easy hE plan _ _ (easy_beg hE) hok
        have htx := tops_of hokx hpl
        refine g_call he47 rfl (leaksLaw_c Ax none cx 0 x mo [] _ hCx hyx hmo12 (Kd.C_nil _ _)) (h := ?_)
        rintro e w127 ⟨v127, rfl, HR127, hb127⟩
        refine ⟨_, rfl, ?_⟩
        obtain ⟨A127, c127, rfl, _, hC127⟩ := Kd.R_reads HR127
        have hB127 := hB17.bel hb127
        refine g_call he23 rfl (runK_c Ax A25 A127 cx c25 c127 x plan (leaksL x mo []) _ (-1) _ (Kd.C_below hCx hb127) (Kd.C_below hC25 hB127) hC127 hyx (planOk_of hyx hmo12 [] hpl htx) rfl (keep_run hyx hpl hokx)) (h := ?_)
        rintro e w128 ⟨v128, rfl, HR128, hb128⟩
        refine ⟨_, rfl, ?_⟩
        have hB128 := hB127.bel hb128
        refine Mv (Xt rfl rfl (Xt rfl rfl (Xt rfl rfl (As (As (As (Nl (Tn (Sq (Rg (Mv (Mv ?_))))))))))))
        refine g_call he30 rfl (keep_c Ax cx x mo _ (Kd.C_below hCx (hb127.bel hb128))) (h := ?_)
        rintro e w135 ⟨v135, code2, plan2, rfl, ⟨A135, c135, rfl, hC135, hc135⟩, hkr2, hb135⟩
        refine ⟨_, rfl, ?_⟩
        have hB135 := hB128.bel hb135
        obtain ⟨rfl, hpl2⟩ := keep_ok hkr2 hyx hmo12 hokx hpl
        refine Mv (Xt rfl rfl (Xt rfl rfl (As (As (Nl (Tn (Sq (Sq (Rg (Mv ?_))))))))))
        refine g_v (r_neqF rfl rfl (by decide)) (h := ?_)
        refine Mv (Mv ?_)
        refine g_v (r_neqF rfl rfl (by decide)) (h := ?_)
        refine Pf rfl (Mv (Mv ?_))
        refine g_v (r_neqF rfl rfl (by decide)) (h := ?_)
        refine Pf rfl (Mv (Mv (Ln Try.underlying22 rfl (Mv ?_))))
        refine g_v (r_neqF rfl rfl (by omega)) (h := ?_)
        refine Pf rfl (Nl (Tn (Cf rfl (Sk (Tn (Sq (Sq (Rg (Mv ?_)))))))))
        refine g_eql rfl rfl (h1 := fun c155 => ?_) (h2 := fun c155 => ?_)
        · skip
          refine Nl (Tn (Ct rfl (Sq (Rg ?_))))
          refine g_call he21 rfl (works_c _) (h := ?_)
          rintro e w156 ⟨rfl, hb156⟩
          refine ⟨_, rfl, ?_⟩
          refine As (Nl (Tn (Rt (Tr ?_))))
          exact ret1 rfl ⟨rfl, hB3.bel (hB25.bel (hB135.bel hb156))⟩
        · skip
          refine Nl (Tn (Cf rfl (Sk (Tn (Sq ?_)))))
          have hpr := pred_n c155 hmo12
          obtain ⟨m1, hm1, hm2, hm12⟩ := hpr
          have htl0 := take_l hpl hm2
          have htl := htl0.1
          have htle := htl0.2
          have hokt := okPlan_take m1 plan _ hok
          have hBe : Bel w135 (w135.drewN 1) := Bel.drew (Below.refl _ _)
          refine GD_start 16 [9] (fun w' => Bel w135 w') (by kernel_rfl) rfl ?_
          refine GD_pure 0 rfl (by kernel_rfl) (by kernel_rfl) (by kernel_rfl) (by kernel_rfl) rfl rfl rfl (qv fun wq hC => by exact r_move) ?_
          refine GD_pure 1 rfl (by kernel_rfl) (by kernel_rfl) (by kernel_rfl) (by kernel_rfl) rfl rfl rfl (qv fun wq hC => by exact r_move) ?_
          refine GD_pure 2 rfl (by kernel_rfl) (by kernel_rfl) (by kernel_rfl) (by kernel_rfl) rfl rfl rfl (qv fun wq hC => by exact r_move) ?_
          refine GD_pure 3 rfl (by kernel_rfl) (by kernel_rfl) (by kernel_rfl) (by kernel_rfl) rfl rfl rfl (qv fun wq hC => by exact r_subE rfl rfl hm1 (by omega)) ?_
          refine GD_take 4 rfl (by kernel_rfl) (by kernel_rfl) (by kernel_rfl) (by kernel_rfl) rfl rfl rfl (qv fun wq hC => by exact r_sliceTo Try.underlying22 inf3 rfl rfl (n := (plan.take m1).length) (by rw [htl]) (by omega)) ?_
          refine GD_pure 5 rfl (by kernel_rfl) (by kernel_rfl) (by kernel_rfl) (by kernel_rfl) rfl rfl rfl (qv fun wq hC => by exact r_move) ?_
          refine GD_pure 6 rfl (by kernel_rfl) (by kernel_rfl) (by kernel_rfl) (by kernel_rfl) rfl rfl rfl (qv fun wq hC => by exact r_move) ?_
          refine GD_pure 7 rfl (by kernel_rfl) (by kernel_rfl) (by kernel_rfl) (by kernel_rfl) rfl rfl rfl (qv fun wq hC => by exact r_subE rfl rfl hm1 (by omega)) ?_
          refine GD_one 8 (by kernel_rfl) (fun _ => hBe) ?_
          refine GO_call rfl rfl rfl he47 rfl (leaksLaw_c A none c 0 y m1 [] _ (Kd.C_below hs3 (hB25.bel (hB135.bel hBe))) hy hm12 (Kd.C_nil _ _)) (fun e w166 he => ?_)
          obtain ⟨v166, rfl, HR166, hb166⟩ := he
          have h166 := Kd.R_reads HR166
          obtain ⟨A166, c166, rfl, _, hC166⟩ := h166
          refine ⟨_, rfl, ?_⟩
          have hBf := hBe.bel hb166
          refine GD_one 9 (by kernel_rfl) (fun _ => hBf) ?_
          refine GO_call rfl rfl rfl he23 rfl (runK_c A A25 A166 c c25 c166 y (plan.take m1) (leaksL y m1 []) _ (-1) _ (Kd.C_below hs3 (hB25.bel (hB135.bel hBf))) (Kd.C_take (Kd.C_below hC25 (hB135.bel hBf)) htle) hC166 hy (planOk_of hy hm12 [] htl (tops_of hokt htl)) rfl (keep_run hy htl hokt)) (fun e w167 he => ?_)
          obtain ⟨v167, rfl, HR167, hb167⟩ := he
          refine ⟨_, rfl, ?_⟩
          have hBg := hBf.bel hb167
          refine GD_pure 10 rfl (by kernel_rfl) (by kernel_rfl) (by kernel_rfl) (by kernel_rfl) rfl rfl rfl (qv fun wq hC => by exact r_move) ?_
          refine GD_pure 11 rfl (by kernel_rfl) (by kernel_rfl) (by kernel_rfl) (by kernel_rfl) rfl rfl rfl (qv fun wq hC => by exact r_extract rfl rfl) ?_
          refine GD_pure 12 rfl (by kernel_rfl) (by kernel_rfl) (by kernel_rfl) (by kernel_rfl) rfl rfl rfl (qv fun wq hC => by exact r_extract rfl rfl) ?_
          refine GD_pure 13 rfl (by kernel_rfl) (by kernel_rfl) (by kernel_rfl) (by kernel_rfl) rfl rfl rfl (qv fun wq hC => by exact r_extract rfl rfl) ?_
          refine GD_pure 14 rfl (by kernel_rfl) (by kernel_rfl) (by kernel_rfl) (by kernel_rfl) rfl rfl rfl (qv fun wq hC => by exact r_assign) ?_
          refine GD_pure 15 rfl (by kernel_rfl) (by kernel_rfl) (by kernel_rfl) (by kernel_rfl) rfl rfl rfl (qv fun wq hC => by exact r_assign) ?_
          refine GD_end (by kernel_rfl) (dead 9 rfl (by kernel_rfl)) ?_
          refine Tn (Sq (Rg (Mv (Mv ?_))))
          refine g_v (r_subE rfl rfl hm1 (by omega)) (h := ?_)
          refine g_call he30 rfl (keep_c A c y m1 _ (Kd.C_below hs3 (hB25.bel (hB135.bel hBg)))) (h := ?_)
          rintro e w175 ⟨v175, code3, plan3, rfl, ⟨A175, c175, rfl, hC175, hc175⟩, hkr3, hb175⟩
          refine ⟨_, rfl, ?_⟩
          have hk3 := keep_ok hkr3 hy hm12 hokt htl
          obtain ⟨rfl, hpl3⟩ := hk3
          refine Mv (Xt rfl rfl (Xt rfl rfl (As (As (Nl (Tn (Sq (Rg (Mv ?_)))))))))
          refine g_v (r_eqlT rfl rfl (by decide)) (h := ?_)
          refine Mv (Mv ?_)
          refine g_v (r_eqlT rfl rfl (by decide)) (h := ?_)
          refine Pt rfl (Mv (Mv ?_))
          refine g_v (r_eqlT rfl rfl (by decide)) (h := ?_)
          refine Pt rfl (Mv (Mv (Ln Try.underlying22 rfl (Mv ?_))))
          refine g_sub rfl rfl (by omega) (h := ?_)
          refine g_v (r_eqlT rfl rfl (by omega)) (h := ?_)
          refine Pt rfl (Mv ?_)
          refine g_call he21 rfl (works_c _) (h := ?_)
          rintro e w196 ⟨rfl, hb196⟩
          refine ⟨_, rfl, ?_⟩
          refine Pt rfl (As (Nl (Tn (Rt ?_))))
          exact ret1 rfl ⟨rfl, hB3.bel (hB25.bel (hB135.bel (hBg.bel (hb175.bel hb196))))⟩
  | false =>
    skip
    refine Nt rfl (Nl (Tn (Ct rfl (Sq (Rg ?_)))))
    refine g_call he21 rfl (works_c _) (h := ?_)
    rintro e w18 ⟨rfl, hb18⟩
    refine ⟨_, rfl, ?_⟩
    refine As (Nl (Tn (Rt (Tr ?_))))
    exact ret1 rfl ⟨rfl, hB3.bel (hb16.bel hb18)⟩
end Go.Proofs.B
