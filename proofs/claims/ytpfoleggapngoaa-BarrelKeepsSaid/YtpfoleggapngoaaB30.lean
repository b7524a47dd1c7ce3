/- barrel: the reference of Run. -/
import Derived.Test.YtpfoleggapngoaaB29
set_option linter.unusedVariables false
set_option linter.unusedSimpArgs false
set_option maxRecDepth 10000
namespace Go.Proofs.B
open Go Go.RowKit Go.Proofs Go.Proofs.G Go.Proofs.F Go.Proofs.YtpfoleggapngoaaW.PrintWords
theorem spanAt {w w' : World} {ad : Addr} {z : S70} (hC : w' = w) (h : ∀ j v, (enc70 z)[j]? = some v → w.cell? (ad.add j) = some v) : ∀ i u, [Value.int .i64 z.f3.f0, Value.int .i64 z.f3.f1][i]? = some u → w'.cell? ((ad.add 3).add i) = some u := by
  subst hC
  intro i u hu
  rw [add_add' _ 3 i]
  match i, hu with
  | 0, hu => exact h 3 u hu
  | 1, hu => exact h 4 u hu
  | i + 2, hu => simp at hu
set_option maxHeartbeats 2000000 in
theorem isPlan_c (A A1 A2 : Option Addr) (c c1 c2 : Nat) (y : List S70) (plan : List Int) (leaks : List (List Int)) (w : World) (hs : k70.C w A y.length y) (hy4 : y.length ≤ 1000) (hp : (Kd.int .i64).C w A1 plan.length plan) (hl : kRow.C w A2 leaks.length leaks) :
    Calls Try.prog 73 #[.slice A y.length c, .slice A1 plan.length c1, .slice A2 leaks.length c2] w fun e w' => e = .returned (.bool (decide (PlanOk y plan leaks))) ∧ Bel w w' := by
  have hml : leaks.length ≤ 9223372036854775807 := hl.2.1
  have hmp : plan.length ≤ 9223372036854775807 := hp.2.1
  refine G_enter (l := [.slice A y.length c, .slice A1 plan.length c1, .slice A2 leaks.length c2]) Try.func73 rfl rfl ?_
  refine Sq (Rg (As (Nl (Tn ?_))))
  refine GC_join (fun σ w' => ∃ (b : Bool) (τ : Nat → Value), σ = upd (upd (upd (upd τ 0 (.slice A y.length c)) 1 (.slice A1 plan.length c1)) 2 (.slice A2 leaks.length c2)) 7 (.bool b) ∧ w' = w ∧ ((b = true ∧ (plan.length ≤ 12 ∧ leaks.length = plan.length)) ∨ (b = false ∧ ¬ PlanOk y plan leaks))) ?_ ?_
  · skip
    refine Rg (Mv (Ln Try.underlying22 rfl ?_))
    refine g_leq rfl rfl (h1 := fun c12 => ?_) (h2 := fun c12 => ?_)
    · skip
      refine Mv (Mv (Ln Try.underlying25 rfl (Mv (Ln Try.underlying22 rfl ?_))))
      refine g_eql rfl rfl (h1 := fun c18 => ?_) (h2 := fun c18 => ?_)
      · skip
        refine Pt rfl (As (Nl ?_))
        exact join_end ⟨true, _, has rfl (has rfl (has rfl (has rfl rfl))), rfl, .inl ⟨rfl, by omega, by omega⟩⟩
      · skip
        refine Pt rfl (As (Nl ?_))
        exact join_end ⟨false, _, has rfl (has rfl (has rfl (has rfl rfl))), rfl, .inr ⟨rfl, fun h => by have := h.1; omega⟩⟩
    · skip
      refine Mv (Of (Of (Of (Of (Of (Pf rfl (As (Nl ?_))))))))
      exact join_end ⟨false, _, has rfl (has rfl (has rfl (has rfl rfl))), rfl, .inr ⟨rfl, fun h => by have := h.1; omega⟩⟩
  · rintro _ w2 ⟨b, τ, rfl, hww, hb⟩
    have hBJ : Bel w w2 := by rw [← hww]; exact Below.refl _ _
    refine Sq (Sq (Rg (As (Nl (Tn (Bk ?_))))))
    refine GC_loop (fun m σ w' => ∃ (k : Nat) (b : Bool) (τ : Nat → Value), σ = upd (upd (upd (upd (upd τ 0 (.slice A y.length c)) 1 (.slice A1 plan.length c1)) 2 (.slice A2 leaks.length c2)) 7 (.bool b)) 8 (.int .i64 k) ∧ k ≤ plan.length ∧ m = plan.length - k ∧ Bel w w' ∧ ((b = true ∧ (plan.length ≤ 12 ∧ leaks.length = plan.length) ∧ ∀ j, j < k → RowOk y plan leaks j) ∨ (b = false ∧ ¬ PlanOk y plan leaks))) (plan.length) ⟨0, b, _, has rfl (has rfl (has rfl (has rfl (has rfl rfl)))), Nat.zero_le _, rfl, hBJ, by
      rcases hb with ⟨h, h2⟩ | h
      · exact .inl ⟨h, h2, fun j hj => absurd hj (Nat.not_lt_zero _)⟩
      · exact .inr h⟩ ?_
    rintro m _ w3 ⟨k, b1, τ1, rfl, hk, rfl, hB, hb1⟩
    refine Sq (Sq (Rg (Mv (Mv ?_))))
    cases q21 : b1 with
    | true =>
      have hb2 : (plan.length ≤ 12 ∧ leaks.length = plan.length) ∧ ∀ j, j < k → RowOk y plan leaks j := by
        rcases hb1 with ⟨_, h⟩ | ⟨h, _⟩
        · exact h
        · rw [q21] at h; cases h
      refine Mv (Mv (Ln Try.underlying22 rfl ?_))
      refine g_lss rfl rfl (h1 := fun c25 => ?_) (h2 := fun c25 => ?_)
      · skip
        refine Pt rfl (Nl (Tn (Ct rfl (Sk (Tn (Sq (Bk (Sq (Rg ?_)))))))))
        have hkl : k < plan.length := by omega
        have hkl2 : k < leaks.length := by omega
        obtain ⟨ad, hA1, h32⟩ := Kd.at_int (Kd.C_below hp hB) k (by omega) (by omega)
        rw [hA1]
        obtain ⟨ad2, A3, c3, hA2, h41, hle, hC3⟩ := at_L1 hl k (by omega) (by omega)
        rw [hA2]
        have h3m : (rd_L1 leaks k).length ≤ 9223372036854775807 := hC3.2.1
        have hnot : ¬ RowOk y plan leaks k → ¬ PlanOk y plan leaks := fun h hP => h (hP.2 k hkl)
        refine Mv (Mv ?_)
        refine g_indexS Try.underlying22 info3 rfl rfl (by omega) (by omega) (Nat.mul_one _) (h := ?_)
        refine L1 Try.underlying3 (h32) rfl (Mv (Ln Try.underlying35 rfl ?_))
        refine g_sub rfl rfl (by omega) (h := ?_)
        refine g_inN rfl rfl rfl (h := ?_)
        refine Mv ?_
        cases q37 : decide (-1 ≤ rd plan k ∧ rd plan k ≤ (y.length : Int) - 1) with
        | true =>
          have q36' : -1 ≤ rd plan k ∧ rd plan k ≤ (y.length : Int) - 1 := of_decide_eq_true q37
          refine Mv (Mv ?_)
          refine g_indexS Try.underlying25 info22 rfl rfl (by omega) (by omega) (Nat.mul_one _) (h := ?_)
          refine L1 Try.underlying22 (hB.cellk h41) rfl (Ln Try.underlying22 rfl (Mv (Ln Try.underlying35 rfl ?_)))
          refine g_eql rfl rfl (h1 := fun c45 => ?_) (h2 := fun c45 => ?_)
          · skip
            refine Pt rfl (As (Nl (Tn (Sq (Rg (As (Nl (Tn (Bk ?_)))))))))
            refine GC_loop (fun m σ w' => ∃ (j : Nat) (b : Bool) (τ : Nat → Value), σ = upd (upd (upd (upd (upd (upd τ 0 (.slice A y.length c)) 1 (.slice (some ad) plan.length c1)) 2 (.slice (some ad2) leaks.length c2)) 7 (.bool b)) 8 (.int .i64 k)) 9 (.int .i64 j) ∧ j ≤ y.length ∧ m = y.length - j ∧ Bel w w' ∧ ((b = true ∧ ((-1 ≤ rd plan k ∧ rd plan k ≤ (y.length : Int) - 1) ∧ (rd_L1 leaks k).length = y.length) ∧ ∀ i, i < j → CellOk y leaks k i) ∨ (b = false ∧ ¬ RowOk y plan leaks k))) (y.length) ⟨0, _, _, has rfl (has rfl (has rfl (has rfl (has rfl (has rfl rfl))))), Nat.zero_le _, rfl, hB, by first | exact .inl ⟨rfl, ⟨q36', by omega⟩, fun i hi => absurd hi (Nat.not_lt_zero _)⟩ | exact .inr ⟨rfl, fun h => q36' h.1.1⟩ | exact .inr ⟨rfl, fun h => by have := h.1.2; omega⟩⟩ ?_
            rintro m _ w4 ⟨j, b3, τ3, rfl, hj, rfl, hB4, hb3⟩
            refine Sq (Sq (Rg (Mv (Mv ?_))))
            cases q48 : b3 with
            | true =>
              have hb4 : ((-1 ≤ rd plan k ∧ rd plan k ≤ (y.length : Int) - 1) ∧ (rd_L1 leaks k).length = y.length) ∧ ∀ i, i < j → CellOk y leaks k i := by
                rcases hb3 with ⟨_, h⟩ | ⟨h, _⟩
                · exact h
                · rw [q48] at h; cases h
              refine Mv (Mv (Ln Try.underlying35 rfl ?_))
              refine g_lss rfl rfl (h1 := fun c52 => ?_) (h2 := fun c52 => ?_)
              · skip
                refine Pt rfl (Nl (Tn (Ct rfl (Sk (Tn (Sq (Bk ?_)))))))
                have hjl : j < y.length := by omega
                obtain ⟨ad5, hA, h60⟩ := at70 hs hB4.drew j hjl
                rw [hA]
                obtain ⟨ad4, hA3, h67⟩ := Kd.at_int (Kd.C_below hC3 hB4.drew) j (by omega) (by omega)
                have h64 := hB4.drew.cellk h41
                rw [hA3] at h64
                refine GD_start 14 [12] (fun w' => w' = w4.drewN 1) (by kernel_rfl) rfl ?_
                refine GD_pure 0 rfl (by kernel_rfl) (by kernel_rfl) (by kernel_rfl) (by kernel_rfl) rfl rfl rfl (qv fun wq hC => by exact r_move) ?_
                refine GD_pure 1 rfl (by kernel_rfl) (by kernel_rfl) (by kernel_rfl) (by kernel_rfl) rfl rfl rfl (qv fun wq hC => by exact r_move) ?_
                refine GD_pure 2 rfl (by kernel_rfl) (by kernel_rfl) (by kernel_rfl) (by kernel_rfl) rfl rfl rfl (qv fun wq hC => by exact r_indexS Try.underlying35 info70 rfl rfl (by omega) (by omega) rfl) ?_
                refine GD_pure 3 rfl (by kernel_rfl) (by kernel_rfl) (by kernel_rfl) (by kernel_rfl) rfl rfl rfl (qv fun wq hC => by exact r_fieldAddr f70_3 rfl rfl) ?_
                refine GD_take 4 rfl (by kernel_rfl) (by kernel_rfl) (by kernel_rfl) (by kernel_rfl) rfl rfl rfl (qv fun wq hC => by cases hC; exact r_loadA (ad := (ad5.add (j * 5)).add 3) rfl Try.underlying68 info68 (l := [.int .i64 y[j].f3.f0, .int .i64 y[j].f3.f1]) (spanAt rfl h60)) ?_
                refine GD_pure 5 rfl (by kernel_rfl) (by kernel_rfl) (by kernel_rfl) (by kernel_rfl) rfl rfl rfl (qv fun wq hC => by exact r_move) ?_
                refine GD_pure 6 rfl (by kernel_rfl) (by kernel_rfl) (by kernel_rfl) (by kernel_rfl) rfl rfl rfl (qv fun wq hC => by exact r_move) ?_
                refine GD_pure 7 rfl (by kernel_rfl) (by kernel_rfl) (by kernel_rfl) (by kernel_rfl) rfl rfl rfl (qv fun wq hC => by exact r_indexS Try.underlying25 info22 rfl rfl (by omega) (by omega) (Nat.mul_one _)) ?_
                refine GD_take 8 rfl (by kernel_rfl) (by kernel_rfl) (by kernel_rfl) (by kernel_rfl) rfl rfl rfl (qv fun wq hC => by exact r_load1 rfl Try.underlying22 (by subst hC; exact h64)) ?_
                refine GD_pure 9 rfl (by kernel_rfl) (by kernel_rfl) (by kernel_rfl) (by kernel_rfl) rfl rfl rfl (qv fun wq hC => by exact r_move) ?_
                refine GD_pure 10 rfl (by kernel_rfl) (by kernel_rfl) (by kernel_rfl) (by kernel_rfl) rfl rfl rfl (qv fun wq hC => by exact r_indexS Try.underlying22 info3 rfl rfl (by omega) (by omega) (Nat.mul_one _)) ?_
                refine GD_take 11 rfl (by kernel_rfl) (by kernel_rfl) (by kernel_rfl) (by kernel_rfl) rfl rfl rfl (qv fun wq hC => by exact r_load1 rfl Try.underlying3 (by subst hC; exact h67)) ?_
                refine GD_one 12 (by kernel_rfl) (fun _ => rfl) ?_
                refine GO_call rfl rfl rfl he57 rfl (holds_c _ _ _ _) (fun e w68 he => ?_)
                obtain ⟨rfl, hb68⟩ := he
                refine ⟨_, rfl, ?_⟩
                refine GD_pure 13 rfl (by kernel_rfl) (by kernel_rfl) (by kernel_rfl) (by kernel_rfl) rfl rfl rfl (qv fun wq hC => by exact r_assign) ?_
                refine GD_end (by kernel_rfl) (dead 12 rfl (by kernel_rfl)) ?_
                refine Bn (Tn (Rg (Mv ?_)))
                refine g_add rfl rfl (by omega) (h := ?_)
                refine As (Nl ?_)
                exact round_end (y.length - (j + 1)) (by omega) ⟨j + 1, _, _, has rfl (has rfl (has rfl (has rfl (has rfl (has rfl rfl))))), hjl, rfl, hB4.drew.bel hb68, by
                  by_cases hq : CellOk y leaks k j
                  · refine .inl ⟨decide_eq_true (by have := hq; rw [CellOk, yd_get y j hjl] at this; exact this), hb4.1, fun i hi => ?_⟩
                    by_cases e : i = j
                    · rw [e]; exact hq
                    · exact hb4.2 i (by omega)
                  · exact .inr ⟨decide_eq_false (by have := hq; rw [CellOk, yd_get y j hjl] at this; exact this), fun h => hq (h.2 j hjl)⟩⟩
              · skip
                refine Pt rfl (Nl (Tn (Cf rfl (Xi (Tx (Tx (Bs (Bn (Tn (Rg (Mv ?_)))))))))))
                refine g_add rfl rfl (by omega) (h := ?_)
                refine As (Nl ?_)
                exact round_end (plan.length - (k + 1)) (by omega) ⟨k + 1, true, _, has rfl (has rfl (has rfl (has rfl (has rfl rfl)))), hkl, rfl, hB4, .inl ⟨rfl, hb2.1, fun i hi => by
                  by_cases e : i = k
                  · rw [e]; exact ⟨hb4.1, fun i hi => hb4.2 i (by omega)⟩
                  · exact hb2.2 i (by omega)⟩⟩
            | false =>
              have hno4 : ¬ RowOk y plan leaks k := by
                rcases hb3 with ⟨h, _⟩ | ⟨_, h⟩
                · rw [q48] at h; cases h
                · exact h
              refine Of (Of (Of (Of (Pf rfl (Nl (Tn (Cf rfl (Xi (Tx (Tx (Bs (Bn (Tn (Rg (Mv ?_)))))))))))))))
              refine g_add rfl rfl (by omega) (h := ?_)
              refine As (Nl ?_)
              exact round_end (plan.length - (k + 1)) (by omega) ⟨k + 1, false, _, has rfl (has rfl (has rfl (has rfl (has rfl rfl)))), hkl, rfl, hB4, .inr ⟨rfl, hnot hno4⟩⟩
          · skip
            refine Pt rfl (As (Nl (Tn (Sq (Rg (As (Nl (Tn (Bk ?_)))))))))
            refine GC_loop (fun m σ w' => ∃ (j : Nat) (b : Bool) (τ : Nat → Value), σ = upd (upd (upd (upd (upd (upd τ 0 (.slice A y.length c)) 1 (.slice (some ad) plan.length c1)) 2 (.slice (some ad2) leaks.length c2)) 7 (.bool b)) 8 (.int .i64 k)) 9 (.int .i64 j) ∧ j ≤ y.length ∧ m = y.length - j ∧ Bel w w' ∧ ((b = true ∧ ((-1 ≤ rd plan k ∧ rd plan k ≤ (y.length : Int) - 1) ∧ (rd_L1 leaks k).length = y.length) ∧ ∀ i, i < j → CellOk y leaks k i) ∨ (b = false ∧ ¬ RowOk y plan leaks k))) (y.length) ⟨0, _, _, has rfl (has rfl (has rfl (has rfl (has rfl (has rfl rfl))))), Nat.zero_le _, rfl, hB, by first | exact .inl ⟨rfl, ⟨q36', by omega⟩, fun i hi => absurd hi (Nat.not_lt_zero _)⟩ | exact .inr ⟨rfl, fun h => q36' h.1.1⟩ | exact .inr ⟨rfl, fun h => by have := h.1.2; omega⟩⟩ ?_
            rintro m _ w4 ⟨j, b3, τ3, rfl, hj, rfl, hB4, hb3⟩
            refine Sq (Sq (Rg (Mv (Mv ?_))))
            cases q48 : b3 with
            | true =>
              have hb4 : ((-1 ≤ rd plan k ∧ rd plan k ≤ (y.length : Int) - 1) ∧ (rd_L1 leaks k).length = y.length) ∧ ∀ i, i < j → CellOk y leaks k i := by
                rcases hb3 with ⟨_, h⟩ | ⟨h, _⟩
                · exact h
                · rw [q48] at h; cases h
              refine Mv (Mv (Ln Try.underlying35 rfl ?_))
              refine g_lss rfl rfl (h1 := fun c52 => ?_) (h2 := fun c52 => ?_)
              · skip
                refine Pt rfl (Nl (Tn (Ct rfl (Sk (Tn (Sq (Bk ?_)))))))
                have hjl : j < y.length := by omega
                obtain ⟨ad5, hA, h60⟩ := at70 hs hB4.drew j hjl
                rw [hA]
                obtain ⟨ad4, hA3, h67⟩ := Kd.at_int (Kd.C_below hC3 hB4.drew) j (by omega) (by omega)
                have h64 := hB4.drew.cellk h41
                rw [hA3] at h64
                refine GD_start 14 [12] (fun w' => w' = w4.drewN 1) (by kernel_rfl) rfl ?_
                refine GD_pure 0 rfl (by kernel_rfl) (by kernel_rfl) (by kernel_rfl) (by kernel_rfl) rfl rfl rfl (qv fun wq hC => by exact r_move) ?_
                refine GD_pure 1 rfl (by kernel_rfl) (by kernel_rfl) (by kernel_rfl) (by kernel_rfl) rfl rfl rfl (qv fun wq hC => by exact r_move) ?_
                refine GD_pure 2 rfl (by kernel_rfl) (by kernel_rfl) (by kernel_rfl) (by kernel_rfl) rfl rfl rfl (qv fun wq hC => by exact r_indexS Try.underlying35 info70 rfl rfl (by omega) (by omega) rfl) ?_
                refine GD_pure 3 rfl (by kernel_rfl) (by kernel_rfl) (by kernel_rfl) (by kernel_rfl) rfl rfl rfl (qv fun wq hC => by exact r_fieldAddr f70_3 rfl rfl) ?_
                refine GD_take 4 rfl (by kernel_rfl) (by kernel_rfl) (by kernel_rfl) (by kernel_rfl) rfl rfl rfl (qv fun wq hC => by cases hC; exact r_loadA (ad := (ad5.add (j * 5)).add 3) rfl Try.underlying68 info68 (l := [.int .i64 y[j].f3.f0, .int .i64 y[j].f3.f1]) (spanAt rfl h60)) ?_
                refine GD_pure 5 rfl (by kernel_rfl) (by kernel_rfl) (by kernel_rfl) (by kernel_rfl) rfl rfl rfl (qv fun wq hC => by exact r_move) ?_
                refine GD_pure 6 rfl (by kernel_rfl) (by kernel_rfl) (by kernel_rfl) (by kernel_rfl) rfl rfl rfl (qv fun wq hC => by exact r_move) ?_
                refine GD_pure 7 rfl (by kernel_rfl) (by kernel_rfl) (by kernel_rfl) (by kernel_rfl) rfl rfl rfl (qv fun wq hC => by exact r_indexS Try.underlying25 info22 rfl rfl (by omega) (by omega) (Nat.mul_one _)) ?_
                refine GD_take 8 rfl (by kernel_rfl) (by kernel_rfl) (by kernel_rfl) (by kernel_rfl) rfl rfl rfl (qv fun wq hC => by exact r_load1 rfl Try.underlying22 (by subst hC; exact h64)) ?_
                refine GD_pure 9 rfl (by kernel_rfl) (by kernel_rfl) (by kernel_rfl) (by kernel_rfl) rfl rfl rfl (qv fun wq hC => by exact r_move) ?_
                refine GD_pure 10 rfl (by kernel_rfl) (by kernel_rfl) (by kernel_rfl) (by kernel_rfl) rfl rfl rfl (qv fun wq hC => by exact r_indexS Try.underlying22 info3 rfl rfl (by omega) (by omega) (Nat.mul_one _)) ?_
                refine GD_take 11 rfl (by kernel_rfl) (by kernel_rfl) (by kernel_rfl) (by kernel_rfl) rfl rfl rfl (qv fun wq hC => by exact r_load1 rfl Try.underlying3 (by subst hC; exact h67)) ?_
                refine GD_one 12 (by kernel_rfl) (fun _ => rfl) ?_
                refine GO_call rfl rfl rfl he57 rfl (holds_c _ _ _ _) (fun e w68 he => ?_)
                obtain ⟨rfl, hb68⟩ := he
                refine ⟨_, rfl, ?_⟩
                refine GD_pure 13 rfl (by kernel_rfl) (by kernel_rfl) (by kernel_rfl) (by kernel_rfl) rfl rfl rfl (qv fun wq hC => by exact r_assign) ?_
                refine GD_end (by kernel_rfl) (dead 12 rfl (by kernel_rfl)) ?_
                refine Bn (Tn (Rg (Mv ?_)))
                refine g_add rfl rfl (by omega) (h := ?_)
                refine As (Nl ?_)
                exact round_end (y.length - (j + 1)) (by omega) ⟨j + 1, _, _, has rfl (has rfl (has rfl (has rfl (has rfl (has rfl rfl))))), hjl, rfl, hB4.drew.bel hb68, by
                  by_cases hq : CellOk y leaks k j
                  · refine .inl ⟨decide_eq_true (by have := hq; rw [CellOk, yd_get y j hjl] at this; exact this), hb4.1, fun i hi => ?_⟩
                    by_cases e : i = j
                    · rw [e]; exact hq
                    · exact hb4.2 i (by omega)
                  · exact .inr ⟨decide_eq_false (by have := hq; rw [CellOk, yd_get y j hjl] at this; exact this), fun h => hq (h.2 j hjl)⟩⟩
              · skip
                refine Pt rfl (Nl (Tn (Cf rfl (Xi (Tx (Tx (Bs (Bn (Tn (Rg (Mv ?_)))))))))))
                refine g_add rfl rfl (by omega) (h := ?_)
                refine As (Nl ?_)
                exact round_end (plan.length - (k + 1)) (by omega) ⟨k + 1, true, _, has rfl (has rfl (has rfl (has rfl (has rfl rfl)))), hkl, rfl, hB4, .inl ⟨rfl, hb2.1, fun i hi => by
                  by_cases e : i = k
                  · rw [e]; exact ⟨hb4.1, fun i hi => hb4.2 i (by omega)⟩
                  · exact hb2.2 i (by omega)⟩⟩
            | false =>
              have hno4 : ¬ RowOk y plan leaks k := by
                rcases hb3 with ⟨h, _⟩ | ⟨_, h⟩
                · rw [q48] at h; cases h
                · exact h
              refine Of (Of (Of (Of (Pf rfl (Nl (Tn (Cf rfl (Xi (Tx (Tx (Bs (Bn (Tn (Rg (Mv ?_)))))))))))))))
              refine g_add rfl rfl (by omega) (h := ?_)
              refine As (Nl ?_)
              exact round_end (plan.length - (k + 1)) (by omega) ⟨k + 1, false, _, has rfl (has rfl (has rfl (has rfl (has rfl rfl)))), hkl, rfl, hB4, .inr ⟨rfl, hnot hno4⟩⟩
        | false =>
          have q36' : ¬ (-1 ≤ rd plan k ∧ rd plan k ≤ (y.length : Int) - 1) := of_decide_eq_false q37
          refine Of (Of (Of (Of (Of (Of (Of (Of (Pf rfl (As (Nl (Tn (Sq (Rg (As (Nl (Tn (Bk ?_)))))))))))))))))
          refine GC_loop (fun m σ w' => ∃ (j : Nat) (b : Bool) (τ : Nat → Value), σ = upd (upd (upd (upd (upd (upd τ 0 (.slice A y.length c)) 1 (.slice (some ad) plan.length c1)) 2 (.slice (some ad2) leaks.length c2)) 7 (.bool b)) 8 (.int .i64 k)) 9 (.int .i64 j) ∧ j ≤ y.length ∧ m = y.length - j ∧ Bel w w' ∧ ((b = true ∧ ((-1 ≤ rd plan k ∧ rd plan k ≤ (y.length : Int) - 1) ∧ (rd_L1 leaks k).length = y.length) ∧ ∀ i, i < j → CellOk y leaks k i) ∨ (b = false ∧ ¬ RowOk y plan leaks k))) (y.length) ⟨0, _, _, has rfl (has rfl (has rfl (has rfl (has rfl (has rfl rfl))))), Nat.zero_le _, rfl, hB, by first | exact .inl ⟨rfl, ⟨q36', by omega⟩, fun i hi => absurd hi (Nat.not_lt_zero _)⟩ | exact .inr ⟨rfl, fun h => q36' h.1.1⟩ | exact .inr ⟨rfl, fun h => by have := h.1.2; omega⟩⟩ ?_
          rintro m _ w4 ⟨j, b3, τ3, rfl, hj, rfl, hB4, hb3⟩
          refine Sq (Sq (Rg (Mv (Mv ?_))))
          cases q48 : b3 with
          | true =>
            have hb4 : ((-1 ≤ rd plan k ∧ rd plan k ≤ (y.length : Int) - 1) ∧ (rd_L1 leaks k).length = y.length) ∧ ∀ i, i < j → CellOk y leaks k i := by
              rcases hb3 with ⟨_, h⟩ | ⟨h, _⟩
              · exact h
              · rw [q48] at h; cases h
            refine Mv (Mv (Ln Try.underlying35 rfl ?_))
            refine g_lss rfl rfl (h1 := fun c52 => ?_) (h2 := fun c52 => ?_)
            · skip
              refine Pt rfl (Nl (Tn (Ct rfl (Sk (Tn (Sq (Bk ?_)))))))
              have hjl : j < y.length := by omega
              obtain ⟨ad5, hA, h60⟩ := at70 hs hB4.drew j hjl
              rw [hA]
              obtain ⟨ad4, hA3, h67⟩ := Kd.at_int (Kd.C_below hC3 hB4.drew) j (by omega) (by omega)
              have h64 := hB4.drew.cellk h41
              rw [hA3] at h64
              refine GD_start 14 [12] (fun w' => w' = w4.drewN 1) (by kernel_rfl) rfl ?_
              refine GD_pure 0 rfl (by kernel_rfl) (by kernel_rfl) (by kernel_rfl) (by kernel_rfl) rfl rfl rfl (qv fun wq hC => by exact r_move) ?_
              refine GD_pure 1 rfl (by kernel_rfl) (by kernel_rfl) (by kernel_rfl) (by kernel_rfl) rfl rfl rfl (qv fun wq hC => by exact r_move) ?_
              refine GD_pure 2 rfl (by kernel_rfl) (by kernel_rfl) (by kernel_rfl) (by kernel_rfl) rfl rfl rfl (qv fun wq hC => by exact r_indexS Try.underlying35 info70 rfl rfl (by omega) (by omega) rfl) ?_
              refine GD_pure 3 rfl (by kernel_rfl) (by kernel_rfl) (by kernel_rfl) (by kernel_rfl) rfl rfl rfl (qv fun wq hC => by exact r_fieldAddr f70_3 rfl rfl) ?_
              refine GD_take 4 rfl (by kernel_rfl) (by kernel_rfl) (by kernel_rfl) (by kernel_rfl) rfl rfl rfl (qv fun wq hC => by cases hC; exact r_loadA (ad := (ad5.add (j * 5)).add 3) rfl Try.underlying68 info68 (l := [.int .i64 y[j].f3.f0, .int .i64 y[j].f3.f1]) (spanAt rfl h60)) ?_
              refine GD_pure 5 rfl (by kernel_rfl) (by kernel_rfl) (by kernel_rfl) (by kernel_rfl) rfl rfl rfl (qv fun wq hC => by exact r_move) ?_
              refine GD_pure 6 rfl (by kernel_rfl) (by kernel_rfl) (by kernel_rfl) (by kernel_rfl) rfl rfl rfl (qv fun wq hC => by exact r_move) ?_
              refine GD_pure 7 rfl (by kernel_rfl) (by kernel_rfl) (by kernel_rfl) (by kernel_rfl) rfl rfl rfl (qv fun wq hC => by exact r_indexS Try.underlying25 info22 rfl rfl (by omega) (by omega) (Nat.mul_one _)) ?_
              refine GD_take 8 rfl (by kernel_rfl) (by kernel_rfl) (by kernel_rfl) (by kernel_rfl) rfl rfl rfl (qv fun wq hC => by exact r_load1 rfl Try.underlying22 (by subst hC; exact h64)) ?_
              refine GD_pure 9 rfl (by kernel_rfl) (by kernel_rfl) (by kernel_rfl) (by kernel_rfl) rfl rfl rfl (qv fun wq hC => by exact r_move) ?_
              refine GD_pure 10 rfl (by kernel_rfl) (by kernel_rfl) (by kernel_rfl) (by kernel_rfl) rfl rfl rfl (qv fun wq hC => by exact r_indexS Try.underlying22 info3 rfl rfl (by omega) (by omega) (Nat.mul_one _)) ?_
              refine GD_take 11 rfl (by kernel_rfl) (by kernel_rfl) (by kernel_rfl) (by kernel_rfl) rfl rfl rfl (qv fun wq hC => by exact r_load1 rfl Try.underlying3 (by subst hC; exact h67)) ?_
              refine GD_one 12 (by kernel_rfl) (fun _ => rfl) ?_
              refine GO_call rfl rfl rfl he57 rfl (holds_c _ _ _ _) (fun e w68 he => ?_)
              obtain ⟨rfl, hb68⟩ := he
              refine ⟨_, rfl, ?_⟩
              refine GD_pure 13 rfl (by kernel_rfl) (by kernel_rfl) (by kernel_rfl) (by kernel_rfl) rfl rfl rfl (qv fun wq hC => by exact r_assign) ?_
              refine GD_end (by kernel_rfl) (dead 12 rfl (by kernel_rfl)) ?_
              refine Bn (Tn (Rg (Mv ?_)))
              refine g_add rfl rfl (by omega) (h := ?_)
              refine As (Nl ?_)
              exact round_end (y.length - (j + 1)) (by omega) ⟨j + 1, _, _, has rfl (has rfl (has rfl (has rfl (has rfl (has rfl rfl))))), hjl, rfl, hB4.drew.bel hb68, by
                by_cases hq : CellOk y leaks k j
                · refine .inl ⟨decide_eq_true (by have := hq; rw [CellOk, yd_get y j hjl] at this; exact this), hb4.1, fun i hi => ?_⟩
                  by_cases e : i = j
                  · rw [e]; exact hq
                  · exact hb4.2 i (by omega)
                · exact .inr ⟨decide_eq_false (by have := hq; rw [CellOk, yd_get y j hjl] at this; exact this), fun h => hq (h.2 j hjl)⟩⟩
            · skip
              refine Pt rfl (Nl (Tn (Cf rfl (Xi (Tx (Tx (Bs (Bn (Tn (Rg (Mv ?_)))))))))))
              refine g_add rfl rfl (by omega) (h := ?_)
              refine As (Nl ?_)
              exact round_end (plan.length - (k + 1)) (by omega) ⟨k + 1, true, _, has rfl (has rfl (has rfl (has rfl (has rfl rfl)))), hkl, rfl, hB4, .inl ⟨rfl, hb2.1, fun i hi => by
                by_cases e : i = k
                · rw [e]; exact ⟨hb4.1, fun i hi => hb4.2 i (by omega)⟩
                · exact hb2.2 i (by omega)⟩⟩
          | false =>
            have hno4 : ¬ RowOk y plan leaks k := by
              rcases hb3 with ⟨h, _⟩ | ⟨_, h⟩
              · rw [q48] at h; cases h
              · exact h
            refine Of (Of (Of (Of (Pf rfl (Nl (Tn (Cf rfl (Xi (Tx (Tx (Bs (Bn (Tn (Rg (Mv ?_)))))))))))))))
            refine g_add rfl rfl (by omega) (h := ?_)
            refine As (Nl ?_)
            exact round_end (plan.length - (k + 1)) (by omega) ⟨k + 1, false, _, has rfl (has rfl (has rfl (has rfl (has rfl rfl)))), hkl, rfl, hB4, .inr ⟨rfl, hnot hno4⟩⟩
      · skip
        refine Pt rfl (Nl (Tn (Cf rfl (Xi (Tx (Tx (Bs (Tn (Sq (Rg (Mv (As (Nl (Tn (Rt ?_)))))))))))))))
        exact ret1 rfl ⟨retb (Eq.symm (decide_eq_true ⟨hb2.1, fun m hm => hb2.2 m (by omega)⟩)), hB⟩
    | false =>
      have hno : ¬ PlanOk y plan leaks := by
        rcases hb1 with ⟨h, _⟩ | ⟨_, h⟩
        · rw [q21] at h; cases h
        · exact h
      refine Of (Of (Of (Of (Pf rfl (Nl (Tn (Cf rfl (Xi (Tx (Tx (Bs (Tn (Sq (Rg (Mv (As (Nl (Tn (Rt ?_)))))))))))))))))))
      exact ret1 rfl ⟨retb (Eq.symm (decide_eq_false hno)), hB⟩
theorem topF_set (y : List S70) (t : Int) (lv : Nat → Int) (n : Nat) (h0 : 0 ≤ t) (h1 : t.toNat < n) : (lvList lv n).set t.toNat (yd y t.toNat).f1 = lvList (topF y t lv) n := by
  unfold lvList
  rw [range_set n t.toNat lv _ h1]
  refine List.map_congr_left (fun i hi => ?_)
  unfold topF
  by_cases e : i = t.toNat
  · rw [if_pos e, if_pos ⟨h0, e⟩, e]
  · rw [if_neg e, if_neg (fun h => e h.2)]
theorem topF_neg (y : List S70) (t : Int) (lv : Nat → Int) (h : t < 0) : topF y t lv = lv := by
  funext i
  unfold topF
  rw [if_neg (fun h2 => by omega)]
set_option maxHeartbeats 2000000 in
theorem runR_c (A A1 A2 : Option Addr) (c c1 c2 : Nat) (y : List S70) (plan : List Int) (leaks : List (List Int)) (w : World) (hs : k70.C w A y.length y) (hp : (Kd.int .i64).C w A1 plan.length plan) (hl : kRow.C w A2 leaks.length leaks) :
    Calls Try.prog 24 #[.slice A y.length c, .slice A1 plan.length c1, .slice A2 leaks.length c2] w fun e w' => ∃ v, e = .returned (.tuple #[v, .int .i64 (runL y plan leaks).2.1, .int .i64 (runL y plan leaks).2.2]) ∧ (Kd.int .i64).R 3 w' w.heap.size (fun _ => True) v (runL y plan leaks).1 ∧ Bel w w' := by
  refine G_enter (l := [.slice A y.length c, .slice A1 plan.length c1, .slice A2 leaks.length c2]) Try.func24 rfl rfl ?_
  refine Sq (Rg (As (As (As (Nl (Tn (Sq (Sq (Rg (Mv ?_))))))))))
  refine g_call he27 rfl (checkYardR_c A c y _ hs) (h := ?_)
  rintro e w15 ⟨rfl, hb15⟩
  refine ⟨_, rfl, ?_⟩
  refine As (Nl (Tn (Sq (Rg (Mv ?_)))))
  refine g_neq rfl rfl (h1 := fun c17 => ?_) (h2 := fun c17 => ?_)
  · skip
    have hy : ¬ yardOk y = true := fun h => by rw [if_pos h] at c17; exact c17 rfl
    refine Nl (Tn (Ct rfl (Sq (Rg (Mv (As (As (As (Nl (Tn (Rt (Tr ?_))))))))))))
    exact ret3 rfl ⟨.slice none 0 0, ret3r (by rw [runL, if_neg hy]) (by rw [runL, if_neg hy, if_neg hy]), by rw [runL, if_neg hy]; exact Kd.R_nil _ _ _ _ _, hb15⟩
  · skip
    have hy : yardOk y = true := by by_cases h : yardOk y = true; exact h; rw [if_neg h] at c17; exact absurd c17 (by decide)
    have h4 := yard_len hy
    refine Nl (Tn (Cf rfl (Sk (Tn (Sq (Sq (Rg (Mv (Mv (Mv ?_))))))))))
    refine g_call he73 rfl (isPlan_c A A1 A2 c c1 c2 y plan leaks _ (Kd.C_below hs hb15) (by omega) (Kd.C_below hp hb15) (Kd.C_below hl hb15)) (h := ?_)
    rintro e w22 ⟨rfl, hb22⟩
    refine ⟨_, rfl, ?_⟩
    have hB22 := hb15.bel hb22
    cases q22 : decide (PlanOk y plan leaks) with
    | true =>
      have hP : PlanOk y plan leaks := of_decide_eq_true q22
      refine Nt rfl (Nl (Tn (Cf rfl (Sk (Tn (Sq (Rg (Mv ?_))))))))
      refine g_call he74 rfl (now_c A c y _ (Kd.C_below hs hB22) (by omega)) (h := ?_)
      rintro e w25 ⟨v25, rfl, HR25, hb25⟩
      refine ⟨_, rfl, ?_⟩
      have hB25 := hB22.bel hb25
      have hpl12 := hP.1.1
      have hlp := hP.1.2
      refine As (Nl (Tn (Sq (Sq (Rg (As (Nl (Tn (Bk ?_)))))))))
      refine GC_loop (fun m σ w' => ∃ (k : Nat) (lv : Nat → Int) (v : Value) (τ : Nat → Value), σ = upd (upd (upd (upd (upd τ 0 (.slice A y.length c)) 1 (.slice A1 plan.length c1)) 2 (.slice A2 leaks.length c2)) 10 v) 11 (.int .i64 k) ∧ k ≤ plan.length ∧ m = plan.length - k ∧ lvOk lv ∧ (Kd.int .i64).R 3 w' w.heap.size (fun _ => True) v (lvList lv y.length) ∧ Bel w w' ∧ runGo y plan leaks (plan.length - k) k lv = runGo y plan leaks plan.length 0 (begF y)) (plan.length) ⟨0, begF y, v25, _, has rfl (has rfl (has rfl (has rfl (has rfl rfl)))), Nat.zero_le _, rfl, beg_ok hy, Kd.R_lower HR25 hB22.size, hB25, rfl⟩ ?_
      rintro m _ w3 ⟨k, lv, v, τ, rfl, hk, rfl, hlv, HR, hB, hgo⟩
      refine Sq (Sq (Rg (Mv (Mv (Ln Try.underlying22 rfl ?_)))))
      refine g_lss rfl rfl (h1 := fun c29 => ?_) (h2 := fun c29 => ?_)
      · skip
        refine Nl (Tn (Ct rfl (Sk (Tn (Sq (Bk (Sq (Rg ?_))))))))
        have hkl : k < plan.length := by omega
        have hrow := hP.2 k hkl
        obtain ⟨ad2, A3, c3, hA2, h38, hle, hC3⟩ := at_L1 hl k (by omega) (by omega)
        rw [hA2]
        obtain ⟨B, cB, rfl, hleB, hCB⟩ := Kd.R_reads HR
        have hstep : plan.length - k = (plan.length - (k + 1)) + 1 := by omega
        rw [hstep, runGo] at hgo
        refine Mv (Mv (Mv (Mv ?_)))
        refine g_indexS Try.underlying25 info22 rfl rfl (by omega) (by omega) (Nat.mul_one _) (h := ?_)
        refine L1 Try.underlying22 (hB.cellk h38) rfl ?_
        refine g_call he75 rfl (month_c A B A3 c cB c3 y (lvList lv y.length) (rd_L1 leaks k) lv (leakAt leaks k) _ (Kd.C_below hs hB) hCB (Kd.C_below hC3 hB) (by omega) (lvList_len _ _) hrow.1.2 (fun i hi => ⟨lvList_rd lv _ i hi, by have := hlv i; omega⟩) (fun i hi => ⟨rfl, by
          have h1 := hrow.2 i hi
          have h2 := cask_rg (yard_cask hy i hi)
          unfold CellOk at h1
          show -1000000 ≤ rd (rd_L1 leaks k) i ∧ rd (rd_L1 leaks k) i ≤ 1000000
          omega⟩)) (h := ?_)
        rintro e w39 ⟨v39, rfl, HR39, hb39⟩
        refine ⟨_, rfl, ?_⟩
        have hB39 := hB.bel hb39
        have HR39' := Kd.R_lower HR39 hB.size
        refine Mv (Xt rfl rfl (Xt rfl rfl (As (As (Nl (Tn (Sq (Rg (Mv (As (Nl (Tn (Sq (Sq (Rg (Mv ?_))))))))))))))))
        cases q43 : decide (dryUp (dryP y lv (leakAt leaks k)) y.length < 0) with
        | true =>
          have hnd : dryUp (dryP y lv (leakAt leaks k)) y.length < 0 := of_decide_eq_true q43
          rw [if_neg (by omega)] at hgo
          refine Nt rfl (Nl (Tn (Cf rfl (Sk (Tn (Sq (Rg ?_)))))))
          obtain ⟨adp, hA1, h50⟩ := Kd.at_int (Kd.C_below hp hB39) k (by omega) (by omega)
          rw [hA1]
          have hlv2 : lvOk (lkF lv (leakAt leaks k) y.length) := fun i => by
            unfold lkF
            split
            · rename_i hi
              have h1 := hrow.2 i hi
              have h2 := cask_rg (yard_cask hy i hi)
              have h3 := hlv i
              unfold CellOk at h1
              have h5 : leakAt leaks k i = rd (rd_L1 leaks k) i := rfl
              rw [h5]
              omega
            · exact hlv i
          refine Mv (Mv ?_)
          refine g_indexS Try.underlying22 info3 rfl rfl (by omega) (by omega) (Nat.mul_one _) (h := ?_)
          refine L1 Try.underlying3 (h50) rfl ?_
          refine g_geq rfl rfl (h1 := fun c51 => ?_) (h2 := fun c51 => ?_)
          · skip
            refine Nl (Tn (Ct rfl ?_))
            obtain ⟨gr, cap, rfl, hgr, _, _⟩ := Kd.R_form HR39' (by rw [lvList_len]; omega)
            rw [lvList_len (lkF lv (leakAt leaks k) y.length)] at HR39' ⊢
            have htl : (rd plan k).toNat < y.length := by have := hrow.1.1; omega
            obtain ⟨ady, hA, h64⟩ := at70 hs (Below.refl _ _) (rd plan k).toNat htl
            rw [hA]
            have h64b := (hB39.drew).cellk (h64 1 (.int .i64 (yd y (rd plan k).toNat).f1) (by rw [yd_get y _ htl]; rfl))
            have hBd : Bel w (w39.drewN 1) := hB39.drew
            have HRd := rB HR39' (Bel.drew (Below.refl w39.heap.size w39))
            refine GD_start 15 [14] (fun w' => w' = w39.drewN 1) (by kernel_rfl) rfl ?_
            refine GD_pure 0 rfl (by kernel_rfl) (by kernel_rfl) (by kernel_rfl) (by kernel_rfl) rfl rfl rfl (qv fun wq hC => by exact r_move) ?_
            refine GD_pure 1 rfl (by kernel_rfl) (by kernel_rfl) (by kernel_rfl) (by kernel_rfl) rfl rfl rfl (qv fun wq hC => by exact r_move) ?_
            refine GD_pure 2 rfl (by kernel_rfl) (by kernel_rfl) (by kernel_rfl) (by kernel_rfl) rfl rfl rfl (qv fun wq hC => by exact r_move) ?_
            refine GD_pure 3 rfl (by kernel_rfl) (by kernel_rfl) (by kernel_rfl) (by kernel_rfl) rfl rfl rfl (qv fun wq hC => by exact r_indexS Try.underlying22 info3 rfl rfl (by omega) (by omega) (Nat.mul_one _)) ?_
            refine GD_take 4 rfl (by kernel_rfl) (by kernel_rfl) (by kernel_rfl) (by kernel_rfl) rfl rfl rfl (qv fun wq hC => by exact r_load1 rfl Try.underlying3 (by subst hC; exact h50)) ?_
            refine GD_pure 5 rfl (by kernel_rfl) (by kernel_rfl) (by kernel_rfl) (by kernel_rfl) rfl rfl rfl (qv fun wq hC => by exact r_move) ?_
            refine GD_pure 6 rfl (by kernel_rfl) (by kernel_rfl) (by kernel_rfl) (by kernel_rfl) rfl rfl rfl (qv fun wq hC => by exact r_move) ?_
            refine GD_pure 7 rfl (by kernel_rfl) (by kernel_rfl) (by kernel_rfl) (by kernel_rfl) rfl rfl rfl (qv fun wq hC => by exact r_move) ?_
            refine GD_pure 8 rfl (by kernel_rfl) (by kernel_rfl) (by kernel_rfl) (by kernel_rfl) rfl rfl rfl (qv fun wq hC => by exact r_indexS Try.underlying22 info3 rfl rfl (by omega) (by omega) (Nat.mul_one _)) ?_
            refine GD_take 9 rfl (by kernel_rfl) (by kernel_rfl) (by kernel_rfl) (by kernel_rfl) rfl rfl rfl (qv fun wq hC => by exact r_load1 rfl Try.underlying3 (by subst hC; exact h50)) ?_
            refine GD_pure 10 rfl (by kernel_rfl) (by kernel_rfl) (by kernel_rfl) (by kernel_rfl) rfl rfl rfl (qv fun wq hC => by exact r_indexS Try.underlying35 info70 rfl rfl (by omega) (by omega) rfl) ?_
            refine GD_pure 11 rfl (by kernel_rfl) (by kernel_rfl) (by kernel_rfl) (by kernel_rfl) rfl rfl rfl (qv fun wq hC => by exact r_fieldAddr f70_1 rfl rfl) ?_
            refine GD_take 12 rfl (by kernel_rfl) (by kernel_rfl) (by kernel_rfl) (by kernel_rfl) rfl rfl rfl (qv fun wq hC => by exact r_load1 rfl Try.underlying3 (by subst hC; exact h64b)) ?_
            refine GD_pure 13 rfl (by kernel_rfl) (by kernel_rfl) (by kernel_rfl) (by kernel_rfl) rfl rfl rfl (qv fun wq hC => by exact r_indexO Try.underlying22 info3 rfl rfl  (by omega) (by omega) (Nat.mul_one _)) ?_
            refine GD_one 14 (by kernel_rfl) (fun _ => rfl) ?_
            refine GO_storeR (enc := Value.int .i64) (h1 := fun _ => rfl) rfl rfl rfl rfl info3 HRd (by omega) (by omega) (fun w15 HR15 hg15 => ?_)
            refine GD_end (by kernel_rfl) (dead 14 rfl (by kernel_rfl)) ?_
            refine Bn (Tn (Rg (Mv ?_)))
            refine g_add rfl rfl (by omega) (h := ?_)
            refine As (Nl ?_)
            exact round_end (plan.length - (k + 1)) (by omega) ⟨k + 1, topF y (rd plan k) (lkF lv (leakAt leaks k) y.length), .slice (some ⟨gr, 0, none⟩) y.length cap, _, has rfl (has rfl (has rfl (has rfl (has rfl rfl)))), hkl, rfl, top_ok hy hlv2 _, by rw [← topF_set y (rd plan k) _ _ (by omega) htl]; exact HR15, hBd.grown hg15 (fun q hq => by injection hq with hq; omega), hgo⟩
          · skip
            refine Nl (Tn (Cf rfl (Sk (Bn (Tn (Rg (Mv ?_)))))))
            refine g_add rfl rfl (by omega) (h := ?_)
            refine As (Nl ?_)
            exact round_end (plan.length - (k + 1)) (by omega) ⟨k + 1, topF y (rd plan k) (lkF lv (leakAt leaks k) y.length), v39, _, has rfl (has rfl (has rfl (has rfl (has rfl rfl)))), hkl, rfl, top_ok hy hlv2 _, by rw [topF_neg y _ _ (by omega)]; exact HR39', hB39, hgo⟩
        | false =>
          have hnd : ¬ dryUp (dryP y lv (leakAt leaks k)) y.length < 0 := of_decide_eq_false q43
          rw [if_pos (by omega)] at hgo
          have hrun : runL y plan leaks = (lvList (lkF lv (leakAt leaks k) y.length) y.length, (k : Int), 0) := by rw [runL, if_pos hy, if_pos hP, ← hgo]
          refine Nt rfl (Nl (Tn (Ct rfl (Sq (Rg (Mv (Mv (As (As (As (Nl (Tn (Rt (Tr (Br (Tr (Tr (Br (Tr ?_)))))))))))))))))))
          exact ret3 rfl ⟨v39, ret3r (by rw [hrun]) (by rw [hrun]), by rw [hrun]; exact HR39', hB39⟩
      · skip
        refine Nl (Tn (Cf rfl (Xi (Tx (Tx (Bs (Tn (Sq (Rg (Mv (As (As (As (Nl (Tn (Rt ?_))))))))))))))))
        exact ret3 rfl ⟨v, ret3r (by rw [runL, if_pos hy, if_pos hP, ← hgo, show plan.length - k = 0 by omega]; rfl) (by rw [runL, if_pos hy, if_pos hP]), by rw [runL, if_pos hy, if_pos hP, ← hgo, show plan.length - k = 0 by omega]; exact HR, hB⟩
    | false =>
      have hP : ¬ PlanOk y plan leaks := of_decide_eq_false q22
      refine Nt rfl (Nl (Tn (Ct rfl (Sq (Rg (As (As (As (Nl (Tn (Rt (Tr ?_))))))))))))
      exact ret3 rfl ⟨.slice none 0 0, ret3r (by rw [runL, if_pos hy, if_neg hP]) (by rw [runL, if_pos hy, if_neg hP]), by rw [runL, if_pos hy, if_neg hP]; exact Kd.R_nil _ _ _ _ _, hB22⟩
end Go.Proofs.B
