/- barrel: Run. -/
import Derived.Test.YtpfoleggapngoaaG9
import Derived.Test.YtpfoleggapngoaaB4
set_option linter.unusedVariables false
set_option linter.unusedSimpArgs false
set_option maxRecDepth 10000
namespace Go.Proofs.B
open Go Go.RowKit Go.Proofs Go.Proofs.G Go.Proofs.F Go.Proofs.YtpfoleggapngoaaW.PrintWords
def CellOk (y : List S70) (leaks : List (List Int)) (m i : Nat) : Prop := (yd y i).f3.f0 ≤ rd (rd_L1 leaks m) i ∧ rd (rd_L1 leaks m) i ≤ (yd y i).f3.f1
def RowOk (y : List S70) (plan : List Int) (leaks : List (List Int)) (m : Nat) : Prop := ((-1 ≤ rd plan m ∧ rd plan m ≤ (y.length : Int) - 1) ∧ (rd_L1 leaks m).length = y.length) ∧ ∀ i, i < y.length → CellOk y leaks m i
def PlanOk (y : List S70) (plan : List Int) (leaks : List (List Int)) : Prop := (plan.length ≤ 12 ∧ leaks.length = plan.length) ∧ ∀ m, m < plan.length → RowOk y plan leaks m
instance (y : List S70) (plan : List Int) (leaks : List (List Int)) : Decidable (PlanOk y plan leaks) := by unfold PlanOk RowOk CellOk; infer_instance
def leakAt (leaks : List (List Int)) (m : Nat) : Nat → Int := fun i => rd (rd_L1 leaks m) i
def topF (y : List S70) (t : Int) (lv : Nat → Int) : Nat → Int := fun i => if 0 ≤ t ∧ i = t.toNat then (yd y i).f1 else lv i
def runGo (y : List S70) (plan : List Int) (leaks : List (List Int)) : Nat → Nat → (Nat → Int) → (Nat → Int) × Int
  | 0, _, lv => (lv, -1)
  | n + 1, k, lv => if 0 ≤ dryUp (dryP y lv (leakAt leaks k)) y.length then (lkF lv (leakAt leaks k) y.length, k) else runGo y plan leaks n (k + 1) (topF y (rd plan k) (lkF lv (leakAt leaks k) y.length))
def lvList (lv : Nat → Int) (n : Nat) : List Int := (List.range n).map lv
theorem lvList_get {lv : Nat → Int} {n : Nat} (h4 : n ≤ 4) (j : Nat) (v : Value) (h : ((lvList lv n).map (Value.int .i64))[j]? = some v) : (isF lv)[j]? = some v := by
  have hj : j < n := by
    have := (List.getElem?_eq_some_iff.1 h).1
    simpa [lvList] using this
  rw [isF_get lv j (by omega)]
  simpa [lvList, hj] using h
def runL (y : List S70) (plan : List Int) (leaks : List (List Int)) : List Int × Int × Int :=
  if yardOk y = true then (if PlanOk y plan leaks then (lvList (runGo y plan leaks plan.length 0 (begF y)).1 y.length, (runGo y plan leaks plan.length 0 (begF y)).2, 0) else ([], 0, 62)) else ([], 0, 61)
theorem ret3r {v : Value} {a b a' b' : Int} (h : a = a') (h2 : b = b') : Ending.returned (.tuple #[v, .int .i64 a, .int .i64 b]) = .returned (.tuple #[v, .int .i64 a', .int .i64 b']) := by rw [h, h2]
theorem all_from {p : Nat → Prop} {j n : Nat} (h : j < n) : (∀ i, j ≤ i → i < n → p i) ↔ (p j ∧ ∀ i, j + 1 ≤ i → i < n → p i) :=
  ⟨fun H => ⟨H j (Nat.le_refl _) h, fun i h1 h2 => H i (by omega) h2⟩, fun H i h1 h2 => by
    rcases Nat.eq_or_lt_of_le h1 with rfl | h1
    · exact H.1
    · exact H.2 i h1 h2⟩
theorem iff_step {a b c : Prop} (h : a ↔ b) (hc : b → c) : a → c := fun x => hc (h.1 x)
theorem lit22_0 (w : World) : (Instr.buildSlice 22 0 #[]).run Try.prog w = .ok (.slice (some ⟨w.heap.size, 0, none⟩) 0 0) (w.alloc (.cells #[] 3)) := by kernel_rfl

set_option maxHeartbeats 2000000 in
theorem run_c (A A1 A2 : Option Addr) (c c1 c2 : Nat) (y : List S70) (plan : List Int) (leaks : List (List Int)) (w : World) (hs : k70.C w A y.length y) (hp : (Kd.int .i64).C w A1 plan.length plan) (hl : kRow.C w A2 leaks.length leaks) :
    Calls Try.prog 23 #[.slice A y.length c, .slice A1 plan.length c1, .slice A2 leaks.length c2] w fun e w' => ∃ v, e = .returned (.tuple #[v, .int .i64 (runL y plan leaks).2.1, .int .i64 (runL y plan leaks).2.2]) ∧ (Kd.int .i64).R 3 w' w.heap.size (fun _ => True) v (runL y plan leaks).1 ∧ Bel w w' := by
  have hml : leaks.length ≤ 9223372036854775807 := hl.2.1
  refine G_enter (l := [.slice A y.length c, .slice A1 plan.length c1, .slice A2 leaks.length c2]) Try.func23 rfl rfl ?_
  refine Sq (Rg ?_)
  refine g_box rfl (h := fun g5 w5 N5 => ?_)
  have K5 := N5.at_
  have hB5 := Bel.of_new N5
  refine As (As (As (Nl (Tn (Sq (Sq (Rg (Mv ?_))))))))
  refine g_call he26 rfl (checkYard_c A c y _ (Kd.C_below hs hB5)) (h := ?_)
  rintro e w18 ⟨rfl, hb18⟩
  refine ⟨_, rfl, ?_⟩
  have hB18 := hB5.bel hb18
  have K18 := kB K5 hb18
  refine As (Nl (Tn (Sq (Rg (Mv ?_)))))
  refine g_neq rfl rfl (h1 := fun c20 => ?_) (h2 := fun c20 => ?_)
  · skip
    have hy : ¬ yardOk y = true := fun h => by rw [if_pos h] at c20; exact c20 rfl
    refine Nl (Tn (Ct rfl (Sq (Rg (Mv (As (As (As (Nl (Tn (Rt (Tr ?_))))))))))))
    exact ret3 rfl ⟨.slice none 0 0, ret3r (by rw [runL, if_neg hy]) (by rw [runL, if_neg hy, if_neg hy]), by rw [runL, if_neg hy]; exact Kd.R_nil _ _ _ _ _, hB18⟩
  · skip
    have hy : yardOk y = true := by by_cases h : yardOk y = true; exact h; rw [if_neg h] at c20; exact absurd c20 (by decide)
    have h4 := yard_len hy
    refine Nl (Tn (Cf rfl (Sk (Tn ?_))))
    refine GC_join (fun σ w' => ∃ (b : Bool) (τ : Nat → Value), σ = upd (upd (upd (upd τ 0 (.slice A y.length c)) 1 (.slice A1 plan.length c1)) 5 (.pointer (some ⟨g5, 0, none⟩))) 10 (.bool b) ∧ w' = w18 ∧ (b = true ↔ (plan.length ≤ 12 ∧ leaks.length = plan.length))) ?_ ?_
    · skip
      refine Rg (Mv (Ln Try.underlying22 rfl ?_))
      refine g_leq rfl rfl (h1 := fun c24 => ?_) (h2 := fun c24 => ?_)
      · skip
        refine Mv (L1 Try.underlying25 (cellAt K18 rfl) rfl (Ln Try.underlying25 rfl (Mv (Ln Try.underlying22 rfl ?_))))
        refine g_eql rfl rfl (h1 := fun c30 => ?_) (h2 := fun c30 => ?_)
        · skip
          refine Pt rfl (As (Nl ?_))
          exact join_end ⟨true, _, has rfl (has rfl (has rfl (has rfl rfl))), rfl, by simp; omega⟩
        · skip
          refine Pt rfl (As (Nl ?_))
          exact join_end ⟨false, _, has rfl (has rfl (has rfl (has rfl rfl))), rfl, by simp; omega⟩
      · skip
        refine Mv (Of (Of (Of (Of (Of (Pf rfl (As (Nl ?_))))))))
        exact join_end ⟨false, _, has rfl (has rfl (has rfl (has rfl rfl))), rfl, by simp; omega⟩
    · rintro _ w2 ⟨b, τ, rfl, rfl, hb⟩
      refine Sq (Sq (Rg (As (Nl (Tn (Bk ?_))))))
      refine GC_loop (fun m σ w' => ∃ (k : Nat) (b : Bool) (τ : Nat → Value), σ = upd (upd (upd (upd (upd τ 0 (.slice A y.length c)) 1 (.slice A1 plan.length c1)) 5 (.pointer (some ⟨g5, 0, none⟩))) 10 (.bool b)) 11 (.int .i64 k) ∧ k ≤ plan.length ∧ m = plan.length - k ∧ w'.heap[g5]? = some (.cells #[.slice A2 leaks.length c2] 25 (0, 0)) ∧ Bel w w' ∧ ((b = true ∧ ∀ m, k ≤ m → m < plan.length → RowOk y plan leaks m) ↔ PlanOk y plan leaks) ∧ (b = true → plan.length ≤ 12 ∧ leaks.length = plan.length)) (plan.length) ⟨0, b, _, has rfl (has rfl (has rfl (has rfl (has rfl rfl)))), Nat.zero_le _, rfl, K18, hB18, by rw [PlanOk, hb]; simp, hb.1⟩ ?_
      rintro m _ w1 ⟨k, b1, τ, rfl, hk, rfl, K5a, hB, hiff, hbl⟩
      refine Sq (Sq (Rg (Mv (Mv ?_))))
      cases q33 : b1 with
      | true =>
        refine Mv (Mv (Ln Try.underlying22 rfl ?_))
        refine g_lss rfl rfl (h1 := fun c37 => ?_) (h2 := fun c37 => ?_)
        · skip
          obtain ⟨hpl, hll⟩ := hbl q33
          have hml2 : plan.length ≤ 12 := hpl
          have hkl : k < plan.length := by omega
          obtain ⟨ad, hA1, h44⟩ := Kd.at_int (Kd.C_below hp hB) k (by omega) (by omega)
          rw [hA1]
          obtain ⟨ad2, A3, c3, hA2, h53, hle, hC3⟩ := at_L1 hl k (by omega) (by omega)
          have h3m : (rd_L1 leaks k).length ≤ 9223372036854775807 := hC3.2.1
          refine Pt rfl (Nl (Tn (Ct rfl (Sk (Tn ?_)))))
          refine GC_join (fun σ w' => ∃ (b : Bool) (τ : Nat → Value), σ = upd (upd (upd (upd (upd τ 0 (.slice A y.length c)) 1 (.slice (some ad) plan.length c1)) 5 (.pointer (some ⟨g5, 0, none⟩))) 10 (.bool b)) 11 (.int .i64 k) ∧ w'.heap[g5]? = some (.cells #[.slice A2 leaks.length c2] 25 (0, 0)) ∧ Bel w w' ∧ (b = true ↔ RowOk y plan leaks k)) ?_ ?_
          · skip
            refine Bk ?_
            refine GC_join (fun σ w' => ∃ (b : Bool) (τ : Nat → Value), σ = upd (upd (upd (upd (upd τ 0 (.slice A y.length c)) 1 (.slice (some ad) plan.length c1)) 5 (.pointer (some ⟨g5, 0, none⟩))) 10 (.bool b)) 11 (.int .i64 k) ∧ w'.heap[g5]? = some (.cells #[.slice A2 leaks.length c2] 25 (0, 0)) ∧ Bel w w' ∧ (b = true ↔ ((-1 ≤ rd plan k ∧ rd plan k ≤ (y.length : Int) - 1) ∧ (rd_L1 leaks k).length = y.length))) ?_ ?_
            · skip
              refine Rg (Mv (Mv ?_))
              refine g_indexS Try.underlying22 info3 rfl rfl (by omega) (by omega) (Nat.mul_one _) (h := ?_)
              refine L1 Try.underlying3 (h44) rfl (Mv (Ln Try.underlying35 rfl ?_))
              refine g_sub rfl rfl (by omega) (h := ?_)
              refine g_within rfl rfl rfl (h1 := fun c48 => ?_) (h2 := fun c48 => ?_)
              · skip
                refine Mv ?_
                have K5a' := K5a
                rw [hA2] at K5a'
                refine L1 Try.underlying25 (cellAt K5a' rfl) rfl (Mv ?_)
                refine g_indexS Try.underlying25 info22 rfl rfl (by omega) (by omega) (Nat.mul_one _) (h := ?_)
                refine L1 Try.underlying22 (hB.cellk h53) rfl (Ln Try.underlying22 rfl (Mv (Ln Try.underlying35 rfl ?_)))
                refine g_eql rfl rfl (h1 := fun c57 => ?_) (h2 := fun c57 => ?_)
                · skip
                  refine Pt rfl (As (Nl ?_))
                  exact join_end ⟨true, _, has rfl (has rfl (has rfl (has rfl (has rfl rfl)))), K5a, hB, by simp; exact ⟨c48, by omega⟩⟩
                · skip
                  refine Pt rfl (As (Nl ?_))
                  exact join_end ⟨false, _, has rfl (has rfl (has rfl (has rfl (has rfl rfl)))), K5a, hB, by simp; omega⟩
              · skip
                refine Mv (Of (Of (Of (Of (Of (Of (Of (Of (Pf rfl (As (Nl ?_)))))))))))
                exact join_end ⟨false, _, has rfl (has rfl (has rfl (has rfl (has rfl rfl)))), K5a, hB, by simp; omega⟩
            · rintro _ w3 ⟨b3, τ3, rfl, K5b, hB3, hrow3⟩
              refine Sq (Rg (As (Nl (Tn (Bk ?_)))))
              refine GC_loop (fun m σ w' => ∃ (j : Nat) (b : Bool) (τ : Nat → Value), σ = upd (upd (upd (upd (upd (upd τ 0 (.slice A y.length c)) 1 (.slice (some ad) plan.length c1)) 5 (.pointer (some ⟨g5, 0, none⟩))) 10 (.bool b)) 11 (.int .i64 k)) 12 (.int .i64 j) ∧ j ≤ y.length ∧ m = y.length - j ∧ w'.heap[g5]? = some (.cells #[.slice A2 leaks.length c2] 25 (0, 0)) ∧ Bel w w' ∧ ((b = true ∧ ∀ i, j ≤ i → i < y.length → CellOk y leaks k i) ↔ RowOk y plan leaks k) ∧ (b = true → (rd_L1 leaks k).length = y.length)) (y.length) ⟨0, b3, _, has rfl (has rfl (has rfl (has rfl (has rfl (has rfl rfl))))), Nat.zero_le _, rfl, K5b, hB3, by rw [RowOk, hrow3]; simp, fun h => (hrow3.1 h).2⟩ ?_
              rintro m _ w4 ⟨j, b4, τ4, rfl, hj, rfl, K5d, hB4, hiff1, hlb⟩
              refine Sq (Sq (Rg (Mv (Mv ?_))))
              cases q60 : b4 with
              | true =>
                refine Mv (Mv (Ln Try.underlying35 rfl ?_))
                refine g_lss rfl rfl (h1 := fun c64 => ?_) (h2 := fun c64 => ?_)
                · skip
                  refine Pt rfl (Nl (Tn (Ct rfl (Sk (Tn (Sq (Bk ?_)))))))
                  have hlen := hlb q60
                  have hjl : j < y.length := by omega
                  obtain ⟨ad3, hA, h80⟩ := at70 hs hB4.drew j hjl
                  rw [hA]
                  obtain ⟨ad4, hA3, h74⟩ := Kd.at_int (Kd.C_below hC3 hB4.drew) j (by omega) (by omega)
                  have h71 := hB4.drew.cellk h53
                  rw [hA3] at h71
                  have K5e := K5d
                  rw [hA2] at K5e
                  refine GD_start 21 [] (fun w' => w' = w4.drewN 1) (by kernel_rfl) rfl ?_
                  refine GD_take 0 rfl (by kernel_rfl) (by kernel_rfl) (by kernel_rfl) (by kernel_rfl) rfl rfl rfl (qv fun wq hC => by exact r_load1 rfl Try.underlying25 (by subst hC; exact cellAt K5e rfl)) ?_
                  refine GD_pure 1 rfl (by kernel_rfl) (by kernel_rfl) (by kernel_rfl) (by kernel_rfl) rfl rfl rfl (qv fun wq hC => by exact r_move) ?_
                  refine GD_pure 2 rfl (by kernel_rfl) (by kernel_rfl) (by kernel_rfl) (by kernel_rfl) rfl rfl rfl (qv fun wq hC => by exact r_indexS Try.underlying25 info22 rfl rfl (by omega) (by omega) (Nat.mul_one _)) ?_
                  refine GD_take 3 rfl (by kernel_rfl) (by kernel_rfl) (by kernel_rfl) (by kernel_rfl) rfl rfl rfl (qv fun wq hC => by exact r_load1 rfl Try.underlying22 (by subst hC; exact h71)) ?_
                  refine GD_pure 4 rfl (by kernel_rfl) (by kernel_rfl) (by kernel_rfl) (by kernel_rfl) rfl rfl rfl (qv fun wq hC => by exact r_move) ?_
                  refine GD_pure 5 rfl (by kernel_rfl) (by kernel_rfl) (by kernel_rfl) (by kernel_rfl) rfl rfl rfl (qv fun wq hC => by exact r_indexS Try.underlying22 info3 rfl rfl (by omega) (by omega) (Nat.mul_one _)) ?_
                  refine GD_take 6 rfl (by kernel_rfl) (by kernel_rfl) (by kernel_rfl) (by kernel_rfl) rfl rfl rfl (qv fun wq hC => by exact r_load1 rfl Try.underlying3 (by subst hC; exact h74)) ?_
                  refine GD_pure 7 rfl (by kernel_rfl) (by kernel_rfl) (by kernel_rfl) (by kernel_rfl) rfl rfl rfl (qv fun wq hC => by exact r_move) ?_
                  refine GD_pure 8 rfl (by kernel_rfl) (by kernel_rfl) (by kernel_rfl) (by kernel_rfl) rfl rfl rfl (qv fun wq hC => by exact r_move) ?_
                  refine GD_pure 9 rfl (by kernel_rfl) (by kernel_rfl) (by kernel_rfl) (by kernel_rfl) rfl rfl rfl (qv fun wq hC => by exact r_indexS Try.underlying35 info70 rfl rfl (by omega) (by omega) rfl) ?_
                  refine GD_pure 10 rfl (by kernel_rfl) (by kernel_rfl) (by kernel_rfl) (by kernel_rfl) rfl rfl rfl (qv fun wq hC => by exact r_fieldAddr f70_3 rfl rfl) ?_
                  refine GD_pure 11 rfl (by kernel_rfl) (by kernel_rfl) (by kernel_rfl) (by kernel_rfl) rfl rfl rfl (qv fun wq hC => by exact r_fieldAddr f68_0 rfl rfl) ?_
                  refine GD_take 12 rfl (by kernel_rfl) (by kernel_rfl) (by kernel_rfl) (by kernel_rfl) rfl rfl rfl (qv fun wq hC => by exact r_load1 rfl Try.underlying3 (by subst hC; rw [add_add' _ 3 0]; exact h80 3 _ rfl)) ?_
                  refine GD_pure 13 rfl (by kernel_rfl) (by kernel_rfl) (by kernel_rfl) (by kernel_rfl) rfl rfl rfl (qv fun wq hC => by exact r_move) ?_
                  refine GD_pure 14 rfl (by kernel_rfl) (by kernel_rfl) (by kernel_rfl) (by kernel_rfl) rfl rfl rfl (qv fun wq hC => by exact r_move) ?_
                  refine GD_pure 15 rfl (by kernel_rfl) (by kernel_rfl) (by kernel_rfl) (by kernel_rfl) rfl rfl rfl (qv fun wq hC => by exact r_indexS Try.underlying35 info70 rfl rfl (by omega) (by omega) rfl) ?_
                  refine GD_pure 16 rfl (by kernel_rfl) (by kernel_rfl) (by kernel_rfl) (by kernel_rfl) rfl rfl rfl (qv fun wq hC => by exact r_fieldAddr f70_3 rfl rfl) ?_
                  refine GD_pure 17 rfl (by kernel_rfl) (by kernel_rfl) (by kernel_rfl) (by kernel_rfl) rfl rfl rfl (qv fun wq hC => by exact r_fieldAddr f68_1 rfl rfl) ?_
                  refine GD_take 18 rfl (by kernel_rfl) (by kernel_rfl) (by kernel_rfl) (by kernel_rfl) rfl rfl rfl (qv fun wq hC => by exact r_load1 rfl Try.underlying3 (by subst hC; rw [add_add' _ 3 1]; exact h80 4 _ rfl)) ?_
                  refine GD_take 19 rfl (by kernel_rfl) (by kernel_rfl) (by kernel_rfl) (by kernel_rfl) rfl rfl rfl (qc (fun wq hC => by exact r_call he62 rfl) (fun wq hC => by exact within_c _ _ _ _)) ?_
                  refine GD_pure 20 rfl (by kernel_rfl) (by kernel_rfl) (by kernel_rfl) (by kernel_rfl) rfl rfl rfl (qv fun wq hC => by exact r_assign) ?_
                  refine GD_end (by kernel_rfl) (fun _ => rfl) ?_
                  refine Bn (Tn (Rg (Mv ?_)))
                  refine g_add rfl rfl (by omega) (h := ?_)
                  refine As (Nl ?_)
                  exact round_end (y.length - (j + 1)) (by omega) ⟨j + 1, _, _, has rfl (has rfl (has rfl (has rfl (has rfl (has rfl rfl))))), hjl, rfl, K5d, hB4.drew, by rw [← hiff1, all_from hjl, CellOk, yd_get y j hjl, decide_eq_true_eq]; simp [q60], fun _ => hlen⟩
                · skip
                  refine Pt rfl (Nl (Tn (Cf rfl (Xi (Tx (Tx (Bs (Bn ?_))))))))
                  exact join_end ⟨true, _, has rfl (has rfl (has rfl (has rfl (has rfl rfl)))), K5d, hB4, by have := hiff1.1 ⟨q60, fun i h1 h2 => by omega⟩; simp [this]⟩
              | false =>
                refine Of (Of (Of (Of (Pf rfl (Nl (Tn (Cf rfl (Xi (Tx (Tx (Bs (Bn ?_))))))))))))
                exact join_end ⟨false, _, has rfl (has rfl (has rfl (has rfl (has rfl rfl)))), K5d, hB4, by simp; intro h; have := (hiff1.2 h).1; rw [q60] at this; cases this⟩
          · rintro _ w2 ⟨b2, τ2, rfl, K5c, hB2, hrow⟩
            refine Rg (Mv ?_)
            refine g_add rfl rfl (by omega) (h := ?_)
            refine As (Nl ?_)
            exact round_end (plan.length - (k + 1)) (by omega) ⟨k + 1, b2, _, has rfl (has rfl (has rfl (has rfl (has rfl rfl)))), hkl, rfl, K5c, hB2, by rw [← hiff, all_from hkl, hrow]; simp [q33], fun _ => ⟨hpl, hll⟩⟩
        · skip
          refine Pt rfl (Nl (Tn (Cf rfl (Xi (Tx (Tx (Bs (Tn (Sq (Sq (Rg (Mv (Nt rfl (Nl (Tn (Cf rfl (Sk (Tn (Sq (Rg (Mv ?_)))))))))))))))))))))
          have hP : PlanOk y plan leaks := hiff.1 ⟨q33, fun m h1 h2 => by omega⟩
          obtain ⟨hpl12, hlp⟩ := hP.1
          refine g_call he70 rfl (begin_c A c y _ (Kd.C_below hs hB) h4.2) (h := ?_)
          rintro e w91 ⟨rfl, hb91⟩
          refine ⟨_, rfl, ?_⟩
          have hB91 := hB.bel hb91
          refine g_alloc (z := .agg (isF fun _ => 0)) (by kernel_rfl) (h := fun g13 w13 N13 => ?_)
          have K13 := N13.at_
          have hB13 := hB91.new N13
          refine g_storeA rfl rfl info111 K13 rfl (by simpa using isF_one _) (h := fun w15 P15 => ?_)
          have K5f := kP (kN (kB K5a hb91) N13) P15 (N13.ne (kB K5a hb91))
          have hge13 : w.heap.size ≤ g13 := Nat.le_trans hB91.size N13.ge
          refine Nl (Tn (Sq (Sq (Rg (Mv (Ln Try.underlying22 rfl (Mv (Nl (Tn (Bk ?_))))))))))
          refine GC_loop (fun m σ w' => ∃ (k : Nat) (lv : Nat → Int) (τ : Nat → Value), σ = upd (upd (upd (upd (upd (upd τ 0 (.slice A y.length c)) 5 (.pointer (some ⟨g5, 0, none⟩))) 13 (.pointer (some ⟨g13, 0, none⟩))) 92 (.slice A1 plan.length c1)) 93 (.int .i64 plan.length)) 94 (.int .i64 k) ∧ k ≤ plan.length ∧ m = plan.length - k ∧ w'.heap[g5]? = some (.cells #[.slice A2 leaks.length c2] 25 (0, 0)) ∧ w'.heap[g13]? = some (.cells (isF lv) 111 (0, 0)) ∧ lvOk lv ∧ Bel w w' ∧ runGo y plan leaks plan.length 0 (begF y) = runGo y plan leaks (plan.length - k) k lv) (plan.length) ⟨0, begF y, _, has rfl (has rfl (has rfl (has rfl (has rfl (has rfl rfl))))), Nat.zero_le _, rfl, K5f, P15.at_, beg_ok hy, hB13.put P15 hge13, rfl⟩ ?_
          rintro m _ w5 ⟨k2, lv, τ5, rfl, hk2, rfl, K5g, K13g, hlv, hB5g, hgo⟩
          refine Sq (Rg ?_)
          refine g_lss rfl rfl (h1 := fun c95 => ?_) (h2 := fun c95 => ?_)
          · skip
            refine Nl (Tn (Sq (Ct rfl (Sk (Tn (Sq (Bk (Sq (Rg (Mv ?_))))))))))
            have hkl : k2 < plan.length := by omega
            obtain ⟨ad, hA1, h98⟩ := Kd.at_int (Kd.C_below hp hB5g) k2 (by omega) (by omega)
            rw [hA1]
            obtain ⟨n, hn⟩ : ∃ n, plan.length - k2 = n + 1 := ⟨plan.length - k2 - 1, by omega⟩
            rw [hn, runGo] at hgo
            have hrowk := hP.2 k2 hkl
            refine g_indexS Try.underlying22 info3 rfl rfl (by omega) (by omega) (Nat.mul_one _) (h := ?_)
            refine L1 Try.underlying3 (h98) rfl (As (As (Nl (Tn (Sq (Rg (As (Nl (Tn (Sq (Sq (Rg (Mv ?_)))))))))))))
            refine g_loadA rfl Try.underlying111 info111 (l := (isF lv).toList) (cellsAt K13g) (h := ?_)
            refine Mv (Mf ?_)
            refine g_bld (build116 _ _ _) rfl (h := ?_)
            refine g_call he71 rfl (leaked_c A c y lv (leakAt leaks k2) 72 [.pointer (some ⟨g5, 0, none⟩)] k2 _ (Kd.C_below hs hB5g) h4.2 (fun i _ => by have := hlv i; omega) he72 (fun i hi => ⟨by obtain ⟨h1, h2⟩ := hrowk.2 i hi; have h3 := cask_rg (yard_cask hy i hi); show -1000000 ≤ rd (rd_L1 leaks k2) i ∧ rd (rd_L1 leaks k2) i ≤ 1000000; omega, fun w1 hB1 => run1_c A2 c2 leaks w1 (Kd.C_below hl (hB5g.bel hB1)) g5 (kB K5g hB1) k2 i (by omega) (by rw [hrowk.1.2]; exact hi)⟩)) (h := ?_)
            rintro e w105 ⟨rfl, hb105⟩
            refine ⟨_, rfl, ?_⟩
            have hB105 := hB5g.bel hb105
            have K5h := kB K5g hb105
            have K13h := kB K13g hb105
            refine Mv (Xt rfl rfl (Xt rfl rfl ?_))
            refine g_storeA rfl rfl info111 K13h rfl (by simpa using isF_one _) (h := fun w20 P20 => ?_)
            have hB20 := hB105.put P20 hge13
            have K13i : w20.heap[g13]? = some (.cells (isF (lkF lv (leakAt leaks k2) y.length)) 111 (0, 0)) := P20.at_
            have K5i := kP K5h P20 (ne_ty K5h K13h (by decide))
            have hlv2 : lvOk (lkF lv (leakAt leaks k2) y.length) := fun i => by
              have h1 := hlv i
              by_cases hi : i < y.length
              · have := hrowk.2 i hi
                have := cask_rg (yard_cask hy i hi)
                unfold CellOk at *
                simp only [lkF, leakAt, hi, if_true]
                omega
              · simp only [lkF, hi, if_false]; exact h1
            generalize hlx : lkF lv (leakAt leaks k2) y.length = lx at *
            refine As (Nl (Tn (Sq (Rg (Mv ?_)))))
            refine g_geq rfl rfl (h1 := fun c109 => ?_) (h2 := fun c109 => ?_)
            · skip
              refine Nl (Tn (Ct rfl (Sq (Rg ?_))))
              refine g_litsR (Kd.int .i64) (xs := []) (inner := []) (okp := fun _ => True) (lit22_0 _) rfl rfl (by decide) (Reps.none _ _) (h := fun g110 w110 HR110 hg110 => ?_)
              have hB110 := hB20.grown hg110 (by intro k hk; cases hk)
              have K13j := kG K13i hg110 (by intro h; cases h)
              refine Mv (Ln Try.underlying35 rfl (Mv (Ln Try.underlying35 rfl ?_)))
              refine g_slice3A Try.underlying111 inf3 rfl rfl rfl rfl rfl (Nat.le_refl _) (by omega) (h := ?_)
              refine g_appendN Try.underlying22 zi3 rfl (xs := []) (ys := lvList lx y.length) HR110 (by simp [lvList]) (fun j u h => by rw [add_lit, Nat.zero_add]; exact cellAt K13j (lvList_get h4.2 j u h)) (fun _ _ => trivial) hg110.size (by simp; omega) (by simp [maxLen]; omega) rfl rfl (h := fun v' w116 HR' hg' => ?_)
              have hB116 := hB110.grown hg' (fun k hk => Nat.le_trans hB20.size (Kd.R_base HR110 k hk))
              refine Mv (As (As (As (Nl (Tn (Rt (Tr (Br (Tr (Tr (Br (Tr ?_))))))))))))
              rw [if_pos c109] at hgo
              exact ret3 rfl ⟨v', ret3r (by rw [runL, if_pos hy, if_pos hP, hgo]) (by rw [runL, if_pos hy, if_pos hP]), by rw [runL, if_pos hy, if_pos hP, hgo]; exact Kd.R_lower HR' hB20.size, hB116⟩
            · skip
              refine Nl (Tn (Cf rfl (Sk (Tn (Sq (Rg (Mv ?_)))))))
              refine g_geq rfl rfl (h1 := fun c119 => ?_) (h2 := fun c119 => ?_)
              · skip
                skip
                refine Nl (Tn (Ct rfl (Rg (Mv (Mv (Mv ?_))))))
                have htop := hrowk.1.1
                obtain ⟨ad5, hA, h125⟩ := at70 hs hB20 (rd plan k2).toNat (by omega)
                rw [hA]
                refine g_indexS Try.underlying35 info70 rfl rfl (by omega) (by omega) rfl (h := ?_)
                refine Fa f70_1 rfl (L1 Try.underlying3 (h125 1 _ rfl) rfl ?_)
                refine g_indexA Try.underlying111 info3 rfl rfl (by omega) (by omega) (add0 _ _) (h := ?_)
                refine g_store1 rfl rfl info3 K13i (by simp [isF]; omega) (h := fun w24 P24 => ?_)
                have K13k : w24.heap[g13]? = some (.cells (isF (topF y (rd plan k2) lx)) 111 (0, 0)) := by
                  rw [show isF (topF y (rd plan k2) lx) = (isF lx).setIfInBounds (rd plan k2).toNat (.int .i64 (y[(rd plan k2).toNat]'(by omega)).f1) from ?_]
                  · exact P24.at_
                  · rw [isF_set _ _ (by omega)]
                    refine isF_congr fun i _ => ?_
                    unfold topF
                    by_cases hi : i = (rd plan k2).toNat
                    · rw [if_pos ⟨c119, hi⟩, if_pos hi, hi, yd_get]
                    · rw [if_neg (fun h => hi h.2), if_neg hi]
                have hlv3 : lvOk (topF y (rd plan k2) lx) := fun i => by
                  unfold topF
                  split
                  · rename_i h
                    have := cask_rg (yard_cask hy i (by omega))
                    omega
                  · exact hlv2 i
                refine Nl (Bn (Tn (Rg ?_)))
                refine g_add rfl rfl (by omega) (h := ?_)
                refine Mv (Nl ?_)
                rw [if_neg c109] at hgo
                exact round_end (plan.length - (k2 + 1)) (by omega) ⟨k2 + 1, _, _, has rfl (has rfl (has rfl (has rfl (has rfl (has rfl rfl))))), hkl, rfl, kP K5i P24 (ne_ty K5i K13i (by decide)), K13k, hlv3, hB20.put P24 hge13, by rw [hgo, show plan.length - (k2 + 1) = n by omega]⟩
              · skip
                refine Nl (Tn (Cf rfl (Sk (Bn (Tn (Rg ?_))))))
                refine g_add rfl rfl (by omega) (h := ?_)
                refine Mv (Nl ?_)
                rw [if_neg c109] at hgo
                have htf : topF y (rd plan k2) lx = lx := by funext i; unfold topF; rw [if_neg (fun h => c119 h.1)]
                exact round_end (plan.length - (k2 + 1)) (by omega) ⟨k2 + 1, _, _, has rfl (has rfl (has rfl (has rfl (has rfl (has rfl rfl))))), hkl, rfl, K5i, K13i, hlv2, hB20, by rw [hgo, show plan.length - (k2 + 1) = n by omega, htf]⟩
          · skip
            refine Nl (Tn (Sq (Cf rfl (Xi (Tx (Tx (Bs (Tn (Sq (Rg ?_))))))))))
            refine g_litsR (Kd.int .i64) (xs := []) (inner := []) (okp := fun _ => True) (lit22_0 _) rfl rfl (by decide) (Reps.none _ _) (h := fun g110 w110 HR110 hg110 => ?_)
            have hB110 := hB5g.grown hg110 (by intro k hk; cases hk)
            have K13j := kG K13g hg110 (by intro h; cases h)
            refine Mv (Ln Try.underlying35 rfl (Mv (Ln Try.underlying35 rfl ?_)))
            refine g_slice3A Try.underlying111 inf3 rfl rfl rfl rfl rfl (Nat.le_refl _) (by omega) (h := ?_)
            refine g_appendN Try.underlying22 zi3 rfl (xs := []) (ys := lvList lv y.length) HR110 (by simp [lvList]) (fun j u h => by rw [add_lit, Nat.zero_add]; exact cellAt K13j (lvList_get h4.2 j u h)) (fun _ _ => trivial) hg110.size (by simp; omega) (by simp [maxLen]; omega) rfl rfl (h := fun v' w116 HR' hg' => ?_)
            have hB116 := hB110.grown hg' (fun k hk => Nat.le_trans hB5g.size (Kd.R_base HR110 k hk))
            rw [show plan.length - k2 = 0 by omega, runGo] at hgo
            refine As (As (As (Nl (Tn (Rt ?_)))))
            exact ret3 rfl ⟨v', ret3r (by rw [runL, if_pos hy, if_pos hP, hgo]) (by rw [runL, if_pos hy, if_pos hP]), by rw [runL, if_pos hy, if_pos hP, hgo]; exact Kd.R_lower HR' hB5g.size, hB116⟩
      | false =>
        refine Of (Of (Of (Of (Pf rfl (Nl (Tn (Cf rfl (Xi (Tx (Tx (Bs (Tn (Sq (Sq (Rg (Mv (Nt rfl (Nl (Tn (Ct rfl (Sq (Rg (As (As ?_))))))))))))))))))))))))
        refine As (Nl (Tn (Rt (Tr ?_))))
        have hP : ¬ PlanOk y plan leaks := fun h => by have := (hiff.2 h).1; rw [q33] at this; cases this
        exact ret3 rfl ⟨.slice none 0 0, ret3r (by rw [runL, if_pos hy, if_neg hP]) (by rw [runL, if_pos hy, if_neg hP]), by rw [runL, if_pos hy, if_neg hP]; exact Kd.R_nil _ _ _ _ _, hB⟩
end Go.Proofs.B
