/- barrel: the reference of books: CheckBook, more, proof, Proves, Balances. -/
import Derived.Test.YtpfoleggapngoaaB24
import Derived.Test.YtpfoleggapngoaaB39
set_option linter.unusedVariables false
set_option linter.unusedSimpArgs false
set_option maxRecDepth 10000
namespace Go.Proofs.B
open Go Go.RowKit Go.Proofs Go.Proofs.G Go.Proofs.F Go.Proofs.YtpfoleggapngoaaW.PrintWords
theorem spanAt68 {w : World} {g : Nat} {z : S76} {t : TypeId} (K : w.heap[g]? = some (.cells (enc76 z).toArray t (0, 0))) : ∀ i u, [Value.int .i64 z.f2.f0, Value.int .i64 z.f2.f1][i]? = some u → w.cell? ((⟨g, 2, none⟩ : Addr).add i) = some u := by
  intro i u hu
  rw [add_lit]
  match i, hu with
  | 0, hu => exact cellAt K hu
  | 1, hu => exact cellAt K hu
  | i + 2, hu => simp at hu
set_option maxHeartbeats 2000000 in
theorem checkBookR_c (A : Option Addr) (c : Nat) (n : Int) (l : List S76) (w : World) (hs : k76.C w A l.length l) :
    Calls Try.prog 36 #[.agg #[.int .i64 n, .slice A l.length c]] w fun e w' => e = .returned (.int .i64 (if bookOk n l = true then 0 else 63)) ∧ Bel w w' := by
  have hmax : l.length ≤ 9223372036854775807 := hs.2.1
  refine G_enter (l := [.agg #[.int .i64 n, .slice A l.length c]]) Try.func36 rfl rfl ?_
  refine Sq (Rg ?_)
  refine g_box rfl (h := fun g1 w1 N1 => ?_)
  have K1 := N1.at_
  have hB1 := Bel.of_new N1
  have K1a : w1.heap[g1]? = some (.cells #[.int .i64 n, .slice A l.length c] 49 (0, 0)) := K1
  refine As (Nl (Tn ?_))
  refine GC_join (fun σ w' => ∃ (b : Bool) (τ : Nat → Value), σ = upd (upd τ 1 (.pointer (some ⟨g1, 0, none⟩))) 3 (.bool b) ∧ w' = w1 ∧ ((b = true ∧ ((2 ≤ n ∧ n ≤ 6) ∧ (1 ≤ (l.length : Int) ∧ (l.length : Int) ≤ 10))) ∨ (b = false ∧ bookOk n l = false))) ?_ ?_
  · skip
    refine Rg (Fb f49_0 rfl (L1 Try.underlying3 (cellAt K1a rfl) rfl ?_))
    refine g_in rfl rfl rfl (h1 := fun c8 => ?_) (h2 := fun c8 => ?_)
    · skip
      refine Mv (Fb f49_1 rfl (L1 Try.underlying47 (cellAt K1a rfl) rfl (Ln Try.underlying47 rfl ?_)))
      refine g_in rfl rfl rfl (h1 := fun c13 => ?_) (h2 := fun c13 => ?_)
      · skip
        refine Pt rfl (As (Nl ?_))
        exact join_end ⟨true, _, has rfl (has rfl rfl), rfl, .inl ⟨rfl, c8, c13⟩⟩
      · skip
        refine Pt rfl (As (Nl ?_))
        exact join_end ⟨false, _, has rfl (has rfl rfl), rfl, .inr ⟨rfl, by unfold bookOk; rw [decide_eq_false (fun h => c13 h.2)]; rfl⟩⟩
    · skip
      refine Mv (Of (Of (Of (Of (Pf rfl (As (Nl ?_)))))))
      exact join_end ⟨false, _, has rfl (has rfl rfl), rfl, .inr ⟨rfl, by unfold bookOk; rw [decide_eq_false (fun h => c8 h.1)]; rfl⟩⟩
  · rintro _ w2 ⟨b, τ, rfl, rfl, hb⟩
    refine Sq (Sq (Rg (As (Nl (Tn (Bk ?_))))))
    refine GC_loop (fun m σ w' => ∃ (k : Nat) (b : Bool) (τ : Nat → Value), σ = upd (upd (upd τ 1 (.pointer (some ⟨g1, 0, none⟩))) 3 (.bool b)) 4 (.int .i64 k) ∧ k ≤ l.length ∧ m = l.length - k ∧ w'.heap[g1]? = some (.cells #[.int .i64 n, .slice A l.length c] 49 (0, 0)) ∧ Bel w w' ∧ ((b = true ∧ ((2 ≤ n ∧ n ≤ 6) ∧ (1 ≤ (l.length : Int) ∧ (l.length : Int) ≤ 10)) ∧ ∀ j, (h : j < l.length) → j < k → moveOk n l[j] = true) ∨ (b = false ∧ bookOk n l = false))) (l.length) ⟨0, b, _, has rfl (has rfl (has rfl rfl)), Nat.zero_le _, rfl, K1a, hB1, by
      rcases hb with ⟨h, h2⟩ | h
      · exact .inl ⟨h, h2, fun j _ hj => absurd hj (Nat.not_lt_zero _)⟩
      · exact .inr h⟩ ?_
    rintro m _ w3 ⟨k, b1, τ1, rfl, hk, rfl, K1b, hB, hb1⟩
    refine Sq (Sq (Rg (Mv (Mv ?_))))
    cases q16 : b1 with
    | true =>
      have hb2 : ((2 ≤ n ∧ n ≤ 6) ∧ (1 ≤ (l.length : Int) ∧ (l.length : Int) ≤ 10)) ∧ ∀ j, (h : j < l.length) → j < k → moveOk n l[j] = true := by
        rcases hb1 with ⟨_, h⟩ | ⟨h, _⟩
        · exact h
        · rw [q16] at h; cases h
      refine Mv (Fb f49_1 rfl (L1 Try.underlying47 (cellAt K1b rfl) rfl (Ln Try.underlying47 rfl ?_)))
      refine g_lss rfl rfl (h1 := fun c21 => ?_) (h2 := fun c21 => ?_)
      · skip
        refine Pt rfl (Nl (Tn (Ct rfl (Sk (Tn (Sq (Bk (Sq (Rg (Fb f49_1 rfl (L1 Try.underlying47 (cellAt K1b rfl) rfl ?_)))))))))))
        have hkl : k < l.length := by omega
        obtain ⟨ad, hA, h29⟩ := at76 hs hB k hkl
        rw [hA]
        have hbad : moveOk n l[k] = false → bookOk n l = false := fun h => by
          unfold bookOk
          rw [show l.all (moveOk n) = false from List.all_eq_false.2 ⟨_, List.getElem_mem hkl, by rw [h]; decide⟩, Bool.and_false]
        have hgood : moveOk n l[k] = true → ∀ j, (h : j < l.length) → j < k + 1 → moveOk n l[j] = true := fun h j hj hjk => by
          by_cases e : j = k
          · subst e; exact h
          · exact hb2.2 j hj (by omega)
        have hcask : moveOk n l[k] = decide ((0 ≤ l[k].f0 ∧ l[k].f0 ≤ n - 1) ∧ (0 ≤ l[k].f1 ∧ l[k].f1 ≤ n - 1) ∧ l[k].f0 ≠ l[k].f1 ∧ spanOk l[k].f2.f0 l[k].f2.f1 1000 = true) := rfl
        generalize moveOk n l[k] = ck at *
        generalize l[k] = z at *
        refine Mv ?_
        refine g_indexS Try.underlying47 info76 rfl rfl (by omega) (by omega) rfl (h := ?_)
        refine g_loadA rfl Try.underlying76 info76 (l := enc76 z) h29 (h := ?_)
        refine g_alloc (z := .agg #[.int .i64 0, .int .i64 0, .int .i64 0, .int .i64 0]) (by kernel_rfl) (h := fun g5 w5 N5 => ?_)
        have K5 := N5.at_
        have hB5 := hB.new N5
        have K1c := kN K1b N5
        refine g_storeA rfl rfl info76 K5 rfl (by simp [enc76, Value.oneCell']) (h := fun w6 P6 => ?_)
        have K6 : w6.heap[g5]? = some (.cells (enc76 z).toArray 76 (0, 0)) := P6.at_
        have hB6 := hB5.put P6 (Nat.le_trans hB.size N5.ge)
        have K1d := kP K1c P6 (ne_ty K1c K5 (by decide))
        rw [hA] at K1d
        refine Nl (Tn (Rg (Fb f76_0 rfl (L1 Try.underlying3 (cellAt K6 rfl) rfl (Fb f49_0 rfl (L1 Try.underlying3 (cellAt K1d rfl) rfl ?_))))))
        refine g_sub rfl rfl (by omega) (h := ?_)
        refine g_in rfl rfl rfl (h1 := fun c35 => ?_) (h2 := fun c35 => ?_)
        · skip
          refine Mv (Fb f76_1 rfl (L1 Try.underlying3 (cellAt K6 rfl) rfl (Fb f49_0 rfl (L1 Try.underlying3 (cellAt K1d rfl) rfl ?_))))
          refine g_sub rfl rfl (by omega) (h := ?_)
          refine g_in rfl rfl rfl (h1 := fun c42 => ?_) (h2 := fun c42 => ?_)
          · skip
            refine Pt rfl (Mv (Fb f76_0 rfl (L1 Try.underlying3 (cellAt K6 rfl) rfl (Fb f76_1 rfl (L1 Try.underlying3 (cellAt K6 rfl) rfl ?_)))))
            refine g_neq rfl rfl (h1 := fun c49 => ?_) (h2 := fun c49 => ?_)
            · skip
              refine Pt rfl (Mv (Fb f76_2 rfl ?_))
              refine g_loadA rfl Try.underlying68 info68 (l := [.int .i64 z.f2.f0, .int .i64 z.f2.f1]) (spanAt68 K6) (h := ?_)
              refine g_call he77 rfl (spannedR_c _ _ _ _ _) (h := ?_)
              rintro e w54 ⟨rfl, hb54⟩
              refine ⟨_, rfl, ?_⟩
              refine Pt rfl (As (Nl (Bn (Tn (Rg (Mv ?_))))))
              refine g_add rfl rfl (by omega) (h := ?_)
              refine As (Nl ?_)
              by_cases hq : ck = true
              · exact round_end (l.length - (k + 1)) (by omega) ⟨k + 1, true, _, has rfl (has (congrArg Value.bool (by rw [hq] at hcask; have := of_decide_eq_true hcask.symm; simp [spanOk] at this; simp; omega)) (has rfl rfl)), hkl, rfl, by first | exact kB K1d hb54 | exact K1d, by first | exact hB6.bel hb54 | exact hB6, .inl ⟨rfl, hb2.1, hgood hq⟩⟩
              · have hq : ck = false := by simpa using hq
                exact round_end (l.length - (k + 1)) (by omega) ⟨k + 1, false, _, has rfl (has (congrArg Value.bool (by first | rfl | (rw [hq] at hcask; have := of_decide_eq_false hcask.symm; simp [spanOk] at this; simp; omega))) (has rfl rfl)), hkl, rfl, by first | exact kB K1d hb54 | exact K1d, by first | exact hB6.bel hb54 | exact hB6, .inr ⟨rfl, hbad hq⟩⟩
            · skip
              refine Pt rfl (Mv (Of (Of (Of (Pf rfl (As (Nl (Bn (Tn (Rg (Mv ?_)))))))))))
              refine g_add rfl rfl (by omega) (h := ?_)
              refine As (Nl ?_)
              by_cases hq : ck = true
              · exact round_end (l.length - (k + 1)) (by omega) ⟨k + 1, true, _, has rfl (has (congrArg Value.bool (by rw [hq] at hcask; have := of_decide_eq_true hcask.symm; simp [spanOk] at this; simp; omega)) (has rfl rfl)), hkl, rfl, by first | exact kB K1d hb54 | exact K1d, by first | exact hB6.bel hb54 | exact hB6, .inl ⟨rfl, hb2.1, hgood hq⟩⟩
              · have hq : ck = false := by simpa using hq
                exact round_end (l.length - (k + 1)) (by omega) ⟨k + 1, false, _, has rfl (has (congrArg Value.bool (by first | rfl | (rw [hq] at hcask; have := of_decide_eq_false hcask.symm; simp [spanOk] at this; simp; omega))) (has rfl rfl)), hkl, rfl, by first | exact kB K1d hb54 | exact K1d, by first | exact hB6.bel hb54 | exact hB6, .inr ⟨rfl, hbad hq⟩⟩
          · skip
            refine Pt rfl (Mv (Of (Of (Of (Of (Of (Pf rfl (Mv (Of (Of (Of (Pf rfl (As (Nl (Bn (Tn (Rg (Mv ?_))))))))))))))))))
            refine g_add rfl rfl (by omega) (h := ?_)
            refine As (Nl ?_)
            by_cases hq : ck = true
            · exact round_end (l.length - (k + 1)) (by omega) ⟨k + 1, true, _, has rfl (has (congrArg Value.bool (by rw [hq] at hcask; have := of_decide_eq_true hcask.symm; simp [spanOk] at this; simp; omega)) (has rfl rfl)), hkl, rfl, by first | exact kB K1d hb54 | exact K1d, by first | exact hB6.bel hb54 | exact hB6, .inl ⟨rfl, hb2.1, hgood hq⟩⟩
            · have hq : ck = false := by simpa using hq
              exact round_end (l.length - (k + 1)) (by omega) ⟨k + 1, false, _, has rfl (has (congrArg Value.bool (by first | rfl | (rw [hq] at hcask; have := of_decide_eq_false hcask.symm; simp [spanOk] at this; simp; omega))) (has rfl rfl)), hkl, rfl, by first | exact kB K1d hb54 | exact K1d, by first | exact hB6.bel hb54 | exact hB6, .inr ⟨rfl, hbad hq⟩⟩
        · skip
          refine Mv (Of (Of (Of (Of (Of (Of (Pf rfl (Mv (Of (Of (Of (Of (Of (Pf rfl (Mv (Of (Of (Of (Pf rfl (As (Nl (Bn (Tn (Rg ?_))))))))))))))))))))))))
          refine Mv ?_
          refine g_add rfl rfl (by omega) (h := ?_)
          refine As (Nl ?_)
          by_cases hq : ck = true
          · exact round_end (l.length - (k + 1)) (by omega) ⟨k + 1, true, _, has rfl (has (congrArg Value.bool (by rw [hq] at hcask; have := of_decide_eq_true hcask.symm; simp [spanOk] at this; simp; omega)) (has rfl rfl)), hkl, rfl, by first | exact kB K1d hb54 | exact K1d, by first | exact hB6.bel hb54 | exact hB6, .inl ⟨rfl, hb2.1, hgood hq⟩⟩
          · have hq : ck = false := by simpa using hq
            exact round_end (l.length - (k + 1)) (by omega) ⟨k + 1, false, _, has rfl (has (congrArg Value.bool (by first | rfl | (rw [hq] at hcask; have := of_decide_eq_false hcask.symm; simp [spanOk] at this; simp; omega))) (has rfl rfl)), hkl, rfl, by first | exact kB K1d hb54 | exact K1d, by first | exact hB6.bel hb54 | exact hB6, .inr ⟨rfl, hbad hq⟩⟩
      · skip
        refine Pt rfl (Nl (Tn (Cf rfl (Xi (Tx (Tx (Bs (Tn (Sq (Sq (Rg (Mv (Nt rfl (Nl (Tn (Cf rfl (Sk (Tn (Sq (Rg (As (Nl (Tn (Rt ?_))))))))))))))))))))))))
        have hok : bookOk n l = true := by
          unfold bookOk
          rw [decide_eq_true hb2.1, Bool.true_and, List.all_eq_true]
          intro x hx
          obtain ⟨j, hj, rfl⟩ := List.mem_iff_getElem.1 hx
          exact hb2.2 j hj (by omega)
        exact ret1 rfl ⟨reti (by rw [if_pos hok]), hB⟩
    | false =>
      have hb0 : bookOk n l = false := by
        rcases hb1 with ⟨h, _⟩ | ⟨_, h⟩
        · rw [q16] at h; cases h
        · exact h
      refine Of (Of (Of (Of (Of (Pf rfl (Nl (Tn (Cf rfl (Xi (Tx (Tx (Bs (Tn (Sq (Sq (Rg (Mv (Nt rfl (Nl (Tn (Ct rfl (Sq (Rg (As ?_))))))))))))))))))))))))
      refine Nl (Tn (Rt (Tr ?_)))
      exact ret1 rfl ⟨reti (by rw [if_neg (by rw [hb0]; decide)]), hB⟩
theorem bitI_c (S : Nat) (v : Int) (hS : S < 2 ^ 63) (hv : 0 ≤ v ∧ v ≤ 64) (w : World) : Calls Try.prog 86 #[.int .i64 S, .int .i64 v] w fun e w' => e = .returned (.bool (pS S v)) ∧ w' = w := by
  have h := bit_c S v.toNat hS (by omega) w
  rw [Int.toNat_of_nonneg hv.1] at h
  exact h
theorem cutB_bd {n : Int} {l : List S76} (h : bookOk n l = true) (p : Int → Bool) (wo : Int) : ∀ k, k ≤ l.length → -(1000 * (k : Int)) ≤ cutB l p wo k ∧ cutB l p wo k ≤ 1000 * (k : Int)
  | 0, _ => by simp [cutB]
  | k + 1, hk => by
    have h1 := cutB_bd h p wo k (by omega)
    have h2 := book_move h k (by omega)
    unfold cutB
    split
    · omega
    · split
      · omega
      · split <;> omega
set_option maxHeartbeats 4000000 in
theorem more_c (A : Option Addr) (c : Nat) (n : Int) (l : List S76) (S : Nat) (wo : Int) (w : World) (hs : k76.C w A l.length l) (hbo : bookOk n l = true) (hS : S < 2 ^ 63) :
    Calls Try.prog 87 #[.agg #[.int .i64 n, .slice A l.length c], .int .i64 S, .int .i64 wo] w fun e w' => e = .returned (.int .i64 (cutB l (pS S) wo l.length)) ∧ Bel w w' := by
  obtain ⟨hn, hl10⟩ := book_n hbo
  refine G_enter (l := [.agg #[.int .i64 n, .slice A l.length c], .int .i64 S, .int .i64 wo]) Try.func87 rfl rfl ?_
  refine Sq (Rg ?_)
  refine g_box rfl (h := fun g3 w3 N3 => ?_)
  have K3 := N3.at_
  have hB3 := Bel.of_new N3
  have K3a : w3.heap[g3]? = some (.cells #[.int .i64 n, .slice A l.length c] 49 (0, 0)) := K3
  refine As (Nl (Tn (Sq (Rg (As (Nl (Tn (Sq (Sq (Rg (As (Nl (Tn (Bk ?_))))))))))))))
  refine GC_loop (fun m σ w' => ∃ (k : Nat) (τ : Nat → Value), σ = upd (upd (upd (upd (upd τ 1 (.int .i64 S)) 2 (.int .i64 wo)) 3 (.pointer (some ⟨g3, 0, none⟩))) 7 (.int .i64 (cutB l (pS S) wo k))) 8 (.int .i64 k) ∧ k ≤ l.length ∧ m = l.length - k ∧ w'.heap[g3]? = some (.cells #[.int .i64 n, .slice A l.length c] 49 (0, 0)) ∧ Bel w w') (l.length) ⟨0, _, has rfl (has rfl (has rfl (has rfl (has rfl rfl)))), Nat.zero_le _, rfl, K3a, hB3⟩ ?_
  rintro m _ w4 ⟨k, τ, rfl, hk, rfl, K3b, hB⟩
  refine Sq (Sq (Rg (Mv (Fb f49_1 rfl (L1 Try.underlying47 (cellAt K3b rfl) rfl (Ln Try.underlying47 rfl ?_))))))
  refine g_lss rfl rfl (h1 := fun c16 => ?_) (h2 := fun c16 => ?_)
  · skip
    refine Nl (Tn (Ct rfl (Sk (Tn (Sq (Bk (Sq (Rg (Fb f49_1 rfl (L1 Try.underlying47 (cellAt K3b rfl) rfl ?_))))))))))
    have hkl : k < l.length := by omega
    obtain ⟨ad, hA, h23⟩ := at76 hs hB k hkl
    rw [hA]
    have hmk := book_move hbo k hkl
    have hbd := cutB_bd hbo (pS S) wo k (by omega)
    have hstep : cutB l (pS S) wo (k + 1) = cutB l (pS S) wo k + (if (k : Int) = wo then 0 else if pS S (mv l k).f0 = true ∧ pS S (mv l k).f1 = false then (mv l k).f2.f0 else if pS S (mv l k).f1 = true ∧ pS S (mv l k).f0 = false then - (mv l k).f2.f1 else 0) := rfl
    rw [← mv_get l k hkl] at h23
    generalize cutB l (pS S) wo k = cu at *
    refine Mv ?_
    refine g_indexS Try.underlying47 info76 rfl rfl (by omega) (by omega) rfl (h := ?_)
    refine g_loadA rfl Try.underlying76 info76 (l := enc76 (mv l k)) h23 (h := ?_)
    refine g_alloc (z := .agg #[.int .i64 0, .int .i64 0, .int .i64 0, .int .i64 0]) (by kernel_rfl) (h := fun g9 w9 N9 => ?_)
    have K9 := N9.at_
    refine g_storeA rfl rfl info76 K9 rfl (by simp [enc76, Value.oneCell']) (h := fun w6 P6 => ?_)
    have K9a : w6.heap[g9]? = some (.cells (enc76 (mv l k)).toArray 76 (0, 0)) := P6.at_
    have hB6 := (hB.new N9).put P6 (Nat.le_trans hB.size N9.ge)
    have K3d := kP (kN K3b N9) P6 (ne_ty (kN K3b N9) K9 (by decide))
    rw [hA] at K3d
    have hBd := hB6.drew
    generalize hz : mv l k = z at *
    refine Nl (Tn (Sq ?_))
    refine GD_start 10 [] (fun w' => w'.heap[g9]? = some (.cells (enc76 z).toArray 76 (0, 0))) (by kernel_rfl) rfl ?_
    refine GD_pure 0 rfl (by kernel_rfl) (by kernel_rfl) (by kernel_rfl) (by kernel_rfl) rfl rfl rfl (qv fun wq hC => by exact r_move) ?_
    refine GD_pure 1 rfl (by kernel_rfl) (by kernel_rfl) (by kernel_rfl) (by kernel_rfl) rfl rfl rfl (qv fun wq hC => by exact r_fieldAddrB f76_0 rfl) ?_
    refine GD_take 2 rfl (by kernel_rfl) (by kernel_rfl) (by kernel_rfl) (by kernel_rfl) rfl rfl rfl (qv fun wq hC => by exact r_load1 rfl Try.underlying3 (cellAt hC rfl)) ?_
    refine GD_take 3 rfl (by kernel_rfl) (by kernel_rfl) (by kernel_rfl) (by kernel_rfl) rfl rfl rfl (qc (fun wq hC => by exact r_call he86 rfl) (fun wq hC => by exact bitI_c S z.f0 hS (by omega) _)) ?_
    refine GD_pure 4 rfl (by kernel_rfl) (by kernel_rfl) (by kernel_rfl) (by kernel_rfl) rfl rfl rfl (qv fun wq hC => by exact r_move) ?_
    refine GD_pure 5 rfl (by kernel_rfl) (by kernel_rfl) (by kernel_rfl) (by kernel_rfl) rfl rfl rfl (qv fun wq hC => by exact r_fieldAddrB f76_1 rfl) ?_
    refine GD_take 6 rfl (by kernel_rfl) (by kernel_rfl) (by kernel_rfl) (by kernel_rfl) rfl rfl rfl (qv fun wq hC => by exact r_load1 rfl Try.underlying3 (cellAt hC rfl)) ?_
    refine GD_take 7 rfl (by kernel_rfl) (by kernel_rfl) (by kernel_rfl) (by kernel_rfl) rfl rfl rfl (qc (fun wq hC => by exact r_call he86 rfl) (fun wq hC => by exact bitI_c S z.f1 hS (by omega) _)) ?_
    refine GD_pure 8 rfl (by kernel_rfl) (by kernel_rfl) (by kernel_rfl) (by kernel_rfl) rfl rfl rfl (qv fun wq hC => by exact r_assign) ?_
    refine GD_pure 9 rfl (by kernel_rfl) (by kernel_rfl) (by kernel_rfl) (by kernel_rfl) rfl rfl rfl (qv fun wq hC => by exact r_assign) ?_
    refine GD_end (by kernel_rfl) (fun _ => K9a) ?_
    refine Tn (Sq (Sq (Rg ?_)))
    generalize pS S z.f0 = b0 at *
    generalize pS S z.f1 = b1 at *
    refine Mv (Mv ?_)
    refine g_neq rfl rfl (h1 := fun c34 => ?_) (h2 := fun c34 => ?_)
    · skip
      rw [if_neg c34] at hstep
      refine Mv (Mv (Pt rfl (Mv ?_)))
      cases q38 : b0 with
      | true =>
        rw [q38] at hstep
        refine Mv ?_
        cases q39 : b1 with
        | true =>
          rw [q39] at hstep
          refine Nt rfl (Pt rfl (Nl (Tn (Cf rfl (Sk (Tn (Sq (Rg (Mv (Mv ?_))))))))))
          refine g_neq rfl rfl (h1 := fun c49 => ?_) (h2 := fun c49 => ?_)
          · skip
            refine Mv (Mv (Pt rfl (Mv (Mv (Nt rfl (Pt rfl (Nl (Tn (Cf rfl (Sk (Bn (Tn (Rg (Mv ?_))))))))))))))
            refine g_add rfl rfl (by omega) (h := ?_)
            refine As (Nl ?_)
            first
            | exact absurd c34 c49
            | exact absurd c49 c34
            | exact round_end (l.length - (k + 1)) (by omega) ⟨k + 1, _, has rfl (has (congrArg (Value.int .i64) (by rw [hstep]; first | omega | rfl | (simp <;> omega) | simp)) (has rfl (has rfl (has rfl rfl)))), hkl, rfl, K3d, hBd⟩
          · skip
            refine Mv (Of (Pf rfl (Mv (Of (Of (Pf rfl (Nl (Tn (Cf rfl (Sk (Bn (Tn (Rg (Mv ?_))))))))))))))
            refine g_add rfl rfl (by omega) (h := ?_)
            refine As (Nl ?_)
            first
            | exact absurd c34 c49
            | exact absurd c49 c34
            | exact round_end (l.length - (k + 1)) (by omega) ⟨k + 1, _, has rfl (has (congrArg (Value.int .i64) (by rw [hstep]; first | omega | rfl | (simp <;> omega) | simp)) (has rfl (has rfl (has rfl rfl)))), hkl, rfl, K3d, hBd⟩
        | false =>
          rw [q39] at hstep
          refine Nt rfl (Pt rfl (Nl (Tn (Ct rfl (Rg (Mv (Fb f76_2 rfl (Fb f68_0 rfl (L1 Try.underlying3 (cellAt K9a rfl) rfl ?_)))))))))
          refine g_add rfl rfl (by omega) (h := ?_)
          refine As (Nl (Tn (Sq (Rg (Mv (Mv ?_))))))
          refine g_neq rfl rfl (h1 := fun c49 => ?_) (h2 := fun c49 => ?_)
          · skip
            refine Mv (Mv (Pt rfl (Mv (Of (Of (Pf rfl (Nl (Tn (Cf rfl (Sk (Bn (Tn (Rg (Mv ?_))))))))))))))
            refine g_add rfl rfl (by omega) (h := ?_)
            refine As (Nl ?_)
            first
            | exact absurd c34 c49
            | exact absurd c49 c34
            | exact round_end (l.length - (k + 1)) (by omega) ⟨k + 1, _, has rfl (has (congrArg (Value.int .i64) (by rw [hstep]; first | omega | rfl | (simp <;> omega) | simp)) (has rfl (has rfl (has rfl rfl)))), hkl, rfl, K3d, hBd⟩
          · skip
            refine Mv (Of (Pf rfl (Mv (Of (Of (Pf rfl (Nl (Tn (Cf rfl (Sk (Bn (Tn (Rg (Mv ?_))))))))))))))
            refine g_add rfl rfl (by omega) (h := ?_)
            refine As (Nl ?_)
            first
            | exact absurd c34 c49
            | exact absurd c49 c34
            | exact round_end (l.length - (k + 1)) (by omega) ⟨k + 1, _, has rfl (has (congrArg (Value.int .i64) (by rw [hstep]; first | omega | rfl | (simp <;> omega) | simp)) (has rfl (has rfl (has rfl rfl)))), hkl, rfl, K3d, hBd⟩
      | false =>
        rw [q38] at hstep
        refine Of (Of (Pf rfl (Nl (Tn (Cf rfl (Sk (Tn (Sq (Rg (Mv (Mv ?_)))))))))))
        refine g_neq rfl rfl (h1 := fun c49 => ?_) (h2 := fun c49 => ?_)
        · skip
          refine Mv (Mv (Pt rfl (Mv ?_)))
          cases q53 : b1 with
          | true =>
            try rw [q53] at hstep
            refine Mv (Nt rfl (Pt rfl (Nl (Tn (Ct rfl (Rg (Mv (Fb f76_2 rfl (Fb f68_1 rfl (L1 Try.underlying3 (cellAt K9a rfl) rfl ?_))))))))))
            refine g_sub rfl rfl (by omega) (h := ?_)
            refine As (Nl (Bn (Tn (Rg (Mv ?_)))))
            refine g_add rfl rfl (by omega) (h := ?_)
            refine As (Nl ?_)
            first
            | exact absurd c34 c49
            | exact absurd c49 c34
            | exact round_end (l.length - (k + 1)) (by omega) ⟨k + 1, _, has rfl (has (congrArg (Value.int .i64) (by rw [hstep]; first | omega | rfl | (simp <;> omega) | simp)) (has rfl (has rfl (has rfl rfl)))), hkl, rfl, K3d, hBd⟩
          | false =>
            try rw [q53] at hstep
            refine Of (Of (Pf rfl (Nl (Tn (Cf rfl (Sk (Bn (Tn (Rg (Mv ?_))))))))))
            refine g_add rfl rfl (by omega) (h := ?_)
            refine As (Nl ?_)
            first
            | exact absurd c34 c49
            | exact absurd c49 c34
            | exact round_end (l.length - (k + 1)) (by omega) ⟨k + 1, _, has rfl (has (congrArg (Value.int .i64) (by rw [hstep]; first | omega | rfl | (simp <;> omega) | simp)) (has rfl (has rfl (has rfl rfl)))), hkl, rfl, K3d, hBd⟩
        · skip
          refine Mv (Of (Pf rfl (Mv (Of (Of (Pf rfl (Nl (Tn (Cf rfl (Sk (Bn (Tn (Rg (Mv ?_))))))))))))))
          refine g_add rfl rfl (by omega) (h := ?_)
          refine As (Nl ?_)
          first
          | exact absurd c34 c49
          | exact absurd c49 c34
          | exact round_end (l.length - (k + 1)) (by omega) ⟨k + 1, _, has rfl (has (congrArg (Value.int .i64) (by rw [hstep]; first | omega | rfl | (simp <;> omega) | simp)) (has rfl (has rfl (has rfl rfl)))), hkl, rfl, K3d, hBd⟩
    · skip
      rw [if_pos c34] at hstep
      refine Mv (Of (Pf rfl (Mv (Of (Of (Pf rfl (Nl (Tn (Cf rfl (Sk (Tn (Sq (Rg (Mv (Mv ?_)))))))))))))))
      refine g_neq rfl rfl (h1 := fun c49 => ?_) (h2 := fun c49 => ?_)
      · skip
        refine Mv (Mv (Pt rfl (Mv ?_)))
        cases q53 : b1 with
        | true =>
          try rw [q53] at hstep
          refine Mv ?_
          cases q54 : b0 with
          | true =>
            try rw [q54] at hstep
            refine Nt rfl (Pt rfl (Nl (Tn (Cf rfl (Sk (Bn (Tn (Rg (Mv ?_)))))))))
            refine g_add rfl rfl (by omega) (h := ?_)
            refine As (Nl ?_)
            first
            | exact absurd c34 c49
            | exact absurd c49 c34
            | exact round_end (l.length - (k + 1)) (by omega) ⟨k + 1, _, has rfl (has (congrArg (Value.int .i64) (by rw [hstep]; first | omega | rfl | (simp <;> omega) | simp)) (has rfl (has rfl (has rfl rfl)))), hkl, rfl, K3d, hBd⟩
          | false =>
            try rw [q54] at hstep
            refine Nt rfl (Pt rfl (Nl (Tn (Ct rfl (Rg (Mv (Fb f76_2 rfl (Fb f68_1 rfl (L1 Try.underlying3 (cellAt K9a rfl) rfl ?_)))))))))
            refine g_sub rfl rfl (by omega) (h := ?_)
            refine As (Nl (Bn (Tn (Rg (Mv ?_)))))
            refine g_add rfl rfl (by omega) (h := ?_)
            refine As (Nl ?_)
            first
            | exact absurd c34 c49
            | exact absurd c49 c34
            | exact round_end (l.length - (k + 1)) (by omega) ⟨k + 1, _, has rfl (has (congrArg (Value.int .i64) (by rw [hstep]; first | omega | rfl | (simp <;> omega) | simp)) (has rfl (has rfl (has rfl rfl)))), hkl, rfl, K3d, hBd⟩
        | false =>
          try rw [q53] at hstep
          refine Of (Of (Pf rfl (Nl (Tn (Cf rfl (Sk (Bn (Tn (Rg (Mv ?_))))))))))
          refine g_add rfl rfl (by omega) (h := ?_)
          refine As (Nl ?_)
          first
          | exact absurd c34 c49
          | exact absurd c49 c34
          | exact round_end (l.length - (k + 1)) (by omega) ⟨k + 1, _, has rfl (has (congrArg (Value.int .i64) (by rw [hstep]; first | omega | rfl | (simp <;> omega) | simp)) (has rfl (has rfl (has rfl rfl)))), hkl, rfl, K3d, hBd⟩
      · skip
        refine Mv (Of (Pf rfl (Mv (Of (Of (Pf rfl (Nl (Tn (Cf rfl (Sk (Bn (Tn (Rg (Mv ?_))))))))))))))
        refine g_add rfl rfl (by omega) (h := ?_)
        refine As (Nl ?_)
        first
        | exact absurd c34 c49
        | exact absurd c49 c34
        | exact round_end (l.length - (k + 1)) (by omega) ⟨k + 1, _, has rfl (has (congrArg (Value.int .i64) (by rw [hstep]; first | omega | rfl | (simp <;> omega) | simp)) (has rfl (has rfl (has rfl rfl)))), hkl, rfl, K3d, hBd⟩
  · skip
    refine Nl (Tn (Cf rfl (Xi (Tx (Tx (Bs (Tn (Sq (Rg (Mv (As (Nl (Tn (Rt ?_))))))))))))))
    obtain rfl : k = l.length := by omega
    exact ret1 rfl ⟨rfl, hB⟩
end Go.Proofs.B
