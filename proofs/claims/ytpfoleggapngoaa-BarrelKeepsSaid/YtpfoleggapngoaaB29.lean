/- barrel: the reference of yards: CheckYard, now, greatest, month. -/
import Derived.Test.YtpfoleggapngoaaB24
import Derived.Test.YtpfoleggapngoaaB8
set_option linter.unusedVariables false
set_option linter.unusedSimpArgs false
set_option maxRecDepth 10000
namespace Go.Proofs.B
open Go Go.RowKit Go.Proofs Go.Proofs.G Go.Proofs.F Go.Proofs.YtpfoleggapngoaaW.PrintWords
theorem lvList_succ (f : Nat → Int) (k : Nat) : lvList f (k + 1) = lvList f k ++ [f k] := by simp [lvList, List.range_succ]
theorem lvList_len (f : Nat → Int) (k : Nat) : (lvList f k).length = k := by simp [lvList]
theorem lvList_rd (f : Nat → Int) (n i : Nat) (h : i < n) : rd (lvList f n) i = f i := by rw [rd_nat _ i (by rw [lvList_len]; exact h)]; simp [lvList]
theorem lvList_congr {f g : Nat → Int} {n : Nat} (h : ∀ i, i < n → f i = g i) : lvList f n = lvList g n := by
  simp only [lvList]
  exact List.map_congr_left (fun i hi => h i (List.mem_range.1 hi))
set_option maxHeartbeats 1000000 in
theorem checkYardR_c (A : Option Addr) (c : Nat) (y : List S70) (w : World) (hs : k70.C w A y.length y) :
    Calls Try.prog 27 #[.slice A y.length c] w fun e w' => e = .returned (.int .i64 (if yardOk y = true then 0 else 61)) ∧ Bel w w' := by
  have hmax : y.length ≤ 9223372036854775807 := hs.2.1
  refine G_enter (l := [.slice A y.length c]) Try.func27 rfl rfl ?_
  refine Sq (Rg (As (Nl (Tn (Sq (Rg (Mv (Ln Try.underlying35 rfl ?_))))))))
  refine g_inN rfl rfl rfl (h := ?_)
  refine As (Nl (Tn (Sq (Sq (Rg (As (Nl (Tn (Bk ?_)))))))))
  refine GC_loop (fun m σ w' => ∃ (k : Nat) (b : Bool) (τ : Nat → Value), σ = upd (upd (upd τ 0 (.slice A y.length c)) 3 (.bool b)) 4 (.int .i64 k) ∧ k ≤ y.length ∧ m = y.length - k ∧ Bel w w' ∧ ((b = true ∧ (1 ≤ (y.length : Int) ∧ (y.length : Int) ≤ 4) ∧ ∀ j, (h : j < y.length) → j < k → caskOk y[j] = true) ∨ (b = false ∧ yardOk y = false))) (y.length) ⟨0, _, _, has rfl (has rfl (has rfl rfl)), Nat.zero_le _, rfl, Below.refl _ _, by
    by_cases h : 1 ≤ (y.length : Int) ∧ (y.length : Int) ≤ 4
    · exact .inl ⟨decide_eq_true h, h, fun j _ hj => absurd hj (Nat.not_lt_zero _)⟩
    · exact .inr ⟨decide_eq_false h, by unfold yardOk; rw [decide_eq_false h]; rfl⟩⟩ ?_
  rintro m _ w1 ⟨k, b, τ, rfl, hk, rfl, hB, hb⟩
  refine Sq (Sq (Rg (Mv (Mv ?_))))
  cases q10 : b with
  | true =>
    have hb1 : (1 ≤ (y.length : Int) ∧ (y.length : Int) ≤ 4) ∧ ∀ j, (h : j < y.length) → j < k → caskOk y[j] = true := by
      rcases hb with ⟨_, h⟩ | ⟨h, _⟩
      · exact h
      · rw [q10] at h; cases h
    refine Mv (Mv (Ln Try.underlying35 rfl ?_))
    refine g_lss rfl rfl (h1 := fun c14 => ?_) (h2 := fun c14 => ?_)
    · skip
      refine Pt rfl (Nl (Tn (Ct rfl (Sk (Tn (Sq (Bk (Sq (Rg ?_)))))))))
      have hkl : k < y.length := by omega
      obtain ⟨ad, rfl, h21⟩ := at70 hs hB k hkl
      have hbad : caskOk y[k] = false → yardOk y = false := fun h => by
        unfold yardOk
        rw [show y.all caskOk = false from List.all_eq_false.2 ⟨_, List.getElem_mem hkl, by rw [h]; decide⟩, Bool.and_false]
      have hgood : caskOk y[k] = true → ∀ j, (h : j < y.length) → j < k + 1 → caskOk y[j] = true := fun h j hj hjk => by
        by_cases e : j = k
        · subst e; exact h
        · exact hb1.2 j hj (by omega)
      have hcask : caskOk y[k] = decide ((1 ≤ y[k].f1 ∧ y[k].f1 ≤ 1000) ∧ (0 ≤ y[k].f0 ∧ y[k].f0 ≤ y[k].f1) ∧ (0 ≤ y[k].f2 ∧ y[k].f2 ≤ y[k].f1) ∧ spanOk y[k].f3.f0 y[k].f3.f1 1000 = true) := rfl
      generalize caskOk y[k] = ck at *
      generalize y[k] = z at *
      refine Mv (Mv ?_)
      refine g_indexS Try.underlying35 info70 rfl rfl (by omega) (by omega) rfl (h := ?_)
      refine g_loadA rfl Try.underlying70 info70 (l := enc70 z) h21 (h := ?_)
      refine g_alloc (z := .agg #[.int .i64 0, .int .i64 0, .int .i64 0, .int .i64 0, .int .i64 0]) (by kernel_rfl) (h := fun g5 w5 N5 => ?_)
      have K5 := N5.at_
      have hB5 := hB.new N5
      refine g_storeA rfl rfl info70 K5 rfl (by simp [enc70, Value.oneCell']) (h := fun w6 P6 => ?_)
      have K6 : w6.heap[g5]? = some (.cells #[.int .i64 z.f0, .int .i64 z.f1, .int .i64 z.f2, .int .i64 z.f3.f0, .int .i64 z.f3.f1] 70 (0, 0)) := P6.at_
      have hB6 := hB5.put P6 (Nat.le_trans hB.size N5.ge)
      refine Nl (Tn (Rg (Fb f70_1 rfl (L1 Try.underlying3 (cellAt K6 rfl) rfl ?_))))
      refine g_in rfl rfl rfl (h1 := fun c24 => ?_) (h2 := fun c24 => ?_)
      · skip
        refine Mv (Fb f70_0 rfl (L1 Try.underlying3 (cellAt K6 rfl) rfl (Fb f70_1 rfl (L1 Try.underlying3 (cellAt K6 rfl) rfl ?_))))
        refine g_in rfl rfl rfl (h1 := fun c30 => ?_) (h2 := fun c30 => ?_)
        · skip
          refine Pt rfl (Mv (Fb f70_2 rfl (L1 Try.underlying3 (cellAt K6 rfl) rfl (Fb f70_1 rfl (L1 Try.underlying3 (cellAt K6 rfl) rfl ?_)))))
          refine g_in rfl rfl rfl (h1 := fun c37 => ?_) (h2 := fun c37 => ?_)
          · skip
            refine Pt rfl (Mv (Fb f70_3 rfl ?_))
            refine g_loadA rfl Try.underlying68 info68 (l := [.int .i64 z.f3.f0, .int .i64 z.f3.f1]) (fun j u h => by rw [add_lit]; match j with | 0 => exact cellAt K6 h | 1 => exact cellAt K6 h | j + 2 => cases h) (h := ?_)
            refine g_call he77 rfl (spannedR_c _ _ _ _ _) (h := ?_)
            rintro e w42 ⟨rfl, hb42⟩
            refine ⟨_, rfl, ?_⟩
            refine Pt rfl (As (Nl (Bn (Tn (Rg (Mv ?_))))))
            refine g_add rfl rfl (by omega) (h := ?_)
            refine As (Nl ?_)
            by_cases hq : ck = true
            · exact round_end (y.length - (k + 1)) (by omega) ⟨k + 1, true, _, has rfl (has (congrArg Value.bool (by rw [hq] at hcask; have := of_decide_eq_true hcask.symm; simp [spanOk] at this; simp; omega)) (has rfl rfl)), hkl, rfl, by first | exact hB6.bel hb42 | exact hB6, .inl ⟨rfl, hb1.1, hgood hq⟩⟩
            · have hq : ck = false := by simpa using hq
              exact round_end (y.length - (k + 1)) (by omega) ⟨k + 1, false, _, has rfl (has (congrArg Value.bool (by first | rfl | (rw [hq] at hcask; have := of_decide_eq_false hcask.symm; simp [spanOk] at this; simp; omega))) (has rfl rfl)), hkl, rfl, by first | exact hB6.bel hb42 | exact hB6, .inr ⟨rfl, hbad hq⟩⟩
          · skip
            refine Pt rfl (Mv (Of (Of (Of (Pf rfl (As (Nl (Bn (Tn (Rg (Mv ?_)))))))))))
            refine g_add rfl rfl (by omega) (h := ?_)
            refine As (Nl ?_)
            by_cases hq : ck = true
            · exact round_end (y.length - (k + 1)) (by omega) ⟨k + 1, true, _, has rfl (has (congrArg Value.bool (by rw [hq] at hcask; have := of_decide_eq_true hcask.symm; simp [spanOk] at this; simp; omega)) (has rfl rfl)), hkl, rfl, by first | exact hB6.bel hb42 | exact hB6, .inl ⟨rfl, hb1.1, hgood hq⟩⟩
            · have hq : ck = false := by simpa using hq
              exact round_end (y.length - (k + 1)) (by omega) ⟨k + 1, false, _, has rfl (has (congrArg Value.bool (by first | rfl | (rw [hq] at hcask; have := of_decide_eq_false hcask.symm; simp [spanOk] at this; simp; omega))) (has rfl rfl)), hkl, rfl, by first | exact hB6.bel hb42 | exact hB6, .inr ⟨rfl, hbad hq⟩⟩
        · skip
          refine Pt rfl (Mv (Of (Of (Of (Of (Of (Pf rfl (Mv (Of (Of (Of (Pf rfl (As (Nl (Bn (Tn (Rg (Mv ?_))))))))))))))))))
          refine g_add rfl rfl (by omega) (h := ?_)
          refine As (Nl ?_)
          by_cases hq : ck = true
          · exact round_end (y.length - (k + 1)) (by omega) ⟨k + 1, true, _, has rfl (has (congrArg Value.bool (by rw [hq] at hcask; have := of_decide_eq_true hcask.symm; simp [spanOk] at this; simp; omega)) (has rfl rfl)), hkl, rfl, by first | exact hB6.bel hb42 | exact hB6, .inl ⟨rfl, hb1.1, hgood hq⟩⟩
          · have hq : ck = false := by simpa using hq
            exact round_end (y.length - (k + 1)) (by omega) ⟨k + 1, false, _, has rfl (has (congrArg Value.bool (by first | rfl | (rw [hq] at hcask; have := of_decide_eq_false hcask.symm; simp [spanOk] at this; simp; omega))) (has rfl rfl)), hkl, rfl, by first | exact hB6.bel hb42 | exact hB6, .inr ⟨rfl, hbad hq⟩⟩
      · skip
        refine Mv (Of (Of (Of (Of (Of (Pf rfl (Mv (Of (Of (Of (Of (Of (Pf rfl (Mv (Of (Of (Of (Pf rfl (As (Nl (Bn (Tn (Rg (Mv ?_))))))))))))))))))))))))
        refine g_add rfl rfl (by omega) (h := ?_)
        refine As (Nl ?_)
        by_cases hq : ck = true
        · exact round_end (y.length - (k + 1)) (by omega) ⟨k + 1, true, _, has rfl (has (congrArg Value.bool (by rw [hq] at hcask; have := of_decide_eq_true hcask.symm; simp [spanOk] at this; simp; omega)) (has rfl rfl)), hkl, rfl, by first | exact hB6.bel hb42 | exact hB6, .inl ⟨rfl, hb1.1, hgood hq⟩⟩
        · have hq : ck = false := by simpa using hq
          exact round_end (y.length - (k + 1)) (by omega) ⟨k + 1, false, _, has rfl (has (congrArg Value.bool (by first | rfl | (rw [hq] at hcask; have := of_decide_eq_false hcask.symm; simp [spanOk] at this; simp; omega))) (has rfl rfl)), hkl, rfl, by first | exact hB6.bel hb42 | exact hB6, .inr ⟨rfl, hbad hq⟩⟩
    · skip
      refine Pt rfl (Nl (Tn (Cf rfl (Xi (Tx (Tx (Bs (Tn (Sq (Sq (Rg (Mv (Nt rfl (Nl (Tn (Cf rfl (Sk (Tn (Sq (Rg (As (Nl (Tn (Rt ?_))))))))))))))))))))))))
      have hok : yardOk y = true := by
        unfold yardOk
        rw [decide_eq_true hb1.1, Bool.true_and, List.all_eq_true]
        intro x hx
        obtain ⟨j, hj, rfl⟩ := List.mem_iff_getElem.1 hx
        exact hb1.2 j hj (by omega)
      exact ret1 rfl ⟨reti (by rw [if_pos hok]), hB⟩
  | false =>
    have hb0 : yardOk y = false := by
      rcases hb with ⟨h, _⟩ | ⟨_, h⟩
      · rw [q10] at h; cases h
      · exact h
    refine Of (Of (Of (Of (Pf rfl (Nl (Tn (Cf rfl (Xi (Tx (Tx (Bs (Tn (Sq (Sq (Rg (Mv (Nt rfl (Nl (Tn (Ct rfl (Sq (Rg (As (Nl ?_))))))))))))))))))))))))
    refine Tn (Rt (Tr ?_))
    exact ret1 rfl ⟨reti (by rw [if_neg (by rw [hb0]; decide)]), hB⟩
theorem now_c (A : Option Addr) (c : Nat) (y : List S70) (w : World) (hs : k70.C w A y.length y) (hl : y.length ≤ 1000) :
    Calls Try.prog 74 #[.slice A y.length c] w fun e w' => ∃ v, e = .returned v ∧ (Kd.int .i64).R 3 w' w.heap.size (fun _ => True) v (lvList (begF y) y.length) ∧ Bel w w' := by
  refine G_enter (l := [.slice A y.length c]) Try.func74 rfl rfl ?_
  refine Sq (Rg (As (Nl (Tn (Sq (Rg (As (Nl (Tn (Sq (Sq (Rg (As (Nl (Tn (Bk ?_))))))))))))))))
  refine GC_loop (fun m σ w' => ∃ (k : Nat) (v : Value) (τ : Nat → Value), σ = upd (upd (upd τ 0 (.slice A y.length c)) 3 v) 4 (.int .i64 k) ∧ k ≤ y.length ∧ m = y.length - k ∧ (Kd.int .i64).R 3 w' w.heap.size (fun _ => True) v (lvList (begF y) k) ∧ Bel w w') (y.length) ⟨0, _, _, has rfl (has rfl (has rfl rfl)), Nat.zero_le _, rfl, Kd.R_nil _ _ _ _ _, Below.refl _ _⟩ ?_
  rintro m _ w1 ⟨k, v, τ, rfl, hk, rfl, HR, hB⟩
  refine Sq (Sq (Rg (Mv (Mv (Ln Try.underlying35 rfl ?_)))))
  refine g_lss rfl rfl (h1 := fun c8 => ?_) (h2 := fun c8 => ?_)
  · skip
    refine Nl (Tn (Ct rfl (Sk (Tn (Sq (Bk (Rg ?_)))))))
    have hkl : k < y.length := by omega
    obtain ⟨ad, hA, h16⟩ := at70 hs hB k hkl
    rw [hA]
    refine Mv (Mv (Mv ?_))
    refine g_indexS Try.underlying35 info70 rfl rfl (by omega) (by omega) rfl (h := ?_)
    refine Fa f70_0 rfl (L1 Try.underlying3 (h16 0 (.int .i64 (begF y k)) (by rw [begF, yd_get y k hkl]; rfl)) rfl ?_)
    refine g_lit1 bs22 rfl rfl (h := fun g17 w17 N17 => ?_)
    refine g_appendR (Kd.int .i64) Try.underlying22 zi3 rfl (by decide) (rN HR N17) (cs := [.int .i64 (begF y k)]) N17.at_ (p := begF y k) (okp := fun _ => False) rfl (fun _ h => h.elim) (fun _ _ => trivial) (Nat.le_trans hB.size N17.ch.size) (by rw [lvList_len]; omega) (by rw [lvList_len]; simp [maxLen]; omega) rfl rfl (h := fun v18 w18 HR18 hg18 _ => ?_)
    refine As (Nl (Bn (Tn (Rg (Mv ?_)))))
    refine g_add rfl rfl (by omega) (h := ?_)
    refine As (Nl ?_)
    exact round_end (y.length - (k + 1)) (by omega) ⟨k + 1, v18, _, has rfl (has rfl (has rfl rfl)), hkl, rfl, by rw [lvList_succ]; exact HR18, (hB.new N17).grown hg18 (Kd.R_base HR)⟩
  · skip
    refine Nl (Tn (Cf rfl (Xi (Tx (Tx (Bs (Tn (Sq (Rg (Mv (As (Nl (Tn (Rt ?_))))))))))))))
    obtain rfl : k = y.length := by omega
    exact ret1 rfl ⟨v, rfl, HR, hB⟩
theorem greatest_yard_c (A : Option Addr) (c : Nat) (y : List S70) (w : World) (hs : k70.C w A y.length y) (hl : y.length ≤ 1000) :
    Calls Try.prog 79 #[.slice A y.length c] w fun e w' => ∃ v, e = .returned v ∧ (Kd.int .i64).R 3 w' w.heap.size (fun _ => True) v (lvList (hiF y) y.length) ∧ Bel w w' := by
  refine G_enter (l := [.slice A y.length c]) Try.func79 rfl rfl ?_
  refine Sq (Rg (As (Nl (Tn (Sq (Rg (As (Nl (Tn (Sq (Sq (Rg (As (Nl (Tn (Bk ?_))))))))))))))))
  refine GC_loop (fun m σ w' => ∃ (k : Nat) (v : Value) (τ : Nat → Value), σ = upd (upd (upd τ 0 (.slice A y.length c)) 3 v) 4 (.int .i64 k) ∧ k ≤ y.length ∧ m = y.length - k ∧ (Kd.int .i64).R 3 w' w.heap.size (fun _ => True) v (lvList (hiF y) k) ∧ Bel w w') (y.length) ⟨0, _, _, has rfl (has rfl (has rfl rfl)), Nat.zero_le _, rfl, Kd.R_nil _ _ _ _ _, Below.refl _ _⟩ ?_
  rintro m _ w1 ⟨k, v, τ, rfl, hk, rfl, HR, hB⟩
  refine Sq (Sq (Rg (Mv (Mv (Ln Try.underlying35 rfl ?_)))))
  refine g_lss rfl rfl (h1 := fun c8 => ?_) (h2 := fun c8 => ?_)
  · skip
    refine Nl (Tn (Ct rfl (Sk (Tn (Sq (Bk (Rg ?_)))))))
    have hkl : k < y.length := by omega
    obtain ⟨ad, hA, h16⟩ := at70 hs hB k hkl
    rw [hA]
    refine Mv (Mv (Mv ?_))
    refine g_indexS Try.underlying35 info70 rfl rfl (by omega) (by omega) rfl (h := ?_)
    refine Fa f70_3 rfl (Fa f68_1 rfl (L1 Try.underlying3 (by rw [add_add' _ 3 1]; exact h16 4 (.int .i64 (hiF y k)) (by show (enc70 y[k])[4]? = some (.int .i64 (yd y k).f3.f1); rw [yd_get y k hkl]; rfl)) rfl ?_))
    refine g_lit1 bs22 rfl rfl (h := fun g17 w17 N17 => ?_)
    refine g_appendR (Kd.int .i64) Try.underlying22 zi3 rfl (by decide) (rN HR N17) (cs := [.int .i64 (hiF y k)]) N17.at_ (p := hiF y k) (okp := fun _ => False) rfl (fun _ h => h.elim) (fun _ _ => trivial) (Nat.le_trans hB.size N17.ch.size) (by rw [lvList_len]; omega) (by rw [lvList_len]; simp [maxLen]; omega) rfl rfl (h := fun v18 w18 HR18 hg18 _ => ?_)
    refine As (Nl (Bn (Tn (Rg (Mv ?_)))))
    refine g_add rfl rfl (by omega) (h := ?_)
    refine As (Nl ?_)
    exact round_end (y.length - (k + 1)) (by omega) ⟨k + 1, v18, _, has rfl (has rfl (has rfl rfl)), hkl, rfl, by rw [lvList_succ]; exact HR18, (hB.new N17).grown hg18 (Kd.R_base HR)⟩
  · skip
    refine Nl (Tn (Cf rfl (Xi (Tx (Tx (Bs (Tn (Sq (Rg (Mv (As (Nl (Tn (Rt ?_))))))))))))))
    obtain rfl : k = y.length := by omega
    exact ret1 rfl ⟨v, rfl, HR, hB⟩
theorem dryUp_neg_lt {p : Nat → Bool} {n k : Nat} (hk : k < n) (hp : p k = true) : ¬ dryUp p n < 0 := fun h => by
  have := (dryUp_neg p n).1 h k hk
  rw [hp] at this; cases this
set_option maxHeartbeats 1000000 in
theorem month_c (A B D : Option Addr) (c d d' : Nat) (y : List S70) (ls fs : List Int) (lv f : Nat → Int) (w : World) (hs : k70.C w A y.length y) (hls : (Kd.int .i64).C w B ls.length ls) (hfs : (Kd.int .i64).C w D fs.length fs) (hl : y.length ≤ 1000)
    (h1 : ls.length = y.length) (h2 : fs.length = y.length) (h3 : ∀ i : Nat, i < y.length → rd ls i = lv i ∧ -1000000 ≤ lv i ∧ lv i ≤ 1000000) (h4 : ∀ i : Nat, i < y.length → rd fs i = f i ∧ -1000000 ≤ f i ∧ f i ≤ 1000000) :
    Calls Try.prog 75 #[.slice A y.length c, .slice B ls.length d, .slice D fs.length d'] w fun e w' => ∃ v, e = .returned (.tuple #[v, .bool (decide (dryUp (dryP y lv f) y.length < 0))]) ∧ (Kd.int .i64).R 3 w' w.heap.size (fun _ => True) v (lvList (lkF lv f y.length) y.length) ∧ Bel w w' := by
  refine G_enter (l := [.slice A y.length c, .slice B ls.length d, .slice D fs.length d']) Try.func75 rfl rfl ?_
  refine Sq (Rg (As (As (Nl (Tn (Sq (Rg (As (Nl (Tn (Sq (Rg (As (Nl (Tn (Sq (Sq (Rg (As (Nl (Tn (Bk ?_))))))))))))))))))))))
  refine GC_loop (fun m σ w' => ∃ (k : Nat) (v : Value) (b : Bool) (τ : Nat → Value), σ = upd (upd (upd (upd (upd (upd τ 0 (.slice A y.length c)) 1 (.slice B ls.length d)) 2 (.slice D fs.length d')) 8 v) 9 (.bool b)) 10 (.int .i64 k) ∧ k ≤ y.length ∧ m = y.length - k ∧ (Kd.int .i64).R 3 w' w.heap.size (fun _ => True) v (lvList (lkF lv f y.length) k) ∧ Bel w w' ∧ ((b = true ∧ ∀ i, i < k → dryP y lv f i = false) ∨ (b = false ∧ ¬ dryUp (dryP y lv f) y.length < 0))) (y.length) ⟨0, _, _, _, has rfl (has rfl (has rfl (has rfl (has rfl (has rfl rfl))))), Nat.zero_le _, rfl, Kd.R_nil _ _ _ _ _, Below.refl _ _, .inl ⟨rfl, fun i hi => absurd hi (Nat.not_lt_zero _)⟩⟩ ?_
  rintro m _ w1 ⟨k, v, b, τ, rfl, hk, rfl, HR, hB, hb⟩
  refine Sq (Sq (Rg (Mv (Mv (Ln Try.underlying35 rfl ?_)))))
  refine g_lss rfl rfl (h1 := fun c15 => ?_) (h2 := fun c15 => ?_)
  · skip
    refine Nl (Tn (Ct rfl (Sk (Tn (Sq (Bk (Sq ?_)))))))
    have hkl : k < y.length := by omega
    obtain ⟨ad, hA, h39⟩ := at70 hs (Below.refl _ _) k hkl
    rw [hA]
    obtain ⟨ad2, hA2, h21⟩ := Kd.at_int (Kd.C_below hls hB.drew) k (by omega) (by omega)
    rw [hA2]
    obtain ⟨ad3, hA3, h25⟩ := Kd.at_int (Kd.C_below hfs hB.drew) k (by omega) (by omega)
    rw [hA3]
    obtain ⟨e3, h3a, h3b⟩ := h3 k hkl
    obtain ⟨e4, h4a, h4b⟩ := h4 k hkl
    rw [e3] at h21
    rw [e4] at h25
    refine GD_start 11 [] (fun w' => w' = w1.drewN 1) (by kernel_rfl) rfl ?_
    refine GD_pure 0 rfl (by kernel_rfl) (by kernel_rfl) (by kernel_rfl) (by kernel_rfl) rfl rfl rfl (qv fun wq hC => by exact r_move) ?_
    refine GD_pure 1 rfl (by kernel_rfl) (by kernel_rfl) (by kernel_rfl) (by kernel_rfl) rfl rfl rfl (qv fun wq hC => by exact r_move) ?_
    refine GD_pure 2 rfl (by kernel_rfl) (by kernel_rfl) (by kernel_rfl) (by kernel_rfl) rfl rfl rfl (qv fun wq hC => by exact r_indexS Try.underlying22 info3 rfl rfl (by omega) (by omega) (Nat.mul_one _)) ?_
    refine GD_take 3 rfl (by kernel_rfl) (by kernel_rfl) (by kernel_rfl) (by kernel_rfl) rfl rfl rfl (qv fun wq hC => by exact r_load1 rfl Try.underlying3 (by subst hC; exact h21)) ?_
    refine GD_pure 4 rfl (by kernel_rfl) (by kernel_rfl) (by kernel_rfl) (by kernel_rfl) rfl rfl rfl (qv fun wq hC => by exact r_move) ?_
    refine GD_pure 5 rfl (by kernel_rfl) (by kernel_rfl) (by kernel_rfl) (by kernel_rfl) rfl rfl rfl (qv fun wq hC => by exact r_move) ?_
    refine GD_pure 6 rfl (by kernel_rfl) (by kernel_rfl) (by kernel_rfl) (by kernel_rfl) rfl rfl rfl (qv fun wq hC => by exact r_indexS Try.underlying22 info3 rfl rfl (by omega) (by omega) (Nat.mul_one _)) ?_
    refine GD_take 7 rfl (by kernel_rfl) (by kernel_rfl) (by kernel_rfl) (by kernel_rfl) rfl rfl rfl (qv fun wq hC => by exact r_load1 rfl Try.underlying3 (by subst hC; exact h25)) ?_
    refine GD_pure 8 rfl (by kernel_rfl) (by kernel_rfl) (by kernel_rfl) (by kernel_rfl) rfl rfl rfl (qv fun wq hC => by exact r_sub rfl rfl (by omega)) ?_
    refine GD_pure 9 rfl (by kernel_rfl) (by kernel_rfl) (by kernel_rfl) (by kernel_rfl) rfl rfl rfl (qv fun wq hC => by exact r_max rfl rfl rfl) ?_
    refine GD_pure 10 rfl (by kernel_rfl) (by kernel_rfl) (by kernel_rfl) (by kernel_rfl) rfl rfl rfl (qv fun wq hC => by exact r_assign) ?_
    refine GD_end (by kernel_rfl) (fun _ => rfl) ?_
    refine Tn (Sq (Rg ?_))
    have hlk : lkF lv f y.length k = max 0 (lv k - f k) := if_pos hkl
    have hBd := hB.drew
    refine Mv (Mv ?_)
    refine g_lit1 bs22 rfl rfl (h := fun g17 w17 N17 => ?_)
    refine g_appendR (Kd.int .i64) Try.underlying22 zi3 rfl (by decide) (rN (rB HR (Bel.drew (Below.refl _ _))) N17) (cs := [.int .i64 (lkF lv f y.length k)]) (by rw [hlk]; exact N17.at_) (p := lkF lv f y.length k) (okp := fun _ => False) rfl (fun _ h => h.elim) (fun _ _ => trivial) (Nat.le_trans hBd.size N17.ch.size) (by rw [lvList_len]; omega) (by rw [lvList_len]; simp [maxLen]; omega) rfl rfl (h := fun v18 w18 HR18 hg18 _ => ?_)
    have hB18 := (hBd.new N17).grown hg18 (Kd.R_base HR)
    have hdry : dryP y lv f k = decide (max 0 (lv k - f k) < (yd y k).f2) := rfl
    refine As (Nl (Tn (Rg (Mv (Mv ?_)))))
    cases q33 : b with
    | true =>
      refine Mv (Mv (Mv ?_))
      refine g_indexS Try.underlying35 info70 rfl rfl (by omega) (by omega) rfl (h := ?_)
      refine Fa f70_2 rfl (L1 Try.underlying3 (hB18.cellk (h39 2 (.int .i64 (yd y k).f2) (by rw [yd_get y k hkl]; rfl))) rfl ?_)
      refine g_geq rfl rfl (h1 := fun c40 => ?_) (h2 := fun c40 => ?_)
      · skip
        refine Pt rfl (As (Nl (Bn (Tn (Rg (Mv ?_))))))
        refine g_add rfl rfl (by omega) (h := ?_)
        refine As (Nl ?_)
        exact round_end (y.length - (k + 1)) (by omega) ⟨k + 1, v18, true, _, has rfl (has rfl (has rfl (has rfl (has rfl (has rfl rfl))))), hkl, rfl, by rw [lvList_succ]; exact HR18, hB18, .inl ⟨rfl, fun i hi => by
          by_cases e : i = k
          · subst e; rw [hdry]; exact decide_eq_false (by omega)
          · rcases hb with ⟨_, h⟩ | ⟨h, _⟩
            · exact h i (by omega)
            · rw [q33] at h; cases h⟩⟩
      · skip
        refine Pt rfl (As (Nl (Bn (Tn (Rg (Mv ?_))))))
        refine g_add rfl rfl (by omega) (h := ?_)
        refine As (Nl ?_)
        exact round_end (y.length - (k + 1)) (by omega) ⟨k + 1, v18, false, _, has rfl (has rfl (has rfl (has rfl (has rfl (has rfl rfl))))), hkl, rfl, by rw [lvList_succ]; exact HR18, hB18, .inr ⟨rfl, dryUp_neg_lt hkl (by rw [hdry]; exact decide_eq_true (by omega))⟩⟩
    | false =>
      refine Of (Of (Of (Of (Of (Of (Of (Pf rfl (As (Nl (Bn (Tn (Rg (Mv ?_)))))))))))))
      refine g_add rfl rfl (by omega) (h := ?_)
      refine As (Nl ?_)
      exact round_end (y.length - (k + 1)) (by omega) ⟨k + 1, v18, false, _, has rfl (has rfl (has rfl (has rfl (has rfl (has rfl rfl))))), hkl, rfl, by rw [lvList_succ]; exact HR18, hB18, by
        rcases hb with ⟨h, _⟩ | ⟨_, h⟩
        · rw [q33] at h; cases h
        · exact .inr ⟨rfl, h⟩⟩
  · skip
    refine Nl (Tn (Cf rfl (Xi (Tx (Tx (Bs (Tn (Sq (Rg (Mv (Mv (As (As (Nl (Tn (Rt ?_))))))))))))))))
    obtain rfl : k = y.length := by omega
    exact ret2 rfl ⟨v, by
      rcases hb with ⟨rfl, h⟩ | ⟨rfl, h⟩
      · rw [decide_eq_true ((dryUp_neg _ _).2 h)]; rfl
      · rw [decide_eq_false h]; rfl, HR, hB⟩
end Go.Proofs.B
