/- barrel: yards. -/
import Derived.Test.YtpfoleggapngoaaG9
import Derived.Test.YtpfoleggapngoaaB2
set_option linter.unusedVariables false
set_option linter.unusedSimpArgs false
set_option maxRecDepth 10000
namespace Go.Proofs.B
open Go Go.RowKit Go.Proofs Go.Proofs.G Go.Proofs.F Go.Proofs.YtpfoleggapngoaaW.PrintWords
def spanOk (lo hi high : Int) : Bool := decide (0 ≤ lo ∧ lo ≤ hi ∧ hi ≤ high)
theorem spanned_c (lo hi high : Int) (w : World) : Calls Try.prog 76 #[.agg #[.int .i64 lo, .int .i64 hi], .int .i64 high] w fun e w' => e = .returned (.bool (spanOk lo hi high)) ∧ Bel w w' := by
  refine G_enter (l := [.agg #[.int .i64 lo, .int .i64 hi], .int .i64 high]) Try.func76 rfl rfl ?_
  refine Sq (Rg ?_)
  refine g_box rfl (h := fun g2 w2 N2 => ?_)
  have K2 := N2.at_
  have hB := Bel.of_new N2
  refine As (Nl (Tn (Sq (Rg (Fb f68_0 rfl (L1 Try.underlying3 (cellAt K2 rfl) rfl ?_))))))
  refine g_leq rfl rfl (h1 := fun c7 => ?_) (h2 := fun c7 => ?_)
  · skip
    refine Mv (Fb f68_0 rfl (L1 Try.underlying3 (cellAt K2 rfl) rfl (Fb f68_1 rfl (L1 Try.underlying3 (cellAt K2 rfl) rfl ?_))))
    refine g_leq rfl rfl (h1 := fun c13 => ?_) (h2 := fun c13 => ?_)
    · skip
      refine Pt rfl (Mv (Fb f68_1 rfl (L1 Try.underlying3 (cellAt K2 rfl) rfl (Mv ?_))))
      refine g_leq rfl rfl (h1 := fun c19 => ?_) (h2 := fun c19 => ?_)
      · skip
        refine Pt rfl (As (Nl (Tn (Rt ?_))))
        exact ret1 rfl ⟨retb (decide_eq_true ⟨c7, c13, c19⟩).symm, hB⟩
      · skip
        refine Pt rfl (As (Nl (Tn (Rt ?_))))
        exact ret1 rfl ⟨retb (decide_eq_false (fun h => c19 h.2.2)).symm, hB⟩
    · skip
      refine Pt rfl (Mv (Of (Of (Of (Of (Pf rfl (As (Nl (Tn (Rt ?_))))))))))
      exact ret1 rfl ⟨retb (decide_eq_false (fun h => c13 h.2.1)).symm, hB⟩
  · skip
    refine Mv (Of (Of (Of (Of (Of (Pf rfl (Mv (Of (Of (Of (Of (Pf rfl (As (Nl (Tn (Rt ?_))))))))))))))))
    exact ret1 rfl ⟨retb (decide_eq_false (fun h => c7 h.1)).symm, hB⟩
def enc70 (x : S70) : List Value := [.int .i64 x.f0, .int .i64 x.f1, .int .i64 x.f2, .int .i64 x.f3.f0, .int .i64 x.f3.f1]
theorem at70 {w w1 : World} {A : Option Addr} {n : Nat} {xs : List S70} (h : k70.C w A n xs) (hB : Bel w w1) (k : Nat) (hk : k < xs.length) :
    ∃ ad, A = some ad ∧ ∀ j u, (enc70 xs[k])[j]? = some u → w1.cell? ((ad.add (k * 5)).add j) = some u := by
  obtain ⟨ad, cs, rfl, _, hK, hc⟩ := Kd.C_get h z70 k (by omega) (by have := h.1; omega)
  have hcs := k70_open hK
  have hx : xs.getD (k : Int).toNat z70 = xs[k] := by simp [List.getD_eq_getElem?_getD, hk]
  rw [hx] at hcs
  subst hcs
  exact ⟨ad, rfl, cells_at hc hB⟩
def caskOk (c : S70) : Bool := decide ((1 ≤ c.f1 ∧ c.f1 ≤ 1000) ∧ (0 ≤ c.f0 ∧ c.f0 ≤ c.f1) ∧ (0 ≤ c.f2 ∧ c.f2 ≤ c.f1) ∧ spanOk c.f3.f0 c.f3.f1 1000 = true)
def yardOk (y : List S70) : Bool := decide (1 ≤ (y.length : Int) ∧ (y.length : Int) ≤ 4) && y.all caskOk
theorem okAll {α : Type} (b : Bool) (p : α → Bool) (l : List α) (k : Nat) (h : k < l.length) : (b && (l.take (k + 1)).all p) = ((b && (l.take k).all p) && p l[k]) := by
  rw [take_snoc' l k h, List.all_append]; simp [Bool.and_assoc]
theorem build121 (w : World) (a b c d e : Value) : (Instr.build 121 #[(0, .agg #[a, b, c, d, e])]).run Try.prog w = .ok (.agg #[a, b, c, d, e]) w := by kernel_rfl
theorem checkYard_c (A : Option Addr) (c : Nat) (y : List S70) (w : World) (hs : k70.C w A y.length y) :
    Calls Try.prog 26 #[.slice A y.length c] w fun e w' => e = .returned (.int .i64 (if yardOk y = true then 0 else 61)) ∧ Bel w w' := by
  have hmax : y.length ≤ 9223372036854775807 := hs.2.1
  refine G_enter (l := [.slice A y.length c]) Try.func26 rfl rfl ?_
  refine Sq (Rg (As (Nl (Tn (Sq (Rg (Mv (Ln Try.underlying35 rfl ?_))))))))
  refine g_withinN rfl rfl rfl (h := ?_)
  refine As (Nl (Tn (Sq (Sq (Rg (Mv (Ln Try.underlying35 rfl (Mv (Nl (Tn (Bk ?_)))))))))))
  refine GC_loop (fun m σ w' => ∃ (k : Nat) (τ : Nat → Value), σ = upd (upd (upd (upd τ 3 (.bool (decide (1 ≤ (y.length : Int) ∧ (y.length : Int) ≤ 4) && (y.take k).all caskOk))) 10 (.slice A y.length c)) 11 (.int .i64 y.length)) 12 (.int .i64 k) ∧ k ≤ y.length ∧ m = y.length - k ∧ Bel w w') (y.length) ⟨0, _, has rfl (has rfl (has rfl (has (congrArg Value.bool (by simp)) rfl))), Nat.zero_le _, rfl, Below.refl _ _⟩ ?_
  rintro m _ w1 ⟨k, τ, rfl, hk, rfl, hB⟩
  have hok := okAll (decide (1 ≤ (y.length : Int) ∧ (y.length : Int) ≤ 4)) caskOk y k
  refine Sq (Rg ?_)
  refine g_lss rfl rfl (h1 := fun c13 => ?_) (h2 := fun c13 => ?_)
  · skip
    refine Nl (Tn (Sq (Ct rfl (Sk (Tn (Sq (Bk (Sq (Rg ?_)))))))))
    have hkl : k < y.length := by omega
    obtain ⟨ad, rfl, h15⟩ := at70 hs hB k hkl
    replace hok := hok hkl
    generalize y[k] = z at *
    refine g_indexS Try.underlying35 info70 rfl rfl (by omega) (by omega) rfl (h := ?_)
    refine g_loadA rfl Try.underlying70 info70 (l := enc70 z) h15 (h := ?_)
    refine g_alloc (z := .agg #[.int .i64 0, .int .i64 0, .int .i64 0, .int .i64 0, .int .i64 0]) (by kernel_rfl) (h := fun g5 w5 N5 => ?_)
    have K5 := N5.at_
    have hB5 := hB.new N5
    refine g_storeA rfl rfl info70 K5 rfl (by simp [enc70, Value.oneCell']) (h := fun w6 P6 => ?_)
    have K6 := P6.at_
    have hB6 := hB5.put P6 (Nat.le_trans hB.size N5.ge)
    refine Nl (Tn (Sq (Rg ?_)))
    refine g_loadA rfl Try.underlying70 info70 (l := enc70 z) (cellsAt K6) (h := ?_)
    refine g_bld (build121 _ _ _ _ _ _) rfl (h := ?_)
    refine g_alloc (z := .agg #[.int .i64 0, .int .i64 0, .int .i64 0, .int .i64 0, .int .i64 0]) (by kernel_rfl) (h := fun g6 w6 N6 => ?_)
    have K6 := N6.at_
    have hB7 := hB6.new N6
    refine g_storeA rfl rfl info121 K6 rfl (by simp [Value.oneCell']) (h := fun w7 P7 => ?_)
    have K7 := P7.at_
    have hB8 := hB7.put P7 (Nat.le_trans hB6.size N6.ge)
    refine Nl (Tn (Rg (Mv (Mv ?_))))
    cases q19 : (decide (1 ≤ (y.length : Int) ∧ (y.length : Int) ≤ 4) && (y.take k).all caskOk) with
    | true =>
      refine Fb f121_0 rfl (Fb f70_1 rfl (L1 Try.underlying3 (cellAt K7 rfl) rfl ?_))
      refine g_within rfl rfl rfl (h1 := fun c23 => ?_) (h2 := fun c23 => ?_)
      · skip
        refine Pt rfl (Mv (Fb f121_0 rfl (Fb f70_0 rfl (L1 Try.underlying3 (cellAt K7 rfl) rfl (Fb f121_0 rfl (Fb f70_1 rfl (L1 Try.underlying3 (cellAt K7 rfl) rfl ?_)))))))
        refine g_within rfl rfl rfl (h1 := fun c32 => ?_) (h2 := fun c32 => ?_)
        · skip
          refine Pt rfl (Mv (Fb f121_0 rfl (Fb f70_2 rfl (L1 Try.underlying3 (cellAt K7 rfl) rfl (Fb f121_0 rfl (Fb f70_1 rfl (L1 Try.underlying3 (cellAt K7 rfl) rfl ?_)))))))
          refine g_within rfl rfl rfl (h1 := fun c41 => ?_) (h2 := fun c41 => ?_)
          · skip
            refine Pt rfl (Mv (Fb f121_0 rfl (Fb f70_3 rfl ?_)))
            refine g_loadA rfl Try.underlying68 info68 (l := [.int .i64 z.f3.f0, .int .i64 z.f3.f1]) (fun j u h => by rw [add_lit]; match j with | 0 => exact cellAt K7 h | 1 => exact cellAt K7 h | j + 2 => cases h) (h := ?_)
            refine g_call he76 rfl (spanned_c _ _ _ _) (h := ?_)
            rintro e w47 ⟨rfl, hb47⟩
            refine ⟨_, rfl, ?_⟩
            refine Pt rfl (As (Nl (Bn (Tn (Rg ?_)))))
            refine g_add rfl rfl (by omega) (h := ?_)
            refine Mv (Nl ?_)
            rw [q19, Bool.true_and] at hok
            exact round_end (y.length - (k + 1)) (by omega) ⟨k + 1, _, has rfl (has rfl (has rfl (has (congrArg Value.bool (by rw [hok, caskOk]; simp [c23, c32, c41])) rfl))), hkl, rfl, hB8.bel hb47⟩
          · skip
            refine Pt rfl (Mv (Of (Of (Of (Of (Pf rfl (As (Nl (Bn (Tn (Rg ?_)))))))))))
            refine g_add rfl rfl (by omega) (h := ?_)
            refine Mv (Nl ?_)
            rw [q19, Bool.true_and] at hok
            exact round_end (y.length - (k + 1)) (by omega) ⟨k + 1, _, has rfl (has rfl (has rfl (has (congrArg Value.bool (by rw [hok, caskOk, decide_eq_false (by simp [*])])) rfl))), hkl, rfl, hB8⟩
        · skip
          refine Pt rfl (Mv (Of (Of (Of (Of (Of (Of (Of (Pf rfl (Mv (Of (Of (Of (Of (Pf rfl (As (Nl (Bn (Tn (Rg ?_))))))))))))))))))))
          refine g_add rfl rfl (by omega) (h := ?_)
          refine Mv (Nl ?_)
          rw [q19, Bool.true_and] at hok
          exact round_end (y.length - (k + 1)) (by omega) ⟨k + 1, _, has rfl (has rfl (has rfl (has (congrArg Value.bool (by rw [hok, caskOk, decide_eq_false (by simp [*])])) rfl))), hkl, rfl, hB8⟩
      · skip
        refine Pt rfl (Mv (Of (Of (Of (Of (Of (Of (Of (Pf rfl (Mv (Of (Of (Of (Of (Of (Of (Of (Pf rfl (Mv (Of (Of (Of (Of (Pf rfl ?_))))))))))))))))))))))))
        refine As (Nl (Bn (Tn (Rg ?_))))
        refine g_add rfl rfl (by omega) (h := ?_)
        refine Mv (Nl ?_)
        rw [q19, Bool.true_and] at hok
        exact round_end (y.length - (k + 1)) (by omega) ⟨k + 1, _, has rfl (has rfl (has rfl (has (congrArg Value.bool (by rw [hok, caskOk, decide_eq_false (by simp [*])])) rfl))), hkl, rfl, hB8⟩
    | false =>
      refine Of (Of (Of (Of (Pf rfl (Mv (Of (Of (Of (Of (Of (Of (Of (Pf rfl (Mv (Of (Of (Of (Of (Of (Of (Of (Pf rfl (Mv (Of ?_))))))))))))))))))))))))
      refine Of (Of (Of (Pf rfl (As (Nl (Bn (Tn (Rg ?_))))))))
      refine g_add rfl rfl (by omega) (h := ?_)
      refine Mv (Nl ?_)
      rw [q19, Bool.false_and] at hok
      exact round_end (y.length - (k + 1)) (by omega) ⟨k + 1, _, has rfl (has rfl (has rfl (has (congrArg Value.bool hok.symm) rfl))), hkl, rfl, hB8⟩
  · skip
    refine Nl (Tn (Sq (Cf rfl (Xi (Tx (Tx (Bs (Tn (Sq (Sq (Rg (Mv ?_))))))))))))
    have hke : k = y.length := by omega
    refine Nt rfl (Nl (Tn ?_))
    cases q51 : (!(decide (1 ≤ (y.length : Int) ∧ (y.length : Int) ≤ 4) && (y.take k).all caskOk)) with
    | true =>
      refine Ct rfl (Sq (Rg (As (Nl (Tn (Rt (Tr ?_)))))))
      rw [hke, List.take_length] at q51
      exact ret1 rfl ⟨by rw [if_neg (fun h => by unfold yardOk at h; rw [h] at q51; cases q51)]; rfl, hB⟩
    | false =>
      refine Cf rfl (Sk (Tn (Sq (Rg (As (Nl (Tn (Rt ?_))))))))
      rw [hke, List.take_length] at q51
      exact ret1 rfl ⟨by rw [if_pos (by unfold yardOk; revert q51; cases _ : (decide (1 ≤ (y.length : Int) ∧ (y.length : Int) ≤ 4) && y.all caskOk) <;> simp)]; rfl, hB⟩

/-! ### Levels -/
def isF (f : Nat → Int) : Array Value := #[.int .i64 (f 0), .int .i64 (f 1), .int .i64 (f 2), .int .i64 (f 3)]
theorem isF_set (f : Nat → Int) (k : Nat) (hk : k < 4) (v : Int) : (isF f).setIfInBounds k (.int .i64 v) = isF (fun i => if i = k then v else f i) := by
  match k, hk with
  | 0, _ => simp [isF]
  | 1, _ => simp [isF]
  | 2, _ => simp [isF]
  | 3, _ => simp [isF]
theorem isF_get (f : Nat → Int) (k : Nat) (hk : k < 4) : (isF f)[k]? = some (.int .i64 (f k)) := by
  match k, hk with
  | 0, _ => rfl
  | 1, _ => rfl
  | 2, _ => rfl
  | 3, _ => rfl
theorem isF_congr {f g : Nat → Int} (h : ∀ i, i < 4 → f i = g i) : isF f = isF g := by simp [isF, h]
theorem isF_one (f : Nat → Int) : ∀ v ∈ isF f, v.oneCell' = true := by simp [isF, Value.oneCell']
abbrev yd (y : List S70) (i : Nat) : S70 := y.getD i z70
theorem yd_get (y : List S70) (i : Nat) (h : i < y.length) : yd y i = y[i] := by simp [List.getD_eq_getElem?_getD, h]
def begF (y : List S70) : Nat → Int := fun i => (yd y i).f0
theorem begin_c (A : Option Addr) (c : Nat) (y : List S70) (w : World) (hs : k70.C w A y.length y) (h4 : y.length ≤ 4) :
    Calls Try.prog 70 #[.slice A y.length c] w fun e w' => e = .returned (.agg (isF (begF y))) ∧ Bel w w' := by
  refine G_enter (l := [.slice A y.length c]) Try.func70 rfl rfl ?_
  refine Sq (Rg ?_)
  refine g_alloc (z := .agg (isF fun _ => 0)) (by kernel_rfl) (h := fun g2 w2 N2 => ?_)
  have K2 := N2.at_
  have hB2 := Bel.of_new N2
  refine Nl (Tn (Sq (Rg ?_)))
  refine g_alloc (z := .agg (isF fun _ => 0)) (by kernel_rfl) (h := fun g3 w3 N3 => ?_)
  have K3 := N3.at_
  have hB3 := hB2.new N3
  have K2' := kN K2 N3
  refine Nl (Tn (Sq (Sq (Rg (Mv (Ln Try.underlying35 rfl (Mv (Nl (Tn (Bk ?_))))))))))
  refine GC_loop (fun m σ w' => ∃ (k : Nat) (τ : Nat → Value), σ = upd (upd (upd (upd (upd (upd τ 0 (.slice A y.length c)) 2 (.pointer (some ⟨g2, 0, none⟩))) 3 (.pointer (some ⟨g3, 0, none⟩))) 5 (.slice A y.length c)) 6 (.int .i64 y.length)) 7 (.int .i64 k) ∧ k ≤ y.length ∧ m = y.length - k ∧ w'.heap[g2]? = some (.cells (isF fun _ => 0) 111 (0, 0)) ∧ w'.heap[g3]? = some (.cells (isF fun i => if i < k then begF y i else 0) 111 (0, 0)) ∧ Bel w w') (y.length) ⟨0, _, has rfl (has rfl (has rfl (has rfl (has rfl (has rfl rfl))))), Nat.zero_le _, rfl, K2', K3, hB3⟩ ?_
  rintro m _ w1 ⟨k, τ, rfl, hk, rfl, K2a, K3a, hB⟩
  refine Sq (Rg ?_)
  refine g_lss rfl rfl (h1 := fun c8 => ?_) (h2 := fun c8 => ?_)
  · skip
    refine Nl (Tn (Sq (Ct rfl (Sk (Tn (Sq (Bk (Sq (Rg (Mv (As (Nl (Tn (Rg (Mv (Mv (Mv ?_)))))))))))))))))
    have hkl : k < y.length := by omega
    obtain ⟨ad, hA, h15⟩ := at70 hs hB k hkl
    rw [hA]
    refine g_indexS Try.underlying35 info70 rfl rfl (by omega) (by omega) rfl (h := ?_)
    refine Fa f70_0 rfl (L1 Try.underlying3 (h15 0 _ rfl) rfl ?_)
    refine g_indexA Try.underlying111 info3 rfl rfl (by omega) (by omega) (add0 _ _) (h := ?_)
    refine g_store1 rfl rfl info3 K3a (by simp [isF]; omega) (h := fun w4 P4 => ?_)
    have K3b : w4.heap[g3]? = some (.cells (isF fun i => if i < k + 1 then begF y i else 0) 111 (0, 0)) := by
      rw [show isF (fun i => if i < k + 1 then begF y i else 0) = (isF fun i => if i < k then begF y i else 0).setIfInBounds k (.int .i64 (y[k]).f0) from ?_]
      · exact P4.at_
      · rw [isF_set _ k (by omega)]
        refine isF_congr fun i _ => ?_
        by_cases hi : i = k
        · subst hi; simp [begF, hkl]
        · have : i < k + 1 ↔ i < k := by omega
          simp [hi, this]
    have K2b := kP K2a P4 (N3.ne K2)
    refine Nl (Bn (Tn (Rg ?_)))
    refine g_add rfl rfl (by omega) (h := ?_)
    refine Mv (Nl ?_)
    exact round_end (y.length - (k + 1)) (by omega) ⟨k + 1, _, has rfl (has rfl (has rfl (has rfl (has rfl (has rfl rfl))))), hkl, rfl, K2b, K3b, hB.put P4 (Nat.le_trans hB2.size N3.ge)⟩
  · skip
    refine Nl (Tn (Sq (Cf rfl (Xi (Tx (Tx (Bs (Tn (Sq (Rg ?_))))))))))
    refine g_loadA rfl Try.underlying111 info111 (l := (isF fun i => if i < k then begF y i else 0).toList) (cellsAt K3a) (h := ?_)
    refine g_storeA rfl rfl info111 K2a rfl (by simpa using isF_one _) (h := fun w4 P4 => ?_)
    have hke : k = y.length := by omega
    refine Nl (Tn (Rt ?_))
    exact retcell rfl ⟨g2, 0, none⟩ rfl (loadVarA (l := (isF (begF y)).toList) Try.underlying111 info111 (cellsAt (by
      have hc : isF (fun i => if i < k then begF y i else 0) = isF (begF y) := isF_congr fun i _ => by
        by_cases hi : i < k
        · simp [hi]
        · simp [hi, begF, yd, List.getD_eq_getElem?_getD, show ¬ i < y.length by omega]; rfl
      have := P4.at_
      rw [hc] at this
      exact this))) ⟨rfl, hB.put P4 N2.ge⟩

theorem build116 (w : World) (f : Nat) (a : Value) : (Instr.build 116 #[(0, .func (.func f) #[] #[a])]).run Try.prog w = .ok (.agg #[.func (.func f) #[] #[a]]) w := by kernel_rfl
theorem most_c (A : Option Addr) (c : Nat) (y : List S70) (w : World) : Calls Try.prog 78 #[.slice A y.length c] w fun e w' => ∃ g, e = .returned (.agg #[.func (.func 95) #[] #[.pointer (some ⟨g, 0, none⟩)]]) ∧ w'.heap[g]? = some (.cells #[.slice A y.length c] 35 (0, 0)) ∧ w.heap.size ≤ g ∧ Bel w w' := by
  refine G_enter (l := [.slice A y.length c]) Try.func78 rfl rfl ?_
  refine Sq (Rg ?_)
  refine g_box rfl (h := fun g1 w1 N1 => ?_)
  have K1 := N1.at_
  have hB1 := Bel.of_new N1
  refine g_alloc (z := .agg #[.nilFunc]) (by kernel_rfl) (h := fun g2 w2 N2 => ?_)
  have K2 := N2.at_
  have hB2 := hB1.new N2
  refine Nl (Tn (Sq (Rg (Mf ?_))))
  refine g_bld (build116 _ _ _) rfl (h := ?_)
  refine g_storeA rfl rfl info116 K2 rfl (by simp [Value.oneCell']) (h := fun w4 P4 => ?_)
  refine Nl (Tn (Rt ?_))
  exact retcell rfl ⟨g2, 0, none⟩ rfl (loadVarA (l := [_]) Try.underlying116 info116 (cellsAt P4.at_)) ⟨g1, rfl, kP (kN K1 N2) P4 (N2.ne K1), N1.ge, hB2.put P4 (Nat.le_trans hB1.size N2.ge)⟩
theorem most1_c (A : Option Addr) (c : Nat) (y : List S70) (w : World) (hs : k70.C w A y.length y) (g : Nat) (K : w.heap[g]? = some (.cells #[.slice A y.length c] 35 (0, 0))) (month : Int) (i : Nat) (hi : i < y.length) :
    Calls Try.prog 95 #[.int .i64 month, .int .i64 i, .pointer (some ⟨g, 0, none⟩)] w fun e w' => e = .returned (.int .i64 (yd y i).f3.f1) ∧ w' = w := by
  refine G_enter (l := [.int .i64 month, .int .i64 i, .pointer (some ⟨g, 0, none⟩)]) Try.func95 rfl rfl ?_
  refine Sq (Rg (As (Nl (Tn (Sq (Rg (L1 Try.underlying35 (cellAt K rfl) rfl (Mv ?_))))))))
  obtain ⟨ad, rfl, h11⟩ := at70 hs (Below.refl _ _) i hi
  refine g_indexS Try.underlying35 info70 rfl rfl (by omega) (by omega) rfl (h := ?_)
  refine Fa f70_3 rfl (Fa f68_1 rfl (L1 Try.underlying3 (by rw [add_add' _ 3 1]; exact h11 4 _ rfl) rfl (As (Nl (Tn (Rt ?_))))))
  exact ret1 rfl ⟨by rw [yd_get y i hi]; rfl, rfl⟩
theorem run1_c (A : Option Addr) (c : Nat) (l : List (List Int)) (w : World) (hs : kRow.C w A l.length l) (g : Nat) (K : w.heap[g]? = some (.cells #[.slice A l.length c] 25 (0, 0))) (m i : Nat) (hm : m < l.length) (hi : i < (rd_L1 l m).length) :
    Calls Try.prog 72 #[.int .i64 m, .int .i64 i, .pointer (some ⟨g, 0, none⟩)] w fun e w' => e = .returned (.int .i64 (rd (rd_L1 l m) i)) ∧ w' = w := by
  refine G_enter (l := [.int .i64 m, .int .i64 i, .pointer (some ⟨g, 0, none⟩)]) Try.func72 rfl rfl ?_
  refine Sq (Rg (As (Nl (Tn (Sq (Rg (L1 Try.underlying25 (cellAt K rfl) rfl (Mv ?_))))))))
  obtain ⟨ad, A1, c1, rfl, h9, hle, hC1⟩ := at_L1 hs m (by omega) (by omega)
  refine g_indexS Try.underlying25 info22 rfl rfl (by omega) (by omega) (Nat.mul_one _) (h := ?_)
  refine L1 Try.underlying22 (h9) rfl (Mv ?_)
  obtain ⟨ad2, rfl, h12⟩ := Kd.at_int hC1 i (by omega) (by omega)
  refine g_indexS Try.underlying22 info3 rfl rfl (by omega) (by omega) (Nat.mul_one _) (h := ?_)
  refine L1 Try.underlying3 (h12) rfl (As (Nl (Tn (Rt ?_))))
  exact ret1 rfl ⟨rfl, rfl⟩

/-! ### leaked -/
def lkF (lv f : Nat → Int) (k : Nat) : Nat → Int := fun i => if i < k then max 0 (lv i - f i) else lv i
def dryUp (p : Nat → Bool) : Nat → Int
  | 0 => -1
  | k + 1 => if dryUp p k < 0 ∧ p k = true then k else dryUp p k
def dryP (y : List S70) (lv f : Nat → Int) (i : Nat) : Bool := decide (max 0 (lv i - f i) < (yd y i).f2)
theorem dryUp_rg (p : Nat → Bool) : ∀ k, -1 ≤ dryUp p k ∧ dryUp p k < k
  | 0 => by simp [dryUp]
  | k + 1 => by
    have := dryUp_rg p k
    unfold dryUp
    split <;> omega
set_option maxHeartbeats 2000000 in
theorem leaked_c (A : Option Addr) (c : Nat) (y : List S70) (lv f : Nat → Int) (F : Nat) (caps : List Value) (month : Int) (w : World) (hs : k70.C w A y.length y) (h4 : y.length ≤ 4) (hl : ∀ i, i < 4 → -1000000 ≤ lv i ∧ lv i ≤ 1000000)
    (he : ∀ args w, (callFunc F args).run Try.prog w = .ok (.enter F args) w) (hf : ∀ i, i < y.length → (-1000000 ≤ f i ∧ f i ≤ 1000000) ∧ ∀ w1, Bel w w1 → Calls Try.prog F ([Value.int .i64 month, Value.int .i64 i] ++ caps).toArray w1 fun e w' => e = .returned (.int .i64 (f i)) ∧ w' = w1) :
    Calls Try.prog 71 #[.slice A y.length c, .agg (isF lv), .int .i64 month, .agg #[.func (.func F) #[] caps.toArray]] w fun e w' => e = .returned (.tuple #[.agg (isF (lkF lv f y.length)), .int .i64 (dryUp (dryP y lv f) y.length)]) ∧ Bel w w' := by
  refine G_enter (l := [.slice A y.length c, .agg (isF lv), .int .i64 month, .agg #[.func (.func F) #[] caps.toArray]]) Try.func71 rfl rfl ?_
  refine Sq (Rg ?_)
  refine g_box rfl (h := fun g5 w5 N5 => ?_)
  have K5 := N5.at_
  have hB5 := Bel.of_new N5
  refine g_box rfl (h := fun g7 w7 N7 => ?_)
  have K7 := N7.at_
  have hB7 := hB5.new N7
  have K5b0 := kN K5 N7
  refine g_alloc (z := .agg (isF fun _ => 0)) (by kernel_rfl) (h := fun g8 w8 N8 => ?_)
  have K8 := N8.at_
  have hB8 := hB7.new N8
  have K5c := kN K5b0 N8
  have K7c := kN K7 N8
  refine As (Nl (Tn (Sq (Rg (As (Nl (Tn (Sq (Sq (Rg (Mv (Ln Try.underlying35 rfl (Mv (Nl (Tn (Bk ?_))))))))))))))))
  refine GC_loop (fun m σ w' => ∃ (k : Nat) (τ : Nat → Value), σ = upd (upd (upd (upd (upd (upd (upd (upd (upd τ 0 (.slice A y.length c)) 2 (.int .i64 month)) 5 (.pointer (some ⟨g5, 0, none⟩))) 7 (.pointer (some ⟨g7, 0, none⟩))) 8 (.pointer (some ⟨g8, 0, none⟩))) 10 (.int .i64 (dryUp (dryP y lv f) k))) 12 (.slice A y.length c)) 13 (.int .i64 y.length)) 14 (.int .i64 k) ∧ k ≤ y.length ∧ m = y.length - k ∧ w'.heap[g5]? = some (.cells (isF (lkF lv f k)) 111 (0, 0)) ∧ w'.heap[g7]? = some (.cells #[.func (.func F) #[] caps.toArray] 116 (0, 0)) ∧ w'.heap[g8]? = some (.cells (isF fun _ => 0) 111 (0, 0)) ∧ Bel w w') (y.length) ⟨0, _, has rfl (has rfl (has rfl (has rfl (has rfl (has rfl (has rfl (has rfl (has rfl rfl)))))))), Nat.zero_le _, rfl, K5c, K7c, K8, hB8⟩ ?_
  rintro m _ w1 ⟨k, τ, rfl, hk, rfl, K5a, K7a, K8a, hB⟩
  refine Sq (Rg ?_)
  refine g_lss rfl rfl (h1 := fun c15 => ?_) (h2 := fun c15 => ?_)
  · skip
    refine Nl (Tn (Sq (Ct rfl (Sk (Tn (Sq (Bk (Sq (Rg (Mv (As (Nl (Tn (Sq ?_))))))))))))))
    have hkl : k < y.length := by omega
    have hlk := hl k (by omega)
    obtain ⟨hfk, hfc⟩ := hf k hkl
    have hlk0 : lkF lv f k k = lv k := by simp [lkF]
    have hgk := isF_get (lkF lv f k) k (by omega)
    rw [hlk0] at hgk
    refine GD_start 13 [12] (fun w' => w' = w1.drewN 1) (by kernel_rfl) rfl ?_
    refine GD_pure 0 rfl (by kernel_rfl) (by kernel_rfl) (by kernel_rfl) (by kernel_rfl) rfl rfl rfl (qv fun wq hC => by exact r_move) ?_
    refine GD_pure 1 rfl (by kernel_rfl) (by kernel_rfl) (by kernel_rfl) (by kernel_rfl) rfl rfl rfl (qv fun wq hC => by exact r_move) ?_
    refine GD_pure 2 rfl (by kernel_rfl) (by kernel_rfl) (by kernel_rfl) (by kernel_rfl) rfl rfl rfl (qv fun wq hC => by exact r_indexA Try.underlying111 info3 rfl rfl (by omega) (by omega) (add0 _ _)) ?_
    refine GD_take 3 rfl (by kernel_rfl) (by kernel_rfl) (by kernel_rfl) (by kernel_rfl) rfl rfl rfl (qv fun wq hC => by exact r_load1 rfl Try.underlying3 (by subst hC; exact cellAt K5a hgk)) ?_
    refine GD_pure 4 rfl (by kernel_rfl) (by kernel_rfl) (by kernel_rfl) (by kernel_rfl) rfl rfl rfl (qv fun wq hC => by exact r_fieldAddrB f116_0 rfl) ?_
    refine GD_take 5 rfl (by kernel_rfl) (by kernel_rfl) (by kernel_rfl) (by kernel_rfl) rfl rfl rfl (qv fun wq hC => by exact r_load1 rfl Try.underlying59 (by subst hC; exact cellAt K7a rfl)) ?_
    refine GD_pure 6 rfl (by kernel_rfl) (by kernel_rfl) (by kernel_rfl) (by kernel_rfl) rfl rfl rfl (qv fun wq hC => by exact r_move) ?_
    refine GD_pure 7 rfl (by kernel_rfl) (by kernel_rfl) (by kernel_rfl) (by kernel_rfl) rfl rfl rfl (qv fun wq hC => by exact r_move) ?_
    refine GD_take 8 rfl (by kernel_rfl) (by kernel_rfl) (by kernel_rfl) (by kernel_rfl) rfl rfl rfl (qc (fun wq hC => by exact r_callv he rfl rfl) (fun wq hC => by exact by subst hC; exact hfc _ hB.drew)) ?_
    refine GD_pure 9 rfl (by kernel_rfl) (by kernel_rfl) (by kernel_rfl) (by kernel_rfl) rfl rfl rfl (qv fun wq hC => by exact r_sub rfl rfl (by omega)) ?_
    refine GD_pure 10 rfl (by kernel_rfl) (by kernel_rfl) (by kernel_rfl) (by kernel_rfl) rfl rfl rfl (qv fun wq hC => by exact r_max rfl rfl rfl) ?_
    refine GD_pure 11 rfl (by kernel_rfl) (by kernel_rfl) (by kernel_rfl) (by kernel_rfl) rfl rfl rfl (qv fun wq hC => by exact r_indexA Try.underlying111 info3 rfl rfl (by omega) (by omega) (add0 _ _)) ?_
    refine GD_store1 12 rfl (by kernel_rfl) (fun _ => rfl) rfl rfl rfl info3 K5a (by simp [isF]; omega) rfl (fun w2 P2 => ?_)
    refine GD_end (by kernel_rfl) (dead 12 rfl (by kernel_rfl)) ?_
    refine Tn (Sq ?_)
    have K5b : w2.heap[g5]? = some (.cells (isF (lkF lv f (k + 1))) 111 (0, 0)) := by
      rw [show isF (lkF lv f (k + 1)) = (isF (lkF lv f k)).setIfInBounds k (.int .i64 (max 0 (lv k - f k))) from ?_]
      · exact P2.at_
      · rw [isF_set _ k (by omega)]
        refine isF_congr fun i _ => ?_
        unfold lkF
        by_cases hi : i = k
        · subst hi; simp
        · have : i < k + 1 ↔ i < k := by omega
          simp [hi, this]
    have K7b := kP (w1 := w1.drewN 1) K7a P2 (ne_ty K7a K5a (by decide))
    have hne8 : g8 ≠ g5 := fun e => N8.ne K5b0 e.symm
    have K8b := kP (w1 := w1.drewN 1) K8a P2 hne8
    have hB2 := hB.drew.put P2 N5.ge
    obtain ⟨ad, rfl, h36⟩ := at70 hs hB2 k hkl
    have hgk2 := isF_get (lkF lv f (k + 1)) k (by omega)
    have hlk2 : lkF lv f (k + 1) k = max 0 (lv k - f k) := by simp [lkF]
    rw [hlk2] at hgk2
    have hds : dryUp (dryP y lv f) (k + 1) = if dryUp (dryP y lv f) k < 0 ∧ dryP y lv f k = true then (k : Int) else dryUp (dryP y lv f) k := rfl
    have hdp : dryP y lv f k = decide (max 0 (lv k - f k) < (y[k]).f2) := by rw [dryP, yd_get y k hkl]
    refine GD_start 13 [] (fun w' => w' = w2.drewN 1) (by kernel_rfl) rfl ?_
    refine GD_pure 0 rfl (by kernel_rfl) (by kernel_rfl) (by kernel_rfl) (by kernel_rfl) rfl rfl rfl (qv fun wq hC => by exact r_move) ?_
    refine GD_pure 1 rfl (by kernel_rfl) (by kernel_rfl) (by kernel_rfl) (by kernel_rfl) rfl rfl rfl (qv fun wq hC => by exact r_indexA Try.underlying111 info3 rfl rfl (by omega) (by omega) (add0 _ _)) ?_
    refine GD_take 2 rfl (by kernel_rfl) (by kernel_rfl) (by kernel_rfl) (by kernel_rfl) rfl rfl rfl (qv fun wq hC => by exact r_load1 rfl Try.underlying3 (by subst hC; exact cellAt K5b hgk2)) ?_
    refine GD_pure 3 rfl (by kernel_rfl) (by kernel_rfl) (by kernel_rfl) (by kernel_rfl) rfl rfl rfl (qv fun wq hC => by exact r_move) ?_
    refine GD_pure 4 rfl (by kernel_rfl) (by kernel_rfl) (by kernel_rfl) (by kernel_rfl) rfl rfl rfl (qv fun wq hC => by exact r_move) ?_
    refine GD_pure 5 rfl (by kernel_rfl) (by kernel_rfl) (by kernel_rfl) (by kernel_rfl) rfl rfl rfl (qv fun wq hC => by exact r_indexS Try.underlying35 info70 rfl rfl (by omega) (by omega) rfl) ?_
    refine GD_pure 6 rfl (by kernel_rfl) (by kernel_rfl) (by kernel_rfl) (by kernel_rfl) rfl rfl rfl (qv fun wq hC => by exact r_fieldAddr f70_2 rfl rfl) ?_
    refine GD_take 7 rfl (by kernel_rfl) (by kernel_rfl) (by kernel_rfl) (by kernel_rfl) rfl rfl rfl (qv fun wq hC => by exact r_load1 rfl Try.underlying3 (by subst hC; exact h36 2 _ rfl)) ?_
    rcases Decidable.em (max 0 (lv k - f k) < (y[k]).f2) with c37 | c37
    · skip
      refine GD_pure 8 rfl (by kernel_rfl) (by kernel_rfl) (by kernel_rfl) (by kernel_rfl) rfl rfl rfl (qv fun wq hC => by exact r_lssT rfl rfl c37) ?_
      refine GD_pure 9 rfl (by kernel_rfl) (by kernel_rfl) (by kernel_rfl) (by kernel_rfl) rfl rfl rfl (qv fun wq hC => by exact r_move) ?_
      refine GD_pure 10 rfl (by kernel_rfl) (by kernel_rfl) (by kernel_rfl) (by kernel_rfl) rfl rfl rfl (qv fun wq hC => by exact r_move) ?_
      rcases Decidable.em (dryUp (dryP y lv f) k < 0) with c40 | c40
      · skip
        refine GD_pure 11 rfl (by kernel_rfl) (by kernel_rfl) (by kernel_rfl) (by kernel_rfl) rfl rfl rfl (qv fun wq hC => by exact r_lssT rfl rfl c40) ?_
        refine GD_pure 12 rfl (by kernel_rfl) (by kernel_rfl) (by kernel_rfl) (by kernel_rfl) rfl rfl rfl (qv fun wq hC => by exact r_pickT rfl) ?_
        refine GD_end (by kernel_rfl) (fun _ => rfl) ?_
        refine Tn (Ct rfl (Rg (Mv (As (Nl (Bn (Tn (Rg ?_))))))))
        refine g_add rfl rfl (by omega) (h := ?_)
        refine Mv (Nl ?_)
        rw [hdp, decide_eq_true c37, if_pos ⟨c40, rfl⟩] at hds
        exact round_end (y.length - (k + 1)) (by omega) ⟨k + 1, _, has rfl (has rfl (has rfl (has (by rw [hds]; rfl) (has rfl (has rfl (has rfl (has rfl (has rfl rfl)))))))), hkl, rfl, K5b, K7b, K8b, hB2.drew⟩
      · skip
        refine GD_pure 11 rfl (by kernel_rfl) (by kernel_rfl) (by kernel_rfl) (by kernel_rfl) rfl rfl rfl (qv fun wq hC => by exact r_lssF rfl rfl c40) ?_
        refine GD_pure 12 rfl (by kernel_rfl) (by kernel_rfl) (by kernel_rfl) (by kernel_rfl) rfl rfl rfl (qv fun wq hC => by exact r_pickT rfl) ?_
        refine GD_end (by kernel_rfl) (fun _ => rfl) ?_
        refine Tn (Cf rfl (Sk (Bn (Tn (Rg ?_)))))
        refine g_add rfl rfl (by omega) (h := ?_)
        refine Mv (Nl ?_)
        rw [if_neg (fun h => c40 h.1)] at hds
        exact round_end (y.length - (k + 1)) (by omega) ⟨k + 1, _, has rfl (has rfl (has rfl (has (by rw [hds]; rfl) (has rfl (has rfl (has rfl (has rfl (has rfl rfl)))))))), hkl, rfl, K5b, K7b, K8b, hB2.drew⟩
    · skip
      refine GD_pure 8 rfl (by kernel_rfl) (by kernel_rfl) (by kernel_rfl) (by kernel_rfl) rfl rfl rfl (qv fun wq hC => by exact r_lssF rfl rfl c37) ?_
      refine GD_pure 9 rfl (by kernel_rfl) (by kernel_rfl) (by kernel_rfl) (by kernel_rfl) rfl rfl rfl (qv fun wq hC => by exact r_move) ?_
      refine GD_off 10 rfl (by kernel_rfl) (by kernel_rfl) (by kernel_rfl) (by kernel_rfl) rfl rfl ?_
      refine GD_off 11 rfl (by kernel_rfl) (by kernel_rfl) (by kernel_rfl) (by kernel_rfl) rfl rfl ?_
      refine GD_pure 12 rfl (by kernel_rfl) (by kernel_rfl) (by kernel_rfl) (by kernel_rfl) rfl rfl rfl (qv fun wq hC => by exact r_pickF rfl) ?_
      refine GD_end (by kernel_rfl) (fun _ => rfl) ?_
      refine Tn (Cf rfl (Sk (Bn (Tn (Rg ?_)))))
      refine g_add rfl rfl (by omega) (h := ?_)
      refine Mv (Nl ?_)
      rw [hdp, decide_eq_false c37, if_neg (fun h => by cases h.2)] at hds
      exact round_end (y.length - (k + 1)) (by omega) ⟨k + 1, _, has rfl (has rfl (has rfl (has (by rw [hds]; rfl) (has rfl (has rfl (has rfl (has rfl (has rfl rfl)))))))), hkl, rfl, K5b, K7b, K8b, hB2.drew⟩
  · skip
    refine Nl (Tn (Sq (Cf rfl (Xi (Tx (Tx (Bs (Tn (Sq (Rg ?_))))))))))
    refine g_loadA rfl Try.underlying111 info111 (l := (isF (lkF lv f k)).toList) (cellsAt K5a) (h := ?_)
    refine Mv ?_
    refine g_storeA rfl rfl info111 K8a rfl (by simpa using isF_one _) (h := fun w4 P4 => ?_)
    have hke : k = y.length := by omega
    subst hke
    refine As (Nl (Tn (Rt ?_)))
    exact retct rfl ⟨g8, 0, none⟩ rfl (loadVarA (l := (isF (lkF lv f y.length)).toList) Try.underlying111 info111 (cellsAt P4.at_)) ⟨rfl, hB.put P4 (Nat.le_trans hB7.size N8.ge)⟩
end Go.Proofs.B
