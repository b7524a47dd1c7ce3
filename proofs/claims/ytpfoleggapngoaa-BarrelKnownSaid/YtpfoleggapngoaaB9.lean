/- barrel: books. -/
import Derived.Test.YtpfoleggapngoaaGd
import Derived.Test.YtpfoleggapngoaaB8
set_option linter.unusedVariables false
set_option linter.unusedSimpArgs false
set_option maxRecDepth 10000
namespace Go.Proofs.B
open Go Go.RowKit Go.Proofs Go.Proofs.G Go.Proofs.F Go.Proofs.YtpfoleggapngoaaW.PrintWords
def enc76 (x : S76) : List Value := [.int .i64 x.f0, .int .i64 x.f1, .int .i64 x.f2.f0, .int .i64 x.f2.f1]
theorem at76 {w w1 : World} {A : Option Addr} {n : Nat} {xs : List S76} (h : k76.C w A n xs) (hB : Bel w w1) (k : Nat) (hk : k < xs.length) :
    ∃ ad, A = some ad ∧ ∀ j u, (enc76 xs[k])[j]? = some u → w1.cell? ((ad.add (k * 4)).add j) = some u := by
  obtain ⟨ad, cs, rfl, _, hK, hc⟩ := Kd.C_get h z76 k (by omega) (by have := h.1; omega)
  have hcs := k76_open hK
  have hx : xs.getD (k : Int).toNat z76 = xs[k] := by simp [List.getD_eq_getElem?_getD, hk]
  rw [hx] at hcs
  subst hcs
  exact ⟨ad, rfl, cells_at hc hB⟩
abbrev zero76 : Value := .agg #[.int .i64 0, .int .i64 0, .int .i64 0, .int .i64 0]
abbrev ag76 (x : S76) : Value := .agg #[.int .i64 x.f0, .int .i64 x.f1, .int .i64 x.f2.f0, .int .i64 x.f2.f1]
theorem one76 (x : S76) : ∀ v ∈ (enc76 x).toArray, v.oneCell' = true := by simp [enc76, Value.oneCell']
theorem least_c (x : S76) (w : World) : Calls Try.prog 88 #[.agg #[.int .i64 x.f0, .int .i64 x.f1, .int .i64 x.f2.f0, .int .i64 x.f2.f1]] w fun e w' => e = .returned (.int .i64 x.f2.f0) ∧ Bel w w' := by
  refine G_enter (l := [.agg #[.int .i64 x.f0, .int .i64 x.f1, .int .i64 x.f2.f0, .int .i64 x.f2.f1]]) Try.func88 rfl rfl ?_
  refine Sq (Rg ?_)
  refine g_box rfl (h := fun g1 w1 N1 => ?_)
  have K1 := N1.at_
  refine As (Nl (Tn (Sq (Rg (Fb f139_0 rfl (Fb f76_2 rfl (Fb f68_0 rfl (L1 Try.underlying3 (cellAt K1 rfl) rfl (As (Nl (Tn (Rt ?_))))))))))))
  exact ret1 rfl ⟨rfl, Bel.of_new N1⟩
theorem greatest_c (x : S76) (w : World) : Calls Try.prog 89 #[.agg #[.int .i64 x.f0, .int .i64 x.f1, .int .i64 x.f2.f0, .int .i64 x.f2.f1]] w fun e w' => e = .returned (.int .i64 x.f2.f1) ∧ Bel w w' := by
  refine G_enter (l := [.agg #[.int .i64 x.f0, .int .i64 x.f1, .int .i64 x.f2.f0, .int .i64 x.f2.f1]]) Try.func89 rfl rfl ?_
  refine Sq (Rg ?_)
  refine g_box rfl (h := fun g1 w1 N1 => ?_)
  have K1 := N1.at_
  refine As (Nl (Tn (Sq (Rg (Fb f139_0 rfl (Fb f76_2 rfl (Fb f68_1 rfl (L1 Try.underlying3 (cellAt K1 rfl) rfl (As (Nl (Tn (Rt ?_))))))))))))
  exact ret1 rfl ⟨rfl, Bel.of_new N1⟩
def moveOk (n : Int) (m : S76) : Bool := decide ((0 ≤ m.f0 ∧ m.f0 ≤ n - 1) ∧ (0 ≤ m.f1 ∧ m.f1 ≤ n - 1) ∧ m.f0 ≠ m.f1 ∧ spanOk m.f2.f0 m.f2.f1 1000 = true)
def bookOk (n : Int) (l : List S76) : Bool := decide ((2 ≤ n ∧ n ≤ 6) ∧ (1 ≤ (l.length : Int) ∧ (l.length : Int) ≤ 10)) && l.all (moveOk n)
theorem checkBook_c (A : Option Addr) (c : Nat) (n : Int) (l : List S76) (w : World) (hs : k76.C w A l.length l) :
    Calls Try.prog 35 #[.agg #[.int .i64 n, .slice A l.length c]] w fun e w' => e = .returned (.int .i64 (if bookOk n l = true then 0 else 63)) ∧ Bel w w' := by
  have hmax : l.length ≤ 9223372036854775807 := hs.2.1
  refine G_enter (l := [.agg #[.int .i64 n, .slice A l.length c]]) Try.func35 rfl rfl ?_
  refine Sq (Rg ?_)
  refine g_box rfl (h := fun g1 w1 N1 => ?_)
  have K1 := N1.at_
  have hB1 := Bel.of_new N1
  have K1a : w1.heap[g1]? = some (.cells #[.int .i64 n, .slice A l.length c] 49 (0, 0)) := K1
  refine As (Nl (Tn ?_))
  refine GC_join (fun σ w' => ∃ (b : Bool) (τ : Nat → Value), σ = upd (upd τ 1 (.pointer (some ⟨g1, 0, none⟩))) 3 (.bool b) ∧ w' = w1 ∧ b = decide ((2 ≤ n ∧ n ≤ 6) ∧ (1 ≤ (l.length : Int) ∧ (l.length : Int) ≤ 10))) ?_ ?_
  · skip
    refine Rg (Fb f49_0 rfl (L1 Try.underlying3 (cellAt K1a rfl) rfl ?_))
    refine g_within rfl rfl rfl (h1 := fun c8 => ?_) (h2 := fun c8 => ?_)
    · skip
      refine Mv (Fb f49_1 rfl (L1 Try.underlying47 (cellAt K1a rfl) rfl (Ln Try.underlying47 rfl ?_)))
      refine g_within rfl rfl rfl (h1 := fun c13 => ?_) (h2 := fun c13 => ?_)
      · skip
        refine Pt rfl (As (Nl ?_))
        exact join_end ⟨true, _, has rfl (has rfl rfl), rfl, (decide_eq_true ⟨c8, c13⟩).symm⟩
      · skip
        refine Pt rfl (As (Nl ?_))
        exact join_end ⟨false, _, has rfl (has rfl rfl), rfl, (decide_eq_false (fun h => c13 h.2)).symm⟩
    · skip
      refine Mv (Of (Of (Of (Of (Pf rfl (As (Nl ?_)))))))
      exact join_end ⟨false, _, has rfl (has rfl rfl), rfl, (decide_eq_false (fun h => c8 h.1)).symm⟩
  · rintro _ w2 ⟨b, τ, rfl, rfl, hb⟩
    refine Sq (Sq (Rg (Fb f49_1 rfl (L1 Try.underlying47 (cellAt K1a rfl) rfl (Ln Try.underlying47 rfl (Mv (Nl (Tn (Bk ?_)))))))))
    refine GC_loop (fun m σ w' => ∃ (k : Nat) (τ : Nat → Value), σ = upd (upd (upd (upd (upd τ 1 (.pointer (some ⟨g1, 0, none⟩))) 3 (.bool (b && (l.take k).all (moveOk n)))) 16 (.slice A l.length c)) 17 (.int .i64 l.length)) 18 (.int .i64 k) ∧ k ≤ l.length ∧ m = l.length - k ∧ w'.heap[g1]? = some (.cells #[.int .i64 n, .slice A l.length c] 49 (0, 0)) ∧ Bel w w') (l.length) ⟨0, _, has rfl (has rfl (has rfl (has (congrArg Value.bool (by simp)) (has rfl rfl)))), Nat.zero_le _, rfl, K1a, hB1⟩ ?_
    rintro m _ w3 ⟨k, τ, rfl, hk, rfl, K1b, hB⟩
    have hok := okAll b (moveOk n) l k
    refine Sq (Rg ?_)
    refine g_lss rfl rfl (h1 := fun c19 => ?_) (h2 := fun c19 => ?_)
    · skip
      refine Nl (Tn (Sq (Ct rfl (Sk (Tn (Sq (Bk (Sq (Rg ?_)))))))))
      have hkl : k < l.length := by omega
      obtain ⟨ad, hA, h21⟩ := at76 hs hB k hkl
      rw [hA]
      replace hok := hok hkl
      generalize l[k] = z at *
      refine g_indexS Try.underlying47 info76 rfl rfl (by omega) (by omega) rfl (h := ?_)
      refine g_loadA rfl Try.underlying76 info76 (l := enc76 z) h21 (h := ?_)
      refine g_alloc (z := zero76) (by kernel_rfl) (h := fun g5 w5 N5 => ?_)
      have K5 := N5.at_
      have hB5 := hB.new N5
      refine g_storeA rfl rfl info76 K5 rfl (one76 z) (h := fun w6 P6 => ?_)
      have K6 := P6.at_
      have hB6 := hB5.put P6 (Nat.le_trans hB.size N5.ge)
      have K1c := kP (kN K1b N5) P6 (N5.ne K1b)
      rw [hA] at K1c
      refine Nl (Tn (Rg (Mv (Mv ?_))))
      cases q23 : (b && (l.take k).all (moveOk n)) with
      | true =>
        have hn6 : (2 ≤ n ∧ n ≤ 6) := by have h := (Bool.and_eq_true_iff.1 q23).1; rw [hb] at h; exact (of_decide_eq_true h).1
        refine Fb f76_0 rfl (L1 Try.underlying3 (cellAt K6 rfl) rfl (Fb f49_0 rfl (L1 Try.underlying3 (cellAt K1c rfl) rfl ?_)))
        refine g_sub rfl rfl (by omega) (h := ?_)
        refine g_within rfl rfl rfl (h1 := fun c29 => ?_) (h2 := fun c29 => ?_)
        · skip
          refine Pt rfl (Mv (Fb f76_1 rfl (L1 Try.underlying3 (cellAt K6 rfl) rfl (Fb f49_0 rfl (L1 Try.underlying3 (cellAt K1c rfl) rfl ?_)))))
          refine g_sub rfl rfl (by omega) (h := ?_)
          refine g_within rfl rfl rfl (h1 := fun c37 => ?_) (h2 := fun c37 => ?_)
          · skip
            refine Pt rfl (Mv (Fb f76_0 rfl (L1 Try.underlying3 (cellAt K6 rfl) rfl (Fb f76_1 rfl (L1 Try.underlying3 (cellAt K6 rfl) rfl ?_)))))
            refine g_neq rfl rfl (h1 := fun c44 => ?_) (h2 := fun c44 => ?_)
            · skip
              refine Pt rfl (Mv (Fb f76_2 rfl ?_))
              refine g_loadA rfl Try.underlying68 info68 (l := [.int .i64 z.f2.f0, .int .i64 z.f2.f1]) (fun j u h => by rw [add_lit]; match j with | 0 => exact cellAt K6 h | 1 => exact cellAt K6 h | j + 2 => cases h) (h := ?_)
              refine g_call he76 rfl (spanned_c _ _ _ _) (h := ?_)
              rintro e w49 ⟨rfl, hb49⟩
              refine ⟨_, rfl, ?_⟩
              refine Pt rfl (As (Nl (Bn (Tn (Rg ?_)))))
              refine g_add rfl rfl (by omega) (h := ?_)
              refine Mv (Nl ?_)
              rw [q23, Bool.true_and] at hok
              exact round_end (l.length - (k + 1)) (by omega) ⟨k + 1, _, has rfl (has rfl (has rfl (has (congrArg Value.bool (by rw [hok, moveOk]; simp only [c29, c37, c44, true_and, ne_eq, not_false_eq_true, and_self]; simp)) (has rfl rfl)))), hkl, rfl, kB K1c hb49, hB6.bel hb49⟩
            · skip
              refine Pt rfl (Mv (Of (Of (Of (Pf rfl (As (Nl (Bn (Tn (Rg ?_))))))))))
              refine g_add rfl rfl (by omega) (h := ?_)
              refine Mv (Nl ?_)
              rw [q23, Bool.true_and] at hok
              exact round_end (l.length - (k + 1)) (by omega) ⟨k + 1, _, has rfl (has rfl (has rfl (has (congrArg Value.bool (by rw [hok, moveOk, decide_eq_false (by simp [*])])) (has rfl rfl)))), hkl, rfl, K1c, hB6⟩
          · skip
            refine Pt rfl (Mv (Of (Of (Of (Of (Of (Pf rfl (Mv (Of (Of (Of (Pf rfl (As (Nl (Bn (Tn (Rg ?_)))))))))))))))))
            refine g_add rfl rfl (by omega) (h := ?_)
            refine Mv (Nl ?_)
            rw [q23, Bool.true_and] at hok
            exact round_end (l.length - (k + 1)) (by omega) ⟨k + 1, _, has rfl (has rfl (has rfl (has (congrArg Value.bool (by rw [hok, moveOk, decide_eq_false (by simp [*])])) (has rfl rfl)))), hkl, rfl, K1c, hB6⟩
        · skip
          refine Pt rfl (Mv (Of (Of (Of (Of (Of (Of (Pf rfl (Mv (Of (Of (Of (Of (Of (Pf rfl (Mv (Of (Of (Of (Pf rfl (As (Nl (Bn (Tn ?_))))))))))))))))))))))))
          refine Rg ?_
          refine g_add rfl rfl (by omega) (h := ?_)
          refine Mv (Nl ?_)
          rw [q23, Bool.true_and] at hok
          exact round_end (l.length - (k + 1)) (by omega) ⟨k + 1, _, has rfl (has rfl (has rfl (has (congrArg Value.bool (by rw [hok, moveOk, decide_eq_false (by simp [*])])) (has rfl rfl)))), hkl, rfl, K1c, hB6⟩
      | false =>
        refine Of (Of (Of (Of (Of (Of (Pf rfl (Mv (Of (Of (Of (Of (Of (Of (Pf rfl (Mv (Of (Of (Of (Of (Of (Pf rfl (Mv (Of (Of ?_))))))))))))))))))))))))
        refine Of (Pf rfl (As (Nl (Bn (Tn (Rg ?_))))))
        refine g_add rfl rfl (by omega) (h := ?_)
        refine Mv (Nl ?_)
        rw [q23, Bool.false_and] at hok
        exact round_end (l.length - (k + 1)) (by omega) ⟨k + 1, _, has rfl (has rfl (has rfl (has (congrArg Value.bool hok.symm) (has rfl rfl)))), hkl, rfl, K1c, hB6⟩
    · skip
      refine Nl (Tn (Sq (Cf rfl (Xi (Tx (Tx (Bs (Tn (Sq (Sq (Rg (Mv ?_))))))))))))
      have hke : k = l.length := by omega
      have hbo : bookOk n l = (b && (l.take k).all (moveOk n)) := by rw [hke, List.take_length, hb]; rfl
      refine Nt rfl (Nl (Tn ?_))
      cases q53 : (!(b && (l.take k).all (moveOk n))) with
      | true =>
        refine Ct rfl (Sq (Rg (As (Nl (Tn (Rt (Tr ?_)))))))
        exact ret1 rfl ⟨by rw [if_neg (fun h => by rw [hbo] at h; rw [h] at q53; cases q53)]; rfl, hB⟩
      | false =>
        refine Cf rfl (Sk (Tn (Sq (Rg (As (Nl (Tn (Rt ?_))))))))
        exact ret1 rfl ⟨by rw [if_pos (by rw [hbo]; revert q53; cases (b && (l.take k).all (moveOk n)) <;> simp)]; rfl, hB⟩

/-! ### over, walk -/
abbrev mv (l : List S76) (k : Nat) : S76 := l.getD k z76
theorem mv_get (l : List S76) (k : Nat) (h : k < l.length) : mv l k = l[k] := by simp [List.getD_eq_getElem?_getD, h]
def ovf (l : List S76) (cs : List Int) : Nat → Nat → Int
  | 0, _ => 0
  | k + 1, s => ovf l cs k s + (if (mv l k).f1 = s then rd cs k else 0) - (if (mv l k).f0 = s then rd cs k else 0)
theorem ovf_bd (l : List S76) (cs : List Int) (h : ∀ k : Nat, -1000000 ≤ rd cs k ∧ rd cs k ≤ 1000000) : ∀ (k s : Nat), -(2000000 * (k : Int)) ≤ ovf l cs k s ∧ ovf l cs k s ≤ 2000000 * (k : Int)
  | 0, s => by simp [ovf]
  | k + 1, s => by
    have h1 := ovf_bd l cs h k s
    have h2 := h k
    unfold ovf
    split <;> split <;> omega
theorem rd_bd {cs : List Int} (h : ∀ x ∈ cs, -1000000 ≤ x ∧ x ≤ 1000000) (k : Nat) : -1000000 ≤ rd cs k ∧ rd cs k ≤ 1000000 := by
  by_cases hk : k < cs.length
  · exact h _ (rd_mem (by omega) (by omega))
  · have : rd cs k = 0 := by simp [rd, List.getD_eq_getElem?_getD, show cs.length ≤ k by omega]
    rw [this]; decide
theorem range_set (N t : Nat) (f : Nat → Int) (v : Int) (ht : t < N) : ((List.range N).map f).set t v = (List.range N).map (fun s => if s = t then v else f s) := by
  apply List.ext_getElem
  · simp
  · intro i h1 h2
    simp [List.getElem_set]
    by_cases h : t = i
    · simp [h]
    · rw [if_neg h, if_neg (fun e => h e.symm)]
theorem rdO_range (N t : Nat) (f : Nat → Int) (ht : t < N) : rdOf 0 ((List.range N).map f) (t : Int) = f t := by simp [rdOf, List.getD_eq_getElem?_getD, ht]
theorem range_congr {N : Nat} {f g : Nat → Int} (h : ∀ i, i < N → f i = g i) : (List.range N).map f = (List.range N).map g := by
  apply List.map_congr_left
  intro i hi
  exact h i (by simpa using hi)
theorem oneI (n : Int) : (Kd.int .i64).M = (Kd.int .i64).M := rfl

set_option maxHeartbeats 2000000 in
theorem over_c (A B : Option Addr) (c d : Nat) (N : Nat) (l : List S76) (cs : List Int) (w : World) (hs : k76.C w A l.length l) (hc : (Kd.int .i64).C w B cs.length cs) (hlen : cs.length = l.length) (hl10 : l.length ≤ 1000) (hN : N ≤ 1000)
    (hm : ∀ k, k < l.length → (0 ≤ (mv l k).f0 ∧ (mv l k).f0 < N) ∧ (0 ≤ (mv l k).f1 ∧ (mv l k).f1 < N)) (hb : ∀ x ∈ cs, -1000000 ≤ x ∧ x ≤ 1000000) :
    Calls Try.prog 82 #[.agg #[.int .i64 N, .slice A l.length c], .slice B cs.length d] w fun e w' => ∃ v, e = .returned v ∧ (Kd.int .i64).R 3 w' w.heap.size (fun _ => True) v ((List.range N).map (ovf l cs l.length)) ∧ Bel w w' := by
  refine G_enter (l := [.agg #[.int .i64 N, .slice A l.length c], .slice B cs.length d]) Try.func82 rfl rfl ?_
  refine Sq (Rg ?_)
  refine g_box rfl (h := fun g2 w2 N2 => ?_)
  have K2 := N2.at_
  have hB2 := Bel.of_new N2
  have K2a : w2.heap[g2]? = some (.cells #[.int .i64 N, .slice A l.length c] 130 (0, 0)) := K2
  refine As (Nl (Tn (Sq (Rg (Fb f130_0 rfl (Fb f49_0 rfl (L1 Try.underlying3 (cellAt K2a rfl) rfl ?_)))))))
  refine g_makeR (Kd.int .i64) (n := N) (z := .int .i64 0) (z0 := 0) (bytes := 8) (okp := fun _ => True) Try.underlying22 zi3 rfl (by decide) (by decide) rfl rfl rfl (by omega) (h := fun gr w11 HR0 hg11 => ?_)
  have hB11 := hB2.grown hg11 (fun k hk => by cases hk)
  have K2b := kG K2a hg11 (by intro h; cases h)
  have HR0 := Kd.R_lower HR0 hB2.size
  refine As (Nl (Tn (Sq (Sq (Rg (Fb f130_0 rfl (Fb f49_1 rfl (L1 Try.underlying47 (cellAt K2b rfl) rfl (Ln Try.underlying47 rfl (Mv (Nl (Tn (Bk ?_)))))))))))))
  refine GC_loop (fun m σ w' => ∃ (k : Nat) (τ : Nat → Value), σ = upd (upd (upd (upd (upd (upd τ 1 (.slice B cs.length d)) 2 (.pointer (some ⟨g2, 0, none⟩))) 5 (.slice (some ⟨gr, 0, none⟩) N N)) 14 (.slice A l.length c)) 15 (.int .i64 l.length)) 16 (.int .i64 k) ∧ k ≤ l.length ∧ m = l.length - k ∧ (Kd.int .i64).R 3 w' w.heap.size (fun _ => True) (.slice (some ⟨gr, 0, none⟩) N N) ((List.range N).map (ovf l cs k)) ∧ Bel w w') (l.length) ⟨0, _, has rfl (has rfl (has rfl (has rfl (has rfl (has rfl rfl))))), Nat.zero_le _, rfl, by rw [show (List.range N).map (ovf l cs 0) = List.replicate N 0 from by simp [ovf, List.map_const']]; exact HR0, hB11⟩ ?_
  rintro m _ w3 ⟨k, τ, rfl, hk, rfl, HR, hB⟩
  refine Sq (Rg ?_)
  refine g_lss rfl rfl (h1 := fun c17 => ?_) (h2 := fun c17 => ?_)
  · skip
    refine Nl (Tn (Sq (Ct rfl (Sk (Tn (Sq (Bk (Sq (Rg (Mv ?_))))))))))
    have hkl : k < l.length := by omega
    obtain ⟨ad, hA, h20⟩ := at76 hs hB k hkl
    rw [hA]
    obtain ⟨hm0, hm1⟩ := hm k hkl
    have hbk := rd_bd hb k
    have hbo := ovf_bd l cs (rd_bd hb) k
    refine g_indexS Try.underlying47 info76 rfl rfl (by omega) (by omega) rfl (h := ?_)
    refine g_loadA rfl Try.underlying76 info76 (l := enc76 l[k]) h20 (h := ?_)
    refine g_alloc (z := zero76) (by kernel_rfl) (h := fun g7 w7 N7 => ?_)
    have K7 := N7.at_
    have hB7 := hB.new N7
    have HR1 := rN HR N7
    refine As ?_
    refine g_storeA rfl rfl info76 K7 rfl (one76 _) (h := fun w6 P6 => ?_)
    have K7a : w6.heap[g7]? = some (.cells (enc76 l[k]).toArray 76 (0, 0)) := P6.at_
    have hB6 := hB7.put P6 (Nat.le_trans hB.size N7.ge)
    have HR2 : (Kd.int .i64).R 3 w6 w.heap.size (fun _ => True) (.slice (some ⟨gr, 0, none⟩) N N) ((List.range N).map (ovf l cs k)) := Kd.R_mono (rP (Kd.R_mono (Kd.R_types HR1 K7 (by decide)) (fun _ h => h)) P6 (fun k h => h.2)) (fun _ _ => trivial)
    rw [← mv_get l k hkl] at K7a
    obtain ⟨a0, ha0⟩ := Int.eq_ofNat_of_zero_le hm0.1
    obtain ⟨a1, ha1⟩ := Int.eq_ofNat_of_zero_le hm1.1
    refine Nl (Tn (Sq ?_))
    have HRd : (Kd.int .i64).R 3 (w6.drewN 1) w.heap.size (fun _ => True) (.slice (some ⟨gr, 0, none⟩) N N) ((List.range N).map (ovf l cs k)) := rB HR2 (Bel.drew (Below.refl _ _))
    have h25 := (Kd.R_celln (0 : Int) HRd (mv l k).f1 hm1.1 (by omega)).1
    rw [ha1, rdO_range N a1 _ (by omega), ← ha1] at h25
    obtain ⟨ad2, hBB, h29⟩ := Kd.at_int (Kd.C_below hc hB6.drew) k (by omega) (by omega)
    rw [hBB]
    have hoa := hbo a1
    refine GD_start 12 [11] (fun w' => w' = w6.drewN 1) (by kernel_rfl) rfl ?_
    refine GD_pure 0 rfl (by kernel_rfl) (by kernel_rfl) (by kernel_rfl) (by kernel_rfl) rfl rfl rfl (qv fun wq hC => by exact r_move) ?_
    refine GD_pure 1 rfl (by kernel_rfl) (by kernel_rfl) (by kernel_rfl) (by kernel_rfl) rfl rfl rfl (qv fun wq hC => by exact r_fieldAddrB f76_1 rfl) ?_
    refine GD_take 2 rfl (by kernel_rfl) (by kernel_rfl) (by kernel_rfl) (by kernel_rfl) rfl rfl rfl (qv fun wq hC => by exact r_load1 rfl Try.underlying3 (by subst hC; exact cellAt K7a rfl)) ?_
    refine GD_pure 3 rfl (by kernel_rfl) (by kernel_rfl) (by kernel_rfl) (by kernel_rfl) rfl rfl rfl (qv fun wq hC => by exact r_indexO Try.underlying22 info3 rfl rfl  (by omega) (by omega) (Nat.mul_one _)) ?_
    refine GD_take 4 rfl (by kernel_rfl) (by kernel_rfl) (by kernel_rfl) (by kernel_rfl) rfl rfl rfl (qv fun wq hC => by exact r_load1 rfl Try.underlying3 (by subst hC; exact h25)) ?_
    refine GD_pure 5 rfl (by kernel_rfl) (by kernel_rfl) (by kernel_rfl) (by kernel_rfl) rfl rfl rfl (qv fun wq hC => by exact r_move) ?_
    refine GD_pure 6 rfl (by kernel_rfl) (by kernel_rfl) (by kernel_rfl) (by kernel_rfl) rfl rfl rfl (qv fun wq hC => by exact r_move) ?_
    refine GD_pure 7 rfl (by kernel_rfl) (by kernel_rfl) (by kernel_rfl) (by kernel_rfl) rfl rfl rfl (qv fun wq hC => by exact r_indexS Try.underlying22 info3 rfl rfl (by omega) (by omega) (Nat.mul_one _)) ?_
    refine GD_take 8 rfl (by kernel_rfl) (by kernel_rfl) (by kernel_rfl) (by kernel_rfl) rfl rfl rfl (qv fun wq hC => by exact r_load1 rfl Try.underlying3 (by subst hC; exact h29)) ?_
    refine GD_pure 9 rfl (by kernel_rfl) (by kernel_rfl) (by kernel_rfl) (by kernel_rfl) rfl rfl rfl (qv fun wq hC => by exact r_add rfl rfl (by omega)) ?_
    refine GD_pure 10 rfl (by kernel_rfl) (by kernel_rfl) (by kernel_rfl) (by kernel_rfl) rfl rfl rfl (qv fun wq hC => by exact r_indexO Try.underlying22 info3 rfl rfl  (by omega) (by omega) (Nat.mul_one _)) ?_
    refine GD_one 11 (by kernel_rfl) (fun _ => rfl) ?_
    refine GO_storeR (enc := Value.int .i64) rfl rfl rfl rfl info3 HRd (by omega) (by omega) (fun w7' HR3 hg7 => ?_)
    have K7b := kG (w1 := w6.drewN 1) K7a hg7 (ne_own HRd K7a (by decide))
    have hB8 := hB6.drew.grown hg7 (fun q hq => Kd.R_base HRd q hq)
    have hto : (mv l k).f1.toNat = a1 := by omega
    rw [hto, range_set N a1 _ _ (by omega)] at HR3
    refine GD_end (by kernel_rfl) (dead 11 rfl (by kernel_rfl)) ?_
    refine Tn ?_
    have HRe : (Kd.int .i64).R 3 (w7'.drewN 1) w.heap.size (fun _ => True) (.slice (some ⟨gr, 0, none⟩) N N) ((List.range N).map (fun s => if s = a1 then ovf l cs k a1 + rd cs k else ovf l cs k s)) := rB HR3 (Bel.drew (Below.refl _ _))
    have h36 := (Kd.R_celln (0 : Int) HRe (mv l k).f0 hm0.1 (by omega)).1
    rw [ha0, rdO_range N a0 _ (by omega), ← ha0] at h36
    have h40 := (Bel.cellk (hB8.drew) (w := w) (a := ad2.add k) (v := .int .i64 (rd cs k)) (by obtain ⟨ad3, e3, h3⟩ := Kd.at_int hc k (by omega) (by omega); rw [hBB] at e3; injection e3 with e3; rw [e3]; exact h3))
    have hob := hbo a0
    refine GD_start 12 [11] (fun w' => w' = w7'.drewN 1) (by kernel_rfl) rfl ?_
    refine GD_pure 0 rfl (by kernel_rfl) (by kernel_rfl) (by kernel_rfl) (by kernel_rfl) rfl rfl rfl (qv fun wq hC => by exact r_move) ?_
    refine GD_pure 1 rfl (by kernel_rfl) (by kernel_rfl) (by kernel_rfl) (by kernel_rfl) rfl rfl rfl (qv fun wq hC => by exact r_fieldAddrB f76_0 rfl) ?_
    refine GD_take 2 rfl (by kernel_rfl) (by kernel_rfl) (by kernel_rfl) (by kernel_rfl) rfl rfl rfl (qv fun wq hC => by exact r_load1 rfl Try.underlying3 (by subst hC; exact cellAt K7b rfl)) ?_
    refine GD_pure 3 rfl (by kernel_rfl) (by kernel_rfl) (by kernel_rfl) (by kernel_rfl) rfl rfl rfl (qv fun wq hC => by exact r_indexO Try.underlying22 info3 rfl rfl  (by omega) (by omega) (Nat.mul_one _)) ?_
    refine GD_take 4 rfl (by kernel_rfl) (by kernel_rfl) (by kernel_rfl) (by kernel_rfl) rfl rfl rfl (qv fun wq hC => by exact r_load1 rfl Try.underlying3 (by subst hC; exact h36)) ?_
    refine GD_pure 5 rfl (by kernel_rfl) (by kernel_rfl) (by kernel_rfl) (by kernel_rfl) rfl rfl rfl (qv fun wq hC => by exact r_move) ?_
    refine GD_pure 6 rfl (by kernel_rfl) (by kernel_rfl) (by kernel_rfl) (by kernel_rfl) rfl rfl rfl (qv fun wq hC => by exact r_move) ?_
    refine GD_pure 7 rfl (by kernel_rfl) (by kernel_rfl) (by kernel_rfl) (by kernel_rfl) rfl rfl rfl (qv fun wq hC => by exact r_indexS Try.underlying22 info3 rfl rfl (by omega) (by omega) (Nat.mul_one _)) ?_
    refine GD_take 8 rfl (by kernel_rfl) (by kernel_rfl) (by kernel_rfl) (by kernel_rfl) rfl rfl rfl (qv fun wq hC => by exact r_load1 rfl Try.underlying3 (by subst hC; exact h40)) ?_
    refine GD_pure 9 rfl (by kernel_rfl) (by kernel_rfl) (by kernel_rfl) (by kernel_rfl) rfl rfl rfl (qv fun wq hC => by exact r_sub rfl rfl (by split <;> omega)) ?_
    refine GD_pure 10 rfl (by kernel_rfl) (by kernel_rfl) (by kernel_rfl) (by kernel_rfl) rfl rfl rfl (qv fun wq hC => by exact r_indexO Try.underlying22 info3 rfl rfl  (by omega) (by omega) (Nat.mul_one _)) ?_
    refine GD_one 11 (by kernel_rfl) (fun _ => rfl) ?_
    refine GO_storeR (enc := Value.int .i64) rfl rfl rfl rfl info3 HRe (by omega) (by omega) (fun w8' HR4 hg8 => ?_)
    have hB9 := hB8.drew.grown hg8 (fun q hq => Kd.R_base HRe q hq)
    have hto0 : (mv l k).f0.toNat = a0 := by omega
    rw [hto0, range_set N a0 _ _ (by omega)] at HR4
    refine GD_end (by kernel_rfl) (dead 11 rfl (by kernel_rfl)) ?_
    refine Bn (Tn (Rg ?_))
    refine g_add rfl rfl (by omega) (h := ?_)
    refine Mv (Nl ?_)
    exact round_end (l.length - (k + 1)) (by omega) ⟨k + 1, _, has rfl (has rfl (has rfl (has rfl (has rfl (has rfl rfl))))), hkl, rfl, by
      refine Eq.mp (congrArg (fun z => (Kd.int .i64).R 3 w8' w.heap.size (fun _ => True) (.slice (some ⟨gr, 0, none⟩) N N) z) (range_congr fun s hs => ?_)) HR4
      show _ = ovf l cs k s + (if (mv l k).f1 = s then rd cs k else 0) - (if (mv l k).f0 = s then rd cs k else 0)
      have e1 : (mv l k).f1 = (s : Int) ↔ s = a1 := by omega
      have e0 : (mv l k).f0 = (s : Int) ↔ s = a0 := by omega
      simp only [e1, e0]
      clear e1 e0
      by_cases h0 : s = a0
      · by_cases h1 : s = a1
        · simp [← h0, ← h1]
        · have : ¬ a0 = a1 := fun h => h1 (h0.trans h)
          simp [h0, this]
      · by_cases h1 : s = a1
        · have : ¬ a1 = a0 := fun h => h0 (h1.trans h)
          simp [h1, this]
        · simp [h0, h1], hB9⟩
  · skip
    refine Nl (Tn (Sq (Cf rfl (Xi (Tx (Tx (Bs (Tn (Sq (Rg (Mv (As (Nl (Tn (Rt ?_)))))))))))))))
    have hke : k = l.length := by omega
    rw [hke] at HR
    exact ret1 rfl ⟨_, rfl, HR, hB⟩
end Go.Proofs.B
