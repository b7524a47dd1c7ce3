/- barrel: Balance, Proof. -/
import Derived.Test.YtpfoleggapngoaaGd
import Derived.Test.YtpfoleggapngoaaB17
set_option linter.unusedVariables false
set_option linter.unusedSimpArgs false
set_option maxRecDepth 10000
namespace Go.Proofs.B
open Go Go.RowKit Go.Proofs Go.Proofs.G Go.Proofs.F Go.Proofs.YtpfoleggapngoaaW.PrintWords
theorem build68 (w : World) (a b : Int) : (Instr.build 68 #[(0, .int .i64 a), (1, .int .i64 b)]).run Try.prog w = .ok (.agg #[.int .i64 a, .int .i64 b]) w := by kernel_rfl
theorem bs52 (w : World) (a b : Int) : (Instr.buildSlice 52 1 #[(0, .agg #[.int .i64 a, .int .i64 b])]).run Try.prog w = .ok (.slice (some ⟨w.heap.size, 0, none⟩) 1 1) (w.alloc (.cells #[.int .i64 a, .int .i64 b] 68)) := by kernel_rfl
theorem ret2n (v : Value) {x y : Int} (h2 : x = y) : Ending.returned (.tuple #[v, .int .i64 x]) = .returned (.tuple #[v, .int .i64 y]) := by rw [h2]
/-- Of what type a row's block is. -/
def Ty (t : TypeId) (w' : World) (A : Option Addr) : Prop := ∀ ad, A = some ad → ∃ cells, w'.heap[ad.block]? = some (.cells cells t (0, 0))
/-- What Balance answers. -/
def BalRes (n : Int) (l : List S76) (e : Ending) (w' : World) : Prop :=
  (bookOk n l = false ∧ e = .returned (.tuple #[.slice none 0 0, .int .i64 63])) ∨
  (bookOk n l = true ∧ ∃ N : Nat, n = N ∧ (((∃ cs met, InB l cs ∧ Stuck N l cs met) ∧ e = .returned (.tuple #[.slice none 0 0, .int .i64 65])) ∨
    ∃ cs A' out, Bal N l cs ∧ out.length = l.length ∧ (∀ k, k < l.length → Far N l k true (rd_T68 out k).f0 ∧ Far N l k false (rd_T68 out k).f1) ∧ k68.C w' A' out.length out ∧ Ty 68 w' A' ∧ e = .returned (.tuple #[.slice A' out.length out.length, .int .i64 0])))
theorem rd68_snoc_lt (out : List S68) (x : S68) (k : Nat) (h : k < out.length) : rd_T68 (out ++ [x]) k = rd_T68 out k := by
  simp [rd_T68, List.getD_eq_getElem?_getD, List.getElem?_append_left h]
theorem rd68_snoc_eq (out : List S68) (x : S68) : rd_T68 (out ++ [x]) out.length = x := by
  simp [rd_T68, List.getD_eq_getElem?_getD]
set_option maxHeartbeats 3000000 in
theorem balance_c (n : Int) (l : List S76) (A : Option Addr) (c : Nat) (w : World) (hs : k76.C w A l.length l) :
    Calls Try.prog 37 #[.agg #[.int .i64 n, .slice A l.length c]] w fun e w' => BalRes n l e w' ∧ Bel w w' := by
  refine G_enter (l := [.agg #[.int .i64 n, .slice A l.length c]]) Try.func37 rfl rfl ?_
  refine Sq (Rg ?_)
  refine g_box rfl (h := fun g1 w1 N1 => ?_)
  have K1 := N1.at_
  have hB1 := Bel.of_new N1
  have K1a : w1.heap[g1]? = some (.cells #[.int .i64 n, .slice A l.length c] 49 (0, 0)) := K1
  refine As (As (Nl (Tn (Sq (Sq (Rg ?_))))))
  refine g_loadA rfl Try.underlying49 info49 (l := [.int .i64 n, .slice A l.length c]) (cellsAt K1a) (h := ?_)
  refine g_call he35 rfl (checkBook_c A c n l _ (Kd.C_below hs hB1)) (h := ?_)
  rintro e w11 ⟨rfl, hb11⟩
  refine ⟨_, rfl, ?_⟩
  have hB11 := hB1.bel hb11
  have K1b := kB K1a hb11
  refine As (Nl (Tn (Sq (Rg (Mv ?_)))))
  refine g_neq rfl rfl (h1 := fun c13 => ?_) (h2 := fun c13 => ?_)
  · skip
    have hbo : ¬ bookOk n l = true := fun h => by rw [if_pos h] at c13; exact c13 rfl
    refine Nl (Tn (Ct rfl (Sq (Rg (Mv (As (As (Nl (Tn (Rt (Tr ?_)))))))))))
    exact ret2 rfl ⟨.inl ⟨by simpa using hbo, ret2n _ (if_neg hbo)⟩, hB11⟩
  · skip
    have hbo : bookOk n l = true := by by_cases h : bookOk n l = true; exact h; rw [if_neg h] at c13; exact absurd c13 (by decide)
    have hob  := book_n hbo
    obtain ⟨hn, hl10⟩ := hob
    have hob  := Int.eq_ofNat_of_zero_le (show 0 ≤ n by omega)
    obtain ⟨N, rfl⟩ := hob
    have hbm := book_move hbo
    have hm : ∀ k, k < l.length → (0 ≤ (mv l k).f0 ∧ (mv l k).f0 < N) ∧ (0 ≤ (mv l k).f1 ∧ (mv l k).f1 < N) := fun k hk => by have := hbm k hk; omega
    have hne : ∀ k, k < l.length → (mv l k).f0 ≠ (mv l k).f1 := fun k hk => (hbm k hk).2.2.1
    have hsp : ∀ k, k < l.length → 0 ≤ (mv l k).f2.f0 ∧ (mv l k).f2.f0 ≤ (mv l k).f2.f1 ∧ (mv l k).f2.f1 ≤ 1000 := fun k hk => (hbm k hk).2.2.2
    refine Nl (Tn (Cf rfl (Sk (Tn (Sq (Rg ?_))))))
    refine g_loadA rfl Try.underlying49 info49 (l := [.int .i64 N, .slice A l.length c]) (cellsAt K1b) (h := ?_)
    refine g_bld (build130 _ _ _) rfl (h := ?_)
    refine g_alloc (z := .agg #[.int .i64 0, .slice none 0 0]) (by kernel_rfl) (h := fun g5 w5 N5 => ?_)
    have K5 := N5.at_
    refine g_storeA rfl rfl info130 K5 rfl (by simp [Value.oneCell']) (h := fun w6 P6 => ?_)
    have K5a : w6.heap[g5]? = some (.cells #[.int .i64 N, .slice A l.length c] 130 (0, 0)) := P6.at_
    have hB6 : Bel w w6 := (hB11.new N5).put P6 (Nat.le_trans hB11.size N5.ge)
    refine Nl (Tn (Sq (Rg ?_)))
    refine g_loadA rfl Try.underlying130 info130 (l := [.int .i64 N, .slice A l.length c]) (cellsAt K5a) (h := ?_)
    refine g_call he83 rfl (balanced_c N l A c _ (Kd.C_below hs hB6) (by omega) hl10 hm hne hsp) (h := ?_)
    rintro e w19 ⟨v19, proof, rfl, hb19, hres⟩
    refine ⟨_, rfl, ?_⟩
    have hB19 := hB6.bel hb19
    have K5b := kB K5a hb19
    refine Mv (Xt rfl rfl (Xt rfl rfl (As (As (Nl (Tn (Sq (Sq (Rg (Mv ?_))))))))))
    obtain ⟨A19, n19, c19, rfl, hA19⟩ : ∃ A19 n19 c19, v19 = .slice A19 n19 c19 ∧ ((A19 = none ∧ ∃ cs met, InB l cs ∧ Stuck N l cs met) ∨ (A19 ≠ none ∧ ∃ cs, n19 = cs.length ∧ Bal N l cs ∧ (Kd.int .i64).C w19 A19 cs.length cs)) := by
      rcases hres with ⟨cs, hR, hin, hnet, _⟩ | ⟨h, cs, met, hin, hst, _⟩
      · obtain ⟨gr, cap, h, _, _, _⟩ := Kd.R_form hR (by rw [hin.1]; omega)
        rw [h] at hR
        exact ⟨some ⟨gr, 0, none⟩, cs.length, cap, h, .inr ⟨by simp, cs, rfl, ⟨hin, hnet⟩, (Kd.R_reads' hR).2.2⟩⟩
      · exact ⟨none, 0, 0, h, .inl ⟨rfl, cs, met, hin, hst⟩⟩
    refine g_eqlNil Try.underlying22 rfl rfl (h := ?_)
    refine Nl (Tn ?_)
    cases q23 : A19.isNone with
    | true =>
      refine Ct rfl (Sq (Rg (As (As (Nl (Tn (Rt (Tr ?_))))))))
      obtain ⟨_, h⟩ : A19 = none ∧ ∃ cs met, InB l cs ∧ Stuck N l cs met := by
        rcases hA19 with h | ⟨h, _⟩
        · exact h
        · cases A19 with
          | none => exact absurd rfl h
          | some _ => cases q23
      exact ret2 rfl ⟨.inr ⟨hbo, N, rfl, .inl ⟨h, rfl⟩⟩, hB19⟩
    | false =>
      obtain ⟨cs, rfl, hbal, hC19⟩ : ∃ cs, n19 = cs.length ∧ Bal N l cs ∧ (Kd.int .i64).C w19 A19 cs.length cs := by
        rcases hA19 with ⟨h, _⟩ | ⟨_, h⟩
        · rw [h] at q23; cases q23
        · exact h
      refine Cf rfl (Sk (Tn (Sq (Rg (As (Nl (Tn (Sq (Sq (Rg (Fb f130_0 rfl (Fb f49_1 rfl (L1 Try.underlying47 (cellAt K5b rfl) rfl (Ln Try.underlying47 rfl (Mv (Nl (Tn (Bk ?_))))))))))))))))))
      refine GC_loop (fun m σ w' => ∃ (k : Nat) (out : List S68) (v : Value) (τ : Nat → Value), σ = upd (upd (upd (upd (upd τ 5 (.pointer (some ⟨g5, 0, none⟩))) 6 (.slice A19 cs.length c19)) 8 v) 27 (.int .i64 l.length)) 28 (.int .i64 k) ∧ k ≤ l.length ∧ m = l.length - k ∧ out.length = k ∧ (∀ j, j < k → Far N l j true (rd_T68 out j).f0 ∧ Far N l j false (rd_T68 out j).f1) ∧ k68.R 68 w' w19.heap.size (fun _ => True) v out ∧ w'.heap[g5]? = some (.cells #[.int .i64 N, .slice A l.length c] 130 (0, 0)) ∧ Bel w19 w') (l.length) ⟨0, [], _, _, has rfl (has rfl (has rfl (has rfl (has rfl rfl)))), Nat.zero_le _, rfl, rfl, fun j hj => absurd hj (Nat.not_lt_zero _), Kd.R_nil _ _ _ _ _, K5b, Below.refl _ _⟩ ?_
      rintro m _ w3 ⟨k, out, v, τ, rfl, hk, rfl, hol, hfar, HR, K5c, hB⟩
      refine Sq (Rg ?_)
      refine g_lss rfl rfl (h1 := fun c29 => ?_) (h2 := fun c29 => ?_)
      · skip
        refine Nl (Tn (Sq (Ct rfl (Sk (Tn (Sq (Bk (Sq (Rg ?_)))))))))
        have hkl : k < l.length := by omega
        have hBk := hB19.bel hB
        refine Mv (As (Nl (Tn ?_)))
        have hBd : Bel w3 (w3.drewN 1) := Bel.drew (Below.refl _ _)
        refine GD_start 13 [11] (fun w' => Bel w3 w') (by kernel_rfl) rfl ?_
        refine GD_pure 0 rfl (by kernel_rfl) (by kernel_rfl) (by kernel_rfl) (by kernel_rfl) rfl rfl rfl (qv fun wq hC => by exact r_move) ?_
        refine GD_take 1 rfl (by kernel_rfl) (by kernel_rfl) (by kernel_rfl) (by kernel_rfl) rfl rfl rfl (qv fun wq hC => by exact r_loadA rfl Try.underlying130 info130 (l := [.int .i64 N, .slice A l.length c]) (cellsAt (kB K5c hC))) ?_
        refine GD_pure 2 rfl (by kernel_rfl) (by kernel_rfl) (by kernel_rfl) (by kernel_rfl) rfl rfl rfl (qv fun wq hC => by exact r_move) ?_
        refine GD_pure 3 rfl (by kernel_rfl) (by kernel_rfl) (by kernel_rfl) (by kernel_rfl) rfl rfl rfl (qv fun wq hC => by exact r_move) ?_
        refine GD_take 5 rfl (by kernel_rfl) (by kernel_rfl) (by kernel_rfl) (by kernel_rfl) rfl rfl rfl (qv fun wq hC => by exact r_loadA rfl Try.underlying130 info130 (l := [.int .i64 N, .slice A l.length c]) (cellsAt (kB K5c hC))) ?_
        refine GD_pure 6 rfl (by kernel_rfl) (by kernel_rfl) (by kernel_rfl) (by kernel_rfl) rfl rfl rfl (qv fun wq hC => by exact r_move) ?_
        refine GD_pure 7 rfl (by kernel_rfl) (by kernel_rfl) (by kernel_rfl) (by kernel_rfl) rfl rfl rfl (qv fun wq hC => by exact r_move) ?_
        refine GD_one 4 (by kernel_rfl) (fun _ => hBd) ?_
        refine GO_call rfl rfl rfl he84 rfl (pushedT_c N l A c cs A19 c19 k _ (Kd.C_below hs (hBk.bel hBd)) (Kd.C_below hC19 (hB.bel hBd)) (by omega) hl10 hm hne hsp hkl hbal) (fun e w35 he => ?_)
        obtain ⟨v35, rfl, hfar1, hb35⟩ := he
        refine ⟨_, rfl, ?_⟩
        have hBe := hBd.bel hb35
        refine GD_one 8 (by kernel_rfl) (fun _ => hBe) ?_
        refine GO_call rfl rfl rfl he84 rfl (pushedF_c N l A c cs A19 c19 k _ (Kd.C_below hs (hBk.bel hBe)) (Kd.C_below hC19 (hB.bel hBe)) (by omega) hl10 hm hne hsp hkl hbal) (fun e w39 he => ?_)
        obtain ⟨v39, rfl, hfar2, hb39⟩ := he
        refine ⟨_, rfl, ?_⟩
        have hBg := hBe.bel hb39
        refine GD_pure 9 rfl (by kernel_rfl) (by kernel_rfl) (by kernel_rfl) (by kernel_rfl) rfl rfl rfl (qv fun wq hC => by exact r_bld (build68 _ _ _) rfl) ?_
        refine GD_one 10 (by kernel_rfl) (fun _ => hBg) ?_
        refine GO_lits rfl rfl rfl (bs52 _ _ _) rfl (fun g41 w41 N41 => ?_)
        have hBh := hBg.new N41
        refine GD_one 11 (by kernel_rfl) (fun _ => hBh) ?_
        refine GO_appendR k68 rfl rfl rfl Try.underlying52 zi68 rfl (by decide) (rB HR hBh) (cs := [.int .i64 v35, .int .i64 v39]) N41.at_ (p := ⟨v35, v39⟩) (okp := fun _ => False) (k68_mkM _ _ _ _) (fun _ h => h.elim) (fun _ _ => trivial) (Nat.le_trans hB.size hBh.size) (by omega) (by simp [maxLen]; omega) rfl rfl (fun v42 w42 HR42 hg42 _ => ?_)
        have hBf := (hB.bel hBh).grown hg42 (Kd.R_base HR)
        have K5d := kG (kB K5c hBh) hg42 (ne_own (rB HR hBh) (kB K5c hBh) (by decide))
        refine GD_pure 12 rfl (by kernel_rfl) (by kernel_rfl) (by kernel_rfl) (by kernel_rfl) rfl rfl rfl (qv fun wq hC => by exact r_assign) ?_
        refine GD_end (by kernel_rfl) (dead 11 rfl (by kernel_rfl)) ?_
        refine Bn (Tn (Rg ?_))
        refine g_add rfl rfl (by omega) (h := ?_)
        refine Mv (Nl ?_)
        exact round_end (l.length - (k + 1)) (by omega) ⟨k + 1, out ++ [⟨v35, v39⟩], v42, _, has rfl (has rfl (has rfl (has rfl (has rfl rfl)))), hkl, rfl, by simp [hol], fun j hj => by
          by_cases e : j < out.length
          · rw [rd68_snoc_lt _ _ _ e]; exact hfar j (by omega)
          · have e2 : j = out.length := by omega
            subst e2
            rw [rd68_snoc_eq, ← hol] at *
            exact ⟨hfar1, hfar2⟩, HR42, K5d, hBf⟩
      · skip
        refine Nl (Tn (Sq (Cf rfl (Xi (Tx (Tx (Bs (Tn (Sq (Rg ?_))))))))))
        have hob  := Kd.R_form HR (by omega)
        obtain ⟨gr, cap, rfl, hgr, _, _⟩ := hob
        refine Mv (Mv (Ln Try.underlying52 rfl (Mv (Ln Try.underlying52 rfl ?_))))
        refine g_v (r_slice3 Try.underlying52 inf68 rfl rfl rfl rfl rfl (Nat.le_refl _) (Kd.R_reads' HR).2.1) (h := ?_)
        refine As (As (Nl (Tn (Rt ?_))))
        exact ret2 rfl ⟨.inr ⟨hbo, N, rfl, .inr ⟨cs, _, out, hbal, by omega, fun j hj => hfar j (by omega), (Kd.R_reads' HR).2.2, fun ad e => by
          injection e with e
          subst e
          have hob  := Kd.R_own HR
          obtain ⟨_, ho⟩ := hob
          exact own_typed ho gr rfl, ret2n _ rfl⟩⟩, hB19.bel hB⟩
/-- What Proof answers. -/
def ProofRes (n : Int) (l : List S76) (e : Ending) : Prop :=
  (bookOk n l = false ∧ e = .returned (.tuple #[.int .i64 0, .int .i64 63])) ∨
  (bookOk n l = true ∧ ∃ N : Nat, n = N ∧ ((∃ cs met, InB l cs ∧ Stuck N l cs met ∧ e = .returned (.tuple #[.int .i64 (sumN (pw2 met) N), .int .i64 0])) ∨
    ∃ cs, Bal N l cs ∧ e = .returned (.tuple #[.int .i64 0, .int .i64 4])))
set_option maxHeartbeats 3000000 in
theorem proof_c (n : Int) (l : List S76) (A : Option Addr) (c : Nat) (w : World) (hs : k76.C w A l.length l) :
    Calls Try.prog 54 #[.agg #[.int .i64 n, .slice A l.length c]] w fun e w' => ProofRes n l e ∧ Bel w w' := by
  refine G_enter (l := [.agg #[.int .i64 n, .slice A l.length c]]) Try.func54 rfl rfl ?_
  refine Sq (Rg ?_)
  refine g_box rfl (h := fun g1 w1 N1 => ?_)
  have K1 := N1.at_
  have hB1 := Bel.of_new N1
  have K1a : w1.heap[g1]? = some (.cells #[.int .i64 n, .slice A l.length c] 49 (0, 0)) := K1
  refine As (As (Nl (Tn (Sq (Sq (Rg ?_))))))
  refine g_loadA rfl Try.underlying49 info49 (l := [.int .i64 n, .slice A l.length c]) (cellsAt K1a) (h := ?_)
  refine g_call he35 rfl (checkBook_c A c n l _ (Kd.C_below hs hB1)) (h := ?_)
  rintro e w8 ⟨rfl, hb8⟩
  refine ⟨_, rfl, ?_⟩
  have hB11 := hB1.bel hb8
  have K1b := kB K1a hb8
  refine As (Nl (Tn (Sq (Rg (Mv ?_)))))
  refine g_neq rfl rfl (h1 := fun c10 => ?_) (h2 := fun c10 => ?_)
  · skip
    have hbo : ¬ bookOk n l = true := fun h => by rw [if_pos h] at c10; exact c10 rfl
    refine Nl (Tn (Ct rfl (Sq (Rg (Mv (As (As (Nl (Tn (Rt (Tr ?_)))))))))))
    exact ret2 rfl ⟨.inl ⟨by simpa using hbo, ret2n _ (if_neg hbo)⟩, hB11⟩
  · skip
    have hbo : bookOk n l = true := by by_cases h : bookOk n l = true; exact h; rw [if_neg h] at c10; exact absurd c10 (by decide)
    have hob  := book_n hbo
    obtain ⟨hn, hl10⟩ := hob
    have hob  := Int.eq_ofNat_of_zero_le (show 0 ≤ n by omega)
    obtain ⟨N, rfl⟩ := hob
    have hbm := book_move hbo
    have hm : ∀ k, k < l.length → (0 ≤ (mv l k).f0 ∧ (mv l k).f0 < N) ∧ (0 ≤ (mv l k).f1 ∧ (mv l k).f1 < N) := fun k hk => by have := hbm k hk; omega
    have hne : ∀ k, k < l.length → (mv l k).f0 ≠ (mv l k).f1 := fun k hk => (hbm k hk).2.2.1
    have hsp : ∀ k, k < l.length → 0 ≤ (mv l k).f2.f0 ∧ (mv l k).f2.f0 ≤ (mv l k).f2.f1 ∧ (mv l k).f2.f1 ≤ 1000 := fun k hk => (hbm k hk).2.2.2
    refine Nl (Tn (Cf rfl (Sk (Tn (Sq (Rg ?_))))))
    refine g_loadA rfl Try.underlying49 info49 (l := [.int .i64 N, .slice A l.length c]) (cellsAt K1b) (h := ?_)
    refine g_bld (build130 _ _ _) rfl (h := ?_)
    refine g_call he83 rfl (balanced_c N l A c _ (Kd.C_below hs hB11) (by omega) hl10 hm hne hsp) (h := ?_)
    rintro e w15 ⟨v15, proof, rfl, hb15, hres⟩
    refine ⟨_, rfl, ?_⟩
    have hB15 := hB11.bel hb15
    refine Mv (Xt rfl rfl (Xt rfl rfl (As (As (Nl (Tn (Sq (Sq (Rg (Mv ?_))))))))))
    obtain ⟨A19, n19, c19, rfl, hA19⟩ : ∃ A19 n19 c19, v15 = .slice A19 n19 c19 ∧ ((A19 = none ∧ ∃ cs met, InB l cs ∧ Stuck N l cs met ∧ proof = sumN (pw2 met) N) ∨ (A19 ≠ none ∧ ∃ cs, Bal N l cs)) := by
      rcases hres with ⟨cs, hR, hin, hnet, _⟩ | ⟨h, cs, met, hin, hst, hp⟩
      · obtain ⟨gr, cap, h, _, _, _⟩ := Kd.R_form hR (by rw [hin.1]; omega)
        exact ⟨some ⟨gr, 0, none⟩, cs.length, cap, h, .inr ⟨by simp, cs, ⟨hin, hnet⟩⟩⟩
      · exact ⟨none, 0, 0, h, .inl ⟨rfl, cs, met, hin, hst, hp⟩⟩
    refine g_neqNil Try.underlying22 rfl rfl (h := ?_)
    refine Nl (Tn ?_)
    cases q19 : (!A19.isNone) with
    | true =>
      refine Ct rfl (Sq (Rg (As (As (Nl (Tn (Rt (Tr ?_))))))))
      obtain ⟨_, cs, hcs⟩ : A19 ≠ none ∧ ∃ cs, Bal N l cs := by
        rcases hA19 with ⟨h, _⟩ | h
        · rw [h] at q19; cases q19
        · exact h
      exact ret2 rfl ⟨.inr ⟨hbo, N, rfl, .inr ⟨cs, hcs, rfl⟩⟩, hB15⟩
    | false =>
      refine Cf rfl (Sk (Tn (Sq (Rg (Mv (As (As (Nl (Tn (Rt ?_))))))))))
      obtain ⟨_, cs, met, h1, h2, rfl⟩ : A19 = none ∧ ∃ cs met, InB l cs ∧ Stuck N l cs met ∧ proof = sumN (pw2 met) N := by
        rcases hA19 with h | ⟨h, _⟩
        · exact h
        · cases A19 with
          | none => exact absurd rfl h
          | some _ => cases q19
      exact ret2 rfl ⟨.inr ⟨hbo, N, rfl, .inl ⟨cs, met, h1, h2, rfl⟩⟩, hB15⟩
end Go.Proofs.B
