/- barrel: the reference of Balance. -/
import Derived.Test.YtpfoleggapngoaaB43
set_option linter.unusedVariables false
set_option linter.unusedSimpArgs false
set_option maxRecDepth 10000
namespace Go.Proofs.B
open Go Go.RowKit Go.Proofs Go.Proofs.G Go.Proofs.F Go.Proofs.YtpfoleggapngoaaW.PrintWords
/-- The greatest of the least number and what sets below ask for. -/
def LoR (l : List S76) (k S : Nat) (v : Int) : Prop := (v = (mv l k).f2.f0 ∨ ∃ T : Nat, T < S ∧ (pS T (mv l k).f1 = true ∧ pS T (mv l k).f0 = false) ∧ v = cutB l (pS T) k l.length) ∧ (mv l k).f2.f0 ≤ v ∧ ∀ T : Nat, T < S → (pS T (mv l k).f1 = true ∧ pS T (mv l k).f0 = false) → cutB l (pS T) k l.length ≤ v
def HiR (l : List S76) (k S : Nat) (v : Int) : Prop := (v = (mv l k).f2.f1 ∨ ∃ T : Nat, T < S ∧ (pS T (mv l k).f0 = true ∧ pS T (mv l k).f1 = false) ∧ v = - cutB l (pS T) k l.length) ∧ v ≤ (mv l k).f2.f1 ∧ ∀ T : Nat, T < S → (pS T (mv l k).f0 = true ∧ pS T (mv l k).f1 = false) → v ≤ - cutB l (pS T) k l.length
theorem LoR.keep {l : List S76} {k S : Nat} {v : Int} (h : LoR l k S v) (hn : ¬ (pS S (mv l k).f1 = true ∧ pS S (mv l k).f0 = false)) : LoR l k (S + 1) v := by
  refine ⟨?_, h.2.1, fun T hT hp => ?_⟩
  · rcases h.1 with h1 | ⟨T, h1, h2⟩
    · exact .inl h1
    · exact .inr ⟨T, by omega, h2⟩
  · by_cases e : T = S
    · subst e; exact absurd hp hn
    · exact h.2.2 T (by omega) hp
theorem LoR.more {l : List S76} {k S : Nat} {v : Int} (h : LoR l k S v) (hp : pS S (mv l k).f1 = true ∧ pS S (mv l k).f0 = false) : LoR l k (S + 1) (max v (cutB l (pS S) k l.length)) := by
  refine ⟨?_, by have := h.2.1; omega, fun T hT hp => ?_⟩
  · by_cases hle : cutB l (pS S) k l.length ≤ v
    · rw [Int.max_eq_left hle]
      rcases h.1 with h1 | ⟨T, h1, h2⟩
      · exact .inl h1
      · exact .inr ⟨T, by omega, h2⟩
    · rw [Int.max_eq_right (by omega)]
      exact .inr ⟨S, by omega, hp, rfl⟩
  · by_cases e : T = S
    · subst e; omega
    · have := h.2.2 T (by omega) hp; omega
theorem HiR.keep {l : List S76} {k S : Nat} {v : Int} (h : HiR l k S v) (hn : ¬ (pS S (mv l k).f0 = true ∧ pS S (mv l k).f1 = false)) : HiR l k (S + 1) v := by
  refine ⟨?_, h.2.1, fun T hT hp => ?_⟩
  · rcases h.1 with h1 | ⟨T, h1, h2⟩
    · exact .inl h1
    · exact .inr ⟨T, by omega, h2⟩
  · by_cases e : T = S
    · subst e; exact absurd hp hn
    · exact h.2.2 T (by omega) hp
theorem HiR.more {l : List S76} {k S : Nat} {v : Int} (h : HiR l k S v) (hp : pS S (mv l k).f0 = true ∧ pS S (mv l k).f1 = false) : HiR l k (S + 1) (min v (- cutB l (pS S) k l.length)) := by
  refine ⟨?_, by have := h.2.1; omega, fun T hT hp => ?_⟩
  · by_cases hle : v ≤ - cutB l (pS S) k l.length
    · rw [Int.min_eq_left hle]
      rcases h.1 with h1 | ⟨T, h1, h2⟩
      · exact .inl h1
      · exact .inr ⟨T, by omega, h2⟩
    · rw [Int.min_eq_right (by omega)]
      exact .inr ⟨S, by omega, hp, rfl⟩
  · by_cases e : T = S
    · subst e; omega
    · have := h.2.2 T (by omega) hp; omega
def BRef (n : Int) (l : List S76) (code : Int) (out : List S68) : Prop :=
  (bookOk n l = false ∧ code = 63 ∧ out = []) ∨ (bookOk n l = true ∧ (∃ S : Nat, S < 2 ^ n.toNat ∧ 0 < provF l S l.length) ∧ code = 65 ∧ out = []) ∨
  (bookOk n l = true ∧ (∀ S : Nat, S < 2 ^ n.toNat → provF l S l.length ≤ 0) ∧ code = 0 ∧ out.length = l.length ∧ ∀ k, k < l.length → LoR l k (2 ^ n.toNat) (rd_T68 out k).f0 ∧ HiR l k (2 ^ n.toNat) (rd_T68 out k).f1)
/-- Both answer alike. -/
theorem bal_same {n : Int} {l : List S76} {c1 c2 : Int} {o1 o2 : List S68} (h1 : BAns n l c1 o1) (h2 : BRef n l c2 o2) : c1 = c2 ∧ o1 = o2 := by
  rcases h1 with ⟨h3, rfl, rfl⟩ | ⟨h3, ⟨S, hS, hp⟩, rfl, rfl⟩ | ⟨h3, ⟨cs, hb⟩, rfl, hl, hf⟩
  · rcases h2 with ⟨_, rfl, rfl⟩ | ⟨h4, _⟩ | ⟨h4, _⟩
    · exact ⟨rfl, rfl⟩
    · rw [h3] at h4; cases h4
    · rw [h3] at h4; cases h4
  · rcases h2 with ⟨h4, _⟩ | ⟨_, _, rfl, rfl⟩ | ⟨_, h4, _⟩
    · rw [h3] at h4; cases h4
    · exact ⟨rfl, rfl⟩
    · have := h4 S hS; omega
  · rcases h2 with ⟨h4, _⟩ | ⟨_, ⟨S, hS, hp⟩, _⟩ | ⟨_, _, rfl, hl2, hf2⟩
    · rw [h3] at h4; cases h4
    · have := prov_no h3 hb S; omega
    · refine ⟨rfl, List.ext_getElem (by omega) fun k hk hk' => ?_⟩
      have hkl : k < l.length := by omega
      have hr := book_rng h3
      obtain ⟨f1, f2⟩ := hf k hkl
      obtain ⟨r1, r2⟩ := hf2 k hkl
      have e1 : rd_T68 o1 k = o1[k] := by simp [rd_T68, List.getD_eq_getElem?_getD, hk]
      have e2 : rd_T68 o2 k = o2[k] := by simp [rd_T68, List.getD_eq_getElem?_getD, hk']
      rw [e1] at f1 f2
      rw [e2] at r1 r2
      have m1 := far_mn hr hkl f1
      have m2 := far_mx hr hkl f2
      have hset : ∀ p : Int → Bool, ∃ T : Nat, T < 2 ^ n.toNat ∧ pS T (mv l k).f0 = p (mv l k).f0 ∧ pS T (mv l k).f1 = p (mv l k).f1 ∧ cutB l (pS T) k l.length = cutB l p k l.length := fun p => by
        have hb := hr k hkl
        have e3 := pS_sN (fun v => !p v) n.toNat (mv l k).f0.toNat (by omega)
        have e4 := pS_sN (fun v => !p v) n.toNat (mv l k).f1.toNat (by omega)
        rw [Int.toNat_of_nonneg hb.1.1] at e3
        rw [Int.toNat_of_nonneg hb.2.1] at e4
        refine ⟨sN (fun v => !p v) n.toNat, sN_lt _ _, by rw [e3, Bool.not_not], by rw [e4, Bool.not_not], cutB_congr l hr (fun v hv => ?_) k _ (Nat.le_refl _)⟩
        rw [pS_sN _ _ _ hv, Bool.not_not]
      have q1 : o1[k].f0 = o2[k].f0 := by
        have hle : o1[k].f0 ≤ o2[k].f0 := by
          rcases far_lo hr hkl f1 with h | ⟨p, p1, p2, h⟩
          · rw [h]; exact r1.2.1
          · obtain ⟨T, t1, t2, t3, t4⟩ := hset p
            rw [h, ← t4]
            exact r1.2.2 T t1 ⟨by rw [t3, p1], by rw [t2, p2]⟩
        have hge : o2[k].f0 ≤ o1[k].f0 := by
          obtain ⟨⟨cs', b1, b2⟩, _⟩ := m1
          rcases r1.1 with h | ⟨T, _, h5, h⟩
          · rw [h, ← b2]; exact (b1.1.2 k hkl).1
          · rw [h, ← b2]; exact bal_in hr b1 hkl h5
        omega
      have q2 : o1[k].f1 = o2[k].f1 := by
        have hge : o2[k].f1 ≤ o1[k].f1 := by
          rcases far_hi hr hkl f2 with h | ⟨p, p1, p2, h⟩
          · rw [h]; exact r2.2.1
          · obtain ⟨T, t1, t2, t3, t4⟩ := hset p
            rw [h, ← t4]
            exact r2.2.2 T t1 ⟨by rw [t2, p1], by rw [t3, p2]⟩
        have hle : o1[k].f1 ≤ o2[k].f1 := by
          obtain ⟨⟨cs', b1, b2⟩, _⟩ := m2
          rcases r2.1 with h | ⟨T, _, h5, h⟩
          · rw [h, ← b2]; exact (b1.1.2 k hkl).2
          · rw [h, ← b2]; exact bal_out hr b1 hkl h5
        omega
      generalize o1[k] = x at *
      generalize o2[k] = y at *
      cases x; cases y
      simp only at q1 q2
      rw [q1, q2]
theorem setLo (a b v : Int) : (#[Value.int .i64 a, .int .i64 b]).setIfInBounds 0 (.int .i64 v) = #[.int .i64 v, .int .i64 b] := rfl
theorem setHi (a b v : Int) : (#[Value.int .i64 a, .int .i64 b]).setIfInBounds 1 (.int .i64 v) = #[.int .i64 a, .int .i64 v] := rfl
set_option maxHeartbeats 8000000 in
theorem balanceR_c (n : Int) (l : List S76) (A : Option Addr) (c : Nat) (w : World) (hs : k76.C w A l.length l) :
    Calls Try.prog 38 #[.agg #[.int .i64 n, .slice A l.length c]] w fun e w' => ∃ v out code, e = .returned (.tuple #[v, .int .i64 code]) ∧ k68.R 68 w' w.heap.size (fun _ => True) v out ∧ BRef n l code out ∧ Bel w w' := by
  refine G_enter (l := [.agg #[.int .i64 n, .slice A l.length c]]) Try.func38 rfl rfl ?_
  refine Sq (Rg ?_)
  refine g_box rfl (h := fun g1 w1 N1 => ?_)
  have K1 := N1.at_
  have hB1 := Bel.of_new N1
  have K1a : w1.heap[g1]? = some (.cells #[.int .i64 n, .slice A l.length c] 49 (0, 0)) := K1
  refine As (As (Nl (Tn (Sq (Sq (Rg ?_))))))
  refine g_loadA rfl Try.underlying49 info49 (l := [.int .i64 n, .slice A l.length c]) (cellsAt K1a) (h := ?_)
  refine g_call he36 rfl (checkBookR_c A c n l _ (Kd.C_below hs hB1)) (h := ?_)
  rintro e w13 ⟨rfl, hb13⟩
  refine ⟨_, rfl, ?_⟩
  have hB13 := hB1.bel hb13
  have K1b := kB K1a hb13
  refine As (Nl (Tn (Sq (Rg (Mv ?_)))))
  refine g_neq rfl rfl (h1 := fun c15 => ?_) (h2 := fun c15 => ?_)
  · skip
    have hbo : ¬ bookOk n l = true := fun h => by rw [if_pos h] at c15; exact c15 rfl
    refine Nl (Tn (Ct rfl (Sq (Rg (Mv (As (As (Nl (Tn (Rt (Tr ?_)))))))))))
    exact ret2 rfl ⟨_, [], 63, ret2n _ (if_neg hbo), Kd.R_nil _ _ _ _ _, .inl ⟨by simpa using hbo, rfl, rfl⟩, hB13⟩
  · skip
    have hbo : bookOk n l = true := by by_cases h : bookOk n l = true; exact h; rw [if_neg h] at c15; exact absurd c15 (by decide)
    obtain ⟨hn, hl10⟩ := book_n hbo
    have hp6 := pow6n (N := n.toNat) (by omega)
    have hpc := pow_cast n.toNat
    refine Nl (Tn (Cf rfl (Sk (Tn (Sq (Sq (Rg ?_)))))))
    refine g_loadA rfl Try.underlying49 info49 (l := [.int .i64 n, .slice A l.length c]) (cellsAt K1b) (h := ?_)
    refine g_call he85 rfl (proofR_c A c n l _ (Kd.C_below hs hB13) hbo) (h := ?_)
    rintro e w18 ⟨r, rfl, hr, hb18⟩
    refine ⟨_, rfl, ?_⟩
    have hB18 := hB13.bel hb18
    have K1c := kB K1b hb18
    refine g_geq rfl rfl (h1 := fun c19 => ?_) (h2 := fun c19 => ?_)
    · skip
      refine Nl (Tn (Ct rfl (Sq (Rg (As (As (Nl (Tn (Rt (Tr ?_))))))))))
      exact ret2 rfl ⟨_, [], 65, rfl, Kd.R_nil _ _ _ _ _, .inr (.inl ⟨hbo, by
        rcases hr with ⟨S, _, h1⟩ | ⟨h, _⟩
        · exact ⟨S, h1⟩
        · omega, rfl, rfl⟩), hB18⟩
    · skip
      have hno : ∀ S : Nat, S < 2 ^ n.toNat → provF l S l.length ≤ 0 := by
        rcases hr with ⟨S, h1, _⟩ | ⟨_, h⟩
        · omega
        · exact h
      refine Nl (Tn (Cf rfl (Sk (Tn (Sq (Rg (As (Nl (Tn (Sq (Sq (Rg (As (Nl (Tn (Bk ?_))))))))))))))))
      refine GC_loop (fun m σ w' => ∃ (k : Nat) (out : List S68) (v : Value) (τ : Nat → Value), σ = upd (upd (upd τ 1 (.pointer (some ⟨g1, 0, none⟩))) 5 v) 6 (.int .i64 k) ∧ k ≤ l.length ∧ m = l.length - k ∧ out.length = k ∧ (∀ j, j < k → LoR l j (2 ^ n.toNat) (rd_T68 out j).f0 ∧ HiR l j (2 ^ n.toNat) (rd_T68 out j).f1) ∧ k68.R 68 w' w.heap.size (fun _ => True) v out ∧ w'.heap[g1]? = some (.cells #[.int .i64 n, .slice A l.length c] 49 (0, 0)) ∧ Bel w w') (l.length) ⟨0, [], _, _, has rfl (has rfl (has rfl rfl)), Nat.zero_le _, rfl, rfl, fun j hj => absurd hj (Nat.not_lt_zero _), Kd.R_nil _ _ _ _ _, K1c, hB18⟩ ?_
      rintro m _ w3 ⟨k, out, v, τ, rfl, hk, rfl, hol, hfar, HR, K1d, hB⟩
      refine Sq (Sq (Rg (Mv (Fb f49_1 rfl (L1 Try.underlying47 (cellAt K1d rfl) rfl (Ln Try.underlying47 rfl ?_))))))
      refine g_lss rfl rfl (h1 := fun c24 => ?_) (h2 := fun c24 => ?_)
      · skip
        refine Nl (Tn (Ct rfl (Sk (Tn (Sq (Bk (Sq (Rg (Fb f49_1 rfl (L1 Try.underlying47 (cellAt K1d rfl) rfl ?_))))))))))
        have hkl : k < l.length := by omega
        obtain ⟨ad, hA, h31⟩ := at76 hs hB k hkl
        subst hA
        have hmk := book_move hbo k hkl
        rw [← mv_get l k hkl] at h31
        refine Mv ?_
        refine g_indexS Try.underlying47 info76 rfl rfl (by omega) (by omega) rfl (h := ?_)
        refine g_loadA rfl Try.underlying76 info76 (l := enc76 (mv l k)) h31 (h := ?_)
        refine g_alloc (z := .agg #[.int .i64 0, .int .i64 0, .int .i64 0, .int .i64 0]) (by kernel_rfl) (h := fun g7 w7 N7 => ?_)
        have K7 := N7.at_
        refine g_storeA rfl rfl info76 K7 rfl (by simp [enc76, Value.oneCell']) (h := fun w6 P6 => ?_)
        have K7a : w6.heap[g7]? = some (.cells (enc76 (mv l k)).toArray 76 (0, 0)) := P6.at_
        have hB6 : Bel w3 w6 := (Bel.of_new N7).put P6 N7.ge
        have K1e := kP (kN K1d N7) P6 (ne_ty (kN K1d N7) K7 (by decide))
        refine Nl (Tn (Sq (Rg (Fb f76_2 rfl ?_))))
        refine g_loadA rfl Try.underlying68 info68 (l := [.int .i64 (mv l k).f2.f0, .int .i64 (mv l k).f2.f1]) (spanAt68 K7a) (h := ?_)
        refine g_alloc (z := .agg #[.int .i64 0, .int .i64 0]) (by kernel_rfl) (h := fun g8 w8 N8 => ?_)
        have K8 := N8.at_
        refine g_storeA rfl rfl info68 K8 rfl (by simp [Value.oneCell']) (h := fun w8 P8 => ?_)
        have K8a : w8.heap[g8]? = some (.cells #[.int .i64 (mv l k).f2.f0, .int .i64 (mv l k).f2.f1] 68 (0, 0)) := P8.at_
        have hB8 : Bel w3 w8 := (hB6.new N8).put P8 (Nat.le_trans hB6.size N8.ge)
        have K1f := kP (kN K1e N8) P8 (ne_ty (kN K1e N8) K8 (by decide))
        have K7b := kP (kN K7a N8) P8 (ne_ty (kN K7a N8) K8 (by decide))
        have hg8 : w3.heap.size ≤ g8 := Nat.le_trans hB6.size N8.ge
        refine Nl (Tn (Sq (Sq (Rg (As (Nl (Tn (Bk ?_))))))))
        refine GC_loop (fun m σ w' => ∃ (S : Nat) (lo hi : Int) (τ : Nat → Value), σ = upd (upd (upd (upd (upd (upd τ 1 (.pointer (some ⟨g1, 0, none⟩))) 5 v) 6 (.int .i64 k)) 7 (.pointer (some ⟨g7, 0, none⟩))) 8 (.pointer (some ⟨g8, 0, none⟩))) 9 (.int .i64 S) ∧ S ≤ 2 ^ n.toNat ∧ m = 2 ^ n.toNat - S ∧ LoR l k S lo ∧ HiR l k S hi ∧ w'.heap[g1]? = some (.cells #[.int .i64 n, .slice (some ad) l.length c] 49 (0, 0)) ∧ w'.heap[g7]? = some (.cells (enc76 (mv l k)).toArray 76 (0, 0)) ∧ w'.heap[g8]? = some (.cells #[.int .i64 lo, .int .i64 hi] 68 (0, 0)) ∧ Bel w3 w') (2 ^ n.toNat) ⟨0, _, _, _, has rfl (has rfl (has rfl (has rfl (has rfl (has rfl rfl))))), Nat.zero_le _, rfl, ⟨.inl rfl, Int.le_refl _, fun T hT => absurd hT (Nat.not_lt_zero _)⟩, ⟨.inl rfl, Int.le_refl _, fun T hT => absurd hT (Nat.not_lt_zero _)⟩, K1f, K7b, K8a, hB8⟩ ?_
        rintro m _ w4 ⟨S, lo, hi, τ2, rfl, hS, rfl, hlo, hhi, K1g, K7c, K8b, hB4⟩
        refine Sq (Sq (Rg (Mv (Fb f49_0 rfl (L1 Try.underlying3 (cellAt K1g rfl) rfl ?_)))))
        refine g_v (r_shl rfl rfl (n := n.toNat) (by omega) (by omega) (by omega)) (h := ?_)
        refine g_lss rfl rfl (h1 := fun c38 => ?_) (h2 := fun c38 => ?_)
        · skip
          refine Nl (Tn (Ct rfl (Sk (Tn (Sq (Bk (Sq ?_)))))))
          have hSl : S < 2 ^ n.toNat := by omega
          have hc1 := cutB_bd hbo (pS S) k l.length (Nat.le_refl _)
          refine GD_start 10 [] (fun w' => w'.heap[g7]? = some (.cells (enc76 (mv l k)).toArray 76 (0, 0))) (by kernel_rfl) rfl ?_
          refine GD_pure 0 rfl (by kernel_rfl) (by kernel_rfl) (by kernel_rfl) (by kernel_rfl) rfl rfl rfl (qv fun wq hC => by exact r_move) ?_
          refine GD_pure 1 rfl (by kernel_rfl) (by kernel_rfl) (by kernel_rfl) (by kernel_rfl) rfl rfl rfl (qv fun wq hC => by exact r_fieldAddrB f76_0 rfl) ?_
          refine GD_take 2 rfl (by kernel_rfl) (by kernel_rfl) (by kernel_rfl) (by kernel_rfl) rfl rfl rfl (qv fun wq hC => by exact r_load1 rfl Try.underlying3 (cellAt hC rfl)) ?_
          refine GD_take 3 rfl (by kernel_rfl) (by kernel_rfl) (by kernel_rfl) (by kernel_rfl) rfl rfl rfl (qc (fun wq hC => by exact r_call he86 rfl) (fun wq hC => by exact bitI_c S (mv l k).f0 (by omega) (by omega) _)) ?_
          refine GD_pure 4 rfl (by kernel_rfl) (by kernel_rfl) (by kernel_rfl) (by kernel_rfl) rfl rfl rfl (qv fun wq hC => by exact r_move) ?_
          refine GD_pure 5 rfl (by kernel_rfl) (by kernel_rfl) (by kernel_rfl) (by kernel_rfl) rfl rfl rfl (qv fun wq hC => by exact r_fieldAddrB f76_1 rfl) ?_
          refine GD_take 6 rfl (by kernel_rfl) (by kernel_rfl) (by kernel_rfl) (by kernel_rfl) rfl rfl rfl (qv fun wq hC => by exact r_load1 rfl Try.underlying3 (cellAt hC rfl)) ?_
          refine GD_take 7 rfl (by kernel_rfl) (by kernel_rfl) (by kernel_rfl) (by kernel_rfl) rfl rfl rfl (qc (fun wq hC => by exact r_call he86 rfl) (fun wq hC => by exact bitI_c S (mv l k).f1 (by omega) (by omega) _)) ?_
          refine GD_pure 8 rfl (by kernel_rfl) (by kernel_rfl) (by kernel_rfl) (by kernel_rfl) rfl rfl rfl (qv fun wq hC => by exact r_assign) ?_
          refine GD_pure 9 rfl (by kernel_rfl) (by kernel_rfl) (by kernel_rfl) (by kernel_rfl) rfl rfl rfl (qv fun wq hC => by exact r_assign) ?_
          refine GD_end (by kernel_rfl) (fun _ => K7c) ?_
          refine Tn (Sq (Sq (Rg (Mv (Mv ?_)))))
          cases q50 : pS S (mv l k).f0 with
          | true =>
            refine Mv ?_
            cases q51 : pS S (mv l k).f1 with
            | true =>
              refine Nt rfl (Pt rfl (Nl (Tn (Cf rfl (Sk (Tn (Sq (Rg (Mv (Mv (Mv (Nt rfl (Pt rfl (Nl (Tn (Cf rfl (Sk (Bn (Tn (Rg (Mv ?_)))))))))))))))))))))
              refine g_add rfl rfl (by omega) (h := ?_)
              refine As (Nl ?_)
              refine round_end (2 ^ n.toNat - (S + 1)) (by omega) ⟨S + 1, _, _, _, has rfl (has rfl (has rfl (has rfl (has rfl (has rfl rfl))))), hSl, rfl, ?_, ?_, K1g, K7c, K8b, by first | exact hBf | exact hB4.drew⟩
              · first
                | exact hlo.more ⟨‹pS S (mv l k).f1 = true›, ‹pS S (mv l k).f0 = false›⟩
                | exact hlo.keep (fun h => by first | exact absurd (h.1.symm.trans ‹pS S (mv l k).f1 = false›) (by decide) | exact absurd (h.2.symm.trans ‹pS S (mv l k).f0 = true›) (by decide))
              · first
                | exact hhi.more ⟨‹pS S (mv l k).f0 = true›, ‹pS S (mv l k).f1 = false›⟩
                | exact hhi.keep (fun h => by first | exact absurd (h.1.symm.trans ‹pS S (mv l k).f0 = false›) (by decide) | exact absurd (h.2.symm.trans ‹pS S (mv l k).f1 = true›) (by decide))
            | false =>
              refine Nt rfl (Pt rfl (Nl (Tn (Ct rfl ?_))))
              have hBd : Bel w4 ((w4.drewN 1).drewN 1) := (Bel.drew (Below.refl _ _)).drew
              refine GD_start 10 [9] (fun w' => w'.heap[g8]? = some (.cells #[.int .i64 lo, .int .i64 hi] 68 (0, 0)) ∧ w'.heap[g1]? = some (.cells #[.int .i64 n, .slice (some ad) l.length c] 49 (0, 0))) (by kernel_rfl) rfl ?_
              refine GD_pure 0 rfl (by kernel_rfl) (by kernel_rfl) (by kernel_rfl) (by kernel_rfl) rfl rfl rfl (qv fun wq hC => by exact r_fieldAddrB f68_1 rfl) ?_
              refine GD_take 1 rfl (by kernel_rfl) (by kernel_rfl) (by kernel_rfl) (by kernel_rfl) rfl rfl rfl (qv fun wq hC => by exact r_load1 rfl Try.underlying3 (cellAt hC.1 rfl)) ?_
              refine GD_take 2 rfl (by kernel_rfl) (by kernel_rfl) (by kernel_rfl) (by kernel_rfl) rfl rfl rfl (qv fun wq hC => by exact r_loadA rfl Try.underlying49 info49 (l := [.int .i64 n, .slice (some ad) l.length c]) (cellsAt hC.2)) ?_
              refine GD_pure 3 rfl (by kernel_rfl) (by kernel_rfl) (by kernel_rfl) (by kernel_rfl) rfl rfl rfl (qv fun wq hC => by exact r_move) ?_
              refine GD_pure 4 rfl (by kernel_rfl) (by kernel_rfl) (by kernel_rfl) (by kernel_rfl) rfl rfl rfl (qv fun wq hC => by exact r_move) ?_
              refine GD_one 5 (by kernel_rfl) (fun _ => ⟨K8b, K1g⟩) ?_
              refine GO_call rfl rfl rfl he87 rfl (more_c (some ad) c n l S k _ (Kd.C_below hs (hB.bel (hB4.bel hBd))) hbo (by omega)) (fun e w59 he => ?_)
              obtain ⟨rfl, hb59⟩ := he
              refine ⟨_, rfl, ?_⟩
              have K8b := kB (w1 := (w4.drewN 1).drewN 1) K8b hb59
              have K1g := kB (w1 := (w4.drewN 1).drewN 1) K1g hb59
              have K7c := kB (w1 := (w4.drewN 1).drewN 1) K7c hb59
              have hBe := hBd.bel hb59
              refine GD_pure 6 rfl (by kernel_rfl) (by kernel_rfl) (by kernel_rfl) (by kernel_rfl) rfl rfl rfl (qv fun wq hC => by exact r_neg rfl (by omega)) ?_
              refine GD_pure 7 rfl (by kernel_rfl) (by kernel_rfl) (by kernel_rfl) (by kernel_rfl) rfl rfl rfl (qv fun wq hC => by exact r_min rfl rfl rfl) ?_
              refine GD_pure 8 rfl (by kernel_rfl) (by kernel_rfl) (by kernel_rfl) (by kernel_rfl) rfl rfl rfl (qv fun wq hC => by exact r_fieldAddrB f68_1 rfl) ?_
              refine GD_one 9 (by kernel_rfl) (fun _ => ⟨K8b, K1g⟩) ?_
              refine GO_store1 rfl rfl rfl rfl info3 K8b (by simp) rfl (fun w17 P17 => ?_)
              have K1g := kP K1g P17 (ne_ty K1g K8b (by decide))
              have K7c := kP K7c P17 (ne_ty K7c K8b (by decide))
              have K8b : w17.heap[g8]? = some (.cells #[.int .i64 lo, .int .i64 (min hi (- cutB l (pS S) k l.length))] 68 (0, 0)) := P17.at_
              have hBf : Bel w3 w17 := (hB4.bel hBe).put P17 hg8
              refine GD_end (by kernel_rfl) (dead 9 rfl (by kernel_rfl)) ?_
              refine Tn (Sq (Rg (Mv (Mv (Of (Of (Pf rfl (Nl (Tn (Cf rfl (Sk (Bn (Tn (Rg (Mv ?_)))))))))))))))
              refine g_add rfl rfl (by omega) (h := ?_)
              refine As (Nl ?_)
              refine round_end (2 ^ n.toNat - (S + 1)) (by omega) ⟨S + 1, _, _, _, has rfl (has rfl (has rfl (has rfl (has rfl (has rfl rfl))))), hSl, rfl, ?_, ?_, K1g, K7c, K8b, by first | exact hBf | exact hB4.drew⟩
              · first
                | exact hlo.more ⟨‹pS S (mv l k).f1 = true›, ‹pS S (mv l k).f0 = false›⟩
                | exact hlo.keep (fun h => by first | exact absurd (h.1.symm.trans ‹pS S (mv l k).f1 = false›) (by decide) | exact absurd (h.2.symm.trans ‹pS S (mv l k).f0 = true›) (by decide))
              · first
                | exact hhi.more ⟨‹pS S (mv l k).f0 = true›, ‹pS S (mv l k).f1 = false›⟩
                | exact hhi.keep (fun h => by first | exact absurd (h.1.symm.trans ‹pS S (mv l k).f0 = false›) (by decide) | exact absurd (h.2.symm.trans ‹pS S (mv l k).f1 = true›) (by decide))
          | false =>
            refine Of (Of (Pf rfl (Nl (Tn (Cf rfl (Sk (Tn (Sq (Rg (Mv (Mv ?_)))))))))))
            cases q64 : pS S (mv l k).f1 with
            | true =>
              refine Mv (Nt rfl (Pt rfl (Nl (Tn (Ct rfl ?_)))))
              have hBd : Bel w4 ((w4.drewN 1).drewN 1) := (Bel.drew (Below.refl _ _)).drew
              refine GD_start 9 [8] (fun w' => w'.heap[g8]? = some (.cells #[.int .i64 lo, .int .i64 hi] 68 (0, 0)) ∧ w'.heap[g1]? = some (.cells #[.int .i64 n, .slice (some ad) l.length c] 49 (0, 0))) (by kernel_rfl) rfl ?_
              refine GD_pure 0 rfl (by kernel_rfl) (by kernel_rfl) (by kernel_rfl) (by kernel_rfl) rfl rfl rfl (qv fun wq hC => by exact r_fieldAddrB f68_0 rfl) ?_
              refine GD_take 1 rfl (by kernel_rfl) (by kernel_rfl) (by kernel_rfl) (by kernel_rfl) rfl rfl rfl (qv fun wq hC => by exact r_load1 rfl Try.underlying3 (cellAt hC.1 rfl)) ?_
              refine GD_take 2 rfl (by kernel_rfl) (by kernel_rfl) (by kernel_rfl) (by kernel_rfl) rfl rfl rfl (qv fun wq hC => by exact r_loadA rfl Try.underlying49 info49 (l := [.int .i64 n, .slice (some ad) l.length c]) (cellsAt hC.2)) ?_
              refine GD_pure 3 rfl (by kernel_rfl) (by kernel_rfl) (by kernel_rfl) (by kernel_rfl) rfl rfl rfl (qv fun wq hC => by exact r_move) ?_
              refine GD_pure 4 rfl (by kernel_rfl) (by kernel_rfl) (by kernel_rfl) (by kernel_rfl) rfl rfl rfl (qv fun wq hC => by exact r_move) ?_
              refine GD_one 5 (by kernel_rfl) (fun _ => ⟨K8b, K1g⟩) ?_
              refine GO_call rfl rfl rfl he87 rfl (more_c (some ad) c n l S k _ (Kd.C_below hs (hB.bel (hB4.bel hBd))) hbo (by omega)) (fun e w59 he => ?_)
              obtain ⟨rfl, hb59⟩ := he
              refine ⟨_, rfl, ?_⟩
              have K8b := kB (w1 := (w4.drewN 1).drewN 1) K8b hb59
              have K1g := kB (w1 := (w4.drewN 1).drewN 1) K1g hb59
              have K7c := kB (w1 := (w4.drewN 1).drewN 1) K7c hb59
              have hBe := hBd.bel hb59
              refine GD_pure 6 rfl (by kernel_rfl) (by kernel_rfl) (by kernel_rfl) (by kernel_rfl) rfl rfl rfl (qv fun wq hC => by exact r_max rfl rfl rfl) ?_
              refine GD_pure 7 rfl (by kernel_rfl) (by kernel_rfl) (by kernel_rfl) (by kernel_rfl) rfl rfl rfl (qv fun wq hC => by exact r_fieldAddrB f68_0 rfl) ?_
              refine GD_one 8 (by kernel_rfl) (fun _ => ⟨K8b, K1g⟩) ?_
              refine GO_store1 rfl rfl rfl rfl info3 K8b (by simp) rfl (fun w17 P17 => ?_)
              have K1g := kP K1g P17 (ne_ty K1g K8b (by decide))
              have K7c := kP K7c P17 (ne_ty K7c K8b (by decide))
              have K8b : w17.heap[g8]? = some (.cells #[.int .i64 (max lo (cutB l (pS S) k l.length)), .int .i64 hi] 68 (0, 0)) := P17.at_
              have hBf : Bel w3 w17 := (hB4.bel hBe).put P17 hg8
              refine GD_end (by kernel_rfl) (dead 8 rfl (by kernel_rfl)) ?_
              refine Bn (Tn (Rg (Mv ?_)))
              refine g_add rfl rfl (by omega) (h := ?_)
              refine As (Nl ?_)
              refine round_end (2 ^ n.toNat - (S + 1)) (by omega) ⟨S + 1, _, _, _, has rfl (has rfl (has rfl (has rfl (has rfl (has rfl rfl))))), hSl, rfl, ?_, ?_, K1g, K7c, K8b, by first | exact hBf | exact hB4.drew⟩
              · first
                | exact hlo.more ⟨‹pS S (mv l k).f1 = true›, ‹pS S (mv l k).f0 = false›⟩
                | exact hlo.keep (fun h => by first | exact absurd (h.1.symm.trans ‹pS S (mv l k).f1 = false›) (by decide) | exact absurd (h.2.symm.trans ‹pS S (mv l k).f0 = true›) (by decide))
              · first
                | exact hhi.more ⟨‹pS S (mv l k).f0 = true›, ‹pS S (mv l k).f1 = false›⟩
                | exact hhi.keep (fun h => by first | exact absurd (h.1.symm.trans ‹pS S (mv l k).f0 = false›) (by decide) | exact absurd (h.2.symm.trans ‹pS S (mv l k).f1 = true›) (by decide))
            | false =>
              refine Of (Of (Pf rfl (Nl (Tn (Cf rfl (Sk (Bn (Tn (Rg (Mv ?_))))))))))
              refine g_add rfl rfl (by omega) (h := ?_)
              refine As (Nl ?_)
              refine round_end (2 ^ n.toNat - (S + 1)) (by omega) ⟨S + 1, _, _, _, has rfl (has rfl (has rfl (has rfl (has rfl (has rfl rfl))))), hSl, rfl, ?_, ?_, K1g, K7c, K8b, by first | exact hBf | exact hB4.drew⟩
              · first
                | exact hlo.more ⟨‹pS S (mv l k).f1 = true›, ‹pS S (mv l k).f0 = false›⟩
                | exact hlo.keep (fun h => by first | exact absurd (h.1.symm.trans ‹pS S (mv l k).f1 = false›) (by decide) | exact absurd (h.2.symm.trans ‹pS S (mv l k).f0 = true›) (by decide))
              · first
                | exact hhi.more ⟨‹pS S (mv l k).f0 = true›, ‹pS S (mv l k).f1 = false›⟩
                | exact hhi.keep (fun h => by first | exact absurd (h.1.symm.trans ‹pS S (mv l k).f0 = false›) (by decide) | exact absurd (h.2.symm.trans ‹pS S (mv l k).f1 = true›) (by decide))
        · skip
          refine Nl (Tn (Cf rfl (Xi (Tx (Tx (Bs (Tn (Rg (Mv ?_)))))))))
          refine g_loadA rfl Try.underlying68 info68 (l := [.int .i64 lo, .int .i64 hi]) (cellsAt K8b) (h := ?_)
          refine g_lits (bs52 _ lo hi) rfl (h := fun g78 w78 N78 => ?_)
          have hB78 := (hB.bel hB4).new N78
          have HR78 := rN (rB HR hB4) N78
          refine g_appendR k68 Try.underlying52 zi68 rfl (by decide) HR78 (cs := [.int .i64 lo, .int .i64 hi]) N78.at_ (p := ⟨lo, hi⟩) (okp := fun _ => False) (k68_mkM _ _ _ ⟨lo, hi⟩) (fun _ h => h.elim) (fun _ _ => trivial) hB78.size (by omega) (by simp [maxLen]; omega) rfl rfl (h := fun v79 w79 HR79 hg79 _ => ?_)
          have hB79 := hB78.grown hg79 (Kd.R_base HR78)
          have K1h := kG (kN K1g N78) hg79 (ne_own HR78 (kN K1g N78) (by decide))
          have hSe : S = 2 ^ n.toNat := by omega
          refine As (Nl (Bn (Tn (Rg (Mv ?_)))))
          refine g_add rfl rfl (by omega) (h := ?_)
          refine As (Nl ?_)
          refine round_end (l.length - (k + 1)) (by omega) ⟨k + 1, out ++ [⟨lo, hi⟩], v79, _, has rfl (has rfl (has rfl rfl)), hkl, rfl, by simp [hol], fun j hj => ?_, HR79, K1h, hB79⟩
          by_cases e : j = k
          · subst e
            rw [← hol, rd68_snoc_eq, hol]
            rw [hSe] at hlo hhi
            exact ⟨hlo, hhi⟩
          · rw [rd68_snoc_lt out _ j (by omega)]
            exact hfar j (by omega)
      · skip
        refine Nl (Tn (Cf rfl (Xi (Tx (Tx (Bs (Tn (Sq (Rg (Mv (As (As (Nl (Tn (Rt ?_)))))))))))))))
        obtain rfl : k = l.length := by omega
        exact ret2 rfl ⟨v, out, 0, rfl, HR, .inr (.inr ⟨hbo, hno, rfl, hol, hfar⟩), hB⟩
end Go.Proofs.B
