/- barrel: the reference of Keep: Kept, Keeps. -/
import Derived.Test.YtpfoleggapngoaaB37
import Derived.Test.YtpfoleggapngoaaB38
import Derived.Test.YtpfoleggapngoaaB30
set_option linter.unusedVariables false
set_option linter.unusedSimpArgs false
set_option maxRecDepth 10000
namespace Go.Proofs.B
open Go Go.RowKit Go.Proofs Go.Proofs.G Go.Proofs.F Go.Proofs.YtpfoleggapngoaaW.PrintWords
theorem RowC.bel {w w' : World} {v : Value} {ls : List (List Int)} (h : RowC w v ls) (hb : Bel w w') : RowC w' v ls := by
  obtain ⟨A, c, h1, h2, h3⟩ := h
  exact ⟨A, c, h1, h2, Kd.C_below h3 hb⟩
theorem RowC.nil (w : World) : RowC w (.slice none 0 0) [] := ⟨none, 0, rfl, Nat.le_refl _, Kd.C_nil _ _⟩
theorem lvs_hi {y : List S70} (hy : yardOk y = true) (i : Nat) (hi : i < y.length) : rd (lvList (hiF y) y.length) i = hiF y i ∧ -1000000 ≤ hiF y i ∧ hiF y i ≤ 1000000 := by
  have := hi_ok hy i
  exact ⟨lvList_rd _ _ i hi, by omega, by omega⟩
/-- What is left of levels that a list tells. -/
theorem lk_rg {y : List S70} (hy : yardOk y = true) {x : List Int} (hx : Lvs y x) (t : Nat) : ∀ i, i < y.length → 0 ≤ topF y t (lkF (lvOf x) (hiF y) y.length) i ∧ topF y t (lkF (lvOf x) (hiF y) y.length) i ≤ 1000 := fun i hi => by
  have h1 := hx.2 i hi
  have h2 := hi_ok hy i
  have h3 := cask_rg (yard_cask hy i hi)
  have h4 : lvOf x i = rd x (i : Nat) := rfl
  unfold topF lkF
  simp only [hi, if_true]
  split <;> omega
theorem lt_succ_ex {n : Nat} {p : Nat → Prop} : (∃ j, j < n + 1 ∧ p j) ↔ (∃ j, j < n ∧ p j) ∨ p n := by
  constructor
  · rintro ⟨j, h1, h2⟩
    by_cases e : j = n
    · subst e; exact .inr h2
    · exact .inl ⟨j, by omega, h2⟩
  · rintro (⟨j, h1, h2⟩ | h)
    · exact ⟨j, by omega, h2⟩
    · exact ⟨n, by omega, h⟩
theorem mem_rd {ls : List (List Int)} {p : List Int → Prop} : (∃ x ∈ ls, p x) ↔ ∃ j, j < ls.length ∧ p (rd_L1 ls (j : Nat)) := by
  constructor
  · rintro ⟨x, hx, hp⟩
    obtain ⟨j, hj, rfl⟩ := List.mem_iff_getElem.1 hx
    exact ⟨j, hj, by rw [rdM ls j hj]; exact hp⟩
  · rintro ⟨j, hj, hp⟩
    exact ⟨_, List.getElem_mem hj, by rw [rdM ls j hj] at hp; exact hp⟩
theorem pow4_le {k : Nat} (h : k ≤ 12) : 4 ^ k ≤ 16777216 := Nat.le_trans (Nat.pow_le_pow_right (by decide) h) (by decide)
theorem bs25_1 (w : World) (v : Value) (hv : v.oneCell' = true) : (Instr.buildSlice 25 1 #[(0, v)]).run Try.prog w = .ok (.slice (some ⟨w.heap.size, 0, none⟩) 1 1) (w.alloc (.cells #[v] 22)) := bs25 w v hv
theorem one_row {w w0 : World} {g : Nat} {v : Value} {x : List Int} (N : New w0 w g (.cells #[v] 22)) (h : IntC w v x) : RowC w (.slice (some ⟨g, 0, none⟩) 1 1) [x] := by
  obtain ⟨A, c, rfl, h1, h2⟩ := h
  refine ⟨some ⟨g, 0, none⟩, 1, rfl, Nat.le_refl _, rfl, by simp, fun _ => ⟨⟨g, 0, none⟩, rfl, fun j l hl => ?_⟩⟩
  match j, hl with
  | 0, hl =>
    injection hl with hl
    subst hl
    refine ⟨[.slice A x.length c], rfl, ⟨A, c, rfl, h1, h2⟩, fun i u hu => ?_⟩
    match i, hu with
    | 0, hu => injection hu with hu; subst hu; exact cellAt N.at_ rfl
    | i + 1, hu => simp at hu
  | j + 1, hl => simp at hl
theorem IntC.of_R {w : World} {base : Nat} {ok : Nat → Prop} {v : Value} {l : List Int} (h : (Kd.int .i64).R 3 w base ok v l) : IntC w v l := by
  obtain ⟨A, c, h1, h2, h3⟩ := Kd.R_reads h
  exact ⟨A, c, h1, h2, h3⟩
set_option maxHeartbeats 8000000 in
theorem kept_c (A : Option Addr) (c : Nat) (y : List S70) (mo : Nat) (w : World) (hs : k70.C w A y.length y) (hy : yardOk y = true) (h12 : mo ≤ 12) :
    Calls Try.prog 31 #[.slice A y.length c, .int .i64 mo] w fun e w' => ∃ b, e = .returned (.bool b) ∧ (b = true ↔ KF y mo (begF y)) ∧ Bel w w' := by
  have h4 := yard_len hy
  refine G_enter (l := [.slice A y.length c, .int .i64 mo]) Try.func31 rfl rfl ?_
  refine Sq (Rg (As (Nl (Tn (Sq (Rg (Mv ?_)))))))
  refine g_call he74 rfl (now_c A c y _ hs (by omega)) (h := ?_)
  rintro e w14 ⟨v14, rfl, HR14, hb14⟩
  refine ⟨_, rfl, ?_⟩
  have hI14 := IntC.of_R HR14
  have ho14 := hI14.one
  refine g_lit1 bs25_1 rfl ho14 (h := fun g15 w15 N15 => ?_)
  have hB15 := hb14.new N15
  have hI15 := one_row N15 (hI14.bel (Bel.of_new N15))
  refine As (Nl (Tn (Sq (Sq (Rg (As (Nl (Tn (Bk ?_)))))))))
  refine GC_loop (fun m σ w' => ∃ (k r : Nat) (all : List (List Int)) (v : Value) (τ : Nat → Value), σ = upd (upd (upd (upd τ 0 (.slice A y.length c)) 1 (.int .i64 mo)) 5 v) 6 (.int .i64 k) ∧ k + r = mo ∧ m = r ∧ RowC w' v all ∧ (∀ x ∈ all, Lvs y x) ∧ all.length ≤ 4 ^ k ∧ ((∃ x ∈ all, KF y r (lvOf x)) ↔ KF y mo (begF y)) ∧ Bel w w') (mo) ⟨0, mo, _, _, _, has rfl (has rfl (has rfl (has rfl rfl))), Nat.zero_add _, rfl, hI15, fun x hx => by
    rw [List.mem_singleton] at hx; subst hx
    exact lvs_list fun i hi => beg_ok hy i, by simp, by
    simp only [List.mem_singleton, exists_eq_left]
    exact kf_list, hB15⟩ ?_
  rintro m _ w1 ⟨k, r, all, v5, τ, rfl, hkr, hmr, hR5, hlv, hal, hiff, hB⟩
  refine Sq (Sq (Rg (Mv (Mv ?_))))
  refine g_lss rfl rfl (h1 := fun c18 => ?_) (h2 := fun c18 => ?_)
  · skip
    obtain ⟨r, rfl⟩ : ∃ r', r = r' + 1 := ⟨r - 1, by omega⟩
    obtain ⟨A5, c5, rfl, hle5, hC5⟩ := hR5
    have hp4 := pow4_le (show k ≤ 12 by omega)
    have hps : 4 ^ (k + 1) = 4 ^ k * 4 := Nat.pow_succ _ _
    refine Nl (Tn (Ct rfl (Sk (Tn (Sq (Bk (Sq (Rg (As (Nl (Tn (Sq (Sq (Rg (As (Nl (Tn (Bk ?_))))))))))))))))))
    refine GC_loop (fun m σ w' => ∃ (i : Nat) (nx : List (List Int)) (v : Value) (τ : Nat → Value), σ = upd (upd (upd (upd (upd (upd τ 0 (.slice A y.length c)) 1 (.int .i64 mo)) 5 (.slice A5 all.length c5)) 6 (.int .i64 k)) 7 v) 8 (.int .i64 i) ∧ i ≤ all.length ∧ m = all.length - i ∧ RowC w' v nx ∧ (∀ x ∈ nx, Lvs y x) ∧ nx.length ≤ 4 * i ∧ ((∃ x ∈ nx, KF y r (lvOf x)) ↔ ∃ j, j < i ∧ KF y (r + 1) (lvOf (rd_L1 all (j : Nat)))) ∧ Bel w1 w') (all.length) ⟨0, [], _, _, has rfl (has rfl (has rfl (has rfl (has rfl (has rfl rfl))))), Nat.zero_le _, rfl, RowC.nil _, fun x hx => by simp at hx, Nat.le_refl _, by simp, Below.refl _ _⟩ ?_
    rintro m _ w2 ⟨i, nx, v7, τ2, rfl, hi, rfl, hR7, hlv7, hl7, hiff7, hB2⟩
    refine Sq (Sq (Rg (Mv (Mv (Ln Try.underlying25 rfl ?_)))))
    refine g_lss rfl rfl (h1 := fun c24 => ?_) (h2 := fun c24 => ?_)
    · skip
      refine Nl (Tn (Ct rfl (Sk (Tn (Sq (Bk (Sq ?_)))))))
      have hil : i < all.length := by omega
      obtain ⟨ad, A0, c0, hA5, h32, hle0, hC0⟩ := at_L1 hC5 i (by omega) (by omega)
      rw [hA5]
      have hlvi : Lvs y (rd_L1 all i) := by rw [rdM all i hil]; exact hlv _ (List.getElem_mem hil)
      generalize hli : rd_L1 all (i : Nat) = li at *
      have hBd : Bel w2 (w2.drewN 1) := Bel.drew (Below.refl _ _)
      refine GD_start 13 [7] (fun w' => Bel w2 w') (by kernel_rfl) rfl ?_
      refine GD_pure 0 rfl (by kernel_rfl) (by kernel_rfl) (by kernel_rfl) (by kernel_rfl) rfl rfl rfl (qv fun wq hC => by exact r_move) ?_
      refine GD_pure 1 rfl (by kernel_rfl) (by kernel_rfl) (by kernel_rfl) (by kernel_rfl) rfl rfl rfl (qv fun wq hC => by exact r_move) ?_
      refine GD_pure 2 rfl (by kernel_rfl) (by kernel_rfl) (by kernel_rfl) (by kernel_rfl) rfl rfl rfl (qv fun wq hC => by exact r_move) ?_
      refine GD_pure 3 rfl (by kernel_rfl) (by kernel_rfl) (by kernel_rfl) (by kernel_rfl) rfl rfl rfl (qv fun wq hC => by exact r_indexS Try.underlying25 info22 rfl rfl (by omega) (by omega) (Nat.mul_one _)) ?_
      refine GD_take 4 rfl (by kernel_rfl) (by kernel_rfl) (by kernel_rfl) (by kernel_rfl) rfl rfl rfl (qv fun wq hC => by exact r_load1 rfl Try.underlying22 ((hB2.bel hC).cellk h32)) ?_
      refine GD_pure 5 rfl (by kernel_rfl) (by kernel_rfl) (by kernel_rfl) (by kernel_rfl) rfl rfl rfl (qv fun wq hC => by exact r_move) ?_
      refine GD_one 6 (by kernel_rfl) (fun _ => hBd) ?_
      refine GO_call rfl rfl rfl he79 rfl (greatest_yard_c A c y _ (Kd.C_below hs (hB.bel (hB2.bel hBd))) (by omega)) (fun e w34 he => ?_)
      obtain ⟨v34, rfl, HR34, hb34⟩ := he
      have h34 := IntC.of_R HR34
      obtain ⟨A34, c34, rfl, _, hC34⟩ := h34
      refine ⟨_, rfl, ?_⟩
      have hBe := hBd.bel hb34
      refine GD_one 7 (by kernel_rfl) (fun _ => hBe) ?_
      refine GO_call rfl rfl rfl he75 rfl (month_c A A0 A34 c c0 c34 y li (lvList (hiF y) y.length) (lvOf li) (hiF y) _ (Kd.C_below hs (hB.bel (hB2.bel hBe))) (Kd.C_below hC0 (hB2.bel hBe)) hC34 (by omega) hlvi.1 (lvList_len _ _) (fun i hi => ⟨rfl, by have := hlvi.2 i hi; unfold lvOf; omega⟩) (lvs_hi hy)) (fun e w35 he => ?_)
      obtain ⟨v35, rfl, HR35, hb35⟩ := he
      have hI35 := IntC.of_R HR35
      rw [IntC, lvList_len] at hI35
      obtain ⟨A35, c35, rfl, hle35, hC35⟩ := hI35
      refine ⟨_, rfl, ?_⟩
      have hBf := hBe.bel hb35
      refine GD_pure 8 rfl (by kernel_rfl) (by kernel_rfl) (by kernel_rfl) (by kernel_rfl) rfl rfl rfl (qv fun wq hC => by exact r_move) ?_
      refine GD_pure 9 rfl (by kernel_rfl) (by kernel_rfl) (by kernel_rfl) (by kernel_rfl) rfl rfl rfl (qv fun wq hC => by exact r_extract rfl rfl) ?_
      refine GD_pure 10 rfl (by kernel_rfl) (by kernel_rfl) (by kernel_rfl) (by kernel_rfl) rfl rfl rfl (qv fun wq hC => by exact r_extract rfl rfl) ?_
      refine GD_pure 11 rfl (by kernel_rfl) (by kernel_rfl) (by kernel_rfl) (by kernel_rfl) rfl rfl rfl (qv fun wq hC => by exact r_assign) ?_
      refine GD_pure 12 rfl (by kernel_rfl) (by kernel_rfl) (by kernel_rfl) (by kernel_rfl) rfl rfl rfl (qv fun wq hC => by exact r_assign) ?_
      refine GD_end (by kernel_rfl) (dead 7 rfl (by kernel_rfl)) ?_
      refine Tn (Sq (Rg (As (Nl (Tn (Bk ?_))))))
      have hks : KF y (r + 1) (lvOf li) ↔ (dryUp (dryP y (lvOf li) (hiF y)) y.length < 0 ∧ ∃ t : Nat, t < y.length ∧ KF y r (topF y t (lkF (lvOf li) (hiF y) y.length))) := kf_succ
      generalize hdq : decide (dryUp (dryP y (lvOf li) (hiF y)) y.length < 0) = dq at *
      refine GC_loop (fun m σ w' => ∃ (t : Nat) (n2 : List (List Int)) (v : Value) (τ : Nat → Value), σ = upd (upd (upd (upd (upd (upd (upd (upd (upd τ 0 (.slice A y.length c)) 1 (.int .i64 mo)) 5 (.slice (some ad) all.length c5)) 6 (.int .i64 k)) 7 v) 8 (.int .i64 i)) 9 (.slice A35 y.length c35)) 10 (.bool dq)) 11 (.int .i64 t) ∧ t ≤ y.length ∧ m = y.length - t ∧ (dq = false → t = 0) ∧ RowC w' v n2 ∧ (∀ x ∈ n2, Lvs y x) ∧ n2.length ≤ 4 * i + t ∧ ((∃ x ∈ n2, KF y r (lvOf x)) ↔ (∃ j, j < i ∧ KF y (r + 1) (lvOf (rd_L1 all (j : Nat)))) ∨ ∃ u : Nat, u < t ∧ KF y r (topF y u (lkF (lvOf li) (hiF y) y.length))) ∧ Bel w35 w') (y.length) ⟨0, nx, v7, _, has rfl (has rfl (has rfl (has rfl (has rfl (has rfl (has rfl (has rfl (has rfl rfl)))))))), Nat.zero_le _, rfl, fun _ => rfl, hR7.bel hBf, hlv7, by omega, by rw [hiff7]; constructor; exact .inl; rintro (h | ⟨u, hu, _⟩); exact h; omega, Below.refl _ _⟩ ?_
      rintro m _ w3 ⟨t, n2, v8, τ3, rfl, ht, rfl, ht0, hR8, hlv8, hl8, hiff8, hB3⟩
      refine Sq (Sq (Rg (Mv (Mv ?_))))
      cases q39 : dq with
      | true =>
        refine Mv (Mv (Ln Try.underlying35 rfl ?_))
        refine g_lss rfl rfl (h1 := fun c43 => ?_) (h2 := fun c43 => ?_)
        · skip
          refine Pt rfl (Nl (Tn (Ct rfl (Sk (Tn (Sq (Bk (Sq (Rg ?_)))))))))
          refine g_litsR (Kd.int .i64) (xs := []) (inner := []) (okp := fun _ => True) (lit22_0 _) rfl rfl (by decide) (Reps.none _ _) (h := fun g47 w47 HR47 hg47 => ?_)
          have hB47 : Bel w3 w47 := Bel.grown (Below.refl _ _) hg47 (by intro q hq; cases hq)
          refine Mv ?_
          refine g_appendRows (Kd.int .i64) Try.underlying22 zi3 rfl (by decide) (by decide) (okp := fun _ => False) HR47 (Kd.C_below hC35 (hB3.bel hB47)) (fun x cs h => h) (fun _ h => h.elim) (fun _ _ => trivial) hg47.size (by simp only [List.length_nil]; omega) rfl rfl (h := fun v49 w49 HR49 hg49 _ => ?_)
          have hB49 : Bel w3 w49 := hB47.grown hg49 (fun q hq => Kd.R_base HR47 q hq)
          rw [List.nil_append] at HR49
          have htl : t < y.length := by omega
          obtain ⟨gr, cap, rfl, hgr, _, _⟩ := Kd.R_form HR49 (by rw [lvList_len]; omega)
          rw [lvList_len] at HR49 ⊢
          have hBy := hB.bel (hB2.bel (hBf.bel (hB3.bel hB49)))
          refine As (Nl (Tn (Sq (Rg (Mv (Mv (Mv (Mv ?_))))))))
          obtain ⟨ady, hA, h56⟩ := at70 hs hBy t htl
          refine g_indexS (ad := ady) Try.underlying35 info70 (by rw [← hA]; rfl) rfl (by omega) (by omega) rfl (h := ?_)
          refine Fa f70_1 rfl (L1 Try.underlying3 (h56 1 (.int .i64 (yd y t).f1) (by rw [yd_get y _ htl]; rfl)) rfl ?_)
          refine g_indexO Try.underlying22 info3 rfl rfl  (by omega) (by omega) (Nat.mul_one _) (h := ?_)
          refine g_storeR (enc := Value.int .i64) (h1 := fun _ => rfl) rfl rfl info3 HR49 (by omega) (by omega) (h := fun w14 HR14 hg14 => ?_)
          have hB14 : Bel w3 w14 := hB49.grown hg14 (fun q hq => by injection hq with hq; subst hq; exact Kd.R_base HR49 gr rfl)
          have hset : (lvList (lkF (lvOf li) (hiF y) y.length) y.length).set ((t : Int).toNat) (yd y t).f1 = lvList (topF y t (lkF (lvOf li) (hiF y) y.length)) y.length := by
            have := topF_set y (t : Int) (lkF (lvOf li) (hiF y) y.length) y.length (by omega) (by omega)
            rw [Int.toNat_natCast] at this ⊢; exact this
          rw [hset] at HR14
          have hIo := IntC.of_R HR14
          have hlo : Lvs y (lvList (topF y t (lkF (lvOf li) (hiF y) y.length)) y.length) := lvs_list (lk_rg hy hlvi t)
          have hkfo : KF y r (lvOf (lvList (topF y t (lkF (lvOf li) (hiF y) y.length)) y.length)) ↔ KF y r (topF y t (lkF (lvOf li) (hiF y) y.length)) := kf_list
          generalize hone : lvList (topF y t (lkF (lvOf li) (hiF y) y.length)) y.length = one at *
          obtain ⟨Ao, co, hvo, hleo, hCo⟩ := hIo
          obtain ⟨A8, c8, rfl, hle8, hC8⟩ := hR8.bel hB14
          injection hvo with hvo1 hvo2 hvo3
          subst hvo1 hvo3
          have hput := put_c A8 (some ⟨gr, 0, none⟩) c8 cap n2 one w14 hC8 hle8 hCo hleo (fun x hx => by rw [(hlv8 x hx).1, hlo.1]) (by omega)
          rw [hlo.1] at hput
          refine Nl (Tn (Rg (Mv (Mv ?_))))
          refine g_call he81 (by kernel_rfl) (hput) (h := ?_)
          rintro e w60 ⟨v60, rfl, hR60, hb60⟩
          refine ⟨_, rfl, ?_⟩
          have hpk := put_kf (r := r) hlv8 hlo
          have hpl := put_len n2 one
          refine As (Nl (Bn (Tn (Rg (Mv ?_)))))
          refine g_add rfl rfl (by omega) (h := ?_)
          refine As (Nl ?_)
          exact round_end (y.length - (t + 1)) (by omega) ⟨t + 1, putL n2 one, v60, _, has rfl (has rfl (has rfl (has rfl (has rfl (has rfl (has rfl (has rfl (has rfl rfl)))))))), htl, rfl, fun h => (by cases h), hR60, fun x hx => by rcases put_mem hx with h | rfl; exact hlv8 x h; exact hlo, by omega, by
            rw [hpk, hiff8, hkfo, lt_succ_ex, or_assoc], hB3.bel (hB14.bel hb60)⟩
        · skip
          refine Pt rfl (Nl (Tn (Cf rfl (Xi (Tx (Tx (Bs (Bn (Tn (Rg (Mv ?_)))))))))))
          refine g_add rfl rfl (by omega) (h := ?_)
          refine As (Nl ?_)
          have hBn := hBf.bel hB3
          exact round_end (all.length - (i + 1)) (by omega) ⟨i + 1, n2, v8, _, has rfl (has rfl (has rfl (has rfl (has rfl (has rfl rfl))))), hil, rfl, hR8, hlv8, by omega, by
            rw [hiff8, lt_succ_ex, hli, hks]
            have hdt : dryUp (dryP y (lvOf li) (hiF y)) y.length < 0 := of_decide_eq_true (hdq.trans q39)
            rw [show t = y.length by omega]
            constructor
            · rintro (h | h)
              · exact .inl h
              · exact .inr ⟨hdt, h⟩
            · rintro (h | ⟨_, h⟩)
              · exact .inl h
              · exact .inr h, hB2.bel hBn⟩
      | false =>
        refine Of (Of (Of (Of (Pf rfl (Nl (Tn (Cf rfl (Xi (Tx (Tx (Bs (Bn (Tn (Rg (Mv ?_)))))))))))))))
        refine g_add rfl rfl (by omega) (h := ?_)
        refine As (Nl ?_)
        have hBn := hBf.bel hB3
        have ht00 := ht0 q39
        exact round_end (all.length - (i + 1)) (by omega) ⟨i + 1, n2, v8, _, has rfl (has rfl (has rfl (has rfl (has rfl (has rfl rfl))))), hil, rfl, hR8, hlv8, by omega, by
          rw [hiff8, lt_succ_ex, hli, hks]
          have hdt : ¬ dryUp (dryP y (lvOf li) (hiF y)) y.length < 0 := of_decide_eq_false (hdq.trans q39)
          constructor
          · rintro (h | ⟨u, hu, _⟩)
            · exact .inl h
            · omega
          · rintro (h | ⟨h, _⟩)
            · exact .inl h
            · exact absurd h hdt, hB2.bel hBn⟩
    · skip
      refine Nl (Tn (Cf rfl (Xi (Tx (Tx (Bs (Tn (Rg (Mv (As (Nl (Bn (Tn (Rg (Mv ?_)))))))))))))))
      refine g_add rfl rfl (by omega) (h := ?_)
      refine As (Nl ?_)
      exact round_end r (by omega) ⟨k + 1, r, nx, v7, _, has rfl (has rfl (has rfl (has rfl rfl))), by omega, rfl, hR7, hlv7, by omega, by
        rw [hiff7, ← hiff, mem_rd (ls := all), show i = all.length by omega], hB.bel hB2⟩
  · skip
    obtain rfl : r = 0 := by omega
    obtain ⟨A5, c5, rfl, hle5, hC5⟩ := hR5
    refine Nl (Tn (Cf rfl (Xi (Tx (Tx (Bs (Tn (Sq (Rg (Mv (Ln Try.underlying25 rfl ?_)))))))))))
    refine g_gtr rfl rfl (h1 := fun c64 => ?_) (h2 := fun c64 => ?_)
    · skip
      refine As (Nl (Tn (Rt ?_)))
      exact ret1 rfl ⟨true, rfl, ⟨fun _ => hiff.1 ⟨all[0], List.getElem_mem (by omega), kf_zero _ _⟩, fun _ => rfl⟩, hB⟩
    · skip
      refine As (Nl (Tn (Rt ?_)))
      exact ret1 rfl ⟨false, rfl, ⟨fun h => (by cases h), fun h => (by
        obtain ⟨x, hx, _⟩ := hiff.2 h
        have := List.length_pos_of_mem hx
        omega)⟩, hB⟩
end Go.Proofs.B
