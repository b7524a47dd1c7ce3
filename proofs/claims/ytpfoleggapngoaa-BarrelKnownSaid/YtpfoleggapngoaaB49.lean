/- barrel: the reference of the most barrels. -/
import Derived.Test.YtpfoleggapngoaaB48
set_option linter.unusedVariables false
set_option linter.unusedSimpArgs false
set_option maxRecDepth 10000
namespace Go.Proofs.B
open Go Go.RowKit Go.Proofs Go.Proofs.G Go.Proofs.F Go.Proofs.T Go.Proofs.YtpfoleggapngoaaW.PrintWords
def barr (p : Nat → Bool) (j : Nat) : List Nat := (List.range j).filter p
theorem barr_succ (p : Nat → Bool) (j : Nat) : barr p (j + 1) = barr p j ++ if p j = true then [j] else [] := by
  unfold barr
  rw [List.range_succ, List.filter_append]
  cases h : p j <;> simp [List.filter, h]
theorem barr_mem (p : Nat → Bool) (j b : Nat) : b ∈ barr p j ↔ b < j ∧ p b = true := by
  unfold barr
  rw [List.mem_filter, List.mem_range]
theorem barr_len (p : Nat → Bool) (j : Nat) : (barr p j).length ≤ j := by
  unfold barr
  exact Nat.le_trans (List.length_filter_le _ _) (by simp)
def nI (l : List Nat) : List Int := l.map (fun b : Nat => (b : Int))
theorem nI_len (l : List Nat) : (nI l).length = l.length := List.length_map _
theorem nI_rd (l : List Nat) (i : Nat) (h : i < l.length) : rd (nI l) (i : Nat) = ((l[i] : Nat) : Int) := by
  rw [rd_nat _ i (by rw [nI_len]; exact h)]; simp [nI]
theorem isBS0 (ws : List Int) (girth play : Int) : isBS ws girth play 0 = false := by simp [isBS]
theorem rep_range (N : Nat) : List.replicate N (0 : Int) = (List.range N).map (fun T => (((fun _ => 0 : Nat → Nat) T : Nat) : Int)) := by
  apply List.ext_getElem
  · simp
  · intro i h1 h2; simp
theorem range_upd (N S x : Nat) (f : Nat → Nat) (v : Int) (hS : S < N) (y : Nat) (hy : v = (y : Nat)) : ((List.range N).map (fun T => ((if T = S then x else f T : Nat) : Int))).set S v = (List.range N).map (fun T => ((if T = S then y else f T : Nat) : Int)) := by
  subst hy
  rw [range_set N S _ _ hS]
  refine List.map_congr_left fun T _ => ?_
  by_cases h : T = S <;> simp [h]
theorem range_id (N S : Nat) (f : Nat → Nat) (hf : f S = 0) : (List.range N).map (fun T => ((f T : Nat) : Int)) = (List.range N).map (fun T => ((if T = S then 0 else f T : Nat) : Int)) := by
  refine List.map_congr_left fun T _ => ?_
  by_cases h : T = S
  · subst h; simp [hf]
  · simp [h]
set_option maxHeartbeats 8000000 in
theorem mostR_c (A : Option Addr) (c : Nat) (ws : List Int) (girth play : Int) (w : World) (hw : (Kd.int .i64).C w A ws.length ws) (hpo : PileOk ws girth play) :
    Calls Try.prog 22 #[.agg #[.slice A ws.length c, .int .i64 girth, .int .i64 play]] w fun e w' => ∃ m : Nat, e = .returned (.int .i64 m) ∧ MostIs (isBS ws girth play) (2 ^ ws.length - 1) m ∧ Bel w w' := by
  have hn : ws.length ≤ 10 := by have := hpo.1; omega
  have hwb : ∀ x ∈ ws, 0 ≤ x ∧ x ≤ 1000 := fun x hx => by have := of_decide_eq_true (List.all_eq_true.1 hpo.2.2.2 x hx); omega
  have hgi : 0 ≤ girth ∧ girth ≤ 100000 := by have := hpo.2.1; omega
  have hpl : 0 ≤ play ∧ play ≤ 100000 := by have := hpo.2.2.1; omega
  have hp10 := pow10 hn
  have hp1 := Nat.two_pow_pos ws.length
  have hpc := pow_cast ws.length
  obtain ⟨N, hN⟩ : ∃ N : Nat, 2 ^ ws.length = N := ⟨_, rfl⟩
  obtain ⟨p, hp⟩ : ∃ p, isBS ws girth play = p := ⟨_, rfl⟩
  have hp0 : p 0 = false := by rw [← hp]; exact isBS0 _ _ _
  rw [hN] at hp10 hp1 hpc ⊢
  rw [hp]
  refine G_enter (l := [.agg #[.slice A ws.length c, .int .i64 girth, .int .i64 play]]) Try.func22 rfl rfl ?_
  refine Sq (Rg ?_)
  refine g_box rfl (h := fun g1 w1 N1 => ?_)
  have K1 := N1.at_
  have hB1 := Bel.of_new N1
  have K1a : w1.heap[g1]? = some (.cells #[.slice A ws.length c, .int .i64 girth, .int .i64 play] 24 (0, 0)) := K1
  refine As (Nl (Tn (Sq (Rg (Fb f24_0 rfl (L1 Try.underlying22 (cellAt K1a rfl) rfl (Ln Try.underlying22 rfl ?_)))))))
  refine g_v (r_shl rfl rfl (n := ws.length) (by omega) (by omega) (by omega)) (h := ?_)
  rw [Int.one_mul, hpc]
  refine As (Nl (Tn (Sq (Rg (Mv ?_)))))
  refine g_makeR (Kd.int .i64) (n := N) (z := .int .i64 0) (z0 := 0) (bytes := 8) (okp := fun _ => True) Try.underlying22 zi3 rfl (by decide) (by decide) rfl rfl rfl (by omega) (h := fun gr w14 HR0 hg14 => ?_)
  have hB14 := hB1.grown hg14 (fun k hk => by cases hk)
  have HRm := Kd.R_lower HR0 hB1.size
  rw [rep_range] at HRm
  have K1b := kG K1a hg14 (by simp)
  have hgr : gr < w14.heap.size := by obtain ⟨_, ho⟩ := Kd.R_own HRm; obtain ⟨cl, hcl⟩ := own_typed ho gr rfl; exact (Array.getElem?_eq_some_iff.1 hcl).1
  refine As (Nl (Tn (Sq (Rg (As (Nl (Tn (Sq (Sq (Rg (As (Nl (Tn (Bk ?_))))))))))))))
  refine GC_loop (fun m σ w' => ∃ (j : Nat) (v : Value) (τ : Nat → Value), σ = upd (upd (upd (upd (upd τ 1 (.pointer (some ⟨g1, 0, none⟩))) 3 (.int .i64 N)) 4 (.slice (some ⟨gr, 0, none⟩) N N)) 5 v) 6 (.int .i64 j) ∧ (1 ≤ j ∧ j ≤ N) ∧ m = N - j ∧ (Kd.int .i64).R 3 w' w14.heap.size (fun _ => True) v (nI (barr p j)) ∧ Bel w14 w') (N - 1) ⟨1, _, _, has rfl (has rfl (has rfl (has rfl (has rfl rfl)))), ⟨Nat.le_refl _, hp1⟩, rfl, by rw [show barr p 1 = [] by rw [barr_succ, hp0]; rfl]; exact Kd.R_nil _ _ _ _ _, Below.refl _ _⟩ ?_
  rintro m _ w3 ⟨j, v, τ, rfl, hj, rfl, HRb, hB⟩
  refine Sq (Sq (Rg (Mv (Mv ?_))))
  refine g_lss rfl rfl (h1 := fun c17 => ?_) (h2 := fun c17 => ?_)
  · skip
    refine Nl (Tn (Ct rfl (Sk (Tn ?_))))
    refine GC_join (fun σ w' => ∃ (v2 : Value) (τ : Nat → Value), σ = upd (upd (upd (upd (upd τ 1 (.pointer (some ⟨g1, 0, none⟩))) 3 (.int .i64 N)) 4 (.slice (some ⟨gr, 0, none⟩) N N)) 5 v2) 6 (.int .i64 j) ∧ (Kd.int .i64).R 3 w' w14.heap.size (fun _ => True) v2 (nI (barr p (j + 1))) ∧ Bel w14 w') ?_ ?_
    · skip
      refine Bk (Sq (Rg ?_))
      have K1c := kB K1b hB
      have hBw := hB14.bel hB
      have hbs := barr_succ p j
      refine g_loadA rfl Try.underlying24 info24 (l := [.slice A ws.length c, .int .i64 girth, .int .i64 play]) (cellsAt K1c) (h := ?_)
      refine Mv ?_
      have hisB := isBarrelR_c A c ws girth play j w3 (Kd.C_below hw hBw) hwb hn (by omega) hgi hpl
      rw [hp] at hisB
      refine g_call he65 rfl (hisB) (h := ?_)
      rintro e w22 ⟨rfl, hb22⟩
      refine ⟨_, rfl, ?_⟩
      have hB22 := hB.bel hb22
      refine Nl (Tn ?_)
      cases q22 : p j with
      | true =>
        rw [if_pos q22] at hbs
        have hbl := barr_len p j
        refine Ct rfl (Rg (Mv (Mv ?_)))
        refine g_lit1 bs22 rfl rfl (h := fun g25 w25 N25 => ?_)
        refine g_appendR (Kd.int .i64) Try.underlying22 zi3 rfl (by decide) (rN (rB HRb hb22) N25) (cs := [.int .i64 (j : Nat)]) N25.at_ (p := ((j : Nat) : Int)) (okp := fun _ => False) rfl (fun _ h => h.elim) (fun _ _ => trivial) (Nat.le_trans hB22.size N25.ch.size) (by rw [nI_len]; omega) (by rw [nI_len]; simp [maxLen]; omega) rfl rfl (h := fun v26 w26 HR26 hg26 _ => ?_)
        refine As (Nl (Bn ?_))
        exact join_end ⟨v26, _, has rfl (has rfl (has rfl (has rfl (has rfl rfl)))), by rw [hbs, nI, List.map_append]; exact HR26, (hB22.new N25).grown hg26 (Kd.R_base HRb)⟩
      | false =>
        rw [if_neg (by rw [q22]; decide), List.append_nil] at hbs
        refine Cf rfl (Sk (Bn ?_))
        exact join_end ⟨v, _, has rfl (has rfl (has rfl (has rfl (has rfl rfl)))), by rw [hbs]; exact rB HRb hb22, hB22⟩
    · rintro _ w2 ⟨v2, τ2, rfl, HRb2, hB2⟩
      refine Rg (Mv ?_)
      refine g_add rfl rfl (by omega) (h := ?_)
      refine As (Nl ?_)
      exact round_end (N - (j + 1)) (by omega) ⟨j + 1, v2, _, has rfl (has rfl (has rfl (has rfl (has rfl rfl)))), ⟨by omega, by omega⟩, rfl, HRb2, hB2⟩
  · skip
    refine Nl (Tn (Cf rfl (Xi (Tx (Tx (Bs (Tn (Sq (Sq (Rg (As (Nl (Tn (Bk ?_))))))))))))))
    obtain rfl : N = j := by omega
    have hob : ∃ bs, barr p N = bs := ⟨_, rfl⟩
    obtain ⟨bs, hbs⟩ := hob
    rw [hbs] at HRb
    have hob  := Kd.R_reads HRb
    obtain ⟨A5, c5, e5, _, _⟩ := hob
    rw [nI_len] at e5
    subst e5
    have hbl : bs.length ≤ N := hbs ▸ barr_len p N
    have hbm : ∀ b, b ∈ bs ↔ b < N ∧ p b = true := fun b => hbs ▸ barr_mem p N b
    refine GC_loop (fun m σ w' => ∃ (S : Nat) (f : Nat → Nat) (τ : Nat → Value), σ = upd (upd (upd (upd (upd τ 1 (.pointer (some ⟨g1, 0, none⟩))) 3 (.int .i64 N)) 4 (.slice (some ⟨gr, 0, none⟩) N N)) 5 (.slice A5 bs.length c5)) 7 (.int .i64 S) ∧ (1 ≤ S ∧ S ≤ N) ∧ m = N - S ∧ (∀ T, T < S → MostIs p T (f T)) ∧ (∀ T, S ≤ T → f T = 0) ∧ (∀ T, f T ≤ T) ∧ (Kd.int .i64).R 3 w' w.heap.size (fun _ => True) (.slice (some ⟨gr, 0, none⟩) N N) ((List.range N).map (fun T => ((f T : Nat) : Int))) ∧ (Kd.int .i64).R 3 w' w14.heap.size (fun _ => True) (.slice A5 bs.length c5) (nI bs) ∧ Bel w w') (N - 1) ⟨1, fun _ => 0, _, has rfl (has rfl (has rfl (has rfl (has rfl rfl)))), ⟨Nat.le_refl _, hp1⟩, rfl, fun T hT => by rw [show T = 0 by omega]; exact most0 hp0, fun T _ => rfl, fun T => Nat.zero_le _, rB HRm hB, HRb, hB14.bel hB⟩ ?_
    rintro m _ w4 ⟨S, f, τ1, rfl, hS, rfl, hmo, hz, hfT, HRm, HRb, hB1⟩
    refine Sq (Sq (Rg (Mv (Mv ?_))))
    refine g_lss rfl rfl (h1 := fun c29 => ?_) (h2 := fun c29 => ?_)
    · skip
      refine Nl (Tn (Ct rfl (Sk (Tn (Sq (Bk (Sq (Rg (As (Nl (Tn (Bk ?_))))))))))))
      have hSN : S < N := by omega
      rw [range_id N S f (hz S (Nat.le_refl _))] at HRm
      refine GC_loop (fun m σ w' => ∃ (i x : Nat) (τ : Nat → Value), σ = upd (upd (upd (upd (upd (upd τ 1 (.pointer (some ⟨g1, 0, none⟩))) 3 (.int .i64 N)) 4 (.slice (some ⟨gr, 0, none⟩) N N)) 5 (.slice A5 bs.length c5)) 7 (.int .i64 S)) 8 (.int .i64 i) ∧ i ≤ bs.length ∧ m = bs.length - i ∧ BestOf p f S (bs.take i) x ∧ x ≤ S ∧ (Kd.int .i64).R 3 w' w.heap.size (fun _ => True) (.slice (some ⟨gr, 0, none⟩) N N) ((List.range N).map (fun T => ((if T = S then x else f T : Nat) : Int))) ∧ (Kd.int .i64).R 3 w' w14.heap.size (fun _ => True) (.slice A5 bs.length c5) (nI bs) ∧ Bel w w') (bs.length) ⟨0, 0, _, has rfl (has rfl (has rfl (has rfl (has rfl (has rfl rfl))))), Nat.zero_le _, rfl, BestOf.nil _ _ _, Nat.zero_le _, HRm, HRb, hB1⟩ ?_
      rintro m _ w5 ⟨i, x, τ2, rfl, hi, rfl, hbo, hxi, HRm, HRb, hB2⟩
      refine Sq (Sq (Rg (Mv (Mv (Ln Try.underlying22 rfl ?_)))))
      refine g_lss rfl rfl (h1 := fun c35 => ?_) (h2 := fun c35 => ?_)
      · skip
        refine Nl (Tn (Ct rfl (Sk (Tn ?_))))
        refine GC_join (fun σ w' => ∃ (x2 : Nat) (τ : Nat → Value), σ = upd (upd (upd (upd (upd (upd τ 1 (.pointer (some ⟨g1, 0, none⟩))) 3 (.int .i64 N)) 4 (.slice (some ⟨gr, 0, none⟩) N N)) 5 (.slice A5 bs.length c5)) 7 (.int .i64 S)) 8 (.int .i64 i) ∧ BestOf p f S (bs.take (i + 1)) x2 ∧ x2 ≤ S ∧ (Kd.int .i64).R 3 w' w.heap.size (fun _ => True) (.slice (some ⟨gr, 0, none⟩) N N) ((List.range N).map (fun T => ((if T = S then x2 else f T : Nat) : Int))) ∧ (Kd.int .i64).R 3 w' w14.heap.size (fun _ => True) (.slice A5 bs.length c5) (nI bs) ∧ Bel w w') ?_ ?_
        · skip
          refine Bk (Sq ?_)
          refine GD_start 11 [] (fun w' => w' = w5.drewN 1) (by kernel_rfl) rfl ?_
          have hib : i < bs.length := by omega
          have hob : ∃ b, bs[i] = b := ⟨_, rfl⟩
          obtain ⟨b, hb⟩ := hob
          have hbp := (hbm b).1 (hb ▸ List.getElem_mem hib)
          have hb0 : b ≠ 0 := fun e => by rw [e, hp0] at hbp; cases hbp.2
          have htk : bs.take (i + 1) = bs.take i ++ [b] := by rw [List.take_succ_eq_append_getElem hib, hb]
          have hob  := Kd.R_reads HRb
          obtain ⟨A9, c9, e9, _, hC5⟩ := hob
          injection e9 with e91 _ e92
          subst e91; subst e92
          have hob  := Kd.at_int hC5 i (by omega) (by rw [nI_len]; omega)
          obtain ⟨ad, hA, h41⟩ := hob
          rw [nI_rd bs i hib, hb] at h41
          refine GD_pure 0 rfl (by kernel_rfl) (by kernel_rfl) (by kernel_rfl) (by kernel_rfl) rfl rfl rfl (qv fun wq hC => by exact r_move) ?_
          refine GD_pure 1 rfl (by kernel_rfl) (by kernel_rfl) (by kernel_rfl) (by kernel_rfl) rfl rfl rfl (qv fun wq hC => by exact r_move) ?_
          refine GD_pure 2 rfl (by kernel_rfl) (by kernel_rfl) (by kernel_rfl) (by kernel_rfl) rfl rfl rfl (qv fun wq hC => by exact r_indexH Try.underlying22 info3 hA rfl rfl (by omega) (by omega) (Nat.mul_one _)) ?_
          refine GD_take 3 rfl (by kernel_rfl) (by kernel_rfl) (by kernel_rfl) (by kernel_rfl) rfl rfl rfl (qv fun wq hC => by exact r_load1 rfl Try.underlying3 (by subst hC; exact (Bel.drew (Below.refl _ _)).cellk h41)) ?_
          refine GD_pure 4 rfl (by kernel_rfl) (by kernel_rfl) (by kernel_rfl) (by kernel_rfl) rfl rfl rfl (qv fun wq hC => by exact r_move) ?_
          refine GD_take 5 rfl (by kernel_rfl) (by kernel_rfl) (by kernel_rfl) (by kernel_rfl) rfl rfl rfl (qv fun wq hC => by exact r_and rfl rfl (by omega) (by omega)) ?_
          refine GD_pure 6 rfl (by kernel_rfl) (by kernel_rfl) (by kernel_rfl) (by kernel_rfl) rfl rfl rfl (qv fun wq hC => by exact r_move) ?_
          refine GD_pure 7 rfl (by kernel_rfl) (by kernel_rfl) (by kernel_rfl) (by kernel_rfl) rfl rfl rfl (qv fun wq hC => by exact r_move) ?_
          refine GD_pure 8 rfl (by kernel_rfl) (by kernel_rfl) (by kernel_rfl) (by kernel_rfl) rfl rfl rfl (qv fun wq hC => by exact r_indexH Try.underlying22 info3 hA rfl rfl (by omega) (by omega) (Nat.mul_one _)) ?_
          refine GD_take 9 rfl (by kernel_rfl) (by kernel_rfl) (by kernel_rfl) (by kernel_rfl) rfl rfl rfl (qv fun wq hC => by exact r_load1 rfl Try.underlying3 (by subst hC; exact (Bel.drew (Below.refl _ _)).cellk h41)) ?_
          rcases Decidable.em (((b &&& S : Nat) : Int) = ((b : Nat) : Int)) with c48 | c48
          · skip
            refine GD_pure 10 rfl (by kernel_rfl) (by kernel_rfl) (by kernel_rfl) (by kernel_rfl) rfl rfl rfl (qv fun wq hC => by exact r_eqlT rfl rfl c48) ?_
            refine GD_end (by kernel_rfl) (fun _ => rfl) ?_
            refine Tn (Ct rfl ?_)
            have hc48 : b &&& S = b := by omega
            have hbS : b ≤ S := by rw [← hc48]; exact Nat.and_le_right
            have HRd := rB HRm (Bel.drew (w1 := w5.drewN 1) (Bel.drew (Below.refl _ _)))
            have h54 := (Kd.R_celln (0 : Int) HRd (S : Nat) (by omega) (by omega)).1
            rw [rdO_range N S _ hSN, if_pos rfl] at h54
            have hsb : ((S : Int) - (b : Int)) = ((S - b : Nat) : Int) := by omega
            have h63 := (Kd.R_celln (0 : Int) HRd ((S : Int) - (b : Int)) (by omega) (by omega)).1
            rw [hsb, rdO_range N (S - b) _ (by omega), if_neg (by omega), ← hsb] at h63
            have hfb := hfT (S - b)
            refine GD_start 19 [18] (fun w' => w' = (w5.drewN 1).drewN 1) (by kernel_rfl) rfl ?_
            refine GD_pure 0 rfl (by kernel_rfl) (by kernel_rfl) (by kernel_rfl) (by kernel_rfl) rfl rfl rfl (qv fun wq hC => by exact r_move) ?_
            refine GD_pure 1 rfl (by kernel_rfl) (by kernel_rfl) (by kernel_rfl) (by kernel_rfl) rfl rfl rfl (qv fun wq hC => by exact r_move) ?_
            refine GD_pure 2 rfl (by kernel_rfl) (by kernel_rfl) (by kernel_rfl) (by kernel_rfl) rfl rfl rfl (qv fun wq hC => by exact r_move) ?_
            refine GD_pure 3 rfl (by kernel_rfl) (by kernel_rfl) (by kernel_rfl) (by kernel_rfl) rfl rfl rfl (qv fun wq hC => by exact r_move) ?_
            refine GD_pure 4 rfl (by kernel_rfl) (by kernel_rfl) (by kernel_rfl) (by kernel_rfl) rfl rfl rfl (qv fun wq hC => by exact r_indexO Try.underlying22 info3 rfl rfl  (by omega) (by omega) (Nat.mul_one _)) ?_
            refine GD_take 5 rfl (by kernel_rfl) (by kernel_rfl) (by kernel_rfl) (by kernel_rfl) rfl rfl rfl (qv fun wq hC => by exact r_load1 rfl Try.underlying3 (by subst hC; exact h54)) ?_
            refine GD_pure 6 rfl (by kernel_rfl) (by kernel_rfl) (by kernel_rfl) (by kernel_rfl) rfl rfl rfl (qv fun wq hC => by exact r_move) ?_
            refine GD_pure 7 rfl (by kernel_rfl) (by kernel_rfl) (by kernel_rfl) (by kernel_rfl) rfl rfl rfl (qv fun wq hC => by exact r_move) ?_
            refine GD_pure 8 rfl (by kernel_rfl) (by kernel_rfl) (by kernel_rfl) (by kernel_rfl) rfl rfl rfl (qv fun wq hC => by exact r_move) ?_
            refine GD_pure 9 rfl (by kernel_rfl) (by kernel_rfl) (by kernel_rfl) (by kernel_rfl) rfl rfl rfl (qv fun wq hC => by exact r_move) ?_
            refine GD_pure 10 rfl (by kernel_rfl) (by kernel_rfl) (by kernel_rfl) (by kernel_rfl) rfl rfl rfl (qv fun wq hC => by exact r_indexH Try.underlying22 info3 hA rfl rfl (by omega) (by omega) (Nat.mul_one _)) ?_
            refine GD_take 11 rfl (by kernel_rfl) (by kernel_rfl) (by kernel_rfl) (by kernel_rfl) rfl rfl rfl (qv fun wq hC => by exact r_load1 rfl Try.underlying3 (by subst hC; exact (Bel.drew (Bel.drew (Below.refl _ _))).cellk h41)) ?_
            refine GD_pure 12 rfl (by kernel_rfl) (by kernel_rfl) (by kernel_rfl) (by kernel_rfl) rfl rfl rfl (qv fun wq hC => by exact r_sub rfl rfl (by omega)) ?_
            refine GD_pure 13 rfl (by kernel_rfl) (by kernel_rfl) (by kernel_rfl) (by kernel_rfl) rfl rfl rfl (qv fun wq hC => by exact r_indexO Try.underlying22 info3 rfl rfl  (by omega) (by omega) (Nat.mul_one _)) ?_
            refine GD_take 14 rfl (by kernel_rfl) (by kernel_rfl) (by kernel_rfl) (by kernel_rfl) rfl rfl rfl (qv fun wq hC => by exact r_load1 rfl Try.underlying3 (by subst hC; exact h63)) ?_
            refine GD_pure 15 rfl (by kernel_rfl) (by kernel_rfl) (by kernel_rfl) (by kernel_rfl) rfl rfl rfl (qv fun wq hC => by exact r_add rfl rfl (by omega)) ?_
            refine GD_pure 16 rfl (by kernel_rfl) (by kernel_rfl) (by kernel_rfl) (by kernel_rfl) rfl rfl rfl (qv fun wq hC => by exact r_max rfl rfl rfl) ?_
            refine GD_pure 17 rfl (by kernel_rfl) (by kernel_rfl) (by kernel_rfl) (by kernel_rfl) rfl rfl rfl (qv fun wq hC => by exact r_indexO Try.underlying22 info3 rfl rfl  (by omega) (by omega) (Nat.mul_one _)) ?_
            refine GD_one 18 (by kernel_rfl) (fun _ => rfl) ?_
            refine GO_storeR (enc := Value.int .i64) rfl rfl rfl rfl info3 HRd (by omega) (by omega) (fun w7 HR7 hg7 => ?_)
            rw [Int.toNat_natCast, range_upd N S x f _ hSN (max x (1 + f (S - b))) (by omega)] at HR7
            refine GD_end (by kernel_rfl) (dead 18 rfl (by kernel_rfl)) ?_
            refine Bn ?_
            exact join_end ⟨_, _, has rfl (has rfl (has rfl (has rfl (has rfl (has rfl rfl))))), by rw [htk]; exact hbo.snoc hc48, by omega, HR7, R_okT (rG (R_above (rB HRb (Bel.drew (Bel.drew (Below.refl _ _))))) hg7 (fun q hq e => by injection e with e; have := hq.2; omega)), ((hB2.drew).drew).grown hg7 (fun q hq => Kd.R_base HRd q hq)⟩
          · skip
            refine GD_pure 10 rfl (by kernel_rfl) (by kernel_rfl) (by kernel_rfl) (by kernel_rfl) rfl rfl rfl (qv fun wq hC => by exact r_eqlF rfl rfl c48) ?_
            refine GD_end (by kernel_rfl) (fun _ => rfl) ?_
            refine Tn (Cf rfl (Sk (Bn ?_)))
            exact join_end ⟨x, _, has rfl (has rfl (has rfl (has rfl (has rfl (has rfl rfl))))), by rw [htk]; exact hbo.skip (by omega), hxi, rB HRm (Bel.drew (Below.refl _ _)), rB HRb (Bel.drew (Below.refl _ _)), hB2.drew⟩
        · rintro _ w2 ⟨x2, τ3, rfl, hbo2, hxi2, HRm2, HRb2, hB3⟩
          refine Rg (Mv ?_)
          refine g_add rfl rfl (by omega) (h := ?_)
          refine As (Nl ?_)
          exact round_end (bs.length - (i + 1)) (by omega) ⟨i + 1, x2, _, has rfl (has rfl (has rfl (has rfl (has rfl (has rfl rfl))))), by omega, rfl, hbo2, hxi2, HRm2, HRb2, hB3⟩
      · skip
        refine Nl (Tn (Cf rfl (Xi (Tx (Tx (Bs (Bn (Tn (Rg (Mv ?_))))))))))
        refine g_add rfl rfl (by omega) (h := ?_)
        refine As (Nl ?_)
        exact round_end (N - (S + 1)) (by omega) ⟨S + 1, fun T => if T = S then x else f T, _, has rfl (has rfl (has rfl (has rfl (has rfl rfl)))), ⟨by omega, by omega⟩, rfl, fun T hT => by
          show MostIs p T (if T = S then x else f T)
          by_cases e : T = S
          · subst e
            rw [if_pos rfl]
            have hbe : bs.take i = bs := List.take_of_length_le (by omega)
            rw [hbe] at hbo
            exact most_step (by omega) (fun b hb => by rw [hbm]; exact ⟨fun h => h.2, fun h => ⟨by omega, h⟩⟩) hp0 hmo hbo (fun b hb => ((hbm b).1 hb).2)
          · rw [if_neg e]; exact hmo T (by omega), fun T hT => by show (if T = S then x else f T) = 0; rw [if_neg (by omega)]; exact hz T (by omega), fun T => by show (if T = S then x else f T) ≤ T; by_cases e : T = S; subst e; rw [if_pos rfl]; exact hxi; rw [if_neg e]; exact hfT T, HRm, HRb, hB2⟩
    · skip
      refine Nl (Tn (Cf rfl (Xi (Tx (Tx (Bs (Tn (Sq (Rg (Mv (Mv ?_)))))))))))
      refine g_sub rfl rfl (by omega) (h := ?_)
      refine g_indexO Try.underlying22 info3 rfl rfl  (by omega) (by omega) (Nat.mul_one _) (h := ?_)
      have hSe : S = N := by omega
      have h71 := (Kd.R_celln (0 : Int) HRm ((N : Int) - 1) (by omega) (by omega)).1
      have hn1 : ((N : Int) - 1) = ((N - 1 : Nat) : Int) := by omega
      rw [hn1, rdO_range N (N - 1) _ (by omega), ← hn1] at h71
      refine L1 Try.underlying3 (h71) rfl (As (Nl (Tn (Rt ?_))))
      exact ret1 rfl ⟨f (N - 1), rfl, hmo (N - 1) (by omega), hB1⟩
end Go.Proofs.B
