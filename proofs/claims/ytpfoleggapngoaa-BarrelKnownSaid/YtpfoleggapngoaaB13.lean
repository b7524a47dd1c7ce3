/- barrel: AreCounts, Proves. -/
import Derived.Test.YtpfoleggapngoaaGd
import Derived.Test.YtpfoleggapngoaaB12
set_option linter.unusedVariables false
set_option linter.unusedSimpArgs false
set_option maxRecDepth 10000
namespace Go.Proofs.B
open Go Go.RowKit Go.Proofs Go.Proofs.G Go.Proofs.F Go.Proofs.YtpfoleggapngoaaW.PrintWords
def withinB (l : List S76) (cs : List Int) (k : Nat) : Bool := decide ((mv l k).f2.f0 ≤ rd cs k ∧ rd cs k ≤ (mv l k).f2.f1)
def areCountsB (N : Nat) (l : List S76) (cs : List Int) : Bool := (List.range l.length).all (withinB l cs) && (List.range N).all (fun s => decide (ovf l cs l.length s = 0))
def areCounts (n : Int) (l : List S76) (cs : List Int) : Bool × Int := if bookOk n l = true then (if cs.length = l.length then (areCountsB n.toNat l cs, 0) else (false, 64)) else (false, 63)
theorem book_n {n : Int} {l : List S76} (h : bookOk n l = true) : (2 ≤ n ∧ n ≤ 6) ∧ (1 ≤ l.length ∧ l.length ≤ 10) := by
  have h := of_decide_eq_true (Bool.and_eq_true_iff.1 h).1
  omega
theorem book_move {n : Int} {l : List S76} (h : bookOk n l = true) (k : Nat) (hk : k < l.length) : (0 ≤ (mv l k).f0 ∧ (mv l k).f0 ≤ n - 1) ∧ (0 ≤ (mv l k).f1 ∧ (mv l k).f1 ≤ n - 1) ∧ (mv l k).f0 ≠ (mv l k).f1 ∧ (0 ≤ (mv l k).f2.f0 ∧ (mv l k).f2.f0 ≤ (mv l k).f2.f1 ∧ (mv l k).f2.f1 ≤ 1000) := by
  rw [mv_get l k hk]
  have h := List.all_eq_true.1 (Bool.and_eq_true_iff.1 h).2 _ (List.getElem_mem hk)
  simpa [moveOk, spanOk] using h
theorem ret2b {a b : Bool} {c d : Int} (h : (a, c) = (b, d)) : Ending.returned (.tuple #[.bool a, .int .i64 c]) = .returned (.tuple #[.bool b, .int .i64 d]) := by injection h with h h2; rw [h, h2]
theorem all_range_step {n : Nat} {p : Nat → Bool} (k : Nat) : (List.range (k + 1)).all p = ((List.range k).all p && p k) := by simp [List.range_succ]
theorem all_range_lt {n k : Nat} {p : Nat → Bool} (hk : k < n) (hp : p k = false) : (List.range n).all p = false := by
  cases h : (List.range n).all p with
  | false => rfl
  | true => rw [List.all_eq_true.1 h k (by simpa using hk)] at hp; cases hp
theorem build130 (w : World) (a b : Value) : (Instr.build 130 #[(0, .agg #[a, b])]).run Try.prog w = .ok (.agg #[a, b]) w := by kernel_rfl
set_option maxHeartbeats 2000000 in
theorem areCounts_c (A B : Option Addr) (c d : Nat) (n : Int) (l : List S76) (cs : List Int) (w : World) (hs : k76.C w A l.length l) (hc : (Kd.int .i64).C w B cs.length cs) :
    Calls Try.prog 33 #[.agg #[.int .i64 n, .slice A l.length c], .slice B cs.length d] w fun e w' => e = .returned (.tuple #[.bool (areCounts n l cs).1, .int .i64 (areCounts n l cs).2]) ∧ Bel w w' := by
  refine G_enter (l := [.agg #[.int .i64 n, .slice A l.length c], .slice B cs.length d]) Try.func33 rfl rfl ?_
  refine Sq (Rg ?_)
  refine g_box rfl (h := fun g2 w2 N2 => ?_)
  have K2 := N2.at_
  have hB2 := Bel.of_new N2
  have K2a : w2.heap[g2]? = some (.cells #[.int .i64 n, .slice A l.length c] 49 (0, 0)) := K2
  refine As (As (Nl (Tn (Sq (Sq (Rg ?_))))))
  refine g_loadA rfl Try.underlying49 info49 (l := [.int .i64 n, .slice A l.length c]) (cellsAt K2a) (h := ?_)
  refine g_call he35 rfl (checkBook_c A c n l _ (Kd.C_below hs hB2)) (h := ?_)
  rintro e w12 ⟨rfl, hb12⟩
  refine ⟨_, rfl, ?_⟩
  have hB12 := hB2.bel hb12
  have K2b := kB K2a hb12
  refine As (Nl (Tn (Sq (Rg (Mv ?_)))))
  refine g_neq rfl rfl (h1 := fun c14 => ?_) (h2 := fun c14 => ?_)
  · skip
    have hbo : ¬ bookOk n l = true := fun h => by rw [if_pos h] at c14; exact c14 rfl
    refine Nl (Tn (Ct rfl (Sq (Rg (Mv (As (As (Nl (Tn (Rt (Tr ?_)))))))))))
    exact ret2 rfl ⟨ret2b (by rw [areCounts, if_neg hbo, if_neg hbo]), hB12⟩
  · skip
    have hbo : bookOk n l = true := by by_cases h : bookOk n l = true; exact h; rw [if_neg h] at c14; exact absurd c14 (by decide)
    obtain ⟨hn, hl10⟩ := book_n hbo
    refine Nl (Tn (Cf rfl (Sk (Tn (Sq (Sq (Rg (Mv (Ln Try.underlying22 rfl (Fb f49_1 rfl (L1 Try.underlying47 (cellAt K2b rfl) rfl (Ln Try.underlying47 rfl ?_))))))))))))
    refine g_neq rfl rfl (h1 := fun c21 => ?_) (h2 := fun c21 => ?_)
    · skip
      refine Nl (Tn (Ct rfl (Sq (Rg (As (As (Nl (Tn (Rt (Tr ?_))))))))))
      exact ret2 rfl ⟨ret2b (by rw [areCounts, if_pos hbo, if_neg (by omega)]), hB12⟩
    · skip
      have hlen : cs.length = l.length := by omega
      have hres : areCounts n l cs = (areCountsB n.toNat l cs, 0) := by rw [areCounts, if_pos hbo, if_pos hlen]
      rw [hres]
      refine Nl (Tn (Cf rfl (Sk (Tn (Sq (Sq (Rg (Fb f49_1 rfl (L1 Try.underlying47 (cellAt K2b rfl) rfl (Ln Try.underlying47 rfl (Mv (Nl (Tn (Bk ?_))))))))))))))
      refine GC_loop (fun m σ w' => ∃ (k : Nat) (τ : Nat → Value), σ = upd (upd (upd (upd (upd τ 1 (.slice B cs.length d)) 2 (.pointer (some ⟨g2, 0, none⟩))) 23 (.slice A l.length c)) 24 (.int .i64 l.length)) 25 (.int .i64 k) ∧ k ≤ l.length ∧ m = l.length - k ∧ w'.heap[g2]? = some (.cells #[.int .i64 n, .slice A l.length c] 49 (0, 0)) ∧ Bel w w' ∧ (List.range k).all (withinB l cs) = true) (l.length) ⟨0, _, has rfl (has rfl (has rfl (has rfl (has rfl rfl)))), Nat.zero_le _, rfl, K2b, hB12, rfl⟩ ?_
      rintro m _ w3 ⟨k, τ, rfl, hk, rfl, K2c, hB, hall⟩
      refine Sq (Rg ?_)
      refine g_lss rfl rfl (h1 := fun c26 => ?_) (h2 := fun c26 => ?_)
      · skip
        refine Nl (Tn (Sq (Ct rfl (Sk (Tn (Sq (Bk (Sq (Rg (Mv ?_))))))))))
        have hkl : k < l.length := by omega
        obtain ⟨ad, hA, h29⟩ := at76 hs hB k hkl
        rw [hA]
        refine g_indexS Try.underlying47 info76 rfl rfl (by omega) (by omega) rfl (h := ?_)
        refine g_loadA rfl Try.underlying76 info76 (l := enc76 l[k]) h29 (h := ?_)
        refine g_alloc (z := zero76) (by kernel_rfl) (h := fun g8 w8 N8 => ?_)
        have K8 := N8.at_
        refine As ?_
        refine g_storeA rfl rfl info76 K8 rfl (one76 _) (h := fun w6 P6 => ?_)
        have K8a : w6.heap[g8]? = some (.cells (enc76 (mv l k)).toArray 76 (0, 0)) := by rw [mv_get l k hkl]; exact P6.at_
        have hB6 := (hB.new N8).put P6 (Nat.le_trans hB.size N8.ge)
        have K2d := kP (kN K2c N8) P6 (N8.ne K2c)
        rw [hA] at K2d
        obtain ⟨adB, hBB, hcnt⟩ := Kd.at_int (Kd.C_below hc hB6.drew) k (by omega) (by omega)
        rw [hBB]
        refine Nl (Tn (Sq ?_))
        refine GD_start 12 [] (fun w' => w' = w6.drewN 1) (by kernel_rfl) rfl ?_
        refine GD_pure 0 rfl (by kernel_rfl) (by kernel_rfl) (by kernel_rfl) (by kernel_rfl) rfl rfl rfl (qv fun wq hC => by exact r_move) ?_
        refine GD_pure 1 rfl (by kernel_rfl) (by kernel_rfl) (by kernel_rfl) (by kernel_rfl) rfl rfl rfl (qv fun wq hC => by exact r_move) ?_
        refine GD_pure 2 rfl (by kernel_rfl) (by kernel_rfl) (by kernel_rfl) (by kernel_rfl) rfl rfl rfl (qv fun wq hC => by exact r_indexS Try.underlying22 info3 rfl rfl (by omega) (by omega) (Nat.mul_one _)) ?_
        refine GD_take 3 rfl (by kernel_rfl) (by kernel_rfl) (by kernel_rfl) (by kernel_rfl) rfl rfl rfl (qv fun wq hC => by exact r_load1 rfl Try.underlying3 (by subst hC; exact hcnt)) ?_
        refine GD_pure 4 rfl (by kernel_rfl) (by kernel_rfl) (by kernel_rfl) (by kernel_rfl) rfl rfl rfl (qv fun wq hC => by exact r_fieldAddrB f76_2 rfl) ?_
        refine GD_pure 5 rfl (by kernel_rfl) (by kernel_rfl) (by kernel_rfl) (by kernel_rfl) rfl rfl rfl (qv fun wq hC => by exact r_fieldAddrB f68_0 rfl) ?_
        refine GD_take 6 rfl (by kernel_rfl) (by kernel_rfl) (by kernel_rfl) (by kernel_rfl) rfl rfl rfl (qv fun wq hC => by exact r_load1 rfl Try.underlying3 (by subst hC; exact cellAt K8a rfl)) ?_
        refine GD_pure 7 rfl (by kernel_rfl) (by kernel_rfl) (by kernel_rfl) (by kernel_rfl) rfl rfl rfl (qv fun wq hC => by exact r_fieldAddrB f76_2 rfl) ?_
        refine GD_pure 8 rfl (by kernel_rfl) (by kernel_rfl) (by kernel_rfl) (by kernel_rfl) rfl rfl rfl (qv fun wq hC => by exact r_fieldAddrB f68_1 rfl) ?_
        refine GD_take 9 rfl (by kernel_rfl) (by kernel_rfl) (by kernel_rfl) (by kernel_rfl) rfl rfl rfl (qv fun wq hC => by exact r_load1 rfl Try.underlying3 (by subst hC; exact cellAt K8a rfl)) ?_
        refine GD_take 10 rfl (by kernel_rfl) (by kernel_rfl) (by kernel_rfl) (by kernel_rfl) rfl rfl rfl (qc (fun wq hC => by exact r_call he62 rfl) (fun wq hC => by exact within_c (rd cs k) (mv l k).f2.f0 (mv l k).f2.f1 _)) ?_
        refine GD_pure 11 rfl (by kernel_rfl) (by kernel_rfl) (by kernel_rfl) (by kernel_rfl) rfl rfl rfl (qv fun wq hC => by exact r_not rfl) ?_
        refine GD_end (by kernel_rfl) (fun _ => rfl) ?_
        refine Tn ?_
        cases q41 : (!decide ((mv l k).f2.f0 ≤ rd cs (k : Int) ∧ rd cs (k : Int) ≤ (mv l k).f2.f1)) with
        | true =>
          refine Ct rfl (Sq (Rg (As (As (Nl (Tn (Rt (Br (Tr (Tr (Br (Tr ?_))))))))))))
          have hw : withinB l cs k = false := by unfold withinB; revert q41; cases decide ((mv l k).f2.f0 ≤ rd cs (k : Int) ∧ rd cs (k : Int) ≤ (mv l k).f2.f1) <;> simp
          exact ret2 rfl ⟨ret2b (by rw [areCountsB, all_range_lt hkl hw]; rfl), hB6.drew⟩
        | false =>
          refine Cf rfl (Sk (Bn (Tn (Rg ?_))))
          refine g_add rfl rfl (by omega) (h := ?_)
          refine Mv (Nl ?_)
          have hw : withinB l cs k = true := by unfold withinB; revert q41; cases decide ((mv l k).f2.f0 ≤ rd cs (k : Int) ∧ rd cs (k : Int) ≤ (mv l k).f2.f1) <;> simp
          exact round_end (l.length - (k + 1)) (by omega) ⟨k + 1, _, has rfl (has rfl (has rfl (has rfl (has rfl rfl)))), hkl, rfl, K2d, hB6.drew, by rw [all_range_step (n := 0), hall, hw]; rfl⟩
      · skip
        refine Nl (Tn (Sq (Cf rfl (Xi (Tx (Tx (Bs (Tn (Sq (Sq (Rg ?_)))))))))))
        have hke : k = l.length := by omega
        rw [hke] at hall
        obtain ⟨N, hN⟩ := Int.eq_ofNat_of_zero_le (show 0 ≤ n by omega)
        have hbnd : ∀ x ∈ cs, -1000000 ≤ x ∧ x ≤ 1000000 := fun x hx => by
          obtain ⟨i, hi, rfl⟩ := List.mem_iff_getElem.1 hx
          have h1 := List.all_eq_true.1 hall i (by simp; omega)
          have h2 := of_decide_eq_true h1
          rw [rd_nat cs i hi] at h2
          have h3 := book_move hbo i (by omega)
          omega
        have hN6 : N ≤ 6 := by omega
        refine g_loadA rfl Try.underlying49 info49 (l := [.int .i64 n, .slice A l.length c]) (cellsAt K2c) (h := ?_)
        refine g_bld (build130 _ _ _) rfl (h := ?_)
        refine Mv ?_
        refine g_call he82 rfl (by rw [hN]; exact over_c A B c d N l cs _ (Kd.C_below hs hB) (Kd.C_below hc hB) hlen (by omega) (by omega) (fun i hi => by have := book_move hbo i hi; omega) hbnd) (h := ?_)
        rintro e w46 ⟨v46, rfl, HR46, hb46⟩
        refine ⟨_, rfl, ?_⟩
        have hB46 := hB.bel hb46
        obtain ⟨A5, c5, rfl, _, hC5⟩ := Kd.R_reads HR46
        have hlo : ((List.range N).map (ovf l cs l.length)).length = N := by simp
        refine Ln Try.underlying22 rfl (Mv (Nl (Tn (Bk ?_))))
        refine GC_loop (fun m σ w' => ∃ (j : Nat) (τ : Nat → Value), σ = upd (upd (upd τ 46 (.slice A5 ((List.range N).map (ovf l cs l.length)).length c5)) 47 (.int .i64 ((List.range N).map (ovf l cs l.length)).length)) 48 (.int .i64 j) ∧ j ≤ N ∧ m = N - j ∧ w' = w46 ∧ (List.range j).all (fun s => decide (ovf l cs l.length s = 0)) = true) (N) ⟨0, _, has rfl (has rfl (has rfl rfl)), Nat.zero_le _, rfl, rfl, rfl⟩ ?_
        rintro m _ w5 ⟨j, τ5, rfl, hj, rfl, rfl, hall2⟩
        refine Sq (Rg ?_)
        refine g_lss rfl rfl (h1 := fun c49 => ?_) (h2 := fun c49 => ?_)
        · skip
          refine Nl (Tn (Sq (Ct rfl (Sk (Tn (Sq (Bk (Sq (Rg ?_)))))))))
          have hjl : j < N := by omega
          obtain ⟨ad5, rfl, h51⟩ := Kd.at_int hC5 j (by omega) (by omega)
          have hrd : rd ((List.range N).map (ovf l cs l.length)) j = ovf l cs l.length j := by rw [rd_nat _ _ (by simpa using hjl)]; simp
          rw [hrd] at h51
          refine g_indexS Try.underlying22 info3 rfl rfl (by omega) (by omega) (Nat.mul_one _) (h := ?_)
          refine L1 Try.underlying3 (h51) rfl (As (Nl (Tn (Sq (Rg (Mv ?_))))))
          refine g_neq rfl rfl (h1 := fun c53 => ?_) (h2 := fun c53 => ?_)
          · skip
            refine Nl (Tn (Ct rfl (Sq (Rg (As (As (Nl (Tn (Rt (Br (Tr (Tr (Br (Tr ?_))))))))))))))
            exact ret2 rfl ⟨ret2b (by rw [areCountsB, hN, Int.toNat_natCast, all_range_lt (k := j) hjl (decide_eq_false c53), Bool.and_false]), hB46⟩
          · skip
            refine Nl (Tn (Cf rfl (Sk (Bn (Tn (Rg ?_))))))
            refine g_add rfl rfl (by omega) (h := ?_)
            refine Mv (Nl ?_)
            exact round_end (N - (j + 1)) (by omega) ⟨j + 1, _, has rfl (has rfl (has rfl rfl)), hjl, rfl, rfl, by rw [all_range_step (n := 0), hall2, decide_eq_true (by omega)]; rfl⟩
        · skip
          refine Nl (Tn (Sq (Cf rfl (Xi (Tx (Tx (Bs (Tn (Sq (Rg (As (As (Nl (Tn (Rt ?_)))))))))))))))
          rw [show j = N by omega] at hall2
          exact ret2 rfl ⟨ret2b (by rw [areCountsB, hN, Int.toNat_natCast, hall, hall2]; rfl), hB46⟩
end Go.Proofs.B
