/- barrel: Proves. -/
import Derived.Test.YtpfoleggapngoaaGd
import Derived.Test.YtpfoleggapngoaaB13
set_option linter.unusedVariables false
set_option linter.unusedSimpArgs false
set_option maxRecDepth 10000
namespace Go.Proofs.B
open Go Go.RowKit Go.Proofs Go.Proofs.G Go.Proofs.F Go.Proofs.YtpfoleggapngoaaW.PrintWords
def sb (S : Nat) (v : Int) : Nat := S / 2 ^ v.toNat % 2
def provF (l : List S76) (S : Nat) : Nat → Int
  | 0 => 0
  | k + 1 => if sb S (mv l k).f1 < sb S (mv l k).f0 then provF l S k + (mv l k).f2.f0 else if sb S (mv l k).f0 < sb S (mv l k).f1 then provF l S k - (mv l k).f2.f1 else provF l S k
def provesL (n : Int) (l : List S76) (set : Int) : Bool × Int := if bookOk n l = true then (if 0 ≤ set ∧ set ≤ 2 ^ n.toNat - 1 then (decide (0 < provF l set.toNat l.length), 0) else (false, 64)) else (false, 63)
theorem provF_bd {n : Int} {l : List S76} (h : bookOk n l = true) (S : Nat) : ∀ k, k ≤ l.length → -(1000 * (k : Int)) ≤ provF l S k ∧ provF l S k ≤ 1000 * (k : Int)
  | 0, _ => by simp [provF]
  | k + 1, hk => by
    have h1 := provF_bd h S k (by omega)
    have h2 := book_move h k (by omega)
    unfold provF
    split
    · omega
    · split <;> omega
theorem pow6 {N : Nat} (h : N ≤ 6) : (1 : Int) ≤ 2 ^ N ∧ (2 : Int) ^ N ≤ 64 := by
  match N, h with
  | 0, _ => decide
  | 1, _ => decide
  | 2, _ => decide
  | 3, _ => decide
  | 4, _ => decide
  | 5, _ => decide
  | 6, _ => decide
set_option maxHeartbeats 2000000 in
theorem proves_c (A : Option Addr) (c : Nat) (n : Int) (l : List S76) (set : Int) (w : World) (hs : k76.C w A l.length l) :
    Calls Try.prog 52 #[.agg #[.int .i64 n, .slice A l.length c], .int .i64 set] w fun e w' => e = .returned (.tuple #[.bool (provesL n l set).1, .int .i64 (provesL n l set).2]) ∧ Bel w w' := by
  refine G_enter (l := [.agg #[.int .i64 n, .slice A l.length c], .int .i64 set]) Try.func52 rfl rfl ?_
  refine Sq (Rg ?_)
  refine g_box rfl (h := fun g2 w2 N2 => ?_)
  have K2 := N2.at_
  have hB2 := Bel.of_new N2
  have K2a : w2.heap[g2]? = some (.cells #[.int .i64 n, .slice A l.length c] 49 (0, 0)) := K2
  refine As (As (Nl (Tn (Sq (Sq (Rg ?_))))))
  refine g_loadA rfl Try.underlying49 info49 (l := [.int .i64 n, .slice A l.length c]) (cellsAt K2a) (h := ?_)
  refine g_call he35 rfl (checkBook_c A c n l _ (Kd.C_below hs hB2)) (h := ?_)
  rintro e w13 ⟨rfl, hb13⟩
  refine ⟨_, rfl, ?_⟩
  have hB13 := hB2.bel hb13
  have K2b := kB K2a hb13
  refine As (Nl (Tn (Sq (Rg (Mv ?_)))))
  refine g_neq rfl rfl (h1 := fun c15 => ?_) (h2 := fun c15 => ?_)
  · skip
    have hbo : ¬ bookOk n l = true := fun h => by rw [if_pos h] at c15; exact c15 rfl
    refine Nl (Tn (Ct rfl (Sq (Rg (Mv (As (As (Nl (Tn (Rt (Tr ?_)))))))))))
    exact ret2 rfl ⟨ret2b (by rw [provesL, if_neg hbo, if_neg hbo]), hB13⟩
  · skip
    have hbo : bookOk n l = true := by by_cases h : bookOk n l = true; exact h; rw [if_neg h] at c15; exact absurd c15 (by decide)
    obtain ⟨hn, hl10⟩ := book_n hbo
    have hp6 := pow6 (N := n.toNat) (by omega)
    refine Nl (Tn (Cf rfl (Sk (Tn (Sq (Sq (Rg (Mv (Fb f49_0 rfl (L1 Try.underlying3 (cellAt K2b rfl) rfl ?_))))))))))
    refine g_v (r_shl rfl rfl (n := n.toNat) (by omega) (by omega) (by omega)) (h := ?_)
    refine g_sub rfl rfl (by omega) (h := ?_)
    refine g_within rfl rfl rfl (h1 := fun c22 => ?_) (h2 := fun c22 => ?_)
    · skip
      have hset : 0 ≤ set ∧ set ≤ 2 ^ n.toNat - 1 := by omega
      obtain ⟨S, rfl⟩ := Int.eq_ofNat_of_zero_le hset.1
      have hS : S < 2 ^ 63 := by omega
      have hSd : ∀ v : Int, S / 2 ^ v.toNat < 2 ^ 63 := fun v => Nat.lt_of_le_of_lt (Nat.div_le_self _ _) hS
      refine Nt rfl (Nl (Tn (Cf rfl (Sk (Tn (Sq (Rg (As (Nl (Tn (Sq (Sq (Rg (Fb f49_1 rfl (L1 Try.underlying47 (cellAt K2b rfl) rfl (Ln Try.underlying47 rfl (Mv (Nl (Tn (Bk ?_))))))))))))))))))))
      refine GC_loop (fun m σ w' => ∃ (k : Nat) (τ : Nat → Value), σ = upd (upd (upd (upd (upd τ 1 (.int .i64 S)) 7 (.int .i64 (provF l S k))) 25 (.slice A l.length c)) 26 (.int .i64 l.length)) 27 (.int .i64 k) ∧ k ≤ l.length ∧ m = l.length - k ∧ Bel w w') (l.length) ⟨0, _, has rfl (has rfl (has rfl (has rfl (has rfl rfl)))), Nat.zero_le _, rfl, hB13⟩ ?_
      rintro m _ w3 ⟨k, τ, rfl, hk, rfl, hB⟩
      refine Sq (Rg ?_)
      refine g_lss rfl rfl (h1 := fun c28 => ?_) (h2 := fun c28 => ?_)
      · skip
        refine Nl (Tn (Sq (Ct rfl (Sk (Tn (Sq (Bk (Sq (Rg ?_)))))))))
        have hkl : k < l.length := by omega
        obtain ⟨ad, hA, h30⟩ := at76 hs hB k hkl
        rw [hA]
        have hmk := book_move hbo k hkl
        have hbd := provF_bd hbo S k (by omega)
        have hstep : provF l S (k + 1) = if sb S (mv l k).f1 < sb S (mv l k).f0 then provF l S k + (mv l k).f2.f0 else if sb S (mv l k).f0 < sb S (mv l k).f1 then provF l S k - (mv l k).f2.f1 else provF l S k := rfl
        refine g_indexS Try.underlying47 info76 rfl rfl (by omega) (by omega) rfl (h := ?_)
        refine g_loadA rfl Try.underlying76 info76 (l := enc76 l[k]) h30 (h := ?_)
        refine g_alloc (z := zero76) (by kernel_rfl) (h := fun g9 w9 N9 => ?_)
        have K9 := N9.at_
        refine g_storeA rfl rfl info76 K9 rfl (one76 _) (h := fun w6 P6 => ?_)
        have K9a : w6.heap[g9]? = some (.cells (enc76 (mv l k)).toArray 76 (0, 0)) := by rw [mv_get l k hkl]; exact P6.at_
        have hB6 := (hB.new N9).put P6 (Nat.le_trans hB.size N9.ge)
        refine Nl (Tn (Sq ?_))
        refine GD_start 12 [] (fun w' => w' = w6.drewN 1) (by kernel_rfl) rfl ?_
        refine GD_pure 0 rfl (by kernel_rfl) (by kernel_rfl) (by kernel_rfl) (by kernel_rfl) rfl rfl rfl (qv fun wq hC => by exact r_move) ?_
        refine GD_pure 1 rfl (by kernel_rfl) (by kernel_rfl) (by kernel_rfl) (by kernel_rfl) rfl rfl rfl (qv fun wq hC => by exact r_fieldAddrB f76_0 rfl) ?_
        refine GD_take 2 rfl (by kernel_rfl) (by kernel_rfl) (by kernel_rfl) (by kernel_rfl) rfl rfl rfl (qv fun wq hC => by exact r_load1 rfl Try.underlying3 (by subst hC; exact cellAt K9a rfl)) ?_
        refine GD_pure 3 rfl (by kernel_rfl) (by kernel_rfl) (by kernel_rfl) (by kernel_rfl) rfl rfl rfl (qv fun wq hC => by exact r_shrN (m := S) (n := (mv l k).f0.toNat) rfl rfl (by omega) (by omega)) ?_
        refine GD_pure 4 rfl (by kernel_rfl) (by kernel_rfl) (by kernel_rfl) (by kernel_rfl) rfl rfl rfl (qv fun wq hC => by exact r_bit rfl rfl (hSd _)) ?_
        refine GD_pure 5 rfl (by kernel_rfl) (by kernel_rfl) (by kernel_rfl) (by kernel_rfl) rfl rfl rfl (qv fun wq hC => by exact r_move) ?_
        refine GD_pure 6 rfl (by kernel_rfl) (by kernel_rfl) (by kernel_rfl) (by kernel_rfl) rfl rfl rfl (qv fun wq hC => by exact r_fieldAddrB f76_1 rfl) ?_
        refine GD_take 7 rfl (by kernel_rfl) (by kernel_rfl) (by kernel_rfl) (by kernel_rfl) rfl rfl rfl (qv fun wq hC => by exact r_load1 rfl Try.underlying3 (by subst hC; exact cellAt K9a rfl)) ?_
        refine GD_pure 8 rfl (by kernel_rfl) (by kernel_rfl) (by kernel_rfl) (by kernel_rfl) rfl rfl rfl (qv fun wq hC => by exact r_shrN (m := S) (n := (mv l k).f1.toNat) rfl rfl (by omega) (by omega)) ?_
        refine GD_pure 9 rfl (by kernel_rfl) (by kernel_rfl) (by kernel_rfl) (by kernel_rfl) rfl rfl rfl (qv fun wq hC => by exact r_bit rfl rfl (hSd _)) ?_
        refine GD_pure 10 rfl (by kernel_rfl) (by kernel_rfl) (by kernel_rfl) (by kernel_rfl) rfl rfl rfl (qv fun wq hC => by exact r_assign) ?_
        refine GD_pure 11 rfl (by kernel_rfl) (by kernel_rfl) (by kernel_rfl) (by kernel_rfl) rfl rfl rfl (qv fun wq hC => by exact r_assign) ?_
        refine GD_end (by kernel_rfl) (fun _ => rfl) ?_
        refine Tn (Bk (Sq (Rg (Mv (Mv ?_)))))
        refine g_gtr rfl rfl (h1 := fun c44 => ?_) (h2 := fun c44 => ?_)
        · skip
          have h44 : sb S (mv l k).f1 < sb S (mv l k).f0 := by unfold sb; omega
          rw [if_pos h44] at hstep
          refine As (Nl (Tn (Ct rfl (Rg (Mv ?_)))))
          refine g_loadA rfl Try.underlying76 info76 (l := enc76 (mv l k)) (cellsAt K9a) (h := ?_)
          refine g_bld (build139 _ _ _ _ _) rfl (h := ?_)
          refine g_call he88 rfl (least_c (mv l k) _) (h := ?_)
          rintro e w48 ⟨rfl, hb48⟩
          refine ⟨_, rfl, ?_⟩
          refine g_add rfl rfl (by omega) (h := ?_)
          refine As (Nl (Bn (Bn (Tn (Rg ?_)))))
          refine g_add rfl rfl (by omega) (h := ?_)
          refine Mv (Nl ?_)
          exact round_end (l.length - (k + 1)) (by omega) ⟨k + 1, _, has rfl (has rfl (has rfl (has (by rw [hstep]; rfl) (has rfl rfl)))), hkl, rfl, hB6.drew.bel hb48⟩
        · skip
          have h44 : ¬ sb S (mv l k).f1 < sb S (mv l k).f0 := by unfold sb; omega
          rw [if_neg h44] at hstep
          refine As (Nl (Tn (Cf rfl (Sq (Rg (Mv (Mv ?_)))))))
          refine g_lss rfl rfl (h1 := fun c53 => ?_) (h2 := fun c53 => ?_)
          · skip
            have h53 : sb S (mv l k).f0 < sb S (mv l k).f1 := by unfold sb; omega
            rw [if_pos h53] at hstep
            refine As (Nl (Tn (Ct rfl (Rg (Mv ?_)))))
            refine g_loadA rfl Try.underlying76 info76 (l := enc76 (mv l k)) (cellsAt K9a) (h := ?_)
            refine g_bld (build139 _ _ _ _ _) rfl (h := ?_)
            refine g_call he89 rfl (greatest_c (mv l k) _) (h := ?_)
            rintro e w57 ⟨rfl, hb57⟩
            refine ⟨_, rfl, ?_⟩
            refine g_sub rfl rfl (by omega) (h := ?_)
            refine As (Nl (Bn (Bn (Tn (Rg ?_)))))
            refine g_add rfl rfl (by omega) (h := ?_)
            refine Mv (Nl ?_)
            exact round_end (l.length - (k + 1)) (by omega) ⟨k + 1, _, has rfl (has rfl (has rfl (has (by rw [hstep]; rfl) (has rfl rfl)))), hkl, rfl, hB6.drew.bel hb57⟩
          · skip
            have h53 : ¬ sb S (mv l k).f0 < sb S (mv l k).f1 := by unfold sb; omega
            rw [if_neg h53] at hstep
            refine As (Nl (Tn (Cf rfl (Sk (Bn (Bn (Tn (Rg ?_))))))))
            refine g_add rfl rfl (by omega) (h := ?_)
            refine Mv (Nl ?_)
            exact round_end (l.length - (k + 1)) (by omega) ⟨k + 1, _, has rfl (has rfl (has rfl (has (by rw [hstep]; rfl) (has rfl rfl)))), hkl, rfl, hB6.drew⟩
      · skip
        refine Nl (Tn (Sq (Cf rfl (Xi (Tx (Tx (Bs (Tn (Sq (Rg (Mv ?_)))))))))))
        refine g_gtr rfl rfl (h1 := fun c61 => ?_) (h2 := fun c61 => ?_)
        · skip
          refine As (As (Nl (Tn (Rt ?_))))
          exact ret2 rfl ⟨ret2b (by rw [provesL, if_pos hbo, if_pos hset, Int.toNat_natCast, ← show k = l.length by omega]; simp; omega), hB⟩
        · skip
          refine As (As (Nl (Tn (Rt ?_))))
          exact ret2 rfl ⟨ret2b (by rw [provesL, if_pos hbo, if_pos hset, Int.toNat_natCast, ← show k = l.length by omega]; simp; omega), hB⟩
    · skip
      have hset : ¬ (0 ≤ set ∧ set ≤ 2 ^ n.toNat - 1) := by omega
      refine Nt rfl (Nl (Tn (Ct rfl (Sq (Rg (As (As (Nl (Tn (Rt (Tr ?_)))))))))))
      exact ret2 rfl ⟨ret2b (by rw [provesL, if_pos hbo, if_neg hset]), hB13⟩
end Go.Proofs.B
