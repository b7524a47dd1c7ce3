/- barrel: the reference's lists of levels: higher, put. -/
import Derived.Test.YtpfoleggapngoaaB23
import Derived.Test.YtpfoleggapngoaaB32
set_option linter.unusedVariables false
set_option linter.unusedSimpArgs false
set_option maxRecDepth 10000
namespace Go.Proofs.B
open Go Go.RowKit Go.Proofs Go.Proofs.G Go.Proofs.F Go.Proofs.YtpfoleggapngoaaW.PrintWords
def HiP (a b : List Int) : Prop := ∀ i : Nat, i < a.length → rd b i ≤ rd a i
instance (a b : List Int) : Decidable (HiP a b) := by unfold HiP; infer_instance
theorem higher_c (A B : Option Addr) (c d : Nat) (a b : List Int) (w : World) (ha : (Kd.int .i64).C w A a.length a) (hb : (Kd.int .i64).C w B b.length b) (hl : b.length = a.length) :
    Calls Try.prog 96 #[.slice A a.length c, .slice B b.length d] w fun e w' => e = .returned (.bool (decide (HiP a b))) ∧ Bel w w' := by
  have hal := ha.2.1
  refine G_enter (l := [.slice A a.length c, .slice B b.length d]) Try.func96 rfl rfl ?_
  refine Sq (Rg (As (Nl (Tn (Sq (Sq (Rg (As (Nl (Tn (Bk ?_)))))))))))
  refine GC_loop (fun m σ w' => ∃ (k : Nat) (τ : Nat → Value), σ = upd (upd (upd τ 0 (.slice A a.length c)) 1 (.slice B b.length d)) 5 (.int .i64 k) ∧ k ≤ a.length ∧ m = a.length - k ∧ (∀ i : Nat, i < k → rd b i ≤ rd a i) ∧ Bel w w') (a.length) ⟨0, _, has rfl (has rfl (has rfl rfl)), Nat.zero_le _, rfl, fun i hi => absurd hi (Nat.not_lt_zero _), Below.refl _ _⟩ ?_
  rintro m _ w2 ⟨k, τ, rfl, hk, rfl, hall, hB⟩
  refine Sq (Sq (Rg (Mv (Mv (Ln Try.underlying22 rfl ?_)))))
  refine g_lss rfl rfl (h1 := fun c9 => ?_) (h2 := fun c9 => ?_)
  · skip
    refine Nl (Tn (Ct rfl (Sk (Tn (Sq (Bk (Sq ?_)))))))
    have hkl : k < a.length := by omega
    have hBd := hB.drew
    obtain ⟨ad1, hA1, h15⟩ := Kd.at_int (Kd.C_below ha hBd) k (by omega) (by omega)
    rw [hA1]
    obtain ⟨ad2, hA2, h19⟩ := Kd.at_int (Kd.C_below hb hBd) k (by omega) (by omega)
    rw [hA2]
    refine GD_start 9 [] (fun w' => w' = w2.drewN 1) (by kernel_rfl) rfl ?_
    refine GD_pure 0 rfl (by kernel_rfl) (by kernel_rfl) (by kernel_rfl) (by kernel_rfl) rfl rfl rfl (qv fun wq hC => by exact r_move) ?_
    refine GD_pure 1 rfl (by kernel_rfl) (by kernel_rfl) (by kernel_rfl) (by kernel_rfl) rfl rfl rfl (qv fun wq hC => by exact r_move) ?_
    refine GD_pure 2 rfl (by kernel_rfl) (by kernel_rfl) (by kernel_rfl) (by kernel_rfl) rfl rfl rfl (qv fun wq hC => by exact r_indexS Try.underlying22 info3 rfl rfl (by omega) (by omega) (Nat.mul_one _)) ?_
    refine GD_take 3 rfl (by kernel_rfl) (by kernel_rfl) (by kernel_rfl) (by kernel_rfl) rfl rfl rfl (qv fun wq hC => by exact r_load1 rfl Try.underlying3 (by subst hC; exact h15)) ?_
    refine GD_pure 4 rfl (by kernel_rfl) (by kernel_rfl) (by kernel_rfl) (by kernel_rfl) rfl rfl rfl (qv fun wq hC => by exact r_move) ?_
    refine GD_pure 5 rfl (by kernel_rfl) (by kernel_rfl) (by kernel_rfl) (by kernel_rfl) rfl rfl rfl (qv fun wq hC => by exact r_move) ?_
    refine GD_pure 6 rfl (by kernel_rfl) (by kernel_rfl) (by kernel_rfl) (by kernel_rfl) rfl rfl rfl (qv fun wq hC => by exact r_indexS Try.underlying22 info3 rfl rfl (by omega) (by omega) (Nat.mul_one _)) ?_
    refine GD_take 7 rfl (by kernel_rfl) (by kernel_rfl) (by kernel_rfl) (by kernel_rfl) rfl rfl rfl (qv fun wq hC => by exact r_load1 rfl Try.underlying3 (by subst hC; exact h19)) ?_
    rcases Decidable.em (rd a k < rd b k) with c20 | c20
    · skip
      refine GD_pure 8 rfl (by kernel_rfl) (by kernel_rfl) (by kernel_rfl) (by kernel_rfl) rfl rfl rfl (qv fun wq hC => by exact r_lssT rfl rfl c20) ?_
      refine GD_end (by kernel_rfl) (fun _ => rfl) ?_
      refine Tn (Ct rfl (Sq (Rg (As (Nl (Tn (Rt (Br (Tr (Tr (Br (Tr ?_))))))))))))
      exact ret1 rfl ⟨retb (decide_eq_false (fun h : HiP a b => by have := h k hkl; omega)).symm, hBd⟩
    · skip
      refine GD_pure 8 rfl (by kernel_rfl) (by kernel_rfl) (by kernel_rfl) (by kernel_rfl) rfl rfl rfl (qv fun wq hC => by exact r_lssF rfl rfl c20) ?_
      refine GD_end (by kernel_rfl) (fun _ => rfl) ?_
      refine Tn (Cf rfl (Sk (Bn (Tn (Rg (Mv ?_))))))
      refine g_add rfl rfl (by omega) (h := ?_)
      refine As (Nl ?_)
      exact round_end (a.length - (k + 1)) (by omega) ⟨k + 1, _, has rfl (has rfl (has rfl rfl)), hkl, rfl, fun i hi => by rcases Nat.lt_succ_iff_lt_or_eq.1 hi with h | h; exact hall i h; subst h; omega, hBd⟩
  · skip
    refine Nl (Tn (Cf rfl (Xi (Tx (Tx (Bs (Tn (Sq (Rg (As (Nl (Tn (Rt ?_)))))))))))))
    exact ret1 rfl ⟨retb (decide_eq_true (show HiP a b from fun i hi => hall i (by omega))).symm, hB⟩
end Go.Proofs.B
