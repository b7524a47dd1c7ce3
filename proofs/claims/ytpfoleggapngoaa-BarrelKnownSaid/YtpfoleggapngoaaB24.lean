/- barrel: the helpers of all references. -/
import Derived.Test.YtpfoleggapngoaaGd
import Derived.Test.YtpfoleggapngoaaB23
import Derived.Test.YtpfoleggapngoaaWEqStruct
import Derived.Tactics
set_option linter.unusedVariables false
set_option linter.unusedSimpArgs false
set_option maxRecDepth 10000
namespace Go.Proofs.B
open Go Go.RowKit Go.Proofs Go.Proofs.G Go.Proofs.F Go.Proofs.YtpfoleggapngoaaW.PrintWords
theorem in_c (a b c : Int) (w : World) : Calls Try.prog 43 #[.int .i64 a, .int .i64 b, .int .i64 c] w fun e w' => e = .returned (.bool (decide (b ≤ a ∧ a ≤ c))) ∧ w' = w := by
  refine G_enter (l := [.int .i64 a, .int .i64 b, .int .i64 c]) Try.func43 rfl rfl ?_
  refine Sq (Rg (As (Nl (Tn (Sq (Rg (Mv (Mv ?_))))))))
  refine g_leq rfl rfl (h1 := fun c9 => ?_) (h2 := fun c9 => ?_)
  · skip
    refine Mv (Mv (Mv ?_))
    refine g_leq rfl rfl (h1 := fun c13 => ?_) (h2 := fun c13 => ?_)
    · skip
      refine Pt rfl (As (Nl (Tn (Rt ?_))))
      exact ret1 rfl ⟨retb (by simp; omega), rfl⟩
    · skip
      refine Pt rfl (As (Nl (Tn (Rt ?_))))
      exact ret1 rfl ⟨retb (by simp; omega), rfl⟩
  · skip
    refine Mv (Of (Of (Of (Pf rfl (As (Nl (Tn (Rt ?_))))))))
    exact ret1 rfl ⟨retb (by simp; omega), rfl⟩
section
variable {r : Option Nat} {N : Nat} {ds : List Deferred} {Q : Exit → Act → World → Prop} {σ : Nat → Value} {w : World}
variable {ops : Array Oper} {rest : List Oper} {ty : TypeId} {pos : String} {after : Array Edge} {gd : Option (Nat × Bool)} {d : Nat} {x y z : Operand} {a b c : Int} {ts : Array TypeId}
theorem g_in (hx : ev σ x = .int .i64 a) (hy : ev σ y = .int .i64 b) (hz : ev σ z = .int .i64 c)
    (hw : Region.wanted ⟨some d, .call { callee := .value (.func 43), args := #[x, y, z], argTypes := ts }, ty, pos, after, gd⟩ (yl ops σ) = true := by rfl) (hd : Nat.blt d N = true := by rfl)
    (h1 : b ≤ a ∧ a ≤ c → GL r Try.prog N ds ops Q rest (upd σ d (.bool true)) w) (h2 : ¬ (b ≤ a ∧ a ≤ c) → GL r Try.prog N ds ops Q rest (upd σ d (.bool false)) w) :
    GL r Try.prog N ds ops Q (⟨some d, .call { callee := .value (.func 43), args := #[x, y, z], argTypes := ts }, ty, pos, after, gd⟩ :: rest) σ w := by
  refine g_call (args := [x, y, z]) (vals := [.int .i64 a, .int .i64 b, .int .i64 c]) he43 (by simp [hx, hy, hz]) (in_c a b c w) hw hd ?_
  rintro e w' ⟨rfl, rfl⟩
  by_cases h : b ≤ a ∧ a ≤ c
  · exact ⟨_, rfl, by rw [decide_eq_true h]; exact h1 h⟩
  · exact ⟨_, rfl, by rw [decide_eq_false h]; exact h2 h⟩
theorem g_inN (hx : ev σ x = .int .i64 a) (hy : ev σ y = .int .i64 b) (hz : ev σ z = .int .i64 c)
    (hw : Region.wanted ⟨some d, .call { callee := .value (.func 43), args := #[x, y, z], argTypes := ts }, ty, pos, after, gd⟩ (yl ops σ) = true := by rfl) (hd : Nat.blt d N = true := by rfl)
    (h : GL r Try.prog N ds ops Q rest (upd σ d (.bool (decide (b ≤ a ∧ a ≤ c)))) w) :
    GL r Try.prog N ds ops Q (⟨some d, .call { callee := .value (.func 43), args := #[x, y, z], argTypes := ts }, ty, pos, after, gd⟩ :: rest) σ w := by
  refine g_call (args := [x, y, z]) (vals := [.int .i64 a, .int .i64 b, .int .i64 c]) he43 (by simp [hx, hy, hz]) (in_c a b c w) hw hd ?_
  rintro e w' ⟨rfl, rfl⟩
  exact ⟨_, rfl, h⟩
end
theorem holds_c (lo hi n : Int) (w : World) : Calls Try.prog 57 #[.agg #[.int .i64 lo, .int .i64 hi], .int .i64 n] w fun e w' => e = .returned (.bool (decide (lo ≤ n ∧ n ≤ hi))) ∧ Bel w w' := by
  refine G_enter (l := [.agg #[.int .i64 lo, .int .i64 hi], .int .i64 n]) Try.func57 rfl rfl ?_
  refine Sq (Rg ?_)
  refine g_box rfl (h := fun g2 w2 N2 => ?_)
  have K2 := N2.at_
  have hB := Bel.of_new N2
  refine As (Nl (Tn (Sq (Rg (Mv (Fb f68_0 rfl (L1 Try.underlying3 (cellAt K2 rfl) rfl (Fb f68_1 rfl (L1 Try.underlying3 (cellAt K2 rfl) rfl ?_)))))))))
  refine g_inN rfl rfl rfl (h := ?_)
  refine As (Nl (Tn (Rt ?_)))
  exact ret1 rfl ⟨rfl, hB⟩
theorem spannedR_c (lo hi a b : Int) (w : World) : Calls Try.prog 77 #[.agg #[.int .i64 lo, .int .i64 hi], .int .i64 a, .int .i64 b] w fun e w' => e = .returned (.bool (decide ((a ≤ lo ∧ lo ≤ b) ∧ (lo ≤ hi ∧ hi ≤ b)))) ∧ Bel w w' := by
  refine G_enter (l := [.agg #[.int .i64 lo, .int .i64 hi], .int .i64 a, .int .i64 b]) Try.func77 rfl rfl ?_
  refine Sq (Rg ?_)
  refine g_box rfl (h := fun g3 w3 N3 => ?_)
  have K3 := N3.at_
  have hB := Bel.of_new N3
  refine As (Nl (Tn (Sq (Rg (Fb f68_0 rfl (L1 Try.underlying3 (cellAt K3 rfl) rfl (Mv (Mv ?_))))))))
  refine g_in rfl rfl rfl (h1 := fun c11 => ?_) (h2 := fun c11 => ?_)
  · skip
    refine Mv (Fb f68_1 rfl (L1 Try.underlying3 (cellAt K3 rfl) rfl (Fb f68_0 rfl (L1 Try.underlying3 (cellAt K3 rfl) rfl (Mv ?_)))))
    refine g_in rfl rfl rfl (h1 := fun c18 => ?_) (h2 := fun c18 => ?_)
    · skip
      refine Pt rfl (As (Nl (Tn (Rt ?_))))
      exact ret1 rfl ⟨retb (by simp; omega), hB⟩
    · skip
      refine Pt rfl (As (Nl (Tn (Rt ?_))))
      exact ret1 rfl ⟨retb (by simp; omega), hB⟩
  · skip
    refine Mv (Of (Of (Of (Of (Of (Of (Pf rfl (As (Nl (Tn (Rt ?_)))))))))))
    exact ret1 rfl ⟨retb (by simp; omega), hB⟩
theorem bit_c (S k : Nat) (hS : S < 2 ^ 63) (hk : k ≤ 64) (w : World) : Calls Try.prog 86 #[.int .i64 S, .int .i64 k] w fun e w' => e = .returned (.bool (decide (S / 2 ^ k % 2 = 1))) ∧ w' = w := by
  refine G_enter (l := [.int .i64 S, .int .i64 k]) Try.func86 rfl rfl ?_
  refine Sq (Rg (As (Nl (Tn (Sq (Rg (Mv (Mv ?_))))))))
  refine g_v (r_shrN (m := S) (n := k) rfl rfl rfl hk) (h := ?_)
  refine g_v (r_bit rfl rfl (Nat.lt_of_le_of_lt (Nat.div_le_self _ _) hS)) (h := ?_)
  refine g_eql rfl rfl (h1 := fun c9 => ?_) (h2 := fun c9 => ?_)
  · skip
    refine As (Nl (Tn (Rt ?_)))
    exact ret1 rfl ⟨retb (by simp; omega), rfl⟩
  · skip
    refine As (Nl (Tn (Rt ?_)))
    exact ret1 rfl ⟨retb (by simp; omega), rfl⟩
theorem rd_ext {xs ys : List Int} (h : xs.length = ys.length) (he : ∀ k : Nat, k < xs.length → rd xs k = rd ys k) : xs = ys := by
  refine List.ext_getElem h fun k h1 h2 => ?_
  rw [← rd_nat xs k h1, ← rd_nat ys k h2]; exact he k h1
theorem same_c (A B : Option Addr) (c d : Nat) (xs ys : List Int) (w : World) (hx : (Kd.int .i64).C w A xs.length xs) (hy : (Kd.int .i64).C w B ys.length ys) :
    Calls Try.prog 25 #[.slice A xs.length c, .slice B ys.length d] w fun e w' => e = .returned (.bool (decide (xs = ys))) ∧ Bel w w' := by
  have hxl := hx.2.1
  refine G_enter (l := [.slice A xs.length c, .slice B ys.length d]) Try.func25 rfl rfl ?_
  refine Sq (Rg (As (Nl (Tn (Sq (Sq (Rg (Mv (Ln Try.underlying22 rfl (Mv (Ln Try.underlying22 rfl ?_)))))))))))
  refine g_neq rfl rfl (h1 := fun c10 => ?_) (h2 := fun c10 => ?_)
  · skip
    refine Nl (Tn (Ct rfl (Sq (Rg (As (Nl (Tn (Rt (Tr ?_)))))))))
    exact ret1 rfl ⟨retb (by simp; intro h; subst h; exact c10 rfl), Below.refl _ _⟩
  · skip
    have hlen : xs.length = ys.length := by omega
    refine Nl (Tn (Cf rfl (Sk (Tn (Sq (Sq (Rg (As (Nl (Tn (Bk ?_)))))))))))
    refine GC_loop (fun m σ w' => ∃ (k : Nat) (τ : Nat → Value), σ = upd (upd (upd τ 0 (.slice A xs.length c)) 1 (.slice B ys.length d)) 5 (.int .i64 k) ∧ k ≤ xs.length ∧ m = xs.length - k ∧ (∀ j : Nat, j < k → rd xs j = rd ys j) ∧ Bel w w') (xs.length) ⟨0, _, has rfl (has rfl (has rfl rfl)), Nat.zero_le _, rfl, fun j hj => absurd hj (Nat.not_lt_zero _), Below.refl _ _⟩ ?_
    rintro m _ w1 ⟨k, τ, rfl, hk, rfl, hall, hB⟩
    refine Sq (Sq (Rg (Mv (Mv (Ln Try.underlying22 rfl ?_)))))
    refine g_lss rfl rfl (h1 := fun c14 => ?_) (h2 := fun c14 => ?_)
    · skip
      refine Nl (Tn (Ct rfl (Sk (Tn (Sq (Bk (Sq ?_)))))))
      have hkl : k < xs.length := by omega
      obtain ⟨ad, rfl, h20⟩ := Kd.at_int (Kd.C_below hx hB.drew) k (by omega) (by omega)
      obtain ⟨ad2, rfl, h24⟩ := Kd.at_int (Kd.C_below hy hB.drew) k (by omega) (by omega)
      refine GD_start 9 [] (fun w' => w' = w1.drewN 1) (by kernel_rfl) rfl ?_
      refine GD_pure 0 rfl (by kernel_rfl) (by kernel_rfl) (by kernel_rfl) (by kernel_rfl) rfl rfl rfl (qv fun wq hC => by exact r_move) ?_
      refine GD_pure 1 rfl (by kernel_rfl) (by kernel_rfl) (by kernel_rfl) (by kernel_rfl) rfl rfl rfl (qv fun wq hC => by exact r_move) ?_
      refine GD_pure 2 rfl (by kernel_rfl) (by kernel_rfl) (by kernel_rfl) (by kernel_rfl) rfl rfl rfl (qv fun wq hC => by exact r_indexS Try.underlying22 info3 rfl rfl (by omega) (by omega) (Nat.mul_one _)) ?_
      refine GD_take 3 rfl (by kernel_rfl) (by kernel_rfl) (by kernel_rfl) (by kernel_rfl) rfl rfl rfl (qv fun wq hC => by exact r_load1 rfl Try.underlying3 (by subst hC; exact h20)) ?_
      refine GD_pure 4 rfl (by kernel_rfl) (by kernel_rfl) (by kernel_rfl) (by kernel_rfl) rfl rfl rfl (qv fun wq hC => by exact r_move) ?_
      refine GD_pure 5 rfl (by kernel_rfl) (by kernel_rfl) (by kernel_rfl) (by kernel_rfl) rfl rfl rfl (qv fun wq hC => by exact r_move) ?_
      refine GD_pure 6 rfl (by kernel_rfl) (by kernel_rfl) (by kernel_rfl) (by kernel_rfl) rfl rfl rfl (qv fun wq hC => by exact r_indexS Try.underlying22 info3 rfl rfl (by omega) (by omega) (Nat.mul_one _)) ?_
      refine GD_take 7 rfl (by kernel_rfl) (by kernel_rfl) (by kernel_rfl) (by kernel_rfl) rfl rfl rfl (qv fun wq hC => by exact r_load1 rfl Try.underlying3 (by subst hC; exact h24)) ?_
      rcases Decidable.em (rd xs k ≠ rd ys k) with c25 | c25
      · skip
        refine GD_pure 8 rfl (by kernel_rfl) (by kernel_rfl) (by kernel_rfl) (by kernel_rfl) rfl rfl rfl (qv fun wq hC => by exact r_neqT rfl rfl c25) ?_
        refine GD_end (by kernel_rfl) (fun _ => rfl) ?_
        refine Tn (Ct rfl (Sq (Rg (As (Nl (Tn (Rt (Br (Tr (Tr (Br (Tr ?_))))))))))))
        exact ret1 rfl ⟨retb (by simp; intro h; subst h; exact c25 rfl), hB.drew⟩
      · skip
        refine GD_pure 8 rfl (by kernel_rfl) (by kernel_rfl) (by kernel_rfl) (by kernel_rfl) rfl rfl rfl (qv fun wq hC => by exact r_neqF rfl rfl c25) ?_
        refine GD_end (by kernel_rfl) (fun _ => rfl) ?_
        refine Tn (Cf rfl (Sk (Bn (Tn (Rg (Mv ?_))))))
        refine g_add rfl rfl (by omega) (h := ?_)
        refine As (Nl ?_)
        exact round_end (xs.length - (k + 1)) (by omega) ⟨k + 1, _, has rfl (has rfl (has rfl rfl)), hkl, rfl, fun j hj => by
          by_cases e : j = k
          · subst e; exact Decidable.not_not.1 c25
          · exact hall j (by omega), hB.drew⟩
    · skip
      refine Nl (Tn (Cf rfl (Xi (Tx (Tx (Bs (Tn (Sq (Rg (As (Nl (Tn (Rt ?_)))))))))))))
      exact ret1 rfl ⟨retb (by simp; exact rd_ext hlen (fun j hj => hall j (by omega))), hB⟩
theorem mod_eq (n m : Int) (hm : 0 < m) : (if n.tmod m < 0 then n.tmod m + m else n.tmod m) = n % m := by
  have h1 := Int.emod_nonneg n (show m ≠ 0 by omega)
  have h2 := Int.emod_lt_of_pos n hm
  rw [Int.tmod_eq_emod]
  split
  · rw [if_neg (by omega)]; omega
  · rw [if_pos (by omega)]; omega
theorem tmod_rg (n m : Int) (hm : 0 < m) : -m < n.tmod m ∧ n.tmod m < m := by
  have := Int.lt_tmod_of_pos n hm
  exact ⟨this, Int.tmod_lt_of_pos n hm⟩
theorem mod_c (n m : Int) (hm : 0 < m) (hm2 : m ≤ 9223372036854775807) (w : World) : Calls Try.prog 41 #[.int .i64 n, .int .i64 m] w fun e w' => e = .returned (.int .i64 (n % m)) ∧ w' = w := by
  have hq := mod_eq n m hm
  have hr := tmod_rg n m hm
  refine G_enter (l := [.int .i64 n, .int .i64 m]) Try.func41 rfl rfl ?_
  refine Sq (Rg (As (Nl (Tn (Sq (Rg (Mv (Mv ?_))))))))
  refine g_v (r_rem rfl rfl (by omega)) (h := ?_)
  refine As (Nl (Tn (Sq (Sq (Rg (Mv ?_))))))
  refine g_lss rfl rfl (h1 := fun c10 => ?_) (h2 := fun c10 => ?_)
  · skip
    rw [if_pos c10] at hq
    refine Nl (Tn (Ct rfl (Rg (Mv (Mv ?_)))))
    refine g_add rfl rfl (by omega) (h := ?_)
    refine As (Nl (Tn (Sq (Rg (Mv (As (Nl (Tn (Rt ?_)))))))))
    exact ret1 rfl ⟨reti hq, rfl⟩
  · skip
    rw [if_neg c10] at hq
    refine Nl (Tn (Cf rfl (Sk (Tn (Sq (Rg (Mv (As (Nl (Tn (Rt ?_)))))))))))
    exact ret1 rfl ⟨reti hq, rfl⟩
def pickL (xs : List Int) (n : Int) : Int := if xs = [] then 0 else rd xs (n % xs.length)
theorem pick_c (A : Option Addr) (c : Nat) (xs : List Int) (n : Int) (w : World) (hx : (Kd.int .i64).C w A xs.length xs) : Calls Try.prog 42 #[.slice A xs.length c, .int .i64 n] w fun e w' => e = .returned (.int .i64 (pickL xs n)) ∧ w' = w := by
  have hxl := hx.2.1
  refine G_enter (l := [.slice A xs.length c, .int .i64 n]) Try.func42 rfl rfl ?_
  refine Sq (Rg (As (Nl (Tn (Sq (Sq (Rg (Mv (Ln Try.underlying22 rfl ?_)))))))))
  refine g_eql rfl rfl (h1 := fun c7 => ?_) (h2 := fun c7 => ?_)
  · skip
    refine Nl (Tn (Ct rfl (Sq (Rg (As (Nl (Tn (Rt (Tr ?_)))))))))
    have : xs = [] := List.length_eq_zero_iff.1 (by omega)
    subst this
    exact ret1 rfl ⟨rfl, rfl⟩
  · skip
    have hne : xs ≠ [] := fun e => by subst e; exact c7 rfl
    have h1 := Int.emod_nonneg n (show (xs.length : Int) ≠ 0 by omega)
    have h2 := Int.emod_lt_of_pos n (show 0 < (xs.length : Int) by omega)
    obtain ⟨ad, rfl, h14⟩ := Kd.at_int hx (n % xs.length) h1 h2
    refine Nl (Tn (Cf rfl (Sk (Tn (Sq (Rg (Mv (Mv (Mv (Ln Try.underlying22 rfl ?_))))))))))
    refine g_call he41 rfl (mod_c n xs.length (by omega) (by omega) _) (h := ?_)
    rintro e w12 ⟨rfl, rfl⟩
    refine ⟨_, rfl, ?_⟩
    refine g_indexS Try.underlying22 info3 rfl rfl h1 h2 (Nat.mul_one _) (h := ?_)
    refine L1 Try.underlying3 (h14) rfl (As (Nl (Tn (Rt ?_))))
    exact ret1 rfl ⟨reti (by rw [pickL, if_neg hne]), rfl⟩
def chosen (low high n : Int) : Int := if high ≤ low then low else low + n % (high - low + 1)
theorem chosen_rg {low high : Int} (h : low ≤ high) (n : Int) : low ≤ chosen low high n ∧ chosen low high n ≤ high := by
  unfold chosen
  split
  · omega
  · have h1 := Int.emod_nonneg n (show high - low + 1 ≠ 0 by omega)
    have h2 := Int.emod_lt_of_pos n (show 0 < high - low + 1 by omega)
    omega
theorem chosen_c (low high n : Int) (h1 : -1000000000 ≤ low ∧ low ≤ 1000000000) (h2 : -1000000000 ≤ high ∧ high ≤ 1000000000) (w : World) : Calls Try.prog 44 #[.int .i64 low, .int .i64 high, .int .i64 n] w fun e w' => e = .returned (.int .i64 (chosen low high n)) ∧ w' = w := by
  refine G_enter (l := [.int .i64 low, .int .i64 high, .int .i64 n]) Try.func44 rfl rfl ?_
  refine Sq (Rg (As (Nl (Tn (Sq (Sq (Rg (Mv (Mv ?_)))))))))
  refine g_leq rfl rfl (h1 := fun c10 => ?_) (h2 := fun c10 => ?_)
  · skip
    refine Nl (Tn (Ct rfl (Sq (Rg (Mv (As (Nl (Tn (Rt (Tr ?_))))))))))
    exact ret1 rfl ⟨reti (by rw [chosen, if_pos c10]), rfl⟩
  · skip
    refine Nl (Tn (Cf rfl (Sk (Tn (Sq (Rg (Mv (Mv ?_))))))))
    refine g_sub rfl rfl (by omega) (h := ?_)
    refine g_add rfl rfl (by omega) (h := ?_)
    refine As (Nl (Tn (Sq (Sq (Rg (Mv ?_))))))
    refine g_lss rfl rfl (h1 := fun c17 => ?_) (h2 := fun c17 => ?_)
    · skip
      exfalso; omega
    · skip
      refine Nl (Tn (Cf rfl (Sk (Tn (Sq (Rg (Mv (Mv (Mv ?_)))))))))
      refine g_call he41 rfl (mod_c n (high - low + 1) (by omega) (by omega) _) (h := ?_)
      rintro e w26 ⟨rfl, rfl⟩
      refine ⟨_, rfl, ?_⟩
      have hq1 := Int.emod_nonneg n (show high - low + 1 ≠ 0 by omega)
      have hq2 := Int.emod_lt_of_pos n (show 0 < high - low + 1 by omega)
      refine g_add rfl rfl (by omega) (h := ?_)
      refine As (Nl (Tn (Rt ?_)))
      exact ret1 rfl ⟨reti (by rw [chosen, if_neg c10]), rfl⟩
/-- Where a number stands first. -/
def IsPlace (xs : List Int) (n p : Int) : Prop := (p = -1 ∧ n ∉ xs) ∨ ∃ k : Nat, p = k ∧ k < xs.length ∧ rd xs k = n ∧ ∀ j : Nat, j < k → rd xs j ≠ n
theorem place_c (A : Option Addr) (c : Nat) (xs : List Int) (n : Int) (w : World) (hx : (Kd.int .i64).C w A xs.length xs) : Calls Try.prog 48 #[.slice A xs.length c, .int .i64 n] w fun e w' => ∃ p, e = .returned (.int .i64 p) ∧ IsPlace xs n p ∧ w' = w := by
  have hxl := hx.2.1
  refine G_enter (l := [.slice A xs.length c, .int .i64 n]) Try.func48 rfl rfl ?_
  refine Sq (Rg (As (Nl (Tn (Sq (Sq (Rg (As (Nl (Tn (Bk ?_)))))))))))
  refine GC_loop (fun m σ w' => ∃ (k : Nat) (τ : Nat → Value), σ = upd (upd (upd τ 0 (.slice A xs.length c)) 1 (.int .i64 n)) 5 (.int .i64 k) ∧ k ≤ xs.length ∧ m = xs.length - k ∧ (∀ j : Nat, j < k → rd xs j ≠ n) ∧ w' = w) (xs.length) ⟨0, _, has rfl (has rfl (has rfl rfl)), Nat.zero_le _, rfl, fun j hj => absurd hj (Nat.not_lt_zero _), rfl⟩ ?_
  rintro m _ w1 ⟨k, τ, rfl, hk, rfl, hall, rfl⟩
  refine Sq (Sq (Rg (Mv (Mv (Ln Try.underlying22 rfl ?_)))))
  refine g_lss rfl rfl (h1 := fun c9 => ?_) (h2 := fun c9 => ?_)
  · skip
    refine Nl (Tn (Ct rfl (Sk (Tn (Sq (Bk (Sq (Rg ?_))))))))
    have hkl : k < xs.length := by omega
    obtain ⟨ad, rfl, h15⟩ := Kd.at_int hx k (by omega) (by omega)
    refine Mv (Mv ?_)
    refine g_indexS Try.underlying22 info3 rfl rfl (by omega) (by omega) (Nat.mul_one _) (h := ?_)
    refine L1 Try.underlying3 (h15) rfl (Mv ?_)
    refine g_eql rfl rfl (h1 := fun c17 => ?_) (h2 := fun c17 => ?_)
    · skip
      refine Nl (Tn (Ct rfl (Sq (Rg (Mv (As (Nl (Tn (Rt (Br (Tr (Tr (Br (Tr ?_))))))))))))))
      exact ret1 rfl ⟨_, rfl, .inr ⟨k, rfl, hkl, c17, hall⟩, rfl⟩
    · skip
      refine Nl (Tn (Cf rfl (Sk (Bn (Tn (Rg (Mv ?_)))))))
      refine g_add rfl rfl (by omega) (h := ?_)
      refine As (Nl ?_)
      exact round_end (xs.length - (k + 1)) (by omega) ⟨k + 1, _, has rfl (has rfl (has rfl rfl)), hkl, rfl, fun j hj => by
        by_cases e : j = k
        · subst e; exact c17
        · exact hall j (by omega), rfl⟩
  · skip
    refine Nl (Tn (Cf rfl (Xi (Tx (Tx (Bs (Tn (Sq (Rg (As (Nl (Tn (Rt ?_)))))))))))))
    exact ret1 rfl ⟨_, rfl, .inl ⟨rfl, fun hm => by
      obtain ⟨i, hi, rfl⟩ := List.mem_iff_getElem.1 hm
      exact hall i (by omega) (rd_nat xs i hi)⟩, rfl⟩
/-- Strictly increasing, from 0 on, and below a number. -/
def RisP (xs : List Int) (n : Int) (k : Nat) : Prop := (0 ≤ rd xs k ∧ rd xs k ≤ n - 1) ∧ (0 < k → rd xs ((k : Int) - 1) < rd xs k)
instance (xs : List Int) (n : Int) (k : Nat) : Decidable (RisP xs n k) := by unfold RisP; exact inferInstance
def rising (xs : List Int) (n : Int) : Bool := (List.range xs.length).all fun k => decide (RisP xs n k)
theorem rising_c (A : Option Addr) (c : Nat) (xs : List Int) (n : Int) (hn : 0 ≤ n ∧ n ≤ 1000000) (w : World) (hx : (Kd.int .i64).C w A xs.length xs) : Calls Try.prog 64 #[.slice A xs.length c, .int .i64 n] w fun e w' => e = .returned (.bool (rising xs n)) ∧ Bel w w' := by
  have hxl := hx.2.1
  refine G_enter (l := [.slice A xs.length c, .int .i64 n]) Try.func64 rfl rfl ?_
  refine Sq (Rg (As (Nl (Tn (Sq (Sq (Rg (As (Nl (Tn (Bk ?_)))))))))))
  refine GC_loop (fun m σ w' => ∃ (k : Nat) (τ : Nat → Value), σ = upd (upd (upd τ 0 (.slice A xs.length c)) 1 (.int .i64 n)) 5 (.int .i64 k) ∧ k ≤ xs.length ∧ m = xs.length - k ∧ (∀ j : Nat, j < k → RisP xs n j) ∧ Bel w w') (xs.length) ⟨0, _, has rfl (has rfl (has rfl rfl)), Nat.zero_le _, rfl, fun j hj => absurd hj (Nat.not_lt_zero _), Below.refl _ _⟩ ?_
  rintro m _ w1 ⟨k, τ, rfl, hk, rfl, hall, hB⟩
  refine Sq (Sq (Rg (Mv (Mv (Ln Try.underlying22 rfl ?_)))))
  refine g_lss rfl rfl (h1 := fun c9 => ?_) (h2 := fun c9 => ?_)
  · skip
    refine Nl (Tn (Ct rfl (Sk (Tn (Sq (Bk (Sq ?_)))))))
    have hkl : k < xs.length := by omega
    obtain ⟨ad, rfl, h15⟩ := Kd.at_int (Kd.C_below hx hB.drew) k (by omega) (by omega)
    refine GD_start 24 [] (fun w' => w' = w1.drewN 1) (by kernel_rfl) rfl ?_
    refine GD_pure 0 rfl (by kernel_rfl) (by kernel_rfl) (by kernel_rfl) (by kernel_rfl) rfl rfl rfl (qv fun wq hC => by exact r_move) ?_
    refine GD_pure 1 rfl (by kernel_rfl) (by kernel_rfl) (by kernel_rfl) (by kernel_rfl) rfl rfl rfl (qv fun wq hC => by exact r_move) ?_
    refine GD_pure 2 rfl (by kernel_rfl) (by kernel_rfl) (by kernel_rfl) (by kernel_rfl) rfl rfl rfl (qv fun wq hC => by exact r_indexS Try.underlying22 info3 rfl rfl (by omega) (by omega) (Nat.mul_one _)) ?_
    refine GD_take 3 rfl (by kernel_rfl) (by kernel_rfl) (by kernel_rfl) (by kernel_rfl) rfl rfl rfl (qv fun wq hC => by exact r_load1 rfl Try.underlying3 (by subst hC; exact h15)) ?_
    refine GD_pure 4 rfl (by kernel_rfl) (by kernel_rfl) (by kernel_rfl) (by kernel_rfl) rfl rfl rfl (qv fun wq hC => by exact r_move) ?_
    refine GD_pure 5 rfl (by kernel_rfl) (by kernel_rfl) (by kernel_rfl) (by kernel_rfl) rfl rfl rfl (qv fun wq hC => by exact r_sub rfl rfl (by omega)) ?_
    refine GD_take 6 rfl (by kernel_rfl) (by kernel_rfl) (by kernel_rfl) (by kernel_rfl) rfl rfl rfl (qc (fun wq hC => by exact r_call he43 rfl) (fun wq hC => by exact in_c (rd xs k) 0 (n - 1) _)) ?_
    cases q18 : decide (0 ≤ rd xs k ∧ rd xs k ≤ n - 1) with
    | true =>
      have q18' : 0 ≤ rd xs k ∧ rd xs k ≤ n - 1 := of_decide_eq_true q18
      refine GD_pure 7 rfl (by kernel_rfl) (by kernel_rfl) (by kernel_rfl) (by kernel_rfl) rfl rfl rfl (qv fun wq hC => by exact r_not rfl) ?_
      refine GD_pure 8 rfl (by kernel_rfl) (by kernel_rfl) (by kernel_rfl) (by kernel_rfl) rfl rfl rfl (qv fun wq hC => by exact r_move) ?_
      refine GD_pure 9 rfl (by kernel_rfl) (by kernel_rfl) (by kernel_rfl) (by kernel_rfl) rfl rfl rfl (qv fun wq hC => by exact r_move) ?_
      rcases Decidable.em ((k : Int) > 0) with c22 | c22
      · skip
        refine GD_pure 10 rfl (by kernel_rfl) (by kernel_rfl) (by kernel_rfl) (by kernel_rfl) rfl rfl rfl (qv fun wq hC => by exact r_gtrT rfl rfl c22) ?_
        refine GD_pure 11 rfl (by kernel_rfl) (by kernel_rfl) (by kernel_rfl) (by kernel_rfl) rfl rfl rfl (qv fun wq hC => by exact r_move) ?_
        refine GD_pure 12 rfl (by kernel_rfl) (by kernel_rfl) (by kernel_rfl) (by kernel_rfl) rfl rfl rfl (qv fun wq hC => by exact r_move) ?_
        refine GD_pure 13 rfl (by kernel_rfl) (by kernel_rfl) (by kernel_rfl) (by kernel_rfl) rfl rfl rfl (qv fun wq hC => by exact r_move) ?_
        refine GD_pure 14 rfl (by kernel_rfl) (by kernel_rfl) (by kernel_rfl) (by kernel_rfl) rfl rfl rfl (qv fun wq hC => by exact r_indexS Try.underlying22 info3 rfl rfl (by omega) (by omega) (Nat.mul_one _)) ?_
        refine GD_take 15 rfl (by kernel_rfl) (by kernel_rfl) (by kernel_rfl) (by kernel_rfl) rfl rfl rfl (qv fun wq hC => by exact r_load1 rfl Try.underlying3 (by subst hC; exact h15)) ?_
        refine GD_pure 16 rfl (by kernel_rfl) (by kernel_rfl) (by kernel_rfl) (by kernel_rfl) rfl rfl rfl (qv fun wq hC => by exact r_move) ?_
        refine GD_pure 17 rfl (by kernel_rfl) (by kernel_rfl) (by kernel_rfl) (by kernel_rfl) rfl rfl rfl (qv fun wq hC => by exact r_move) ?_
        refine GD_pure 18 rfl (by kernel_rfl) (by kernel_rfl) (by kernel_rfl) (by kernel_rfl) rfl rfl rfl (qv fun wq hC => by exact r_sub rfl rfl (by omega)) ?_
        refine GD_pure 19 rfl (by kernel_rfl) (by kernel_rfl) (by kernel_rfl) (by kernel_rfl) rfl rfl rfl (qv fun wq hC => by exact r_indexS Try.underlying22 info3 rfl rfl (by omega) (by omega) (Nat.mul_one _)) ?_
        obtain ⟨ad2, e2, h32⟩ := Kd.at_int (Kd.C_below hx hB.drew) ((k : Int) - 1) (by omega) (by omega)
        obtain rfl : ad = ad2 := by injection e2
        refine GD_take 20 rfl (by kernel_rfl) (by kernel_rfl) (by kernel_rfl) (by kernel_rfl) rfl rfl rfl (qv fun wq hC => by exact r_load1 rfl Try.underlying3 (by subst hC; exact h32)) ?_
        rcases Decidable.em (rd xs k ≤ rd xs ((k : Int) - 1)) with c33 | c33
        · skip
          refine GD_pure 21 rfl (by kernel_rfl) (by kernel_rfl) (by kernel_rfl) (by kernel_rfl) rfl rfl rfl (qv fun wq hC => by exact r_leqT rfl rfl c33) ?_
          refine GD_pure 22 rfl (by kernel_rfl) (by kernel_rfl) (by kernel_rfl) (by kernel_rfl) rfl rfl rfl (qv fun wq hC => by exact r_pickT rfl) ?_
          refine GD_pure 23 rfl (by kernel_rfl) (by kernel_rfl) (by kernel_rfl) (by kernel_rfl) rfl rfl rfl (qv fun wq hC => by exact r_pickF rfl) ?_
          refine GD_end (by kernel_rfl) (fun _ => rfl) ?_
          refine Tn (Ct rfl (Sq (Rg (As (Nl (Tn (Rt (Br (Tr (Tr (Br (Tr ?_))))))))))))
          exact ret1 rfl ⟨retb (Eq.symm (List.all_eq_false.2 ⟨k, by simpa using hkl, by simp only [decide_eq_true_eq]; exact fun h => by have := h.2 (by omega); omega⟩)), hB.drew⟩
        · skip
          refine GD_pure 21 rfl (by kernel_rfl) (by kernel_rfl) (by kernel_rfl) (by kernel_rfl) rfl rfl rfl (qv fun wq hC => by exact r_leqF rfl rfl c33) ?_
          refine GD_pure 22 rfl (by kernel_rfl) (by kernel_rfl) (by kernel_rfl) (by kernel_rfl) rfl rfl rfl (qv fun wq hC => by exact r_pickT rfl) ?_
          refine GD_pure 23 rfl (by kernel_rfl) (by kernel_rfl) (by kernel_rfl) (by kernel_rfl) rfl rfl rfl (qv fun wq hC => by exact r_pickF rfl) ?_
          refine GD_end (by kernel_rfl) (fun _ => rfl) ?_
          refine Tn (Cf rfl (Sk (Bn (Tn (Rg (Mv ?_))))))
          refine g_add rfl rfl (by omega) (h := ?_)
          refine As (Nl ?_)
          exact round_end (xs.length - (k + 1)) (by omega) ⟨k + 1, _, has rfl (has rfl (has rfl rfl)), hkl, rfl, fun j hj => by
            by_cases e : j = k
            · subst e; exact ⟨q18', fun _ => by omega⟩
            · exact hall j (by omega), hB.drew⟩
      · skip
        refine GD_pure 10 rfl (by kernel_rfl) (by kernel_rfl) (by kernel_rfl) (by kernel_rfl) rfl rfl rfl (qv fun wq hC => by exact r_gtrF rfl rfl c22) ?_
        refine GD_pure 11 rfl (by kernel_rfl) (by kernel_rfl) (by kernel_rfl) (by kernel_rfl) rfl rfl rfl (qv fun wq hC => by exact r_move) ?_
        refine GD_off 12 rfl (by kernel_rfl) (by kernel_rfl) (by kernel_rfl) (by kernel_rfl) rfl rfl ?_
        refine GD_off 13 rfl (by kernel_rfl) (by kernel_rfl) (by kernel_rfl) (by kernel_rfl) rfl rfl ?_
        refine GD_off 14 rfl (by kernel_rfl) (by kernel_rfl) (by kernel_rfl) (by kernel_rfl) rfl rfl ?_
        refine GD_off 15 rfl (by kernel_rfl) (by kernel_rfl) (by kernel_rfl) (by kernel_rfl) rfl rfl ?_
        refine GD_off 16 rfl (by kernel_rfl) (by kernel_rfl) (by kernel_rfl) (by kernel_rfl) rfl rfl ?_
        refine GD_off 17 rfl (by kernel_rfl) (by kernel_rfl) (by kernel_rfl) (by kernel_rfl) rfl rfl ?_
        refine GD_off 18 rfl (by kernel_rfl) (by kernel_rfl) (by kernel_rfl) (by kernel_rfl) rfl rfl ?_
        refine GD_off 19 rfl (by kernel_rfl) (by kernel_rfl) (by kernel_rfl) (by kernel_rfl) rfl rfl ?_
        refine GD_off 20 rfl (by kernel_rfl) (by kernel_rfl) (by kernel_rfl) (by kernel_rfl) rfl rfl ?_
        refine GD_off 21 rfl (by kernel_rfl) (by kernel_rfl) (by kernel_rfl) (by kernel_rfl) rfl rfl ?_
        refine GD_pure 22 rfl (by kernel_rfl) (by kernel_rfl) (by kernel_rfl) (by kernel_rfl) rfl rfl rfl (qv fun wq hC => by exact r_pickF rfl) ?_
        refine GD_pure 23 rfl (by kernel_rfl) (by kernel_rfl) (by kernel_rfl) (by kernel_rfl) rfl rfl rfl (qv fun wq hC => by exact r_pickF rfl) ?_
        refine GD_end (by kernel_rfl) (fun _ => rfl) ?_
        refine Tn (Cf rfl (Sk (Bn (Tn (Rg (Mv ?_))))))
        refine g_add rfl rfl (by omega) (h := ?_)
        refine As (Nl ?_)
        exact round_end (xs.length - (k + 1)) (by omega) ⟨k + 1, _, has rfl (has rfl (has rfl rfl)), hkl, rfl, fun j hj => by
          by_cases e : j = k
          · subst e; exact ⟨q18', fun h => by omega⟩
          · exact hall j (by omega), hB.drew⟩
    | false =>
      have q18' : ¬ (0 ≤ rd xs k ∧ rd xs k ≤ n - 1) := of_decide_eq_false q18
      refine GD_pure 7 rfl (by kernel_rfl) (by kernel_rfl) (by kernel_rfl) (by kernel_rfl) rfl rfl rfl (qv fun wq hC => by exact r_not rfl) ?_
      refine GD_pure 8 rfl (by kernel_rfl) (by kernel_rfl) (by kernel_rfl) (by kernel_rfl) rfl rfl rfl (qv fun wq hC => by exact r_move) ?_
      refine GD_off 9 rfl (by kernel_rfl) (by kernel_rfl) (by kernel_rfl) (by kernel_rfl) rfl rfl ?_
      refine GD_off 10 rfl (by kernel_rfl) (by kernel_rfl) (by kernel_rfl) (by kernel_rfl) rfl rfl ?_
      refine GD_off 11 rfl (by kernel_rfl) (by kernel_rfl) (by kernel_rfl) (by kernel_rfl) rfl rfl ?_
      refine GD_off 12 rfl (by kernel_rfl) (by kernel_rfl) (by kernel_rfl) (by kernel_rfl) rfl rfl ?_
      refine GD_off 13 rfl (by kernel_rfl) (by kernel_rfl) (by kernel_rfl) (by kernel_rfl) rfl rfl ?_
      refine GD_off 14 rfl (by kernel_rfl) (by kernel_rfl) (by kernel_rfl) (by kernel_rfl) rfl rfl ?_
      refine GD_off 15 rfl (by kernel_rfl) (by kernel_rfl) (by kernel_rfl) (by kernel_rfl) rfl rfl ?_
      refine GD_off 16 rfl (by kernel_rfl) (by kernel_rfl) (by kernel_rfl) (by kernel_rfl) rfl rfl ?_
      refine GD_off 17 rfl (by kernel_rfl) (by kernel_rfl) (by kernel_rfl) (by kernel_rfl) rfl rfl ?_
      refine GD_off 18 rfl (by kernel_rfl) (by kernel_rfl) (by kernel_rfl) (by kernel_rfl) rfl rfl ?_
      refine GD_off 19 rfl (by kernel_rfl) (by kernel_rfl) (by kernel_rfl) (by kernel_rfl) rfl rfl ?_
      refine GD_off 20 rfl (by kernel_rfl) (by kernel_rfl) (by kernel_rfl) (by kernel_rfl) rfl rfl ?_
      refine GD_off 21 rfl (by kernel_rfl) (by kernel_rfl) (by kernel_rfl) (by kernel_rfl) rfl rfl ?_
      refine GD_off 22 rfl (by kernel_rfl) (by kernel_rfl) (by kernel_rfl) (by kernel_rfl) rfl rfl ?_
      refine GD_pure 23 rfl (by kernel_rfl) (by kernel_rfl) (by kernel_rfl) (by kernel_rfl) rfl rfl rfl (qv fun wq hC => by exact r_pickT rfl) ?_
      refine GD_end (by kernel_rfl) (fun _ => rfl) ?_
      refine Tn (Ct rfl (Sq (Rg (As (Nl (Tn (Rt (Br (Tr (Tr (Br (Tr ?_))))))))))))
      exact ret1 rfl ⟨retb (Eq.symm (List.all_eq_false.2 ⟨k, by simpa using hkl, by simp only [decide_eq_true_eq]; exact fun h => q18' h.1⟩)), hB.drew⟩
  · skip
    refine Nl (Tn (Cf rfl (Xi (Tx (Tx (Bs (Tn (Sq (Rg (As (Nl (Tn (Rt ?_)))))))))))))
    exact ret1 rfl ⟨retb (Eq.symm (List.all_eq_true.2 fun j hj => decide_eq_true (hall j (by have := List.mem_range.1 hj; omega)))), hB⟩
theorem eq68 (w : World) (a b : S68) : (Op.equal 68 (.agg #[.int .i64 a.f0, .int .i64 a.f1]) (.agg #[.int .i64 b.f0, .int .i64 b.f1])).run Try.prog w = .ok (decide (a.f0 = b.f0 ∧ a.f1 = b.f1)) w := by
  unfold Op.equal Op.maxDepth
  rw [show (10000 : Nat) = 9998 + 1 + 1 from rfl]
  have h : (Op.equalIn (9998 + 1 + 1) 68 (.agg #[.int .i64 a.f0, .int .i64 a.f1]) (.agg #[.int .i64 b.f0, .int .i64 b.f1])).run Try.prog w = .ok (a.f0 == b.f0 && (a.f1 == b.f1)) w := by
    refine eqA_of Try.underlying68 (by kernel_rfl) ?_
    refine eqf_cons (by rfl) (by go_simp; rfl) (by go_simp; rfl) (by go_simp) ?_
    exact eqf_last (by rfl) (by go_simp; rfl) (by go_simp; rfl) (by go_simp)
  rw [h]
  by_cases h1 : a.f0 = b.f0 <;> by_cases h2 : a.f1 = b.f1 <;> simp [h1, h2]
theorem r_neq68 {σ : Nat → Value} {w : World} {dst : Option Nat} {ty t' : TypeId} {pos : String} {after : Array Edge} {gd : Option (Nat × Bool)} {x y : Operand} {a b : S68} (hx : ev σ x = .agg #[.int .i64 a.f0, .int .i64 a.f1]) (hy : ev σ y = .agg #[.int .i64 b.f0, .int .i64 b.f1]) :
    (execOp (ev σ) ⟨dst, .binOp .neq 68 x y t', ty, pos, after, gd⟩).run Try.prog w = .ok (.value (.bool (!decide (a.f0 = b.f0 ∧ a.f1 = b.f1)))) w := by
  have hg : Try.prog.eqGuardType Try.prog.depth 68 = false := by kernel_rfl
  simp [execOp, eqGuard, binOp, hx, hy, program, Sem.run, hg, eq68]
def sp68 (xs : List S68) (k : Nat) : S68 := xs.getD k z68
theorem sp68_get (xs : List S68) (k : Nat) (h : k < xs.length) : sp68 xs k = xs[k] := by simp [sp68, List.getD_eq_getElem?_getD, h]
theorem at68 {w w1 : World} {A : Option Addr} {n : Nat} {xs : List S68} (h : k68.C w A n xs) (hB : Bel w w1) (k : Nat) (hk : k < xs.length) :
    ∃ ad, A = some ad ∧ ∀ j v, [Value.int .i64 (sp68 xs k).f0, Value.int .i64 (sp68 xs k).f1][j]? = some v → w1.cell? ((ad.add (k * 2)).add j) = some v := by
  obtain ⟨ad, e, hc⟩ := h.2.2 (by have := h.1; omega)
  obtain ⟨cs, h1, h2, h3⟩ := hc k _ (List.getElem?_eq_getElem hk)
  have := k68_open h2
  subst this
  refine ⟨ad, e, fun j v hv => ?_⟩
  rw [add_add']
  rw [sp68_get xs k hk] at hv
  exact hB.cellk (h3 j v hv)
instance : DecidableEq S68 := fun a b => decidable_of_iff (a.f0 = b.f0 ∧ a.f1 = b.f1) ⟨fun h => by cases a; cases b; simp_all, fun h => by rw [h]; exact ⟨rfl, rfl⟩⟩
set_option maxHeartbeats 1000000 in
theorem sameSpans_c (A B : Option Addr) (c d : Nat) (xs ys : List S68) (w : World) (hx : k68.C w A xs.length xs) (hy : k68.C w B ys.length ys) :
    Calls Try.prog 39 #[.slice A xs.length c, .slice B ys.length d] w fun e w' => e = .returned (.bool (decide (xs = ys))) ∧ Bel w w' := by
  have hxl := hx.2.1
  refine G_enter (l := [.slice A xs.length c, .slice B ys.length d]) Try.func39 rfl rfl ?_
  refine Sq (Rg (As (Nl (Tn (Sq (Sq (Rg (Mv (Ln Try.underlying52 rfl (Mv (Ln Try.underlying52 rfl ?_)))))))))))
  refine g_neq rfl rfl (h1 := fun c10 => ?_) (h2 := fun c10 => ?_)
  · skip
    refine Nl (Tn (Ct rfl (Sq (Rg (As (Nl (Tn (Rt (Tr ?_)))))))))
    exact ret1 rfl ⟨retb (by simp; intro h; subst h; exact c10 rfl), Below.refl _ _⟩
  · skip
    have hlen : xs.length = ys.length := by omega
    refine Nl (Tn (Cf rfl (Sk (Tn (Sq (Sq (Rg (As (Nl (Tn (Bk ?_)))))))))))
    refine GC_loop (fun m σ w' => ∃ (k : Nat) (τ : Nat → Value), σ = upd (upd (upd τ 0 (.slice A xs.length c)) 1 (.slice B ys.length d)) 5 (.int .i64 k) ∧ k ≤ xs.length ∧ m = xs.length - k ∧ (∀ j : Nat, j < k → sp68 xs j = sp68 ys j) ∧ Bel w w') (xs.length) ⟨0, _, has rfl (has rfl (has rfl rfl)), Nat.zero_le _, rfl, fun j hj => absurd hj (Nat.not_lt_zero _), Below.refl _ _⟩ ?_
    rintro m _ w1 ⟨k, τ, rfl, hk, rfl, hall, hB⟩
    refine Sq (Sq (Rg (Mv (Mv (Ln Try.underlying52 rfl ?_)))))
    refine g_lss rfl rfl (h1 := fun c14 => ?_) (h2 := fun c14 => ?_)
    · skip
      refine Nl (Tn (Ct rfl (Sk (Tn (Sq (Bk (Sq ?_)))))))
      have hkl : k < xs.length := by omega
      obtain ⟨ad, rfl, h20⟩ := at68 hx hB.drew k (by omega)
      obtain ⟨ad2, rfl, h24⟩ := at68 hy hB.drew k (by omega)
      refine GD_start 9 [] (fun w' => w' = w1.drewN 1) (by kernel_rfl) rfl ?_
      refine GD_pure 0 rfl (by kernel_rfl) (by kernel_rfl) (by kernel_rfl) (by kernel_rfl) rfl rfl rfl (qv fun wq hC => by exact r_move) ?_
      refine GD_pure 1 rfl (by kernel_rfl) (by kernel_rfl) (by kernel_rfl) (by kernel_rfl) rfl rfl rfl (qv fun wq hC => by exact r_move) ?_
      refine GD_pure 2 rfl (by kernel_rfl) (by kernel_rfl) (by kernel_rfl) (by kernel_rfl) rfl rfl rfl (qv fun wq hC => by exact r_indexS Try.underlying52 info68 rfl rfl (by omega) (by omega) rfl) ?_
      refine GD_take 3 rfl (by kernel_rfl) (by kernel_rfl) (by kernel_rfl) (by kernel_rfl) rfl rfl rfl (qv fun wq hC => by exact r_loadA rfl Try.underlying68 info68 (l := [.int .i64 (sp68 xs k).f0, .int .i64 (sp68 xs k).f1]) (by subst hC; exact h20)) ?_
      refine GD_pure 4 rfl (by kernel_rfl) (by kernel_rfl) (by kernel_rfl) (by kernel_rfl) rfl rfl rfl (qv fun wq hC => by exact r_move) ?_
      refine GD_pure 5 rfl (by kernel_rfl) (by kernel_rfl) (by kernel_rfl) (by kernel_rfl) rfl rfl rfl (qv fun wq hC => by exact r_move) ?_
      refine GD_pure 6 rfl (by kernel_rfl) (by kernel_rfl) (by kernel_rfl) (by kernel_rfl) rfl rfl rfl (qv fun wq hC => by exact r_indexS Try.underlying52 info68 rfl rfl (by omega) (by omega) rfl) ?_
      refine GD_take 7 rfl (by kernel_rfl) (by kernel_rfl) (by kernel_rfl) (by kernel_rfl) rfl rfl rfl (qv fun wq hC => by exact r_loadA rfl Try.underlying68 info68 (l := [.int .i64 (sp68 ys k).f0, .int .i64 (sp68 ys k).f1]) (by subst hC; exact h24)) ?_
      refine GD_pure 8 rfl (by kernel_rfl) (by kernel_rfl) (by kernel_rfl) (by kernel_rfl) rfl rfl rfl (qv fun wq hC => by exact r_neq68 (a := sp68 xs k) (b := sp68 ys k) rfl rfl) ?_
      refine GD_end (by kernel_rfl) (fun _ => rfl) ?_
      refine Tn ?_
      cases q25 : !decide ((sp68 xs k).f0 = (sp68 ys k).f0 ∧ (sp68 xs k).f1 = (sp68 ys k).f1) with
      | true =>
        refine Ct rfl (Sq (Rg (As (Nl (Tn (Rt (Br (Tr (Tr (Br (Tr ?_)))))))))))
        exact ret1 rfl ⟨retb (by simp; intro h; subst h; simp at q25), hB.drew⟩
      | false =>
        refine Cf rfl (Sk (Bn (Tn (Rg (Mv ?_)))))
        refine g_add rfl rfl (by omega) (h := ?_)
        refine As (Nl ?_)
        exact round_end (xs.length - (k + 1)) (by omega) ⟨k + 1, _, has rfl (has rfl (has rfl rfl)), hkl, rfl, fun j hj => by
          by_cases e : j = k
          · subst e
            simp at q25
            generalize sp68 xs j = u at *
            generalize sp68 ys j = v at *
            cases u; cases v; simp_all
          · exact hall j (by omega), hB.drew⟩
    · skip
      refine Nl (Tn (Cf rfl (Xi (Tx (Tx (Bs (Tn (Sq (Rg (As (Nl (Tn (Rt ?_)))))))))))))
      exact ret1 rfl ⟨retb (by simp; exact List.ext_getElem hlen fun j h1 h2 => by rw [← sp68_get xs j h1, ← sp68_get ys j h2]; exact hall j (by omega)), hB⟩
end Go.Proofs.B
