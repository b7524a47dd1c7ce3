/- barrel: within, the list helpers, CheckPile. -/
import Derived.Test.YtpfoleggapngoaaG9
import Derived.Test.YtpfoleggapngoaaKb
set_option linter.unusedVariables false
set_option linter.unusedSimpArgs false
namespace Go.Proofs.B
open Go Go.RowKit Go.Proofs Go.Proofs.G Go.Proofs.F Go.Proofs.YtpfoleggapngoaaW.PrintWords


/-- The first place at which p holds, from i on. -/
def findFrom (p : Int → Bool) : List Int → Int → Int
  | [], _ => -1
  | x :: xs, i => if p x then i else findFrom p xs (i + 1)
theorem findFrom_ge (p : Int → Bool) : ∀ (xs : List Int) (i : Int), 0 ≤ i → (0 ≤ findFrom p xs i ↔ xs.any p = true)
  | [], i, h => by simp [findFrom]
  | x :: xs, i, h => by
    unfold findFrom
    by_cases hp : p x = true
    · simp [hp, h]
    · have := findFrom_ge p xs (i + 1) (by omega)
      simp [hp, this]

theorem within_c (a b c : Int) (w : World) : Calls Try.prog 62 #[.int .i64 a, .int .i64 b, .int .i64 c] w fun e w' => e = .returned (.bool (decide (b ≤ a ∧ a ≤ c))) ∧ w' = w := by
  refine G_enter (l := [.int .i64 a, .int .i64 b, .int .i64 c]) Try.func62 rfl rfl ?_
  (repeat (first | (refine g_move (h := ?_)) | (refine g_assign (h := ?_)) | (refine g_not rfl (h := ?_)) | (refine g_pickT rfl (h := ?_)) | (refine g_pickF rfl (h := ?_)) | (refine g_extract rfl rfl (h := ?_)) | (refine g_makeFunc (h := ?_)) | (refine g_len (by with_reducible assumption) rfl (h := ?_)) | (refine g_off (h := ?_)) | (refine GC_seq ?_) | (refine GC_region ?_) | (refine GC_block ?_) | (refine GC_cond_true rfl ?_) | (refine GC_cond_false rfl ?_) | (refine GL_nil ?_) | (refine GC_skip ?_) | (refine GC_label ?_) | (refine GC_exit ?_) | (refine GC_ret ?_) | (refine then_normal rfl ?_) | (refine then_exit ?_) | (refine then_ret ?_) | (refine block_normal ?_) | (refine block_ret ?_) | (refine block_same ?_) | (refine block_other rfl ?_)))
  refine g_leq rfl rfl (h1 := fun c1 => ?_) (h2 := fun c1 => ?_)
  · (repeat (first | (refine g_move (h := ?_)) | (refine g_assign (h := ?_)) | (refine g_not rfl (h := ?_)) | (refine g_pickT rfl (h := ?_)) | (refine g_pickF rfl (h := ?_)) | (refine g_extract rfl rfl (h := ?_)) | (refine g_makeFunc (h := ?_)) | (refine g_len (by with_reducible assumption) rfl (h := ?_)) | (refine g_off (h := ?_)) | (refine GC_seq ?_) | (refine GC_region ?_) | (refine GC_block ?_) | (refine GC_cond_true rfl ?_) | (refine GC_cond_false rfl ?_) | (refine GL_nil ?_) | (refine GC_skip ?_) | (refine GC_label ?_) | (refine GC_exit ?_) | (refine GC_ret ?_) | (refine then_normal rfl ?_) | (refine then_exit ?_) | (refine then_ret ?_) | (refine block_normal ?_) | (refine block_ret ?_) | (refine block_same ?_) | (refine block_other rfl ?_)))
    refine g_leq rfl rfl (h1 := fun c2 => ?_) (h2 := fun c2 => ?_)
    · (repeat (first | (refine g_move (h := ?_)) | (refine g_assign (h := ?_)) | (refine g_not rfl (h := ?_)) | (refine g_pickT rfl (h := ?_)) | (refine g_pickF rfl (h := ?_)) | (refine g_extract rfl rfl (h := ?_)) | (refine g_makeFunc (h := ?_)) | (refine g_len (by with_reducible assumption) rfl (h := ?_)) | (refine g_off (h := ?_)) | (refine GC_seq ?_) | (refine GC_region ?_) | (refine GC_block ?_) | (refine GC_cond_true rfl ?_) | (refine GC_cond_false rfl ?_) | (refine GL_nil ?_) | (refine GC_skip ?_) | (refine GC_label ?_) | (refine GC_exit ?_) | (refine GC_ret ?_) | (refine then_normal rfl ?_) | (refine then_exit ?_) | (refine then_ret ?_) | (refine block_normal ?_) | (refine block_ret ?_) | (refine block_same ?_) | (refine block_other rfl ?_)))
      exact ret1 rfl ⟨retb (b := true) (by simp [c1, c2]), rfl⟩
    · (repeat (first | (refine g_move (h := ?_)) | (refine g_assign (h := ?_)) | (refine g_not rfl (h := ?_)) | (refine g_pickT rfl (h := ?_)) | (refine g_pickF rfl (h := ?_)) | (refine g_extract rfl rfl (h := ?_)) | (refine g_makeFunc (h := ?_)) | (refine g_len (by with_reducible assumption) rfl (h := ?_)) | (refine g_off (h := ?_)) | (refine GC_seq ?_) | (refine GC_region ?_) | (refine GC_block ?_) | (refine GC_cond_true rfl ?_) | (refine GC_cond_false rfl ?_) | (refine GL_nil ?_) | (refine GC_skip ?_) | (refine GC_label ?_) | (refine GC_exit ?_) | (refine GC_ret ?_) | (refine then_normal rfl ?_) | (refine then_exit ?_) | (refine then_ret ?_) | (refine block_normal ?_) | (refine block_ret ?_) | (refine block_same ?_) | (refine block_other rfl ?_)))
      exact ret1 rfl ⟨retb (b := false) (by simp; omega), rfl⟩
  · (repeat (first | (refine g_move (h := ?_)) | (refine g_assign (h := ?_)) | (refine g_not rfl (h := ?_)) | (refine g_pickT rfl (h := ?_)) | (refine g_pickF rfl (h := ?_)) | (refine g_extract rfl rfl (h := ?_)) | (refine g_makeFunc (h := ?_)) | (refine g_len (by with_reducible assumption) rfl (h := ?_)) | (refine g_off (h := ?_)) | (refine GC_seq ?_) | (refine GC_region ?_) | (refine GC_block ?_) | (refine GC_cond_true rfl ?_) | (refine GC_cond_false rfl ?_) | (refine GL_nil ?_) | (refine GC_skip ?_) | (refine GC_label ?_) | (refine GC_exit ?_) | (refine GC_ret ?_) | (refine then_normal rfl ?_) | (refine then_exit ?_) | (refine then_ret ?_) | (refine block_normal ?_) | (refine block_ret ?_) | (refine block_same ?_) | (refine block_other rfl ?_)))
    exact ret1 rfl ⟨retb (b := false) (by simp; omega), rfl⟩


theorem take_snoc' {α : Type} (l : List α) (k : Nat) (h : k < l.length) : l.take (k + 1) = l.take k ++ [l[k]] := by
  rw [List.take_succ_eq_append_getElem h]

/-- slices.IndexFunc over a function value whose calls answer p, and leave old memory as it was. -/
theorem indexFunc_c (f : Nat) (caps : List Value) (p : Int → Bool) (he : ∀ args w, (callFunc f args).run Try.prog w = .ok (.enter f args) w) (A : Option Addr) (c : Nat) (xs : List Int) (w : World)
    (hr : Kd.C (Kd.int .i64) w A xs.length xs)
    (hp : ∀ (x : Int) (w1 : World), Below w.heap.size w w1 → Calls Try.prog f ([Value.int .i64 x] ++ caps).toArray w1 fun e w' => e = .returned (.bool (p x)) ∧ Below w1.heap.size w1 w') :
    Calls Try.prog 92 #[.slice A xs.length c, (.func (.func f) #[] caps.toArray)] w fun e w' => e = .returned (.int .i64 (findFrom p xs 0)) ∧ Below w.heap.size w w' := by
  have u22 := Try.underlying22
  have u3 := Try.underlying3
  have hlen : xs.length ≤ 9223372036854775807 := hr.2.1
  refine G_enter (l := [.slice A xs.length c, (.func (.func f) #[] caps.toArray)]) Try.func92 rfl rfl ?_
  (repeat (first | (refine g_move (h := ?_)) | (refine g_assign (h := ?_)) | (refine g_not rfl (h := ?_)) | (refine g_pickT rfl (h := ?_)) | (refine g_pickF rfl (h := ?_)) | (refine g_extract rfl rfl (h := ?_)) | (refine g_makeFunc (h := ?_)) | (refine g_len (by with_reducible assumption) rfl (h := ?_)) | (refine g_off (h := ?_)) | (refine GC_seq ?_) | (refine GC_region ?_) | (refine GC_block ?_) | (refine GC_cond_true rfl ?_) | (refine GC_cond_false rfl ?_) | (refine GL_nil ?_) | (refine GC_skip ?_) | (refine GC_label ?_) | (refine GC_exit ?_) | (refine GC_ret ?_) | (refine then_normal rfl ?_) | (refine then_exit ?_) | (refine then_ret ?_) | (refine block_normal ?_) | (refine block_ret ?_) | (refine block_same ?_) | (refine block_other rfl ?_)))
  refine GC_loop (fun m σ w' => ∃ (k : Nat) (τ : Nat → Value), σ = upd (upd (upd (upd τ 0 (.slice A xs.length c)) 1 (.func (.func f) #[] caps.toArray)) 7 (.int .i64 xs.length)) 8 (.int .i64 k) ∧ k ≤ xs.length ∧ m = xs.length - k ∧
    Below w.heap.size w w' ∧ findFrom p (xs.drop k) k = findFrom p xs 0) xs.length ⟨0, _, has rfl (has rfl (has rfl (has rfl rfl))), Nat.zero_le _, rfl, Below.refl _ _, rfl⟩ ?_
  rintro m _ w1 ⟨k, τ, rfl, hk, rfl, hB, hfind⟩
  (repeat (first | (refine g_move (h := ?_)) | (refine g_assign (h := ?_)) | (refine g_not rfl (h := ?_)) | (refine g_pickT rfl (h := ?_)) | (refine g_pickF rfl (h := ?_)) | (refine g_extract rfl rfl (h := ?_)) | (refine g_makeFunc (h := ?_)) | (refine g_len (by with_reducible assumption) rfl (h := ?_)) | (refine g_off (h := ?_)) | (refine GC_seq ?_) | (refine GC_region ?_) | (refine GC_block ?_) | (refine GC_cond_true rfl ?_) | (refine GC_cond_false rfl ?_) | (refine GL_nil ?_) | (refine GC_skip ?_) | (refine GC_label ?_) | (refine GC_exit ?_) | (refine GC_ret ?_) | (refine then_normal rfl ?_) | (refine then_exit ?_) | (refine then_ret ?_) | (refine block_normal ?_) | (refine block_ret ?_) | (refine block_same ?_) | (refine block_other rfl ?_)))
  refine g_lss rfl rfl (h1 := fun c1 => ?_) (h2 := fun c1 => ?_)
  · (repeat (first | (refine g_move (h := ?_)) | (refine g_assign (h := ?_)) | (refine g_not rfl (h := ?_)) | (refine g_pickT rfl (h := ?_)) | (refine g_pickF rfl (h := ?_)) | (refine g_extract rfl rfl (h := ?_)) | (refine g_makeFunc (h := ?_)) | (refine g_len (by with_reducible assumption) rfl (h := ?_)) | (refine g_off (h := ?_)) | (refine GC_seq ?_) | (refine GC_region ?_) | (refine GC_block ?_) | (refine GC_cond_true rfl ?_) | (refine GC_cond_false rfl ?_) | (refine GL_nil ?_) | (refine GC_skip ?_) | (refine GC_label ?_) | (refine GC_exit ?_) | (refine GC_ret ?_) | (refine then_normal rfl ?_) | (refine then_exit ?_) | (refine then_ret ?_) | (refine block_normal ?_) | (refine block_ret ?_) | (refine block_same ?_) | (refine block_other rfl ?_)))
    have hkl : k < xs.length := by omega
    obtain ⟨ad, rfl, hcell⟩ := Kd.at_int hr k (by omega) (by omega)
    have hcell1 := (hB.cell (World.block_lt_of_cell? w _ hcell)).trans hcell
    refine g_indexS u22 info3 rfl rfl (by omega) (by omega) (Nat.mul_one _) (h := ?_)
    (repeat (first | (refine g_move (h := ?_)) | (refine g_assign (h := ?_)) | (refine g_not rfl (h := ?_)) | (refine g_pickT rfl (h := ?_)) | (refine g_pickF rfl (h := ?_)) | (refine g_extract rfl rfl (h := ?_)) | (refine g_makeFunc (h := ?_)) | (refine g_len (by with_reducible assumption) rfl (h := ?_)) | (refine g_off (h := ?_)) | (refine GC_seq ?_) | (refine GC_region ?_) | (refine GC_block ?_) | (refine GC_cond_true rfl ?_) | (refine GC_cond_false rfl ?_) | (refine GL_nil ?_) | (refine GC_skip ?_) | (refine GC_label ?_) | (refine GC_exit ?_) | (refine GC_ret ?_) | (refine then_normal rfl ?_) | (refine then_exit ?_) | (refine then_ret ?_) | (refine block_normal ?_) | (refine block_ret ?_) | (refine block_same ?_) | (refine block_other rfl ?_)))
    refine g_load1 rfl u3 hcell1 (h := ?_)
    refine g_callv he rfl rfl (hp _ _ hB) (h := ?_)
    rintro e w2 ⟨rfl, hb2⟩
    refine ⟨_, rfl, ?_⟩
    have hB2 := below_then hB hB.size hb2
    have hd : xs.drop k = xs[k] :: xs.drop (k + 1) := List.drop_eq_getElem_cons hkl
    have hrd : rd xs k = xs[k] := by simp [rd, List.getD_eq_getElem?_getD, List.getElem?_eq_getElem hkl]
    rw [hd, findFrom] at hfind
    rw [hrd]
    cases hpx : p xs[k] with
    | true =>
      rw [hpx, if_pos rfl] at hfind
      (repeat (first | (refine g_move (h := ?_)) | (refine g_assign (h := ?_)) | (refine g_not rfl (h := ?_)) | (refine g_pickT rfl (h := ?_)) | (refine g_pickF rfl (h := ?_)) | (refine g_extract rfl rfl (h := ?_)) | (refine g_makeFunc (h := ?_)) | (refine g_len (by with_reducible assumption) rfl (h := ?_)) | (refine g_off (h := ?_)) | (refine GC_seq ?_) | (refine GC_region ?_) | (refine GC_block ?_) | (refine GC_cond_true rfl ?_) | (refine GC_cond_false rfl ?_) | (refine GL_nil ?_) | (refine GC_skip ?_) | (refine GC_label ?_) | (refine GC_exit ?_) | (refine GC_ret ?_) | (refine then_normal rfl ?_) | (refine then_exit ?_) | (refine then_ret ?_) | (refine block_normal ?_) | (refine block_ret ?_) | (refine block_same ?_) | (refine block_other rfl ?_)))
      exact ret1 rfl ⟨reti hfind, hB2⟩
    | false =>
      rw [hpx] at hfind
      (repeat (first | (refine g_move (h := ?_)) | (refine g_assign (h := ?_)) | (refine g_not rfl (h := ?_)) | (refine g_pickT rfl (h := ?_)) | (refine g_pickF rfl (h := ?_)) | (refine g_extract rfl rfl (h := ?_)) | (refine g_makeFunc (h := ?_)) | (refine g_len (by with_reducible assumption) rfl (h := ?_)) | (refine g_off (h := ?_)) | (refine GC_seq ?_) | (refine GC_region ?_) | (refine GC_block ?_) | (refine GC_cond_true rfl ?_) | (refine GC_cond_false rfl ?_) | (refine GL_nil ?_) | (refine GC_skip ?_) | (refine GC_label ?_) | (refine GC_exit ?_) | (refine GC_ret ?_) | (refine then_normal rfl ?_) | (refine then_exit ?_) | (refine then_ret ?_) | (refine block_normal ?_) | (refine block_ret ?_) | (refine block_same ?_) | (refine block_other rfl ?_)))
      refine g_add rfl rfl (by omega) (h := ?_)
      (repeat (first | (refine g_move (h := ?_)) | (refine g_assign (h := ?_)) | (refine g_not rfl (h := ?_)) | (refine g_pickT rfl (h := ?_)) | (refine g_pickF rfl (h := ?_)) | (refine g_extract rfl rfl (h := ?_)) | (refine g_makeFunc (h := ?_)) | (refine g_len (by with_reducible assumption) rfl (h := ?_)) | (refine g_off (h := ?_)) | (refine GC_seq ?_) | (refine GC_region ?_) | (refine GC_block ?_) | (refine GC_cond_true rfl ?_) | (refine GC_cond_false rfl ?_) | (refine GL_nil ?_) | (refine GC_skip ?_) | (refine GC_label ?_) | (refine GC_exit ?_) | (refine GC_ret ?_) | (refine then_normal rfl ?_) | (refine then_exit ?_) | (refine then_ret ?_) | (refine block_normal ?_) | (refine block_ret ?_) | (refine block_same ?_) | (refine block_other rfl ?_)))
      exact round_end (xs.length - (k + 1)) (by omega) ⟨k + 1, _, has rfl (has rfl (has rfl (has rfl rfl))), by omega, rfl, hB2, by simpa using hfind⟩
  · (repeat (first | (refine g_move (h := ?_)) | (refine g_assign (h := ?_)) | (refine g_not rfl (h := ?_)) | (refine g_pickT rfl (h := ?_)) | (refine g_pickF rfl (h := ?_)) | (refine g_extract rfl rfl (h := ?_)) | (refine g_makeFunc (h := ?_)) | (refine g_len (by with_reducible assumption) rfl (h := ?_)) | (refine g_off (h := ?_)) | (refine GC_seq ?_) | (refine GC_region ?_) | (refine GC_block ?_) | (refine GC_cond_true rfl ?_) | (refine GC_cond_false rfl ?_) | (refine GL_nil ?_) | (refine GC_skip ?_) | (refine GC_label ?_) | (refine GC_exit ?_) | (refine GC_ret ?_) | (refine then_normal rfl ?_) | (refine then_exit ?_) | (refine then_ret ?_) | (refine block_normal ?_) | (refine block_ret ?_) | (refine block_same ?_) | (refine block_other rfl ?_)))
    have : k = xs.length := by omega
    subst this
    rw [List.drop_length] at hfind
    exact ret1 rfl ⟨reti hfind, hB⟩
theorem containsFunc_c (f : Nat) (caps : List Value) (p : Int → Bool) (he : ∀ args w, (callFunc f args).run Try.prog w = .ok (.enter f args) w) (A : Option Addr) (c : Nat) (xs : List Int) (w : World)
    (hr : Kd.C (Kd.int .i64) w A xs.length xs)
    (hp : ∀ (x : Int) (w1 : World), Below w.heap.size w w1 → Calls Try.prog f ([Value.int .i64 x] ++ caps).toArray w1 fun e w' => e = .returned (.bool (p x)) ∧ Below w1.heap.size w1 w') :
    Calls Try.prog 66 #[.slice A xs.length c, (.func (.func f) #[] caps.toArray)] w fun e w' => e = .returned (.bool (xs.any p)) ∧ Below w.heap.size w w' := by
  have he92 := enters Try.func92 (by kernel_rfl) rfl
  refine G_enter (l := [.slice A xs.length c, (.func (.func f) #[] caps.toArray)]) Try.func66 rfl rfl ?_
  (repeat (first | (refine g_move (h := ?_)) | (refine g_assign (h := ?_)) | (refine g_not rfl (h := ?_)) | (refine g_pickT rfl (h := ?_)) | (refine g_pickF rfl (h := ?_)) | (refine g_extract rfl rfl (h := ?_)) | (refine g_makeFunc (h := ?_)) | (refine g_len (by with_reducible assumption) rfl (h := ?_)) | (refine g_off (h := ?_)) | (refine GC_seq ?_) | (refine GC_region ?_) | (refine GC_block ?_) | (refine GC_cond_true rfl ?_) | (refine GC_cond_false rfl ?_) | (refine GL_nil ?_) | (refine GC_skip ?_) | (refine GC_label ?_) | (refine GC_exit ?_) | (refine GC_ret ?_) | (refine then_normal rfl ?_) | (refine then_exit ?_) | (refine then_ret ?_) | (refine block_normal ?_) | (refine block_ret ?_) | (refine block_same ?_) | (refine block_other rfl ?_)))
  refine g_call he92 rfl (indexFunc_c f caps p he A c xs w hr hp) (h := ?_)
  rintro e w2 ⟨rfl, hb2⟩
  refine ⟨_, rfl, ?_⟩
  have hg := findFrom_ge p xs 0 (by omega)
  refine g_geq rfl rfl (h1 := fun c1 => ?_) (h2 := fun c1 => ?_)
  · (repeat (first | (refine g_move (h := ?_)) | (refine g_assign (h := ?_)) | (refine g_not rfl (h := ?_)) | (refine g_pickT rfl (h := ?_)) | (refine g_pickF rfl (h := ?_)) | (refine g_extract rfl rfl (h := ?_)) | (refine g_makeFunc (h := ?_)) | (refine g_len (by with_reducible assumption) rfl (h := ?_)) | (refine g_off (h := ?_)) | (refine GC_seq ?_) | (refine GC_region ?_) | (refine GC_block ?_) | (refine GC_cond_true rfl ?_) | (refine GC_cond_false rfl ?_) | (refine GL_nil ?_) | (refine GC_skip ?_) | (refine GC_label ?_) | (refine GC_exit ?_) | (refine GC_ret ?_) | (refine then_normal rfl ?_) | (refine then_exit ?_) | (refine then_ret ?_) | (refine block_normal ?_) | (refine block_ret ?_) | (refine block_same ?_) | (refine block_other rfl ?_)))
    exact ret1 rfl ⟨retb (b := true) (hg.1 c1).symm, hb2⟩
  · (repeat (first | (refine g_move (h := ?_)) | (refine g_assign (h := ?_)) | (refine g_not rfl (h := ?_)) | (refine g_pickT rfl (h := ?_)) | (refine g_pickF rfl (h := ?_)) | (refine g_extract rfl rfl (h := ?_)) | (refine g_makeFunc (h := ?_)) | (refine g_len (by with_reducible assumption) rfl (h := ?_)) | (refine g_off (h := ?_)) | (refine GC_seq ?_) | (refine GC_region ?_) | (refine GC_block ?_) | (refine GC_cond_true rfl ?_) | (refine GC_cond_false rfl ?_) | (refine GL_nil ?_) | (refine GC_skip ?_) | (refine GC_label ?_) | (refine GC_exit ?_) | (refine GC_ret ?_) | (refine then_normal rfl ?_) | (refine then_exit ?_) | (refine then_ret ?_) | (refine block_normal ?_) | (refine block_ret ?_) | (refine block_same ?_) | (refine block_other rfl ?_)))
    exact ret1 rfl ⟨retb (b := false) (by cases h : xs.any p with | true => exact absurd (hg.2 h) c1 | false => rfl), hb2⟩
section
variable {r : Option Nat} {N : Nat} {ds : List Deferred} {Q : Exit → Act → World → Prop} {σ : Nat → Value} {w : World}
variable {ops : Array Oper} {rest : List Oper} {ty : TypeId} {pos : String} {after : Array Edge} {gd : Option (Nat × Bool)} {d : Nat} {x y z : Operand} {ts : Array TypeId} {a b c : Int}
/-- A call of within, both ways. -/
theorem g_within (hx : ev σ x = .int .i64 a) (hy : ev σ y = .int .i64 b) (hz : ev σ z = .int .i64 c)
    (hw : Region.wanted ⟨some d, .call { callee := .value (.func 62), args := #[x, y, z], argTypes := ts }, ty, pos, after, gd⟩ (yl ops σ) = true := by rfl) (hd : Nat.blt d N = true := by rfl)
    (h1 : b ≤ a ∧ a ≤ c → GL r Try.prog N ds ops Q rest (upd σ d (.bool true)) w) (h2 : ¬ (b ≤ a ∧ a ≤ c) → GL r Try.prog N ds ops Q rest (upd σ d (.bool false)) w) :
    GL r Try.prog N ds ops Q (⟨some d, .call { callee := .value (.func 62), args := #[x, y, z], argTypes := ts }, ty, pos, after, gd⟩ :: rest) σ w := by
  refine g_call (args := [x, y, z]) (vals := [.int .i64 a, .int .i64 b, .int .i64 c]) he62 (by simp [hx, hy, hz]) (within_c a b c w) hw hd ?_
  rintro e w2 ⟨rfl, rfl⟩
  refine ⟨_, rfl, ?_⟩
  by_cases h : b ≤ a ∧ a ≤ c
  · rw [decide_eq_true h]; exact h1 h
  · rw [decide_eq_false h]; exact h2 h
theorem g_withinN (hx : ev σ x = .int .i64 a) (hy : ev σ y = .int .i64 b) (hz : ev σ z = .int .i64 c)
    (hw : Region.wanted ⟨some d, .call { callee := .value (.func 62), args := #[x, y, z], argTypes := ts }, ty, pos, after, gd⟩ (yl ops σ) = true := by rfl) (hd : Nat.blt d N = true := by rfl)
    (h : GL r Try.prog N ds ops Q rest (upd σ d (.bool (decide (b ≤ a ∧ a ≤ c)))) w) :
    GL r Try.prog N ds ops Q (⟨some d, .call { callee := .value (.func 62), args := #[x, y, z], argTypes := ts }, ty, pos, after, gd⟩ :: rest) σ w := by
  refine g_call (args := [x, y, z]) (vals := [.int .i64 a, .int .i64 b, .int .i64 c]) he62 (by simp [hx, hy, hz]) (within_c a b c w) hw hd ?_
  rintro e w2 ⟨rfl, rfl⟩
  exact ⟨_, rfl, h⟩
end

/-! ### Piles -/
def wideB (n : Int) : Bool := decide (1 ≤ n ∧ n ≤ 500)
theorem checkPile1_c (n : Int) (w : World) : Calls Try.prog 67 #[.int .i64 n] w fun e w' => e = .returned (.bool (!wideB n)) ∧ w' = w := by
  refine G_enter (l := [.int .i64 n]) Try.func67 rfl rfl ?_
  (repeat (first | (refine g_move (h := ?_)) | (refine g_assign (h := ?_)) | (refine g_not rfl (h := ?_)) | (refine g_pickT rfl (h := ?_)) | (refine g_pickF rfl (h := ?_)) | (refine g_extract rfl rfl (h := ?_)) | (refine g_makeFunc (h := ?_)) | (refine g_len (by with_reducible assumption) rfl (h := ?_)) | (refine g_off (h := ?_)) | (refine GC_seq ?_) | (refine GC_region ?_) | (refine GC_block ?_) | (refine GC_cond_true rfl ?_) | (refine GC_cond_false rfl ?_) | (refine GL_nil ?_) | (refine GC_skip ?_) | (refine GC_label ?_) | (refine GC_exit ?_) | (refine GC_ret ?_) | (refine then_normal rfl ?_) | (refine then_exit ?_) | (refine then_ret ?_) | (refine block_normal ?_) | (refine block_ret ?_) | (refine block_same ?_) | (refine block_other rfl ?_)))
  refine g_within rfl rfl rfl (h1 := fun c => ?_) (h2 := fun c => ?_)
  · (repeat (first | (refine g_move (h := ?_)) | (refine g_assign (h := ?_)) | (refine g_not rfl (h := ?_)) | (refine g_pickT rfl (h := ?_)) | (refine g_pickF rfl (h := ?_)) | (refine g_extract rfl rfl (h := ?_)) | (refine g_makeFunc (h := ?_)) | (refine g_len (by with_reducible assumption) rfl (h := ?_)) | (refine g_off (h := ?_)) | (refine GC_seq ?_) | (refine GC_region ?_) | (refine GC_block ?_) | (refine GC_cond_true rfl ?_) | (refine GC_cond_false rfl ?_) | (refine GL_nil ?_) | (refine GC_skip ?_) | (refine GC_label ?_) | (refine GC_exit ?_) | (refine GC_ret ?_) | (refine then_normal rfl ?_) | (refine then_exit ?_) | (refine then_ret ?_) | (refine block_normal ?_) | (refine block_ret ?_) | (refine block_same ?_) | (refine block_other rfl ?_)))
    exact ret1 rfl ⟨retb (b := false) (by simp [wideB, c]), rfl⟩
  · (repeat (first | (refine g_move (h := ?_)) | (refine g_assign (h := ?_)) | (refine g_not rfl (h := ?_)) | (refine g_pickT rfl (h := ?_)) | (refine g_pickF rfl (h := ?_)) | (refine g_extract rfl rfl (h := ?_)) | (refine g_makeFunc (h := ?_)) | (refine g_len (by with_reducible assumption) rfl (h := ?_)) | (refine g_off (h := ?_)) | (refine GC_seq ?_) | (refine GC_region ?_) | (refine GC_block ?_) | (refine GC_cond_true rfl ?_) | (refine GC_cond_false rfl ?_) | (refine GL_nil ?_) | (refine GC_skip ?_) | (refine GC_label ?_) | (refine GC_exit ?_) | (refine GC_ret ?_) | (refine then_normal rfl ?_) | (refine then_exit ?_) | (refine then_ret ?_) | (refine block_normal ?_) | (refine block_ret ?_) | (refine block_same ?_) | (refine block_other rfl ?_)))
    exact ret1 rfl ⟨retb (b := true) (by simp [wideB]; omega), rfl⟩
def PileOk (l : List Int) (girth play : Int) : Prop := (1 ≤ (l.length : Int) ∧ (l.length : Int) ≤ 10) ∧ (1 ≤ girth ∧ girth ≤ 5000) ∧ (0 ≤ play ∧ play ≤ 100) ∧ l.all wideB = true
instance (l : List Int) (girth play : Int) : Decidable (PileOk l girth play) := by unfold PileOk; infer_instance
def checkPile (l : List Int) (girth play : Int) : Int := if PileOk l girth play then 0 else 60
theorem checkPile_c (A : Option Addr) (c : Nat) (l : List Int) (girth play : Int) (w : World) (hr : Kd.C (Kd.int .i64) w A l.length l) :
    Calls Try.prog 18 #[.agg #[.slice A l.length c, .int .i64 girth, .int .i64 play]] w fun e w' => e = .returned (.int .i64 (checkPile l girth play)) ∧ Below w.heap.size w w' := by
  have u22 := Try.underlying22
  have u3 := Try.underlying3
  have bad : ∀ {N : Nat} {σ : Nat → Value} {w1 : World}, ¬ PileOk l girth play → Below w.heap.size w w1 → σ 2 = .int .i64 60 → ∀ a, St N [] σ a → bodyPost Try.prog Try.f18 (fun e w' => e = .returned (.int .i64 (checkPile l girth play)) ∧ Below w.heap.size w w') .ret a w1 := by
    intro N σ w1 hn hB hs
    exact ret1 rfl ⟨by rw [hs]; exact reti (by simp [checkPile, hn]), hB⟩
  refine G_enter (l := [.agg #[.slice A l.length c, .int .i64 girth, .int .i64 play]]) Try.func18 rfl rfl ?_
  (repeat (first | (refine g_move (h := ?_)) | (refine g_assign (h := ?_)) | (refine g_not rfl (h := ?_)) | (refine g_pickT rfl (h := ?_)) | (refine g_pickF rfl (h := ?_)) | (refine g_extract rfl rfl (h := ?_)) | (refine g_makeFunc (h := ?_)) | (refine g_len (by with_reducible assumption) rfl (h := ?_)) | (refine g_off (h := ?_)) | (refine GC_seq ?_) | (refine GC_region ?_) | (refine GC_block ?_) | (refine GC_cond_true rfl ?_) | (refine GC_cond_false rfl ?_) | (refine GL_nil ?_) | (refine GC_skip ?_) | (refine GC_label ?_) | (refine GC_exit ?_) | (refine GC_ret ?_) | (refine then_normal rfl ?_) | (refine then_exit ?_) | (refine then_ret ?_) | (refine block_normal ?_) | (refine block_ret ?_) | (refine block_same ?_) | (refine block_other rfl ?_)))
  refine g_box rfl (h := fun g w1 hN => ?_)
  have K := hN.at_
  have hB := hN.ch.below (Nat.le_refl _) (fun k _ => id)
  (repeat (first | (refine g_move (h := ?_)) | (refine g_assign (h := ?_)) | (refine g_not rfl (h := ?_)) | (refine g_pickT rfl (h := ?_)) | (refine g_pickF rfl (h := ?_)) | (refine g_extract rfl rfl (h := ?_)) | (refine g_makeFunc (h := ?_)) | (refine g_len (by with_reducible assumption) rfl (h := ?_)) | (refine g_off (h := ?_)) | (refine GC_seq ?_) | (refine GC_region ?_) | (refine GC_block ?_) | (refine GC_cond_true rfl ?_) | (refine GC_cond_false rfl ?_) | (refine GL_nil ?_) | (refine GC_skip ?_) | (refine GC_label ?_) | (refine GC_exit ?_) | (refine GC_ret ?_) | (refine then_normal rfl ?_) | (refine then_exit ?_) | (refine then_ret ?_) | (refine block_normal ?_) | (refine block_ret ?_) | (refine block_same ?_) | (refine block_other rfl ?_)))
  refine g_fieldAddrB f24_0 rfl (h := ?_)
  refine g_load1 rfl u22 (cellAt K rfl) (h := ?_)
  (repeat (first | (refine g_move (h := ?_)) | (refine g_assign (h := ?_)) | (refine g_not rfl (h := ?_)) | (refine g_pickT rfl (h := ?_)) | (refine g_pickF rfl (h := ?_)) | (refine g_extract rfl rfl (h := ?_)) | (refine g_makeFunc (h := ?_)) | (refine g_len (by with_reducible assumption) rfl (h := ?_)) | (refine g_off (h := ?_)) | (refine GC_seq ?_) | (refine GC_region ?_) | (refine GC_block ?_) | (refine GC_cond_true rfl ?_) | (refine GC_cond_false rfl ?_) | (refine GL_nil ?_) | (refine GC_skip ?_) | (refine GC_label ?_) | (refine GC_exit ?_) | (refine GC_ret ?_) | (refine then_normal rfl ?_) | (refine then_exit ?_) | (refine then_ret ?_) | (refine block_normal ?_) | (refine block_ret ?_) | (refine block_same ?_) | (refine block_other rfl ?_)))
  refine g_within rfl rfl rfl (h1 := fun c1 => ?_) (h2 := fun c1 => ?_)
  case' _ => skip
  all_goals (repeat (first | (refine g_move (h := ?_)) | (refine g_assign (h := ?_)) | (refine g_not rfl (h := ?_)) | (refine g_pickT rfl (h := ?_)) | (refine g_pickF rfl (h := ?_)) | (refine g_extract rfl rfl (h := ?_)) | (refine g_makeFunc (h := ?_)) | (refine g_len (by with_reducible assumption) rfl (h := ?_)) | (refine g_off (h := ?_)) | (refine GC_seq ?_) | (refine GC_region ?_) | (refine GC_block ?_) | (refine GC_cond_true rfl ?_) | (refine GC_cond_false rfl ?_) | (refine GL_nil ?_) | (refine GC_skip ?_) | (refine GC_label ?_) | (refine GC_exit ?_) | (refine GC_ret ?_) | (refine then_normal rfl ?_) | (refine then_exit ?_) | (refine then_ret ?_) | (refine block_normal ?_) | (refine block_ret ?_) | (refine block_same ?_) | (refine block_other rfl ?_)))
  rotate_left
  · exact bad (fun h => c1 h.1) hB rfl
  refine g_fieldAddrB f24_1 rfl (h := ?_)
  refine g_load1 rfl u3 (cellAt K rfl) (h := ?_)
  refine g_within rfl rfl rfl (h1 := fun c2 => ?_) (h2 := fun c2 => ?_)
  all_goals (repeat (first | (refine g_move (h := ?_)) | (refine g_assign (h := ?_)) | (refine g_not rfl (h := ?_)) | (refine g_pickT rfl (h := ?_)) | (refine g_pickF rfl (h := ?_)) | (refine g_extract rfl rfl (h := ?_)) | (refine g_makeFunc (h := ?_)) | (refine g_len (by with_reducible assumption) rfl (h := ?_)) | (refine g_off (h := ?_)) | (refine GC_seq ?_) | (refine GC_region ?_) | (refine GC_block ?_) | (refine GC_cond_true rfl ?_) | (refine GC_cond_false rfl ?_) | (refine GL_nil ?_) | (refine GC_skip ?_) | (refine GC_label ?_) | (refine GC_exit ?_) | (refine GC_ret ?_) | (refine then_normal rfl ?_) | (refine then_exit ?_) | (refine then_ret ?_) | (refine block_normal ?_) | (refine block_ret ?_) | (refine block_same ?_) | (refine block_other rfl ?_)))
  rotate_left
  · exact bad (fun h => c2 h.2.1) hB rfl
  refine g_fieldAddrB f24_2 rfl (h := ?_)
  refine g_load1 rfl u3 (cellAt K rfl) (h := ?_)
  refine g_within rfl rfl rfl (h1 := fun c3 => ?_) (h2 := fun c3 => ?_)
  all_goals (repeat (first | (refine g_move (h := ?_)) | (refine g_assign (h := ?_)) | (refine g_not rfl (h := ?_)) | (refine g_pickT rfl (h := ?_)) | (refine g_pickF rfl (h := ?_)) | (refine g_extract rfl rfl (h := ?_)) | (refine g_makeFunc (h := ?_)) | (refine g_len (by with_reducible assumption) rfl (h := ?_)) | (refine g_off (h := ?_)) | (refine GC_seq ?_) | (refine GC_region ?_) | (refine GC_block ?_) | (refine GC_cond_true rfl ?_) | (refine GC_cond_false rfl ?_) | (refine GL_nil ?_) | (refine GC_skip ?_) | (refine GC_label ?_) | (refine GC_exit ?_) | (refine GC_ret ?_) | (refine then_normal rfl ?_) | (refine then_exit ?_) | (refine then_ret ?_) | (refine block_normal ?_) | (refine block_ret ?_) | (refine block_same ?_) | (refine block_other rfl ?_)))
  rotate_left
  · exact bad (fun h => c3 h.2.2.1) hB rfl
  refine g_fieldAddrB f24_0 rfl (h := ?_)
  refine g_load1 rfl u22 (cellAt K rfl) (h := ?_)
  refine g_call he66 rfl (containsFunc_c 67 [] (fun n => !wideB n) he67 A c l w1 (Kd.C_below hr hB) (fun x w2 _ => (checkPile1_c x w2).mono (by rintro e w' ⟨rfl, rfl⟩; exact ⟨rfl, Below.refl _ _⟩))) (h := ?_)
  rintro e w2 ⟨rfl, hb2⟩
  refine ⟨_, rfl, ?_⟩
  have hB2 := below_then hB hB.size hb2
  have hall : l.all wideB = !(l.any fun n => !wideB n) := by simp [List.all_eq_not_any_not]
  cases ha : l.any (fun n => !wideB n) with
  | true =>
    (repeat (first | (refine g_move (h := ?_)) | (refine g_assign (h := ?_)) | (refine g_not rfl (h := ?_)) | (refine g_pickT rfl (h := ?_)) | (refine g_pickF rfl (h := ?_)) | (refine g_extract rfl rfl (h := ?_)) | (refine g_makeFunc (h := ?_)) | (refine g_len (by with_reducible assumption) rfl (h := ?_)) | (refine g_off (h := ?_)) | (refine GC_seq ?_) | (refine GC_region ?_) | (refine GC_block ?_) | (refine GC_cond_true rfl ?_) | (refine GC_cond_false rfl ?_) | (refine GL_nil ?_) | (refine GC_skip ?_) | (refine GC_label ?_) | (refine GC_exit ?_) | (refine GC_ret ?_) | (refine then_normal rfl ?_) | (refine then_exit ?_) | (refine then_ret ?_) | (refine block_normal ?_) | (refine block_ret ?_) | (refine block_same ?_) | (refine block_other rfl ?_)))
    exact bad (fun h => by have h4 := h.2.2.2; rw [hall, ha] at h4; exact absurd h4 (by simp)) hB2 rfl
  | false =>
    (repeat (first | (refine g_move (h := ?_)) | (refine g_assign (h := ?_)) | (refine g_not rfl (h := ?_)) | (refine g_pickT rfl (h := ?_)) | (refine g_pickF rfl (h := ?_)) | (refine g_extract rfl rfl (h := ?_)) | (refine g_makeFunc (h := ?_)) | (refine g_len (by with_reducible assumption) rfl (h := ?_)) | (refine g_off (h := ?_)) | (refine GC_seq ?_) | (refine GC_region ?_) | (refine GC_block ?_) | (refine GC_cond_true rfl ?_) | (refine GC_cond_false rfl ?_) | (refine GL_nil ?_) | (refine GC_skip ?_) | (refine GC_label ?_) | (refine GC_exit ?_) | (refine GC_ret ?_) | (refine then_normal rfl ?_) | (refine then_exit ?_) | (refine then_ret ?_) | (refine block_normal ?_) | (refine block_ret ?_) | (refine block_same ?_) | (refine block_other rfl ?_)))
    exact ret1 rfl ⟨reti (by rw [checkPile, if_pos ⟨c1, c2, c3, by rw [hall, ha]; rfl⟩]), hB2⟩
end Go.Proofs.B
