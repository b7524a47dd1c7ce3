/- A small logic over the kit's fenced walk: frames are functions from slots to values; one lemma an operation. -/
import Derived.TacticsIn
import Derived.OrdersIn
import Derived.Deep.Quiet
import Derived.RangeFuncIn
import Derived.RangeFuncLeaves
import Derived.RangeFuncCalls
import Derived.Below
import Derived.WalkKit
import Derived.Deep.LoopGhost
set_option linter.unusedVariables false
set_option linter.unusedSimpArgs false
namespace Go.Proofs.G
open Go Go.RowKit

/-- What an operand is, slots being told by a function. -/
def ev (σ : Nat → Value) : Operand → Value
  | .tmp t => σ t
  | .const v => v
  | .global g => .pointer (some ⟨g, 0, none⟩)
  | .func f => .func (.func f) #[] #[]

def upd (σ : Nat → Value) (d : Nat) (v : Value) : Nat → Value := fun t => bif Nat.beq t d then v else σ t
def updo (σ : Nat → Value) : Option Nat → Value → Nat → Value
  | some d, v => upd σ d v
  | none, _ => σ
def dstok (N : Nat) : Option Nat → Bool
  | some d => Nat.blt d N
  | none => true

/-- A frame that holds v at t may be spelled so. -/
theorem has {σ X : Nat → Value} {t : Nat} {v : Value} (h : σ t = v) (hX : σ = X) : σ = upd X t v := by
  subst hX
  funext u
  unfold upd
  cases hb : Nat.beq u t with
  | false => rfl
  | true => rw [Nat.eq_of_beq_eq_true hb, h]; rfl

structure St (N : Nat) (ds : List Deferred) (σ : Nat → Value) (a : Act) : Prop where
  size : a.tmps.size = N
  defers : a.defers = ds
  val : ∀ t, a.tmps.getD t undef = σ t

theorem St.eval {N : Nat} {ds : List Deferred} {σ : Nat → Value} {a : Act} (h : St N ds σ a) : a.eval = ev σ := by
  funext x; cases x <;> simp [Act.eval, ev, h.val]

theorem St.put {N : Nat} {ds : List Deferred} {σ : Nat → Value} {a : Act} (h : St N ds σ a) (o : Option Nat) (v : Value) (hd : dstok N o = true) : St N ds (updo σ o v) (a.put o v) := by
  cases o with
  | none => exact h
  | some d =>
    have hd' : d < N := by
      have := hd
      simp only [dstok, Nat.blt, Nat.ble_eq] at this
      omega
    refine ⟨by simp [Act.put, h.size], by simp [Act.put, h.defers], fun t => ?_⟩
    simp only [Act.put, updo, upd]
    by_cases e : t = d
    · subst e
      simp [Array.getD_eq_getD_getElem?, h.size, hd']
    · have : (Nat.beq t d) = false := by
        cases hb : Nat.beq t d with
        | false => rfl
        | true => exact absurd (Nat.eq_of_beq_eq_true hb) e
      rw [this, cond_false, ← h.val t]
      simp [Array.getD_eq_getD_getElem?, Array.getElem?_setIfInBounds_ne (Ne.symm e)]

/-- The wide fence, or a round's. -/
def FR (r : Option Nat) : Fence := { fn := fun _ => True, depth := none, alive := false, round := r }

def GC (r : Option Nat) (P : Program) (N : Nat) (ds : List Deferred) (c : Code) (Q : Exit → Act → World → Prop) (σ : Nat → Value) (w : World) : Prop :=
  ∀ a, St N ds σ a → c.wpIn (FR r) 0 P Q a w
def GL (r : Option Nat) (P : Program) (N : Nat) (ds : List Deferred) (ops : Array Oper) (Q : Exit → Act → World → Prop) (l : List Oper) (σ : Nat → Value) (w : World) : Prop :=
  ∀ a, St N ds σ a → wpListIn (FR r) 0 P ops Q l a w

/-- A guard's answer, off the slots. -/
def yl (ops : Array Oper) (σ : Nat → Value) (j : Nat) : Option Bool :=
  match (ops[j]?).bind (·.dst) with
  | some t => (match σ t with | .bool b => some b | _ => none)
  | none => none
theorem St.yl {N : Nat} {ds : List Deferred} {σ : Nat → Value} {a : Act} (h : St N ds σ a) (ops : Array Oper) : yielded ops a.tmps = yl ops σ := by
  funext j
  unfold yielded G.yl
  cases hd : (ops[j]?).bind (·.dst) with
  | none => simp
  | some t =>
    simp only [Option.bind_some]
    have hv := h.val t
    rw [Array.getD_eq_getD_getElem?] at hv
    cases ht : a.tmps[t]? with
    | none => rw [ht] at hv; simp only [Option.getD_none] at hv; rw [← hv]; rfl
    | some v => rw [ht] at hv; simp only [Option.getD_some] at hv; rw [← hv]; cases v <;> rfl

section
variable {r : Option Nat} {P : Program} {N : Nat} {ds : List Deferred} {Q : Exit → Act → World → Prop} {σ : Nat → Value} {w : World}

/-! ### Code -/
theorem GC_seq {x y : Code} (h : GC r P N ds x (Exit.then (fun a w => y.wpIn (FR r) 0 P Q a w) Q) σ w) : GC r P N ds (.seq x y) Q σ w :=
  fun a ha => wpIn_seq (h a ha)
theorem GC_skip (h : ∀ a, St N ds σ a → Q .normal a w) : GC r P N ds .skip Q σ w := fun a ha => wpIn_skip (h a ha)
theorem GC_label {l : Nat} (h : ∀ a, St N ds σ a → Q .normal a w) : GC r P N ds (.label l) Q σ w := fun a ha => wpIn_label (h a ha)
theorem GC_exit {id : Nat} (h : ∀ a, St N ds σ a → Q (.exit id) a w) : GC r P N ds (.exit id) Q σ w := fun a ha => wpIn_exit (h a ha)
theorem GC_ret (h : ∀ a, St N ds σ a → Q .ret a w) : GC r P N ds .ret Q σ w := fun a ha => wpIn_ret (h a ha)
theorem GC_cond_true {c : Operand} {x y : Code} (hc : ev σ c = .bool true) (h : GC r P N ds x Q σ w) : GC r P N ds (.cond c x y) Q σ w :=
  fun a ha => wpIn_cond_true (by rw [ha.eval]; exact hc) (h a ha)
theorem GC_cond_false {c : Operand} {x y : Code} (hc : ev σ c = .bool false) (h : GC r P N ds y Q σ w) : GC r P N ds (.cond c x y) Q σ w :=
  fun a ha => wpIn_cond_false (by rw [ha.eval]; exact hc) (h a ha)
theorem GC_block {id : Nat} {c : Code} (h : GC r P N ds c (Exit.inBlock id Q) σ w) : GC r P N ds (.block id c) Q σ w := fun a ha => wpIn_block (h a ha)
theorem GC_region {id : Nat} {l : List Oper} (h : GL r P N ds l.toArray Q l σ w) : GC r P N ds (.region id l.toArray false) Q σ w :=
  fun a ha => wpIn_region_lit (h a ha)

/-- A loop: what holds at its head, with a number that each round lowers. -/
theorem GC_loop {c : Code} (I : Nat → (Nat → Value) → World → Prop) (k₀ : Nat) (h₀ : I k₀ σ w)
    (round : ∀ k σ w, I k σ w → GC r P N ds c (Exit.then (fun a' w' => ∃ k', k' < k ∧ ∃ σ', St N ds σ' a' ∧ I k' σ' w') Q) σ w) : GC r P N ds (.loop c) Q σ w := by
  intro a ha
  have key : ∀ k a w, (∃ σ, St N ds σ a ∧ I k σ w) → (Code.loop c).wpIn (FR r) 0 P Q a w := by
    intro k0 a0 w0 h0
    refine wpIn_loop (fun a w => ∃ k σ, St N ds σ a ∧ I k σ w) (fun a w => leastOf (fun k => ∃ σ, St N ds σ a ∧ I k σ w)) ⟨k0, h0⟩ ?_
    intro a1 w1 h1
    have hl := leastOf_spec (p := fun k => ∃ σ, St N ds σ a1 ∧ I k σ w1) h1
    obtain ⟨σ1, hs1, hi1⟩ := hl.1
    refine wpIn_mono (round _ σ1 w1 hi1 a1 hs1) ?_
    intro e a' w' hq
    cases e with
    | normal =>
      obtain ⟨k', hlt, σ', hs', hi'⟩ := hq
      have h2 : ∃ k σ, St N ds σ a' ∧ I k σ w' := ⟨k', σ', hs', hi'⟩
      exact ⟨h2, Nat.lt_of_le_of_lt ((leastOf_spec (p := fun k => ∃ σ, St N ds σ a' ∧ I k σ w') h2).2 k' ⟨σ', hs', hi'⟩) hlt⟩
    | exit id => exact hq
    | goto l => exact hq
    | ret => exact hq
    | panic ch => exact hq
    | outgrown => exact hq
  exact key k₀ a w ⟨σ, ha, h₀⟩

/-! ### What stands behind -/
theorem then_normal {K : Act → World → Prop} {y : Code} (hK : K = fun a w => y.wpIn (FR r) 0 P Q a w) (h : GC r P N ds y Q σ w) : ∀ a, St N ds σ a → Exit.then K Q .normal a w := by
  subst hK; exact fun a ha => h a ha
theorem then_exit {K : Act → World → Prop} {id : Nat} (h : ∀ a, St N ds σ a → Q (.exit id) a w) : ∀ a, St N ds σ a → Exit.then K Q (.exit id) a w := h
theorem then_ret {K : Act → World → Prop} (h : ∀ a, St N ds σ a → Q .ret a w) : ∀ a, St N ds σ a → Exit.then K Q .ret a w := h
theorem block_normal {id : Nat} (h : ∀ a, St N ds σ a → Q .normal a w) : ∀ a, St N ds σ a → Exit.inBlock id Q .normal a w := h
theorem block_ret {id : Nat} (h : ∀ a, St N ds σ a → Q .ret a w) : ∀ a, St N ds σ a → Exit.inBlock id Q .ret a w := h
theorem block_same {id : Nat} (h : ∀ a, St N ds σ a → Q .normal a w) : ∀ a, St N ds σ a → Exit.inBlock id Q (.exit id) a w := fun a ha => by simp only [Exit.inBlock, if_true]; exact h a ha
theorem block_other {id id' : Nat} (hne : Nat.beq id' id = false) (h : ∀ a, St N ds σ a → Q (.exit id') a w) : ∀ a, St N ds σ a → Exit.inBlock id Q (.exit id') a w := fun a ha => by
  have : ¬ id' = id := fun e => by subst e; simp at hne
  simp only [Exit.inBlock, if_neg this]; exact h a ha
/-- The end of a round. -/
theorem round_end {I : Nat → (Nat → Value) → World → Prop} {k : Nat} (k' : Nat) (hk : k' < k) (h : I k' σ w) :
    ∀ a, St N ds σ a → Exit.then (fun a' w' => ∃ k', k' < k ∧ ∃ σ', St N ds σ' a' ∧ I k' σ' w') Q .normal a w := fun a ha => ⟨k', hk, σ, ha, h⟩

/-! ### Operations -/
section
variable {ops : Array Oper} {rest : List Oper} {o : Oper}
theorem GL_nil (h : ∀ a, St N ds σ a → Q .normal a w) : GL r P N ds ops Q [] σ w := fun a ha => h a ha

theorem GL_skip (hw : Region.wanted o (yl ops σ) = false) (hd : dstok N o.dst = true) (h : GL r P N ds ops Q rest (updo σ o.dst undef) w) : GL r P N ds ops Q (o :: rest) σ w := by
  intro a ha
  unfold wpListIn
  rw [ha.yl, if_neg (by rw [hw]; simp)]
  exact ⟨fun _ _ => trivial, h _ (ha.put _ _ hd)⟩

theorem GL_run {R : Result Next} (hw : Region.wanted o (yl ops σ) = true) (hnd : ∀ c, o.op ≠ .defer c) (hrun : (execOp (ev σ) o).run P w = R)
    (h : ∀ a, St N ds σ a → o.uponIn (FR r) 0 P a (wpListIn (FR r) 0 P ops Q rest) Q R) : GL r P N ds ops Q (o :: rest) σ w := by
  intro a ha
  unfold wpListIn
  rw [ha.yl, if_pos hw]
  refine ⟨fun _ _ => trivial, ?_⟩
  rw [Oper.semAt_eq _ _ _ hnd, ha.eval, hrun]
  exact h a ha

theorem GL_val {v : Value} {w' : World} (hw : Region.wanted o (yl ops σ) = true) (hnd : ∀ c, o.op ≠ .defer c) (hrun : (execOp (ev σ) o).run P w = .ok (.value v) w')
    (hd : dstok N o.dst = true) (h : GL r P N ds ops Q rest (updo σ o.dst v) w') : GL r P N ds ops Q (o :: rest) σ w :=
  GL_run hw hnd hrun fun a ha => h _ (ha.put _ _ hd)
theorem GL_unit {w' : World} (hw : Region.wanted o (yl ops σ) = true) (hnd : ∀ c, o.op ≠ .defer c) (hrun : (execOp (ev σ) o).run P w = .ok .skip w')
    (hd : dstok N o.dst = true) (h : GL r P N ds ops Q rest (updo σ o.dst undef) w') : GL r P N ds ops Q (o :: rest) σ w :=
  GL_run hw hnd hrun fun a ha => h _ (ha.put _ _ hd)
theorem calls_in {f : FuncId} {args : Array Value} {R : Ending → World → Prop} (r : Option Nat) (n : Nat) (h : Calls P f args w R) : CallsIn (FR r) n P f args w R := by
  have h1 : CallsIn Fence.wide n P f args w R := callsIn_wide.2 h
  exact h1
theorem in_calls {f : FuncId} {args : Array Value} {R : Ending → World → Prop} {n : Nat} (h : CallsIn (FR none) n P f args w R) : Calls P f args w R :=
  callsIn_wide.1 (show CallsIn Fence.wide n P f args w R from h)
/-- A call: its contract tells the value that comes back; what it may also end in, is passed on ('outgrown'). -/
theorem GL_enter {f : FuncId} {args : Array Value} {w1 : World} {R : Ending → World → Prop} (hw : Region.wanted o (yl ops σ) = true) (hnd : ∀ c, o.op ≠ .defer c)
    (hrun : (execOp (ev σ) o).run P w = .ok (.enter f args) w1) (hd : dstok N o.dst = true) (hc : Calls P f args w1 R)
    (h : ∀ e w', R e w' → ∃ v, e = .returned v ∧ GL r P N ds ops Q rest (updo σ o.dst v) w') : GL r P N ds ops Q (o :: rest) σ w :=
  GL_run hw hnd hrun fun a ha => by
    refine ⟨(fun hx => by cases hx), (calls_in r _ hc).mono fun e w' he => ?_⟩
    obtain ⟨v, rfl, hk⟩ := h e w' he
    exact hk _ (ha.put _ _ hd)
end
end

/-! ### Into a function, and out of it -/
def ofl : List Value → Nat → Value
  | [], _ => undef
  | v :: _, 0 => v
  | _ :: l, t + 1 => ofl l t
theorem ofl_eq (l : List Value) (k t : Nat) : (l.toArray ++ Array.replicate k undef).getD t undef = ofl l t := by
  induction l generalizing t with
  | nil =>
    simp only [ofl, Array.getD_eq_getD_getElem?]
    rw [show (([] : List Value).toArray ++ Array.replicate k undef) = Array.replicate k undef by simp]
    by_cases h : t < k
    · simp [h]
    · simp [h]
  | cons v l ih =>
    cases t with
    | zero => simp only [ofl, Array.getD_eq_getD_getElem?, ← Array.getElem?_toList, Array.toList_append, List.toList_toArray, List.cons_append, List.getElem?_cons_zero, Option.getD_some]
    | succ t =>
      rw [ofl, ← ih t]
      simp only [Array.getD_eq_getD_getElem?, ← Array.getElem?_toList, Array.toList_append, List.toList_toArray, List.cons_append, List.getElem?_cons_succ]
theorem G_enter {P : Program} {f : FuncId} {fn : Func} {c : Code} {l : List Value} {w : World} {R : Ending → World → Prop} (hf : P.funcs[f]? = some fn) (hb : fn.body = some c)
    (hle : Nat.ble l.length fn.ntmps = true) (h : GC none P fn.ntmps [] c (bodyPost P fn R) (ofl l) w) : Calls P f l.toArray w R := by
  refine in_calls (n := 0) (callsIn_of_wp hf hb trivial (h _ ⟨?_, rfl, ?_⟩) rfl)
  · simp at hle ⊢; omega
  · exact fun t => ofl_eq l _ t
theorem G_enterM {P : Program} {f : FuncId} {fn : Func} {c : Code} {l : List Value} {w : World} {R : Ending → World → Prop} (hf : P.funcs[f]? = some fn) (hb : fn.body = some c)
    (hle : Nat.ble l.length fn.ntmps = true) (h : GC none P fn.ntmps [] c (bodyPostM (FR none) 0 P fn R) (ofl l) w) : Calls P f l.toArray w R := by
  refine in_calls (n := 0) (callsIn_of_wp_marks hf hb trivial (h _ ⟨?_, rfl, ?_⟩) rfl)
  · simp at hle ⊢; omega
  · exact fun t => ofl_eq l _ t
section
variable {P : Program} {fn : Func} {R : Ending → World → Prop} {σ : Nat → Value} {w : World} {N : Nat}
theorem ret1 {t : Tmp} (h : fn.results = #[.tmp t]) (hR : R (.returned (σ t)) w) : ∀ a, St N [] σ a → bodyPost P fn R .ret a w :=
  fun a ha => ⟨ha.defers, _, results_tmp h _ _ _, by rw [ha.val]; exact hR⟩
theorem ret2 {t u : Tmp} (h : fn.results = #[.tmp t, .tmp u]) (hR : R (.returned (.tuple #[σ t, σ u])) w) : ∀ a, St N [] σ a → bodyPost P fn R .ret a w :=
  fun a ha => ⟨ha.defers, _, results_tmp2 h _ _ _, by rw [ha.val, ha.val]; exact hR⟩
theorem ret3 {t u v : Tmp} (h : fn.results = #[.tmp t, .tmp u, .tmp v]) (hR : R (.returned (.tuple #[σ t, σ u, σ v])) w) : ∀ a, St N [] σ a → bodyPost P fn R .ret a w :=
  fun a ha => ⟨ha.defers, .tuple #[a.tmps.getD t undef, a.tmps.getD u undef, a.tmps.getD v undef], by simp [results, h], by rw [ha.val, ha.val, ha.val]; exact hR⟩
theorem end0 (h : fn.results = #[]) (hR : R (.returned (.tuple #[])) w) : ∀ a, St N [] σ a → bodyPost P fn R .normal a w :=
  fun a ha => ⟨ha.defers, _, results_none h _ _ _, hR⟩
/-- A result that lies in a variable. -/
theorem retcell {p : Tmp} {t : TypeId} {v : Value} (h : fn.results = #[.cell p t]) (ad : Addr) (hp : σ p = .pointer (some ad)) (hrun : (loadVar t ad).run P w = .ok v w) (hR : R (.returned v) w) :
    ∀ a, St N [] σ a → bodyPost P fn R .ret a w :=
  fun a ha => ⟨ha.defers, v, by simp [results, h, ha.val, hp, asAddr, Sem.run_bind, hrun], hR⟩
end
attribute [irreducible] GC GL
end Go.Proofs.G
