/- A small logic over the kit's fenced walk: frames are functions from slots to values; one lemma an operation. -/
import Derived.TacticsIn
import Derived.OrdersIn
import Derived.Deep.Quiet
import Derived.RangeFuncIn
import Derived.RangeFuncLeaves
import Derived.RangeFuncCalls
import Derived.Below
import Derived.WalkKit
import Derived.Deep.LoopGhost
import Derived.WalkSpells
set_option linter.unusedVariables false
set_option linter.unusedSimpArgs false
namespace Go.Proofs.G
open Go Go.RowKit

/-- What an operand is, slots being told by a function. -/
def ev (σ : Nat → Value) : Operand → Value
  | .tmp t => σ t
  | .const v => v
  | .global g => .pointer (some ⟨g, 0, none⟩)
  | .func f => .func (.func f) #[] #[]

def upd (σ : Nat → Value) (d : Nat) (v : Value) : Nat → Value := fun t => bif Nat.beq t d then v else σ t
def updo (σ : Nat → Value) : Option Nat → Value → Nat → Value
  | some d, v => upd σ d v
  | none, _ => σ
def dstok (N : Nat) : Option Nat → Bool
  | some d => Nat.blt d N
  | none => true

/-- A frame that holds v at t may be spelled so. -/
theorem has {σ X : Nat → Value} {t : Nat} {v : Value} (h : σ t = v) (hX : σ = X) : σ = upd X t v := by
  subst hX
  funext u
  unfold upd
  cases hb : Nat.beq u t with
  | false => rfl
  | true => rw [Nat.eq_of_beq_eq_true hb, h]; rfl

structure St (N : Nat) (ds : List Deferred) (σ : Nat → Value) (a : Act) : Prop where
  size : a.tmps.size = N
  defers : a.defers = ds
  val : ∀ t, a.tmps.getD t undef = σ t

theorem St.eval {N : Nat} {ds : List Deferred} {σ : Nat → Value} {a : Act} (h : St N ds σ a) : a.eval = ev σ := by
  funext x; cases x <;> simp [Act.eval, ev, h.val]

theorem St.put {N : Nat} {ds : List Deferred} {σ : Nat → Value} {a : Act} (h : St N ds σ a) (o : Option Nat) (v : Value) (hd : dstok N o = true) : St N ds (updo σ o v) (a.put o v) := by
  cases o with
  | none => exact h
  | some d =>
    have hd' : d < N := by
      have := hd
      simp only [dstok, Nat.blt, Nat.ble_eq] at this
      omega
    refine ⟨by simp [Act.put, h.size], by simp [Act.put, h.defers], fun t => ?_⟩
    simp only [Act.put, updo, upd]
    by_cases e : t = d
    · subst e
      simp [Array.getD_eq_getD_getElem?, h.size, hd']
    · have : (Nat.beq t d) = false := by
        cases hb : Nat.beq t d with
        | false => rfl
        | true => exact absurd (Nat.eq_of_beq_eq_true hb) e
      rw [this, cond_false, ← h.val t]
      simp [Array.getD_eq_getD_getElem?, Array.getElem?_setIfInBounds_ne (Ne.symm e)]

/-- The wide fence, or a round's. -/
def FR (r : Option Nat) : Fence := { fn := fun _ => True, depth := none, alive := false, round := r }

def GC (r : Option Nat) (P : Program) (N : Nat) (ds : List Deferred) (c : Code) (Q : Exit → Act → World → Prop) (σ : Nat → Value) (w : World) : Prop :=
  ∀ a, St N ds σ a → c.wpIn (FR r) 0 P Q a w
def GL (r : Option Nat) (P : Program) (N : Nat) (ds : List Deferred) (ops : Array Oper) (Q : Exit → Act → World → Prop) (l : List Oper) (σ : Nat → Value) (w : World) : Prop :=
  ∀ a, St N ds σ a → wpListIn (FR r) 0 P ops Q l a w

/-- A guard's answer, off the slots. -/
def yl (ops : Array Oper) (σ : Nat → Value) (j : Nat) : Option Bool :=
  match (ops[j]?).bind (·.dst) with
  | some t => (match σ t with | .bool b => some b | _ => none)
  | none => none
theorem St.yl {N : Nat} {ds : List Deferred} {σ : Nat → Value} {a : Act} (h : St N ds σ a) (ops : Array Oper) : yielded ops a.tmps = yl ops σ := by
  funext j
  unfold yielded G.yl
  cases hd : (ops[j]?).bind (·.dst) with
  | none => simp
  | some t =>
    simp only [Option.bind_some]
    have hv := h.val t
    rw [Array.getD_eq_getD_getElem?] at hv
    cases ht : a.tmps[t]? with
    | none => rw [ht] at hv; simp only [Option.getD_none] at hv; rw [← hv]; rfl
    | some v => rw [ht] at hv; simp only [Option.getD_some] at hv; rw [← hv]; cases v <;> rfl

section
variable {r : Option Nat} {P : Program} {N : Nat} {ds : List Deferred} {Q : Exit → Act → World → Prop} {σ : Nat → Value} {w : World}

/-! ### Code -/
theorem GC_seq {x y : Code} (h : GC r P N ds x (Exit.then (fun a w => y.wpIn (FR r) 0 P Q a w) Q) σ w) : GC r P N ds (.seq x y) Q σ w :=
  fun a ha => wpIn_seq (h a ha)
theorem GC_skip (h : ∀ a, St N ds σ a → Q .normal a w) : GC r P N ds .skip Q σ w := fun a ha => wpIn_skip (h a ha)
theorem GC_label {l : Nat} (h : ∀ a, St N ds σ a → Q .normal a w) : GC r P N ds (.label l) Q σ w := fun a ha => wpIn_label (h a ha)
theorem GC_exit {id : Nat} (h : ∀ a, St N ds σ a → Q (.exit id) a w) : GC r P N ds (.exit id) Q σ w := fun a ha => wpIn_exit (h a ha)
theorem GC_ret (h : ∀ a, St N ds σ a → Q .ret a w) : GC r P N ds .ret Q σ w := fun a ha => wpIn_ret (h a ha)
theorem GC_cond_true {c : Operand} {x y : Code} (hc : ev σ c = .bool true) (h : GC r P N ds x Q σ w) : GC r P N ds (.cond c x y) Q σ w :=
  fun a ha => wpIn_cond_true (by rw [ha.eval]; exact hc) (h a ha)
theorem GC_cond_false {c : Operand} {x y : Code} (hc : ev σ c = .bool false) (h : GC r P N ds y Q σ w) : GC r P N ds (.cond c x y) Q σ w :=
  fun a ha => wpIn_cond_false (by rw [ha.eval]; exact hc) (h a ha)
theorem GC_block {id : Nat} {c : Code} (h : GC r P N ds c (Exit.inBlock id Q) σ w) : GC r P N ds (.block id c) Q σ w := fun a ha => wpIn_block (h a ha)
theorem GC_region {id : Nat} {l : List Oper} (h : GL r P N ds l.toArray Q l σ w) : GC r P N ds (.region id l.toArray false) Q σ w :=
  fun a ha => wpIn_region_lit (h a ha)

/-- A loop: what holds at its head, with a number that each round lowers. -/
theorem GC_loop {c : Code} (I : Nat → (Nat → Value) → World → Prop) (k₀ : Nat) (h₀ : I k₀ σ w)
    (round : ∀ k σ w, I k σ w → GC r P N ds c (Exit.then (fun a' w' => ∃ k', k' < k ∧ ∃ σ', St N ds σ' a' ∧ I k' σ' w') Q) σ w) : GC r P N ds (.loop c) Q σ w := by
  intro a ha
  have key : ∀ k a w, (∃ σ, St N ds σ a ∧ I k σ w) → (Code.loop c).wpIn (FR r) 0 P Q a w := by
    intro k0 a0 w0 h0
    refine wpIn_loop (fun a w => ∃ k σ, St N ds σ a ∧ I k σ w) (fun a w => leastOf (fun k => ∃ σ, St N ds σ a ∧ I k σ w)) ⟨k0, h0⟩ ?_
    intro a1 w1 h1
    have hl := leastOf_spec (p := fun k => ∃ σ, St N ds σ a1 ∧ I k σ w1) h1
    obtain ⟨σ1, hs1, hi1⟩ := hl.1
    refine wpIn_mono (round _ σ1 w1 hi1 a1 hs1) ?_
    intro e a' w' hq
    cases e with
    | normal =>
      obtain ⟨k', hlt, σ', hs', hi'⟩ := hq
      have h2 : ∃ k σ, St N ds σ a' ∧ I k σ w' := ⟨k', σ', hs', hi'⟩
      exact ⟨h2, Nat.lt_of_le_of_lt ((leastOf_spec (p := fun k => ∃ σ, St N ds σ a' ∧ I k σ w') h2).2 k' ⟨σ', hs', hi'⟩) hlt⟩
    | exit id => exact hq
    | goto l => exact hq
    | ret => exact hq
    | panic ch => exact hq
    | outgrown => exact hq
  exact key k₀ a w ⟨σ, ha, h₀⟩

/-! ### What stands behind -/
theorem then_normal {K : Act → World → Prop} {y : Code} (hK : K = fun a w => y.wpIn (FR r) 0 P Q a w) (h : GC r P N ds y Q σ w) : ∀ a, St N ds σ a → Exit.then K Q .normal a w := by
  subst hK; exact fun a ha => h a ha
theorem then_exit {K : Act → World → Prop} {id : Nat} (h : ∀ a, St N ds σ a → Q (.exit id) a w) : ∀ a, St N ds σ a → Exit.then K Q (.exit id) a w := h
theorem then_ret {K : Act → World → Prop} (h : ∀ a, St N ds σ a → Q .ret a w) : ∀ a, St N ds σ a → Exit.then K Q .ret a w := h
theorem block_normal {id : Nat} (h : ∀ a, St N ds σ a → Q .normal a w) : ∀ a, St N ds σ a → Exit.inBlock id Q .normal a w := h
theorem block_ret {id : Nat} (h : ∀ a, St N ds σ a → Q .ret a w) : ∀ a, St N ds σ a → Exit.inBlock id Q .ret a w := h
theorem block_same {id : Nat} (h : ∀ a, St N ds σ a → Q .normal a w) : ∀ a, St N ds σ a → Exit.inBlock id Q (.exit id) a w := fun a ha => by simp only [Exit.inBlock, if_true]; exact h a ha
theorem block_other {id id' : Nat} (hne : Nat.beq id' id = false) (h : ∀ a, St N ds σ a → Q (.exit id') a w) : ∀ a, St N ds σ a → Exit.inBlock id Q (.exit id') a w := fun a ha => by
  have : ¬ id' = id := fun e => by subst e; simp at hne
  simp only [Exit.inBlock, if_neg this]; exact h a ha
/-- The end of a round. -/
theorem round_end {I : Nat → (Nat → Value) → World → Prop} {k : Nat} (k' : Nat) (hk : k' < k) (h : I k' σ w) :
    ∀ a, St N ds σ a → Exit.then (fun a' w' => ∃ k', k' < k ∧ ∃ σ', St N ds σ' a' ∧ I k' σ' w') Q .normal a w := fun a ha => ⟨k', hk, σ, ha, h⟩

/-! ### Operations -/
section
variable {ops : Array Oper} {rest : List Oper} {o : Oper}
theorem GL_nil (h : ∀ a, St N ds σ a → Q .normal a w) : GL r P N ds ops Q [] σ w := fun a ha => h a ha

theorem GL_skip (hw : Region.wanted o (yl ops σ) = false) (hd : dstok N o.dst = true) (h : GL r P N ds ops Q rest (updo σ o.dst undef) w) : GL r P N ds ops Q (o :: rest) σ w := by
  intro a ha
  unfold wpListIn
  rw [ha.yl, if_neg (by rw [hw]; simp)]
  exact ⟨fun _ _ => trivial, h _ (ha.put _ _ hd)⟩

theorem GL_run {R : Result Next} (hw : Region.wanted o (yl ops σ) = true) (hnd : ∀ c, o.op ≠ .defer c) (hrun : (execOp (ev σ) o).run P w = R)
    (h : ∀ a, St N ds σ a → o.uponIn (FR r) 0 P a (wpListIn (FR r) 0 P ops Q rest) Q R) : GL r P N ds ops Q (o :: rest) σ w := by
  intro a ha
  unfold wpListIn
  rw [ha.yl, if_pos hw]
  refine ⟨fun _ _ => trivial, ?_⟩
  rw [Oper.semAt_eq _ _ _ hnd, ha.eval, hrun]
  exact h a ha

theorem GL_val {v : Value} {w' : World} (hw : Region.wanted o (yl ops σ) = true) (hnd : ∀ c, o.op ≠ .defer c) (hrun : (execOp (ev σ) o).run P w = .ok (.value v) w')
    (hd : dstok N o.dst = true) (h : GL r P N ds ops Q rest (updo σ o.dst v) w') : GL r P N ds ops Q (o :: rest) σ w :=
  GL_run hw hnd hrun fun a ha => h _ (ha.put _ _ hd)
theorem GL_unit {w' : World} (hw : Region.wanted o (yl ops σ) = true) (hnd : ∀ c, o.op ≠ .defer c) (hrun : (execOp (ev σ) o).run P w = .ok .skip w')
    (hd : dstok N o.dst = true) (h : GL r P N ds ops Q rest (updo σ o.dst undef) w') : GL r P N ds ops Q (o :: rest) σ w :=
  GL_run hw hnd hrun fun a ha => h _ (ha.put _ _ hd)
theorem calls_in {f : FuncId} {args : Array Value} {R : Ending → World → Prop} (r : Option Nat) (n : Nat) (h : Calls P f args w R) : CallsIn (FR r) n P f args w R := by
  have h1 : CallsIn Fence.wide n P f args w R := callsIn_wide.2 h
  exact h1
theorem in_calls {f : FuncId} {args : Array Value} {R : Ending → World → Prop} {n : Nat} (h : CallsIn (FR none) n P f args w R) : Calls P f args w R :=
  callsIn_wide.1 (show CallsIn Fence.wide n P f args w R from h)
/-- A call: its contract tells the value that comes back; what it may also end in, is passed on ('outgrown'). -/
theorem GL_enter {f : FuncId} {args : Array Value} {w1 : World} {R : Ending → World → Prop} (hw : Region.wanted o (yl ops σ) = true) (hnd : ∀ c, o.op ≠ .defer c)
    (hrun : (execOp (ev σ) o).run P w = .ok (.enter f args) w1) (hd : dstok N o.dst = true) (hc : Calls P f args w1 R)
    (h : ∀ e w', R e w' → ∃ v, e = .returned v ∧ GL r P N ds ops Q rest (updo σ o.dst v) w') : GL r P N ds ops Q (o :: rest) σ w :=
  GL_run hw hnd hrun fun a ha => by
    refine ⟨(fun hx => by cases hx), (calls_in r _ hc).mono fun e w' he => ?_⟩
    obtain ⟨v, rfl, hk⟩ := h e w' he
    exact hk _ (ha.put _ _ hd)
end
end

/-! ### Into a function, and out of it -/
def ofl : List Value → Nat → Value
  | [], _ => undef
  | v :: _, 0 => v
  | _ :: l, t + 1 => ofl l t
theorem ofl_eq (l : List Value) (k t : Nat) : (l.toArray ++ Array.replicate k undef).getD t undef = ofl l t := by
  induction l generalizing t with
  | nil =>
    simp only [ofl, Array.getD_eq_getD_getElem?]
    rw [show (([] : List Value).toArray ++ Array.replicate k undef) = Array.replicate k undef by simp]
    by_cases h : t < k
    · simp [h]
    · simp [h]
  | cons v l ih =>
    cases t with
    | zero => simp only [ofl, Array.getD_eq_getD_getElem?, ← Array.getElem?_toList, Array.toList_append, List.toList_toArray, List.cons_append, List.getElem?_cons_zero, Option.getD_some]
    | succ t =>
      rw [ofl, ← ih t]
      simp only [Array.getD_eq_getD_getElem?, ← Array.getElem?_toList, Array.toList_append, List.toList_toArray, List.cons_append, List.getElem?_cons_succ]
theorem G_enter {P : Program} {f : FuncId} {fn : Func} {c : Code} {l : List Value} {w : World} {R : Ending → World → Prop} (hf : P.funcs[f]? = some fn) (hb : fn.body = some c)
    (hle : Nat.ble l.length fn.ntmps = true) (h : GC none P fn.ntmps [] c (bodyPost P fn R) (ofl l) w) : Calls P f l.toArray w R := by
  refine in_calls (n := 0) (callsIn_of_wp hf hb trivial (h _ ⟨?_, rfl, ?_⟩) rfl)
  · simp at hle ⊢; omega
  · exact fun t => ofl_eq l _ t
theorem G_enterM {P : Program} {f : FuncId} {fn : Func} {c : Code} {l : List Value} {w : World} {R : Ending → World → Prop} (hf : P.funcs[f]? = some fn) (hb : fn.body = some c)
    (hle : Nat.ble l.length fn.ntmps = true) (h : GC none P fn.ntmps [] c (bodyPostM (FR none) 0 P fn R) (ofl l) w) : Calls P f l.toArray w R := by
  refine in_calls (n := 0) (callsIn_of_wp_marks hf hb trivial (h _ ⟨?_, rfl, ?_⟩) rfl)
  · simp at hle ⊢; omega
  · exact fun t => ofl_eq l _ t
section
variable {P : Program} {fn : Func} {R : Ending → World → Prop} {σ : Nat → Value} {w : World} {N : Nat}
theorem ret1 {t : Tmp} (h : fn.results = #[.tmp t]) (hR : R (.returned (σ t)) w) : ∀ a, St N [] σ a → bodyPost P fn R .ret a w :=
  fun a ha => ⟨ha.defers, _, results_tmp h _ _ _, by rw [ha.val]; exact hR⟩
theorem ret2 {t u : Tmp} (h : fn.results = #[.tmp t, .tmp u]) (hR : R (.returned (.tuple #[σ t, σ u])) w) : ∀ a, St N [] σ a → bodyPost P fn R .ret a w :=
  fun a ha => ⟨ha.defers, _, results_tmp2 h _ _ _, by rw [ha.val, ha.val]; exact hR⟩
theorem ret3 {t u v : Tmp} (h : fn.results = #[.tmp t, .tmp u, .tmp v]) (hR : R (.returned (.tuple #[σ t, σ u, σ v])) w) : ∀ a, St N [] σ a → bodyPost P fn R .ret a w :=
  fun a ha => ⟨ha.defers, .tuple #[a.tmps.getD t undef, a.tmps.getD u undef, a.tmps.getD v undef], by simp [results, h], by rw [ha.val, ha.val, ha.val]; exact hR⟩
theorem end0 (h : fn.results = #[]) (hR : R (.returned (.tuple #[])) w) : ∀ a, St N [] σ a → bodyPost P fn R .normal a w :=
  fun a ha => ⟨ha.defers, _, results_none h _ _ _, hR⟩
/-- A result that lies in a variable. -/
theorem retcell {p : Tmp} {t : TypeId} {v : Value} (h : fn.results = #[.cell p t]) (ad : Addr) (hp : σ p = .pointer (some ad)) (hrun : (loadVar t ad).run P w = .ok v w) (hR : R (.returned v) w) :
    ∀ a, St N [] σ a → bodyPost P fn R .ret a w :=
  fun a ha => ⟨ha.defers, v, by simp [results, h, ha.val, hp, asAddr, Sem.run_bind, hrun], hR⟩
end
attribute [irreducible] GC GL
end Go.Proofs.G

/- The operations, one lemma each. -/
set_option linter.unusedVariables false
set_option linter.unusedSimpArgs false
namespace Go.Proofs.G
open Go Go.RowKit

/-- Only blocks of S may have turned; nothing has gone. -/
structure Ch (S : Nat → Prop) (w w' : World) : Prop where
  os : w'.os = w.os
  tape : w'.tape = w.tape
  output : w'.output = w.output
  size : w.heap.size ≤ w'.heap.size
  blk : ∀ k, k < w.heap.size → ¬ S k → w'.heap[k]? = w.heap[k]?
def nob : Nat → Prop := fun _ => False
theorem Ch.refl (S : Nat → Prop) (w : World) : Ch S w w := ⟨rfl, rfl, rfl, Nat.le_refl _, fun _ _ _ => rfl⟩
theorem Ch.mono {S S' : Nat → Prop} {w w' : World} (h : Ch S w w') (hs : ∀ k, k < w.heap.size → S k → S' k) : Ch S' w w' :=
  ⟨h.os, h.tape, h.output, h.size, fun k hk hn => h.blk k hk (fun hx => hn (hs k hk hx))⟩
/-- Two steps; what the second one turns must be of S, or new. -/
theorem Ch.trans {S S1 S2 : Nat → Prop} {a b c : World} (h : Ch S1 a b) (k : Ch S2 b c) (h1 : ∀ k, k < a.heap.size → S1 k → S k) (h2 : ∀ k, k < a.heap.size → S2 k → S k) : Ch S a c :=
  ⟨k.os.trans h.os, k.tape.trans h.tape, k.output.trans h.output, Nat.le_trans h.size k.size, fun i hi hn =>
    (k.blk i (Nat.lt_of_lt_of_le hi h.size) (fun hx => hn (h2 i hi hx))).trans (h.blk i hi (fun hx => hn (h1 i hi hx)))⟩
theorem Ch.then {S : Nat → Prop} {a b c : World} (h : Ch S a b) (k : Ch nob b c) : Ch S a c := h.trans k (fun _ _ h => h) (fun _ _ h => h.elim)
theorem Ch.at_ {S : Nat → Prop} {w w' : World} (h : Ch S w w') {g : Nat} {o : Obj} (hb : w.heap[g]? = some o) (hn : ¬ S g) : w'.heap[g]? = some o :=
  (h.blk g (Array.getElem?_eq_some_iff.1 hb).1 hn).trans hb
theorem Ch.cell {S : Nat → Prop} {w w' : World} (h : Ch S w w') {a : Addr} {v : Value} (hc : w.cell? a = some v) (hn : ¬ S a.block) : w'.cell? a = some v :=
  (World.cell?_of_block (h.blk a.block (World.block_lt_of_cell? w a hc) hn)).trans hc
theorem Ch.below {S : Nat → Prop} {w w' : World} {B : Nat} (h : Ch S w w') (hB : B ≤ w.heap.size) (hs : ∀ k, k < B → ¬ S k) : Below B w w' :=
  ⟨h.os, h.tape, h.output, h.size, fun k hk => h.blk k (Nat.lt_of_lt_of_le hk hB) (hs k hk)⟩
theorem Ch.of_below {w w' : World} (h : Below w.heap.size w w') : Ch nob w w' := ⟨h.os, h.tape, h.output, h.size, fun k hk _ => h.block k hk⟩
theorem Ch.of_drewN (w : World) (n : Nat) : Ch nob w (w.drewN n) := ⟨rfl, rfl, rfl, Nat.le_refl _, fun _ _ _ => rfl⟩
theorem Ch.of_grown {w w' : World} {row : Option Nat} (h : w.grownBy w' row) : Ch (fun k => some k = row) w w' := ⟨h.os, h.tape, h.output, h.size, fun k hk hn => h.block k hk hn⟩
theorem Ch.of_alloc (w : World) (o : Obj) : Ch nob w (w.alloc o) := ⟨rfl, rfl, rfl, by simp, fun k hk _ => Below.heap_alloc w o k hk⟩
/-- Whatever lay below B lies so still, if nothing of S is below B. -/
theorem Ch.step {S : Nat → Prop} {w0 w w' : World} {B : Nat} (hb : Below B w0 w) (h : Ch S w w') (hB : B ≤ w.heap.size) (hs : ∀ k, k < B → ¬ S k) : Below B w0 w' := hb.trans (h.below hB hs)

/-- A new block. -/
structure New (w w' : World) (g : Nat) (o : Obj) : Prop where
  size : w.heap.size = g
  at_ : w'.heap[g]? = some o
  ch : Ch nob w w'
  size' : w'.heap.size = g + 1
theorem New.alloc (w : World) (o : Obj) : New w (w.alloc o) w.heap.size o := ⟨rfl, heap_alloc_new w o, Ch.of_alloc w o, by simp⟩

/-- Block g is now o'. -/
structure Put (w w' : World) (g : Nat) (o' : Obj) : Prop where
  ch : Ch (fun k => k = g) w w'
  at_ : w'.heap[g]? = some o'
  size : w'.heap.size = w.heap.size

section
variable {r : Option Nat} {P : Program} {N : Nat} {ds : List Deferred} {Q : Exit → Act → World → Prop} {σ : Nat → Value} {w : World}
variable {ops : Array Oper} {rest : List Oper} {ty : TypeId} {pos : String} {after : Array Edge} {gd : Option (Nat × Bool)} {d : Nat} {x y : Operand}

theorem g_move (hw : Region.wanted ⟨some d, .move x, ty, pos, after, gd⟩ (yl ops σ) = true := by rfl) (hd : Nat.blt d N = true := by rfl) (h : GL r P N ds ops Q rest (upd σ d (ev σ x)) w) :
    GL r P N ds ops Q (⟨some d, .move x, ty, pos, after, gd⟩ :: rest) σ w :=
  GL_val hw (by intro c hc; cases hc) (v := ev σ x) rfl hd h
theorem g_assign (hw : Region.wanted ⟨some d, .assign x, ty, pos, after, gd⟩ (yl ops σ) = true := by rfl) (hd : Nat.blt d N = true := by rfl) (h : GL r P N ds ops Q rest (upd σ d (ev σ x)) w) :
    GL r P N ds ops Q (⟨some d, .assign x, ty, pos, after, gd⟩ :: rest) σ w :=
  GL_val hw (by intro c hc; cases hc) (v := ev σ x) rfl hd h
/-- A guard that says no. -/
theorem g_off {op : Op} (hw : Region.wanted ⟨some d, op, ty, pos, after, gd⟩ (yl ops σ) = false := by rfl) (hd : Nat.blt d N = true := by rfl) (h : GL r P N ds ops Q rest (upd σ d undef) w) :
    GL r P N ds ops Q (⟨some d, op, ty, pos, after, gd⟩ :: rest) σ w := GL_skip hw hd h

section arith
variable {t t' : TypeId} {a b : Int}
theorem g_add (hx : ev σ x = .int .i64 a) (hy : ev σ y = .int .i64 b) (hr : -9223372036854775808 ≤ a + b ∧ a + b ≤ 9223372036854775807)
    (hw : Region.wanted ⟨some d, .binOp .add t x y t', ty, pos, after, gd⟩ (yl ops σ) = true := by rfl) (hd : Nat.blt d N = true := by rfl) (h : GL r P N ds ops Q rest (upd σ d (.int .i64 (a + b))) w) :
    GL r P N ds ops Q (⟨some d, .binOp .add t x y t', ty, pos, after, gd⟩ :: rest) σ w :=
  GL_val hw (by intro c hc; cases hc) (v := .int .i64 (a + b)) (by simp [execOp, eqGuard, binOp, hx, hy, Op.intArith, IntWalk.i64_in _ hr]) hd h
theorem g_addw (hx : ev σ x = .int .i64 a) (hy : ev σ y = .int .i64 b)
    (hw : Region.wanted ⟨some d, .binOp .add t x y t', ty, pos, after, gd⟩ (yl ops σ) = true := by rfl) (hd : Nat.blt d N = true := by rfl) (h : GL r P N ds ops Q rest (upd σ d (.int .i64 (wrap64 (a + b)))) w) :
    GL r P N ds ops Q (⟨some d, .binOp .add t x y t', ty, pos, after, gd⟩ :: rest) σ w :=
  GL_val hw (by intro c hc; cases hc) (v := .int .i64 (wrap64 (a + b))) (by simp [execOp, eqGuard, binOp, hx, hy, Op.intArith, IntWalk.i64_left]) hd h
theorem g_sub (hx : ev σ x = .int .i64 a) (hy : ev σ y = .int .i64 b) (hr : -9223372036854775808 ≤ a - b ∧ a - b ≤ 9223372036854775807)
    (hw : Region.wanted ⟨some d, .binOp .sub t x y t', ty, pos, after, gd⟩ (yl ops σ) = true := by rfl) (hd : Nat.blt d N = true := by rfl) (h : GL r P N ds ops Q rest (upd σ d (.int .i64 (a - b))) w) :
    GL r P N ds ops Q (⟨some d, .binOp .sub t x y t', ty, pos, after, gd⟩ :: rest) σ w :=
  GL_val hw (by intro c hc; cases hc) (v := .int .i64 (a - b)) (by simp [execOp, eqGuard, binOp, hx, hy, Op.intArith, IntWalk.i64_in _ hr]) hd h
theorem g_lss (hx : ev σ x = .int .i64 a) (hy : ev σ y = .int .i64 b)
    (hw : Region.wanted ⟨some d, .binOp .lss t x y t', ty, pos, after, gd⟩ (yl ops σ) = true := by rfl) (hd : Nat.blt d N = true := by rfl)
    (h1 : a < b → GL r P N ds ops Q rest (upd σ d (.bool true)) w) (h2 : ¬ a < b → GL r P N ds ops Q rest (upd σ d (.bool false)) w) :
    GL r P N ds ops Q (⟨some d, .binOp .lss t x y t', ty, pos, after, gd⟩ :: rest) σ w := by
  by_cases c : a < b
  · exact GL_val hw (by intro c hc; cases hc) (v := .bool true) (by simp [execOp, eqGuard, binOp, hx, hy, Op.intCmp, c]) hd (h1 c)
  · exact GL_val hw (by intro c hc; cases hc) (v := .bool false) (by simp [execOp, eqGuard, binOp, hx, hy, Op.intCmp]; omega) hd (h2 c)
theorem g_leq (hx : ev σ x = .int .i64 a) (hy : ev σ y = .int .i64 b)
    (hw : Region.wanted ⟨some d, .binOp .leq t x y t', ty, pos, after, gd⟩ (yl ops σ) = true := by rfl) (hd : Nat.blt d N = true := by rfl)
    (h1 : a ≤ b → GL r P N ds ops Q rest (upd σ d (.bool true)) w) (h2 : ¬ a ≤ b → GL r P N ds ops Q rest (upd σ d (.bool false)) w) :
    GL r P N ds ops Q (⟨some d, .binOp .leq t x y t', ty, pos, after, gd⟩ :: rest) σ w := by
  by_cases c : a ≤ b
  · exact GL_val hw (by intro c hc; cases hc) (v := .bool true) (by simp [execOp, eqGuard, binOp, hx, hy, Op.intCmp, c]) hd (h1 c)
  · exact GL_val hw (by intro c hc; cases hc) (v := .bool false) (by simp [execOp, eqGuard, binOp, hx, hy, Op.intCmp]; omega) hd (h2 c)
theorem g_gtr (hx : ev σ x = .int .i64 a) (hy : ev σ y = .int .i64 b)
    (hw : Region.wanted ⟨some d, .binOp .gtr t x y t', ty, pos, after, gd⟩ (yl ops σ) = true := by rfl) (hd : Nat.blt d N = true := by rfl)
    (h1 : b < a → GL r P N ds ops Q rest (upd σ d (.bool true)) w) (h2 : ¬ b < a → GL r P N ds ops Q rest (upd σ d (.bool false)) w) :
    GL r P N ds ops Q (⟨some d, .binOp .gtr t x y t', ty, pos, after, gd⟩ :: rest) σ w := by
  by_cases c : b < a
  · exact GL_val hw (by intro c hc; cases hc) (v := .bool true) (by simp [execOp, eqGuard, binOp, hx, hy, Op.intCmp, c]) hd (h1 c)
  · exact GL_val hw (by intro c hc; cases hc) (v := .bool false) (by simp [execOp, eqGuard, binOp, hx, hy, Op.intCmp]; omega) hd (h2 c)
theorem g_geq (hx : ev σ x = .int .i64 a) (hy : ev σ y = .int .i64 b)
    (hw : Region.wanted ⟨some d, .binOp .geq t x y t', ty, pos, after, gd⟩ (yl ops σ) = true := by rfl) (hd : Nat.blt d N = true := by rfl)
    (h1 : b ≤ a → GL r P N ds ops Q rest (upd σ d (.bool true)) w) (h2 : ¬ b ≤ a → GL r P N ds ops Q rest (upd σ d (.bool false)) w) :
    GL r P N ds ops Q (⟨some d, .binOp .geq t x y t', ty, pos, after, gd⟩ :: rest) σ w := by
  by_cases c : b ≤ a
  · exact GL_val hw (by intro c hc; cases hc) (v := .bool true) (by simp [execOp, eqGuard, binOp, hx, hy, Op.intCmp, c]) hd (h1 c)
  · exact GL_val hw (by intro c hc; cases hc) (v := .bool false) (by simp [execOp, eqGuard, binOp, hx, hy, Op.intCmp]; omega) hd (h2 c)
theorem g_eql (hx : ev σ x = .int .i64 a) (hy : ev σ y = .int .i64 b)
    (hw : Region.wanted ⟨some d, .binOp .eql t x y t', ty, pos, after, gd⟩ (yl ops σ) = true := by rfl) (hd : Nat.blt d N = true := by rfl)
    (h1 : a = b → GL r P N ds ops Q rest (upd σ d (.bool true)) w) (h2 : a ≠ b → GL r P N ds ops Q rest (upd σ d (.bool false)) w) :
    GL r P N ds ops Q (⟨some d, .binOp .eql t x y t', ty, pos, after, gd⟩ :: rest) σ w := by
  by_cases c : a = b
  · exact GL_val hw (by intro c hc; cases hc) (v := .bool true) (by simp [execOp, eqGuard, binOp, hx, hy, Op.intCmp, c]) hd (h1 c)
  · exact GL_val hw (by intro c hc; cases hc) (v := .bool false) (by simp [execOp, eqGuard, binOp, hx, hy, Op.intCmp, c]) hd (h2 c)
theorem g_neq (hx : ev σ x = .int .i64 a) (hy : ev σ y = .int .i64 b)
    (hw : Region.wanted ⟨some d, .binOp .neq t x y t', ty, pos, after, gd⟩ (yl ops σ) = true := by rfl) (hd : Nat.blt d N = true := by rfl)
    (h1 : a ≠ b → GL r P N ds ops Q rest (upd σ d (.bool true)) w) (h2 : a = b → GL r P N ds ops Q rest (upd σ d (.bool false)) w) :
    GL r P N ds ops Q (⟨some d, .binOp .neq t x y t', ty, pos, after, gd⟩ :: rest) σ w := by
  by_cases c : a = b
  · exact GL_val hw (by intro c hc; cases hc) (v := .bool false) (by simp [execOp, eqGuard, binOp, hx, hy, Op.intCmp, c]) hd (h2 c)
  · exact GL_val hw (by intro c hc; cases hc) (v := .bool true) (by simp [execOp, eqGuard, binOp, hx, hy, Op.intCmp, c]) hd (h1 c)
theorem g_not {b : Bool} (hx : ev σ x = .bool b)
    (hw : Region.wanted ⟨some d, .unOp .not t x, ty, pos, after, gd⟩ (yl ops σ) = true := by rfl) (hd : Nat.blt d N = true := by rfl) (h : GL r P N ds ops Q rest (upd σ d (.bool (!b))) w) :
    GL r P N ds ops Q (⟨some d, .unOp .not t x, ty, pos, after, gd⟩ :: rest) σ w :=
  GL_val hw (by intro c hc; cases hc) (v := .bool (!b)) (by simp [execOp, hx, Op.unary]) hd h
theorem g_pickT {c : Operand} (hc : ev σ c = .bool true)
    (hw : Region.wanted ⟨some d, .pick c x y, ty, pos, after, gd⟩ (yl ops σ) = true := by rfl) (hd : Nat.blt d N = true := by rfl) (h : GL r P N ds ops Q rest (upd σ d (ev σ x)) w) :
    GL r P N ds ops Q (⟨some d, .pick c x y, ty, pos, after, gd⟩ :: rest) σ w :=
  GL_val hw (by intro c hc; cases hc) (v := ev σ x) (by simp [execOp, hc, asBool]) hd h
theorem g_pickF {c : Operand} (hc : ev σ c = .bool false)
    (hw : Region.wanted ⟨some d, .pick c x y, ty, pos, after, gd⟩ (yl ops σ) = true := by rfl) (hd : Nat.blt d N = true := by rfl) (h : GL r P N ds ops Q rest (upd σ d (ev σ y)) w) :
    GL r P N ds ops Q (⟨some d, .pick c x y, ty, pos, after, gd⟩ :: rest) σ w :=
  GL_val hw (by intro c hc; cases hc) (v := ev σ y) (by simp [execOp, hc, asBool]) hd h
theorem g_extract {vs : Array Value} {i : Nat} {v : Value} (hx : ev σ x = .tuple vs) (hv : vs[i]? = some v)
    (hw : Region.wanted ⟨some d, .extract x i, ty, pos, after, gd⟩ (yl ops σ) = true := by rfl) (hd : Nat.blt d N = true := by rfl) (h : GL r P N ds ops Q rest (upd σ d v) w) :
    GL r P N ds ops Q (⟨some d, .extract x i, ty, pos, after, gd⟩ :: rest) σ w :=
  GL_val hw (by intro c hc; cases hc) (v := v) (by simp [execOp, hx, Instr.extract, hv]) hd h
theorem g_makeFunc {fn : Fn} {first captured : Array Operand}
    (hw : Region.wanted ⟨some d, .makeFunc fn first captured, ty, pos, after, gd⟩ (yl ops σ) = true := by rfl) (hd : Nat.blt d N = true := by rfl) (h : GL r P N ds ops Q rest (upd σ d (.func fn (first.map (ev σ)) (captured.map (ev σ)))) w) :
    GL r P N ds ops Q (⟨some d, .makeFunc fn first captured, ty, pos, after, gd⟩ :: rest) σ w :=
  GL_val hw (by intro c hc; cases hc) (v := .func fn (first.map (ev σ)) (captured.map (ev σ))) (by simp [execOp, Instr.makeFunc]) hd h
end arith

/-! ### Memory -/
section mem
variable {t t' : TypeId}
theorem g_box {v : Value} (hx : ev σ x = v)
    (hw : Region.wanted ⟨some d, .box t x, ty, pos, after, gd⟩ (yl ops σ) = true := by rfl) (hd : Nat.blt d N = true := by rfl)
    (h : ∀ g w', New w w' g (.cells v.cells t) → GL r P N ds ops Q rest (upd σ d (.pointer (some ⟨g, 0, none⟩))) w') :
    GL r P N ds ops Q (⟨some d, .box t x, ty, pos, after, gd⟩ :: rest) σ w :=
  GL_val hw (by intro c hc; cases hc) (v := .pointer (some ⟨w.heap.size, 0, none⟩)) (w' := w.alloc (.cells v.cells t)) (by simp [execOp, Instr.box, newVar, newRow, hx]) hd (h _ _ (New.alloc _ _))
theorem g_alloc {z : Value} (hz : (P.info? t).map (·.zero) = some (some z))
    (hw : Region.wanted ⟨some d, .alloc t, ty, pos, after, gd⟩ (yl ops σ) = true := by rfl) (hd : Nat.blt d N = true := by rfl)
    (h : ∀ g w', New w w' g (.cells z.cells t) → GL r P N ds ops Q rest (upd σ d (.pointer (some ⟨g, 0, none⟩))) w') :
    GL r P N ds ops Q (⟨some d, .alloc t, ty, pos, after, gd⟩ :: rest) σ w := by
  obtain ⟨i, hi, hzz⟩ := Option.map_eq_some_iff.1 hz
  exact GL_val hw (by intro c hc; cases hc) (v := .pointer (some ⟨w.heap.size, 0, none⟩)) (w' := w.alloc (.cells z.cells t)) (by simp [execOp, Instr.alloc, zeroValue, typeInfo, hi, hzz, newVar, newRow]) hd (h _ _ (New.alloc _ _))

def isAggD : TypeDesc → Bool | .struct _ | .array _ _ => true | _ => false
theorem run_isAgg {dsc : TypeDesc} (ht : P.underlying t = some dsc) : (isAgg t).run P w = .ok (isAggD dsc) w := by
  simp only [isAgg, Sem.run_bind, run_underlying ht, Result.andThen]
  cases dsc <;> rfl

theorem g_load1 {ad : Addr} {v : Value} {dsc : TypeDesc} (hx : ev σ x = .pointer (some ad)) (ht : P.underlying t = some dsc) (hc : w.cell? ad = some v) (hs : isAggD dsc = false := by rfl)
    (hw : Region.wanted ⟨some d, .load t x, ty, pos, after, gd⟩ (yl ops σ) = true := by rfl) (hd : Nat.blt d N = true := by rfl) (h : GL r P N ds ops Q rest (upd σ d v) w) :
    GL r P N ds ops Q (⟨some d, .load t x, ty, pos, after, gd⟩ :: rest) σ w :=
  GL_val hw (by intro c hc; cases hc) (v := v) (by
    have := run_isAgg (w := w) ht
    rw [hs] at this
    simp [execOp, hx, Instr.loadAt, Instr.sureAddr, loadVar, this, load, hc, Result.andThen, Sem.run]) hd h
theorem g_loadA {ad : Addr} {l : List Value} {dsc : TypeDesc} (hx : ev σ x = .pointer (some ad)) (ht : P.underlying t = some dsc) (hsz : (P.info? t).map (·.size) = some l.length)
    (hc : ∀ j v, l[j]? = some v → w.cell? (ad.add j) = some v) (hs : isAggD dsc = true := by rfl)
    (hw : Region.wanted ⟨some d, .load t x, ty, pos, after, gd⟩ (yl ops σ) = true := by rfl) (hd : Nat.blt d N = true := by rfl) (h : GL r P N ds ops Q rest (upd σ d (.agg l.toArray)) w) :
    GL r P N ds ops Q (⟨some d, .load t x, ty, pos, after, gd⟩ :: rest) σ w := by
  obtain ⟨i, hi, hzz⟩ := Option.map_eq_some_iff.1 hsz
  exact GL_val hw (by intro c hc; cases hc) (v := .agg l.toArray) (by
    have h1 := run_isAgg (w := w) ht
    rw [hs] at h1
    have h2 := run_loadCells_list (P := P) (w := w) ad l hc
    simp [execOp, hx, Instr.loadAt, Instr.sureAddr, loadVar, h1, sizeOf, typeInfo, hi, hzz, h2, Result.andThen]) hd h

theorem cells_put {cs : Array Value} {g o : Nat} {t0 : TypeId} (hb : w.heap[g]? = some (.cells cs t0 (0, 0))) (v : Value) :
    Put w (w.setCell ⟨g, o, none⟩ v) g (.cells (cs.setIfInBounds o v) t0 (0, 0)) :=
  ⟨⟨rfl, rfl, rfl, by simp [World.setCell], fun k hk hn => Below.heap_setCell w _ v k hn⟩, by simp [World.setCell, Array.getElem?_modify, hb], by simp [World.setCell]⟩
theorem setRow_put {cs cs' : Array Value} {g : Nat} {t0 : TypeId} (hb : w.heap[g]? = some (.cells cs t0 (0, 0))) : Put w (w.setRow g cs') g (.cells cs' t0 (0, 0)) := by
  refine ⟨⟨rfl, rfl, rfl, by simp, fun k hk hn => ?_⟩, ?_, by simp⟩
  · simp [World.setRow, Array.getElem?_modify, Ne.symm hn]
  · simp [World.setRow, Array.getElem?_modify, hb]

/-- A store of one cell into a block that is told. -/
theorem g_store1 {g o : Nat} {cs : Array Value} {t0 : TypeId} {v : Value} (hx : ev σ x = .pointer (some ⟨g, o, none⟩)) (hy : ev σ y = v) (hsz : (P.info? t).map (·.size) = some 1) (hb : w.heap[g]? = some (.cells cs t0 (0, 0)))
    (ho : o < cs.size) (h1 : v.oneCell' = true := by rfl)
    (hw : Region.wanted ⟨none, .store t x y, ty, pos, after, gd⟩ (yl ops σ) = true := by rfl)
    (h : ∀ w', Put w w' g (.cells (cs.setIfInBounds o v) t0 (0, 0)) → GL r P N ds ops Q rest σ w') :
    GL r P N ds ops Q (⟨none, .store t x y, ty, pos, after, gd⟩ :: rest) σ w := by
  obtain ⟨i, hi, hzz⟩ := Option.map_eq_some_iff.1 hsz
  refine GL_unit hw (by intro c hc; cases hc) (w' := w.setCell ⟨g, o, none⟩ v) ?_ rfl (h _ (cells_put hb v))
  have hc : w.cell? ⟨g, o, none⟩ = some cs[o] := by rw [cell_of_row w g o cs t0 (0, 0) hb]; simp [ho]
  have hf : w.frozen? ⟨g, o, none⟩ = false := frozen_of_row w g o cs t0 hb
  have hcells : v.cells = #[v] := by cases v <;> first | rfl | simp [Value.oneCell'] at h1
  simp only [execOp, hx, hy, Instr.storeAt, Instr.sureAddr, storeVar, hcells]
  have hst := run_store P w ⟨g, o, none⟩ v .plain h1
  rw [hc] at hst
  simp only [hf, Bool.false_eq_true, if_false] at hst
  simp [sizeOf, typeInfo, hi, hzz, storeCells, Addr.add, hst]
/-- A store of a whole variable. -/
theorem g_storeA {g : Nat} {cs cells : Array Value} {t0 : TypeId} (hx : ev σ x = .pointer (some ⟨g, 0, none⟩)) (hy : ev σ y = .agg cells) (hsz : (P.info? t).map (·.size) = some cells.size) (hb : w.heap[g]? = some (.cells cs t0 (0, 0)))
    (hl : cells.size = cs.size) (h1 : ∀ v ∈ cells, v.oneCell' = true)
    (hw : Region.wanted ⟨none, .store t x y, ty, pos, after, gd⟩ (yl ops σ) = true := by rfl)
    (h : ∀ w', Put w w' g (.cells cells t0 (0, 0)) → GL r P N ds ops Q rest σ w') :
    GL r P N ds ops Q (⟨none, .store t x y, ty, pos, after, gd⟩ :: rest) σ w := by
  obtain ⟨i, hi, hzz⟩ := Option.map_eq_some_iff.1 hsz
  have hst := run_storeCells_from (P := P) g t0 cells.toList 0 cs w hb (by simpa using hl) (by simpa using h1)
  refine GL_unit hw (by intro c hc; cases hc) (w' := w.setRow g cells) ?_ rfl (h _ (setRow_put hb))
  simp only [execOp, hx, hy, Instr.storeAt, Instr.sureAddr, storeVar, Value.cells]
  simp only [List.take_zero, List.nil_append, Array.toArray_toList, List.take] at hst
  simp [sizeOf, typeInfo, hi, hzz, hst]
end mem
end
end Go.Proofs.G

/- Addresses, calls, builtins, literals. -/
set_option linter.unusedVariables false
set_option linter.unusedSimpArgs false
namespace Go.Proofs.G
open Go Go.RowKit

theorem add_lit (g o n : Nat) : (⟨g, o, none⟩ : Addr).add n = ⟨g, o + n, none⟩ := by
  unfold Addr.add; split
  · simp_all
  · rfl
theorem add_add (a : Addr) (i j : Nat) (h : a.spot = none) : (a.add i).add j = a.add (i + j) := by
  obtain ⟨g, o, s⟩ := a
  simp only at h
  subst h
  rw [add_lit, add_lit, add_lit, Nat.add_assoc]

section
variable {r : Option Nat} {P : Program} {N : Nat} {ds : List Deferred} {Q : Exit → Act → World → Prop} {σ : Nat → Value} {w : World}
variable {ops : Array Oper} {rest : List Oper} {ty : TypeId} {pos : String} {after : Array Edge} {gd : Option (Nat × Bool)} {d : Nat} {x y : Operand} {t e : TypeId}

theorem run_fieldAt {fields : Array Field} {fd : Field} {f off sz : Nat} (hu : P.underlying t = some (.struct fields)) (hf : fields[f]? = some fd) (ho : fd.offset = off)
    (hs : (P.info? fd.type).map (·.size) = some (sz + 1)) (w : World) (a : Addr) : (Instr.fieldAt t (.pointer (some a)) f).run P w = .ok (.pointer (some (a.add off))) w := by
  obtain ⟨i, hi, hzz⟩ := Option.map_eq_some_iff.1 hs
  simp [Instr.fieldAt, run_underlying hu, hf, Instr.sureAddr, fieldPlace, sizeOf, typeInfo, hi, hzz, ho]

theorem g_fieldAddr {f off : Nat} {ad ad' : Addr} (hf : ∀ w a, (Instr.fieldAt t (.pointer (some a)) f).run P w = .ok (.pointer (some (a.add off))) w) (hx : ev σ x = .pointer (some ad)) (ha : ad.add off = ad')
    (hw : Region.wanted ⟨some d, .fieldAddr t x f, ty, pos, after, gd⟩ (yl ops σ) = true := by rfl) (hd : Nat.blt d N = true := by rfl) (h : GL r P N ds ops Q rest (upd σ d (.pointer (some ad'))) w) :
    GL r P N ds ops Q (⟨some d, .fieldAddr t x f, ty, pos, after, gd⟩ :: rest) σ w :=
  GL_val hw (by intro c hc; cases hc) (v := .pointer (some ad')) (by simp [execOp, hx, hf, ha]) hd h
theorem g_fieldAddrB {f off g o : Nat} (hf : ∀ w a, (Instr.fieldAt t (.pointer (some a)) f).run P w = .ok (.pointer (some (a.add off))) w) (hx : ev σ x = .pointer (some ⟨g, o, none⟩))
    (hw : Region.wanted ⟨some d, .fieldAddr t x f, ty, pos, after, gd⟩ (yl ops σ) = true := by rfl) (hd : Nat.blt d N = true := by rfl) (h : GL r P N ds ops Q rest (upd σ d (.pointer (some ⟨g, o + off, none⟩))) w) :
    GL r P N ds ops Q (⟨some d, .fieldAddr t x f, ty, pos, after, gd⟩ :: rest) σ w :=
  g_fieldAddr hf hx (add_lit _ _ _) hw hd h
theorem g_indexS {k : IntKind} {i : Int} {ad : Addr} {len cap sz n : Nat} (hu : P.underlying t = some (.slice e)) (hsz : (P.info? e).map (·.size) = some sz) (hx : ev σ x = .slice (some ad) len cap) (hy : ev σ y = .int k i)
    (h0 : 0 ≤ i) (h1 : i < len) (hn : i.toNat * sz = n)
    (hw : Region.wanted ⟨some d, .indexAddr t x y, ty, pos, after, gd⟩ (yl ops σ) = true := by rfl) (hd : Nat.blt d N = true := by rfl) (h : GL r P N ds ops Q rest (upd σ d (.pointer (some (ad.add n)))) w) :
    GL r P N ds ops Q (⟨some d, .indexAddr t x y, ty, pos, after, gd⟩ :: rest) σ w := by
  obtain ⟨i', hi, hzz⟩ := Option.map_eq_some_iff.1 hsz
  exact GL_val hw (by intro c hc; cases hc) (v := .pointer (some (ad.add n))) (by
    simp [execOp, hx, hy, Instr.indexAt, asIntOf, run_underlying hu, h0, h1, sizeOf, typeInfo, hi, hzz, hn]) hd h
theorem g_indexA {k : IntKind} {i : Int} {ad ad' : Addr} {len sz : Nat} (hu : P.underlying t = some (.array len e)) (hsz : (P.info? e).map (·.size) = some sz) (hx : ev σ x = .pointer (some ad)) (hy : ev σ y = .int k i)
    (h0 : 0 ≤ i) (h1 : i < len) (hn : ad.add (i.toNat * sz) = ad')
    (hw : Region.wanted ⟨some d, .indexAddr t x y, ty, pos, after, gd⟩ (yl ops σ) = true := by rfl) (hd : Nat.blt d N = true := by rfl) (h : GL r P N ds ops Q rest (upd σ d (.pointer (some ad'))) w) :
    GL r P N ds ops Q (⟨some d, .indexAddr t x y, ty, pos, after, gd⟩ :: rest) σ w := by
  obtain ⟨i', hi, hzz⟩ := Option.map_eq_some_iff.1 hsz
  exact GL_val hw (by intro c hc; cases hc) (v := .pointer (some ad')) (by
    simp [execOp, hx, hy, Instr.indexAt, asIntOf, run_underlying hu, Instr.sureAddr, h0, h1, sizeOf, typeInfo, hi, hzz, hn]) hd h

/-! ### Calls -/
theorem enters {f : FuncId} {fn : Func} {c : Code} (hf : P.funcs[f]? = some fn) (hn : (fn.name == "runtime.NumGoroutine") = false) (hb : fn.body = some c) : ∀ args w, (callFunc f args).run P w = .ok (.enter f args) w := by
  intro args w
  have h1 : fn.name ≠ "runtime.NumGoroutine" := by simpa using hn
  simp [callFunc, hf, h1, hb, mark]
theorem g_call {f : FuncId} {args : List Operand} {ts : Array TypeId} {vals : List Value} {R : Ending → World → Prop} (he : ∀ args w, (callFunc f args).run P w = .ok (.enter f args) w)
    (hv : args.map (ev σ) = vals) (hc : Calls P f vals.toArray w R)
    (hw : Region.wanted ⟨some d, .call { callee := .value (.func f), args := args.toArray, argTypes := ts }, ty, pos, after, gd⟩ (yl ops σ) = true := by rfl) (hd : Nat.blt d N = true := by rfl)
    (h : ∀ e w', R e w' → ∃ v, e = .returned v ∧ GL r P N ds ops Q rest (upd σ d v) w') :
    GL r P N ds ops Q (⟨some d, .call { callee := .value (.func f), args := args.toArray, argTypes := ts }, ty, pos, after, gd⟩ :: rest) σ w :=
  GL_enter hw (by intro c hc; cases hc) (f := f) (args := vals.toArray) (w1 := w) (by simp [execOp, resolve, ev, Deferred.ofValue, invoke, hv, he]) hd hc h
theorem g_callv {f : FuncId} {args : List Operand} {ts : Array TypeId} {first captured vals : List Value} {R : Ending → World → Prop} (he : ∀ args w, (callFunc f args).run P w = .ok (.enter f args) w)
    (hx : ev σ x = .func (.func f) first.toArray captured.toArray) (hv : first ++ args.map (ev σ) ++ captured = vals) (hc : Calls P f vals.toArray w R)
    (hw : Region.wanted ⟨some d, .call { callee := .value x, args := args.toArray, argTypes := ts }, ty, pos, after, gd⟩ (yl ops σ) = true := by rfl) (hd : Nat.blt d N = true := by rfl)
    (h : ∀ e w', R e w' → ∃ v, e = .returned v ∧ GL r P N ds ops Q rest (upd σ d v) w') :
    GL r P N ds ops Q (⟨some d, .call { callee := .value x, args := args.toArray, argTypes := ts }, ty, pos, after, gd⟩ :: rest) σ w :=
  GL_enter hw (by intro c hc; cases hc) (f := f) (args := vals.toArray) (w1 := w) (by
    have : (first.toArray ++ args.toArray.map (ev σ)) ++ captured.toArray = vals.toArray := by rw [← hv]; simp
    simp only [execOp, resolve, hx, Deferred.ofValue, Sem.run_bind, Sem.run_pure, invoke]
    simp only [Result.andThen]
    rw [this, he]) hd hc h

/-! ### Builtins -/
theorem g_len {A : Option Addr} {n c : Nat} (hu : P.underlying t = some (.slice e)) (hx : ev σ x = .slice A n c)
    (hw : Region.wanted ⟨some d, .call { callee := .builtin .len, args := #[x], argTypes := #[t] }, ty, pos, after, gd⟩ (yl ops σ) = true := by rfl) (hd : Nat.blt d N = true := by rfl)
    (h : GL r P N ds ops Q rest (upd σ d (.int .i64 n)) w) :
    GL r P N ds ops Q (⟨some d, .call { callee := .builtin .len, args := #[x], argTypes := #[t] }, ty, pos, after, gd⟩ :: rest) σ w :=
  GL_val hw (by intro c hc; cases hc) (v := .int .i64 n) (by simp [execOp, resolve, hx, invoke, builtin, Builtin.len_, run_underlying hu, goInt]) hd h
theorem g_max {a b m : Int} {ts : Array TypeId} (hx : ev σ x = .int .i64 a) (hy : ev σ y = .int .i64 b) (hm : max a b = m)
    (hw : Region.wanted ⟨some d, .call { callee := .builtin .max, args := #[x, y], argTypes := ts }, ty, pos, after, gd⟩ (yl ops σ) = true := by rfl) (hd : Nat.blt d N = true := by rfl)
    (h : GL r P N ds ops Q rest (upd σ d (.int .i64 m)) w) :
    GL r P N ds ops Q (⟨some d, .call { callee := .builtin .max, args := #[x, y], argTypes := ts }, ty, pos, after, gd⟩ :: rest) σ w :=
  GL_val hw (by intro c hc; cases hc) (v := .int .i64 m) (by
    have : (if b > a then b else a) = m := by rw [← hm]; split <;> omega
    simp [execOp, resolve, hx, hy, invoke, builtin, Builtin.max_, Builtin.max2, this]) hd h
/-- append to a row of one's own. -/
theorem g_append {base : Nat} {i : TypeInfo} {z : Value} {size bytes : Nat} (h1 : P.underlying t = some (.slice e)) (h2 : P.info? e = some i) (h3 : i.zero = some z) (h4 : i.size = size) (h5 : i.bytes = bytes) (h6 : z.cells.size = size) (h7 : 0 < size)
    {v : Value} {k : Nat} {xs : List Value} (hx : ev σ x = v) (hown : w.ownsRow base e size v k xs) {ad : Addr} {m c : Nat} {news : List Value} (hy : ev σ y = .slice (some ad) m c) (hn : news.length = m * size)
    (hc : ∀ j u, news[j]? = some u → w.cell? (ad.add j) = some u) (h1c : ∀ u ∈ news, u.oneCell' = true) (b1 : k + m ≤ maxLen) (b2 : (k + m) * bytes ≤ 140737488355328) (b3 : base ≤ w.heap.size)
    (hw : Region.wanted ⟨some d, .call { callee := .builtin .append, args := #[x, y], argTypes := #[t, t] }, ty, pos, after, gd⟩ (yl ops σ) = true := by rfl) (hd : Nat.blt d N = true := by rfl)
    (h : ∀ v' w', w'.ownsRow base e size v' (k + m) (xs ++ news) → w.grownBy w' v.ownBlock → (v' = .slice none 0 0 ↔ v = .slice none 0 0 ∧ m = 0) → GL r P N ds ops Q rest (upd σ d v') w') :
    GL r P N ds ops Q (⟨some d, .call { callee := .builtin .append, args := #[x, y], argTypes := #[t, t] }, ty, pos, after, gd⟩ :: rest) σ w := by
  obtain ⟨v', w', hrun, r1, r2, r3⟩ := run_append_own (P := P) w base t ty e i z size bytes h1 h2 h3 h4 h5 h6 h7 v k xs hown ad m c news hn hc h1c b1 b2 b3
  exact GL_val hw (by intro c hc; cases hc) (v := v') (w' := w') (by simp [execOp, resolve, invoke, builtin, hx, hy, hrun]) hd (h v' w' r1 r2 r3)
/-- append where there is no room: a new row. -/
theorem g_append_new {i : TypeInfo} {z : Value} {size bytes : Nat} (h1 : P.underlying t = some (.slice e)) (h2 : P.info? e = some i) (h3 : i.zero = some z) (h4 : i.size = size) (h5 : i.bytes = bytes) (h6 : z.cells.size = size) (h7 : 0 < size)
    {b : Addr} {n cap : Nat} {olds : List Value} (hx : ev σ x = .slice (some b) n cap) (hlo : olds.length = n * size) (ho : ∀ j u, olds[j]? = some u → w.cell? (b.add j) = some u)
    {ad : Addr} {m c : Nat} {news : List Value} (hy : ev σ y = .slice (some ad) m c) (hn : news.length = m * size)
    (hc : ∀ j u, news[j]? = some u → w.cell? (ad.add j) = some u) (hg : cap < n + m) (b1 : n + m ≤ maxLen) (b2 : (n + m) * bytes ≤ 140737488355328)
    (hw : Region.wanted ⟨some d, .call { callee := .builtin .append, args := #[x, y], argTypes := #[t, t] }, ty, pos, after, gd⟩ (yl ops σ) = true := by rfl) (hd : Nat.blt d N = true := by rfl)
    (h : ∀ v' w', w'.ownsRow w.heap.size e size v' (n + m) (olds ++ news) → w.grownBy w' none → GL r P N ds ops Q rest (upd σ d v') w') :
    GL r P N ds ops Q (⟨some d, .call { callee := .builtin .append, args := #[x, y], argTypes := #[t, t] }, ty, pos, after, gd⟩ :: rest) σ w := by
  obtain ⟨v', w', hrun, r1, r2⟩ := run_append_arg_grows (P := P) (w := w) t ty e i z size bytes h1 h2 h3 h4 h5 h6 h7 b n cap olds hlo ho ad m c news hn hc hg b1 b2
  exact GL_val hw (by intro c hc; cases hc) (v := v') (w' := w') (by simp [execOp, resolve, invoke, builtin, hx, hy, hrun]) hd (h v' w' r1 r2)

/-! ### Literals -/
theorem g_build {parts : Array (Nat × Operand)} {v : Value} (hrun : (Instr.build t (parts.map fun (i, x) => (i, ev σ x))).run P w = .ok v w)
    (hw : Region.wanted ⟨some d, .build t parts, ty, pos, after, gd⟩ (yl ops σ) = true := by rfl) (hd : Nat.blt d N = true := by rfl) (h : GL r P N ds ops Q rest (upd σ d v) w) :
    GL r P N ds ops Q (⟨some d, .build t parts, ty, pos, after, gd⟩ :: rest) σ w :=
  GL_val hw (by intro c hc; cases hc) (v := v) (by simp only [execOp]; rw [Sem.run_bind, hrun]; rfl) hd h
theorem g_buildSlice {parts : Array (Nat × Operand)} {len : Nat} {cells : Array Value} (hrun : (Instr.buildSlice t len (parts.map fun (i, x) => (i, ev σ x))).run P w = .ok (.slice (some ⟨w.heap.size, 0, none⟩) len len) (w.alloc (.cells cells e)))
    (hw : Region.wanted ⟨some d, .buildSlice t len parts, ty, pos, after, gd⟩ (yl ops σ) = true := by rfl) (hd : Nat.blt d N = true := by rfl)
    (h : ∀ g w', New w w' g (.cells cells e) → GL r P N ds ops Q rest (upd σ d (.slice (some ⟨g, 0, none⟩) len len)) w') :
    GL r P N ds ops Q (⟨some d, .buildSlice t len parts, ty, pos, after, gd⟩ :: rest) σ w :=
  GL_val hw (by intro c hc; cases hc) (v := .slice (some ⟨w.heap.size, 0, none⟩) len len) (w' := w.alloc (.cells cells e)) (by simp only [execOp]; rw [Sem.run_bind, hrun]; rfl) hd (h _ _ (New.alloc _ _))
/-- 'xs[:n:m]' of a slice. -/
theorem g_slice3 {A : Option Addr} {len cap n m : Nat} {a b : Int} {kx ky : Operand} (hu : P.underlying t = some (.slice e)) (hsz : ∃ i, P.info? e = some i) (hx : ev σ x = .slice A len cap) (ha : ev σ kx = .int .i64 a) (hb : ev σ ky = .int .i64 b)
    (hn : a = (n : Int)) (hm : b = (m : Int)) (h1 : n ≤ m) (h2 : m ≤ cap)
    (hw : Region.wanted ⟨some d, .slice t x none (some kx) (some ky), ty, pos, after, gd⟩ (yl ops σ) = true := by rfl) (hd : Nat.blt d N = true := by rfl) (h : GL r P N ds ops Q rest (upd σ d (.slice A n m)) w) :
    GL r P N ds ops Q (⟨some d, .slice t x none (some kx) (some ky), ty, pos, after, gd⟩ :: rest) σ w := by
  obtain ⟨i, hi⟩ := hsz
  subst hn hm
  have h1' : (n : Int) ≤ (m : Int) := by omega
  have h2' : (m : Int) ≤ (cap : Int) := by omega
  refine GL_val hw (by intro c hc; cases hc) (v := .slice A n m) ?_ hd h
  have hA : (A.map fun y => y.add 0) = A := by cases A <;> simp [Addr.add]
  simp [execOp, hx, ha, hb, Instr.sliceAt, Instr.slice, run_underlying hu, Instr.sliceBounds, Instr.sliceBound, asIntOf, h1', h2', h1, h2, sizeOf, typeInfo, hi, hA]
/-- 'a[:n:m]' of an array behind a pointer. -/
theorem g_slice3A {ad : Addr} {len n m : Nat} {a b : Int} {kx ky : Operand} (hu : P.underlying t = some (.array len e)) (hsz : ∃ i, P.info? e = some i) (hx : ev σ x = .pointer (some ad)) (ha : ev σ kx = .int .i64 a) (hb : ev σ ky = .int .i64 b)
    (hn : a = (n : Int)) (hm : b = (m : Int)) (h1 : n ≤ m) (h2 : m ≤ len)
    (hw : Region.wanted ⟨some d, .slice t x none (some kx) (some ky), ty, pos, after, gd⟩ (yl ops σ) = true := by rfl) (hd : Nat.blt d N = true := by rfl) (h : GL r P N ds ops Q rest (upd σ d (.slice (some ad) n m)) w) :
    GL r P N ds ops Q (⟨some d, .slice t x none (some kx) (some ky), ty, pos, after, gd⟩ :: rest) σ w := by
  obtain ⟨i, hi⟩ := hsz
  subst hn hm
  have h1' : (n : Int) ≤ (m : Int) := by omega
  have h2' : (m : Int) ≤ (len : Int) := by omega
  refine GL_val hw (by intro c hc; cases hc) (v := .slice (some ad) n m) ?_ hd h
  have hA : ad.add 0 = ad := by simp [Addr.add]
  simp [execOp, hx, ha, hb, Instr.sliceAt, run_underlying hu, Instr.sureAddr, Instr.sliceBounds, Instr.sliceBound, asIntOf, h1', h2', h1, h2, sizeOf, typeInfo, hi, hA]
theorem g_makeMap (hw : Region.wanted ⟨some d, .makeMap t none, ty, pos, after, gd⟩ (yl ops σ) = true := by rfl) (hd : Nat.blt d N = true := by rfl)
    (h : ∀ g w', New w w' g (.map #[] 0) → GL r P N ds ops Q rest (upd σ d (.map (some g))) w') :
    GL r P N ds ops Q (⟨some d, .makeMap t none, ty, pos, after, gd⟩ :: rest) σ w :=
  GL_val hw (by intro c hc; cases hc) (v := .map (some w.heap.size)) (w' := w.alloc (.map #[] 0)) (by simp [execOp, Instr.makeMap]) hd (h _ _ (New.alloc _ _))
/-- 'xs == nil', 'xs != nil'. -/
theorem g_eqlNil {A : Option Addr} {n c n' c' : Nat} {t' : TypeId} (hu : P.underlying t = some (.slice e)) (hx : ev σ x = .slice A n c) (hy : ev σ y = .slice none n' c')
    (hw : Region.wanted ⟨some d, .binOp .eql t x y t', ty, pos, after, gd⟩ (yl ops σ) = true := by rfl) (hd : Nat.blt d N = true := by rfl) (h : GL r P N ds ops Q rest (upd σ d (.bool A.isNone)) w) :
    GL r P N ds ops Q (⟨some d, .binOp .eql t x y t', ty, pos, after, gd⟩ :: rest) σ w :=
  GL_val hw (by intro c hc; cases hc) (v := .bool A.isNone) (by
    simp only [execOp, hx, hy]
    rw [Sem.run_bind, show eqGuard .eql t x y (.slice A n c) (.slice none n' c') = pure () from rfl]
    simp [Lib.run_eql_slice_nil w _ _ A n c n' c' hu]) hd h
theorem g_neqNil {A : Option Addr} {n c n' c' : Nat} {t' : TypeId} (hu : P.underlying t = some (.slice e)) (hx : ev σ x = .slice A n c) (hy : ev σ y = .slice none n' c')
    (hw : Region.wanted ⟨some d, .binOp .neq t x y t', ty, pos, after, gd⟩ (yl ops σ) = true := by rfl) (hd : Nat.blt d N = true := by rfl) (h : GL r P N ds ops Q rest (upd σ d (.bool (!A.isNone))) w) :
    GL r P N ds ops Q (⟨some d, .binOp .neq t x y t', ty, pos, after, gd⟩ :: rest) σ w :=
  GL_val hw (by intro c hc; cases hc) (v := .bool (!A.isNone)) (by
    simp only [execOp, hx, hy]
    rw [Sem.run_bind, show eqGuard .neq t x y (.slice A n c) (.slice none n' c') = pure () from rfl]
    simp [run_neq_slice_nil_any w _ _ A n c n' c' hu]) hd h
end
end Go.Proofs.G
