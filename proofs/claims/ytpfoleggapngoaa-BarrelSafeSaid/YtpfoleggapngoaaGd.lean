/- Ranges over functions: yield, the statement, the way out. -/
import Derived.Test.YtpfoleggapngoaaGc
import Derived.RangeFuncRecord
set_option linter.unusedVariables false
namespace Go.Proofs.G
open Go Go.RowKit Go.Proofs Go.Proofs.YtpfoleggapngoaaW.PrintWords
theorem Ch.own {S : Nat → Prop} {w W W' : World} {g : Nat} {o : Obj} (h : Ch S w W) (p : Put W W' g o) (hg : w.heap.size ≤ g) : Ch S w W' := h.trans p.ch (fun _ _ x => x) (fun k hk e => by omega)
theorem Ch.bel {S : Nat → Prop} {w W W' : World} (h : Ch S w W) (hb : Bel W W') : Ch S w W' := h.trans (Ch.of_below hb) (fun _ _ x => x) (fun _ _ x => x.elim)
theorem Ch.more {S : Nat → Prop} {w W W' : World} (h : Ch S w W) (k : Ch S W W') : Ch S w W' := h.trans k (fun _ _ x => x) (fun _ _ x => x)
theorem ne_loop {w : World} {g l : Nat} {rc : Loop} {cs : Array Value} {t : TypeId} {f : Nat × Nat} (h : w.heap[g]? = some (.cells cs t f)) (hl : w.heap[l]? = some (.loop rc)) : g ≠ l := fun e => by subst e; rw [h] at hl; cases hl
/-- A call of yield, at v: the round. -/
def Yc (P : Program) (l : Nat) (v : Value) (w : World) (R : Ending → World → Prop) : Prop :=
  ∃ rec : Loop, w.heap[l]? = some (.loop rec) ∧ rec.params.size = 1 ∧ RoundIn (FR none) 0 P l rec.fn ((rec.params.zip #[v]).foldl (fun tmps (t, a) => tmps.setIfInBounds t a) rec.tmps) rec.assign rec.body w R
theorem Yc.mono {P : Program} {l : Nat} {v : Value} {w : World} {R R' : Ending → World → Prop} (h : Yc P l v w R) (hr : ∀ e w', R e w' → R' e w') : Yc P l v w R' := by
  obtain ⟨rec, h1, h2, h3⟩ := h
  exact ⟨rec, h1, h2, h3.mono hr⟩
theorem put_obj {w : World} {l : Nat} {o o' : Obj} (h : w.heap[l]? = some o) : Put w (w.putObj l o') l o' := by
  have hlt := (Array.getElem?_eq_some_iff.1 h).1
  exact ⟨⟨rfl, rfl, rfl, by simp, fun k hk hn => World.putObj_heap_other hn⟩, World.putObj_heap_same hlt, by simp⟩
section
variable {r : Option Nat} {P : Program} {N : Nat} {ds : List Deferred} {Q : Exit → Act → World → Prop} {σ : Nat → Value} {w : World}
variable {ops : Array Oper} {rest : List Oper} {ty : TypeId} {pos : String} {after : Array Edge} {gd : Option (Nat × Bool)} {d : Nat} {x y : Operand}
attribute [local semireducible] GL GC
theorem g_yield {l : Nat} {v : Value} {ts : Array TypeId} {R : Ending → World → Prop} (hx : ev σ x = .func (.yield l) #[] #[]) (hy : ev σ y = v) (hY : Yc P l v w R)
    (hw : Region.wanted ⟨some d, .call { callee := .value x, args := #[y], argTypes := ts }, ty, pos, after, gd⟩ (yl ops σ) = true := by rfl) (hd : Nat.blt d N = true := by rfl)
    (h : ∀ e w', R e w' → ∃ u, e = .returned u ∧ GL none P N ds ops Q rest (upd σ d u) w') :
    GL none P N ds ops Q (⟨some d, .call { callee := .value x, args := #[y], argTypes := ts }, ty, pos, after, gd⟩ :: rest) σ w := by
  obtain ⟨rec, h1, h2, h3⟩ := hY
  have hrun : (execOp (ev σ) ⟨some d, .call { callee := .value x, args := #[y], argTypes := ts }, ty, pos, after, gd⟩).run P w = .ok (.round l rec.fn ((rec.params.zip #[v]).foldl (fun tmps (t, a) => tmps.setIfInBounds t a) rec.tmps) rec.assign rec.body) w := by
    have := run_yield (P := P) (w := w) (l := l) (args := #[v]) h1 (by simp [h2])
    simp only [execOp, resolve, hx, Deferred.ofValue, Sem.run_bind, Sem.run_pure, invoke]
    simp only [Result.andThen]
    simp [hy, this]
  refine GL_run hw (by intro c hc; cases hc) hrun fun a ha => ?_
  rw [Oper.uponIn_round]
  refine ⟨(fun hx => by cases hx), h3.mono fun e w' he => ?_⟩
  obtain ⟨u, rfl, hk⟩ := h e w' he
  exact hk _ (ha.put (some d) u hd)
/-- The statement. -/
theorem GC_range {g : Operand} {p : Tmp} {assign body : Code} {f : FuncId} {first captured : List Value}
    (he : ∀ args w, (callFunc f args).run P w = .ok (.enter f args) w) (hg : ev σ g = .func (.func f) first.toArray captured.toArray)
    (h : ∀ (rec : Loop) (w1 w2 : World) (b : Nat), New w w1 b (.deferred (some [])) → New w1 w2 (b + 1) (.loop rec) → rec.state = .ready → rec.pending = none → rec.params = #[p] → rec.assign = assign → rec.body = body → St N [] σ { tmps := rec.tmps, defers := [] } →
      Calls P f (first ++ [Value.func (.yield (b + 1)) #[] #[]] ++ captured).toArray w2 (fun e w3 => ∃ u rec', e = .returned u ∧ w3.heap[b + 1]? = some (.loop rec') ∧ rec'.state ≠ .busy ∧ rec'.pending = none ∧
        (∀ w4, Put w3 w4 (b + 1) (.loop { rec' with state := .exhausted }) → ∀ a, St N ({ target := .collected b, args := #[] } :: ds) σ a → Q .normal a w4))) :
    GC none P N ds (.rangeFunc g #[p] assign body) Q σ w := by
  intro a ha
  refine wpIn_rangeFunc fun fn hfn => ?_
  let rc : Loop := { state := .ready, pending := none, fn := fn, tmps := a.tmps, params := #[p], assign := assign, body := body, defers := w.heap.size }
  have hc := h rc (w.alloc (.deferred (some []))) ((w.alloc (.deferred (some []))).alloc (.loop rc)) w.heap.size (New.alloc _ _)
    (by have := New.alloc (w.alloc (.deferred (some []))) (.loop rc); simpa using this) rfl rfl rfl rfl rfl ⟨ha.size, rfl, ha.val⟩
  refine ⟨w.heap.size + 1, [{ target := .collected w.heap.size, args := #[] }], (w.alloc (.deferred (some []))).alloc (.loop rc), { target := .fn (.func f) captured.toArray, args := first.toArray ++ #[Value.func (.yield (w.heap.size + 1)) #[] #[]] }, (w.alloc (.deferred (some []))).alloc (.loop rc), f, (first ++ [Value.func (.yield (w.heap.size + 1)) #[] #[]] ++ captured).toArray, (w.alloc (.deferred (some []))).alloc (.loop rc), run_enterLoop_outer fn a.tmps #[p] assign body, ?_, fun _ _ => trivial, ?_, (fun hx => by cases hx), ?_⟩
  · rw [ha.eval]
    have hev : ∀ v, ev σ (.const v) = v := fun v => rfl
    simp [resolve, hg, hev, Deferred.ofValue]
  · simp only [invoke]
    have : first.toArray ++ #[Value.func (.yield (w.heap.size + 1)) #[] #[]] ++ captured.toArray = (first ++ [Value.func (.yield (w.heap.size + 1)) #[] #[]] ++ captured).toArray := by simp
    rw [this, he]
  · refine (calls_in none _ hc).mono fun e w3 hq => ?_
    obtain ⟨u, rec', rfl, h1, h2, h3, h4⟩ := hq
    refine ⟨none, w3.putObj (w.heap.size + 1) (.loop { rec' with state := .exhausted }), ?_, ?_⟩
    · exact (run_endLoop h1 h2).trans (by rw [h3])
    · exact h4 _ (put_obj h1) _ ⟨ha.size, by simp [ha.defers], ha.val⟩
/-- A round, from its codes. -/
theorem Yc_of {l : Nat} {rec : Loop} {p : Tmp} {v : Value} {R : Ending → World → Prop} (hl : w.heap[l]? = some (.loop rec)) (hp : rec.params = #[p]) (hpN : Nat.blt p N = true) (hst : St N [] σ { tmps := rec.tmps, defers := [] })
    (h : GC (some l) P N [] rec.assign (Exit.then (fun a₁ w₁ => ∃ rec1, w₁.heap[l]? = some (.loop rec1) ∧ rec1.state = .ready ∧ ∃ σ', St N [] σ' a₁ ∧ ∀ w2, Put w₁ w2 l (.loop { rec1 with state := .busy }) → GC (some l) P N [] rec.body (roundPost P l R) σ' w2) (fun _ _ _ => False)) (upd σ p v) w) : Yc P l v w R := by
  refine ⟨rec, hl, by simp [hp], ?_⟩
  refine roundIn_of_wpIn (F := FR none) trivial ?_
  have ha : St N [] (upd σ p v) { tmps := ((rec.params.zip #[v]).foldl (fun tmps (t, a) => tmps.setIfInBounds t a) rec.tmps), defers := [] } := by
    have := hst.put (some p) v hpN
    simpa [hp, Act.put, updo] using this
  refine wpIn_mono (h _ ha) fun e a1 w1 hq => ?_
  cases e with
  | normal =>
    obtain ⟨rec1, h1, h2, σ', hs, hb⟩ := hq
    exact ⟨_, run_beginRound h1 h2, hb _ (put_obj h1) a1 hs⟩
  | exit id => exact hq.elim
  | goto l => exact hq.elim
  | ret => exact hq.elim
  | panic ch => exact hq.elim
  | outgrown => exact hq.elim
/-- The round's end: on. -/
theorem round_on {l : Nat} {rec : Loop} {R : Ending → World → Prop} (hl : w.heap[l]? = some (.loop rec)) (h : ∀ w', Put w w' l (.loop { rec with state := .ready, pending := none }) → R (.returned (.bool true)) w') : ∀ a, St N [] σ a → roundPost P l R .normal a w :=
  fun a ha => ⟨_, _, run_endRound none hl, h _ (put_obj hl)⟩
end
section
variable {P : Program} {fn : Func} {R : Ending → World → Prop} {σ : Nat → Value} {w : World} {N : Nat}
theorem retM0 {t : Tmp} (h : fn.results = #[.tmp t]) (hR : R (.returned (σ t)) w) : ∀ a, St N [] σ a → bodyPostM (FR none) 0 P fn R .ret a w :=
  fun a ha => by
    show LeavesInM (FR none) 0 P fn a.tmps R a.defers .returning w
    rw [ha.defers]
    exact ⟨_, results_tmp h _ _ _, by rw [ha.val]; exact hR⟩
theorem retM1 {t : Tmp} {b : Nat} (h : fn.results = #[.tmp t]) (hb : w.heap[b]? = some (.deferred (some []))) (hR : ∀ w', Put w w' b (.deferred none) → R (.returned (σ t)) w') :
    ∀ a, St N [{ target := .collected b, args := #[] }] σ a → bodyPostM (FR none) 0 P fn R .ret a w :=
  fun a ha => by
    show LeavesInM (FR none) 0 P fn a.tmps R a.defers .returning w
    rw [ha.defers]
    refine ⟨by simp, .inl ⟨b, _, rfl, run_takeDeferred hb, ?_⟩⟩
    exact ⟨_, results_tmp h _ _ _, by rw [ha.val]; exact hR _ (put_obj hb)⟩
end
end Go.Proofs.G
