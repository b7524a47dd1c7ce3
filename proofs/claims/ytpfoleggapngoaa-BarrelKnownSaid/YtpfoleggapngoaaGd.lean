/- Regions that draw, where several wait; an append to what is only read. -/
import Derived.Test.YtpfoleggapngoaaG9
import Derived.Scope
import Derived.RangeFuncRecord
set_option linter.unusedVariables false
set_option linter.unusedSimpArgs false
namespace Go.Proofs.G
open Go Go.RowKit Go.Proofs.YtpfoleggapngoaaW.PrintWords
section
variable {F : Fence} {n : Nat} {P : Program} {b : Frame} {a : Act} {k : List Item} {cs : List Frame} {w : World} {Q : Exit → Act → World → Prop}
theorem stepR_scope {c : Code} : step P (lone (b.atR a (.code (.scope c) :: k)) cs w) = .next (lone (b.atR a (.code c :: .inScope c :: k)) cs w) :=
  step_lone_go (by simp [stepG, stepG.exec, Frame.atR])
theorem stepR_inScope {c : Code} : step P (lone (b.atR a (.inScope c :: k)) cs w) = .next (lone (b.atR a k) cs w) :=
  step_lone_go (by simp [stepG, stepG.exec, Frame.atR])
theorem wpIn_scope {c : Code} (h : c.wpIn F n P (Exit.noGoto Q) a w) : (Code.scope c).wpIn F n P Q a w := by
  intro b k cs hro hb hr
  have h0 : (lone (b.atR a (.code (.scope c) :: k)) cs w).fenced P F := fenced_calm hb hr rfl
  obtain ⟨e, a₁, w₁, hq, harr⟩ := h b (.inScope c :: k) cs hro hb hr
  cases e with
  | normal => exact ⟨.normal, a₁, w₁, hq, .head h0 stepR_scope (StepsIn.trans harr (.one (fenced_calm hb hr rfl) stepR_inScope))⟩
  | exit id =>
    have hx : exitTo id (.inScope c :: k) = exitTo id k := by simp [exitTo]
    exact ⟨.exit id, a₁, w₁, hq, fun k' hk => .head h0 stepR_scope (harr.1 k' (by rw [hx]; exact hk)),
      fun hr' hk => let ⟨k₁, h1, h2⟩ := harr.2 hr' (by rw [hx]; exact hk); ⟨k₁, h1, .head h0 stepR_scope h2⟩⟩
  | goto l => exact hq.elim
  | ret => exact ⟨_, a₁, w₁, hq, .of_steps (.one h0 stepR_scope) harr⟩
  | panic ch => exact ⟨_, a₁, w₁, hq, .of_steps (.one h0 stepR_scope) harr⟩
  | outgrown => exact ⟨_, a₁, w₁, hq, .of_steps (.one h0 stepR_scope) harr⟩
end
section
variable {r : Option Nat} {P : Program} {N : Nat} {ds : List Deferred} {Q : Exit → Act → World → Prop} {σ : Nat → Value} {w : World}
attribute [local semireducible] GC in
theorem Sc {c : Code} (h : GC r P N ds c (Exit.noGoto Q) σ w) : GC r P N ds (.scope c) Q σ w := fun a ha => wpIn_scope (h a ha)
theorem Sn (h : ∀ a, St N ds σ a → Q .normal a w) : ∀ a, St N ds σ a → Exit.noGoto Q .normal a w := h
theorem Sr (h : ∀ a, St N ds σ a → Q .ret a w) : ∀ a, St N ds σ a → Exit.noGoto Q .ret a w := h
theorem Sx {id : Nat} (h : ∀ a, St N ds σ a → Q (.exit id) a w) : ∀ a, St N ds σ a → Exit.noGoto Q (.exit id) a w := h
end
section
variable {r : Option Nat} {P : Program} {N : Nat} {ds : List Deferred} {Q : Exit → Act → World → Prop} {σ : Nat → Value} {w : World} {E : List Nat} {C : World → Prop} {ops : Array Oper} {k : Nat} {L : Array Bool}
/-- This operation now. -/
def GO (P : Program) (N : Nat) (ds : List Deferred) (ops : Array Oper) (Q : Exit → Act → World → Prop) (E : List Nat) (C : World → Prop) (k : Nat) (L : Array Bool) (i : Nat) (σ : Nat → Value) (w : World) : Prop :=
  ∀ a, St N ds σ a → closed ops (L.setIfInBounds i true) → opT P ops i (fun a' w' => wpT P ops Q E C k (L.setIfInBounds i true) a' w') a w
attribute [local semireducible] GD in
theorem GD_two (i j : Nat) (hr : Region.ready .any ops L = [i, j]) (hC : live E L → C w) (h1 : GO P N ds ops Q E C k L i σ w) (h2 : GO P N ds ops Q E C k L j σ w) : GD P N ds ops Q E C (k + 1) L σ w := by
  intro a ha hc
  refine ⟨hC, fun h0 => (by rw [hr] at h0; cases h0), fun u hu => ?_⟩
  have hcl := closed_step hc hu
  rw [hr] at hu
  rcases List.mem_cons.1 hu with rfl | hu
  · exact h1 a ha hcl
  · obtain rfl := List.mem_singleton.1 hu
    exact h2 a ha hcl
attribute [local semireducible] GD in
theorem GO_val {o : Oper} {v : Value} {w' : World} {i : Nat} (hi : ops[i]? = some o) (hw : Region.wanted o (yl ops σ) = true) (hnd : noDefer o = true) (hd : dstok N o.dst = true)
    (hrun : (execOp (ev σ) o).run P w = .ok (.value v) w') (h : GD P N ds ops Q E C k (L.setIfInBounds i true) (updo σ o.dst v) w') : GO P N ds ops Q E C k L i σ w := by
  intro a ha hcl
  unfold opT
  rw [hi]
  simp only [ha.yl, hw, if_true]
  refine ⟨hnd, ?_⟩
  unfold opS
  rw [ha.eval, hrun]
  exact h _ (ha.put _ _ hd) hcl
attribute [local semireducible] GD in
theorem GO_enter {o : Oper} {f : FuncId} {args : Array Value} {w1 : World} {R : Ending → World → Prop} {i : Nat} (hi : ops[i]? = some o) (hw : Region.wanted o (yl ops σ) = true) (hnd : noDefer o = true) (hd : dstok N o.dst = true)
    (hrun : (execOp (ev σ) o).run P w = .ok (.enter f args) w1) (hc : Calls P f args w1 R) (h : ∀ e w', R e w' → ∃ v, e = .returned v ∧ GD P N ds ops Q E C k (L.setIfInBounds i true) (updo σ o.dst v) w') : GO P N ds ops Q E C k L i σ w := by
  intro a ha hcl
  unfold opT
  rw [hi]
  simp only [ha.yl, hw, if_true]
  refine ⟨hnd, ?_⟩
  unfold opS
  rw [ha.eval, hrun]
  exact hc.mono fun e w' he => by
    obtain ⟨v, hv, hk⟩ := h e w' he
    exact ⟨v, hv, hk _ (ha.put _ _ hd) hcl⟩
theorem GD_one (i : Nat) (hr : Region.ready .any ops L = [i]) (hC : live E L → C w) (h1 : GO P N ds ops Q E C k L i σ w) : GD P N ds ops Q E C (k + 1) L σ w := by
  unfold GD
  intro a ha hc
  refine ⟨hC, fun h0 => (by rw [hr] at h0; cases h0), fun u hu => ?_⟩
  have hcl := closed_step hc hu
  rw [hr] at hu
  obtain rfl := List.mem_singleton.1 hu
  exact h1 a ha hcl
variable {ty : TypeId} {pos : String} {after : Array Edge} {gd : Option (Nat × Bool)} {d : Nat} {x y : Operand} {t e : TypeId}
theorem GO_call {f : FuncId} {args : List Operand} {ts : Array TypeId} {vals : List Value} {R : Ending → World → Prop} {i : Nat} (hi : ops[i]? = some ⟨some d, .call { callee := .value (.func f), args := args.toArray, argTypes := ts }, ty, pos, after, gd⟩)
    (hw : Region.wanted ⟨some d, .call { callee := .value (.func f), args := args.toArray, argTypes := ts }, ty, pos, after, gd⟩ (yl ops σ) = true) (hd : Nat.blt d N = true) (he : ∀ args w, (callFunc f args).run P w = .ok (.enter f args) w) (hv : args.map (ev σ) = vals) (hc : Calls P f vals.toArray w R)
    (h : ∀ e w', R e w' → ∃ v, e = .returned v ∧ GD P N ds ops Q E C k (L.setIfInBounds i true) (upd σ d v) w') : GO P N ds ops Q E C k L i σ w :=
  GO_enter hi hw rfl hd (r_call he hv) hc h
theorem GO_callv {f : FuncId} {args : List Operand} {ts : Array TypeId} {first captured vals : List Value} {R : Ending → World → Prop} {i : Nat} (hi : ops[i]? = some ⟨some d, .call { callee := .value x, args := args.toArray, argTypes := ts }, ty, pos, after, gd⟩)
    (hw : Region.wanted ⟨some d, .call { callee := .value x, args := args.toArray, argTypes := ts }, ty, pos, after, gd⟩ (yl ops σ) = true) (hd : Nat.blt d N = true) (he : ∀ args w, (callFunc f args).run P w = .ok (.enter f args) w) (hx : ev σ x = .func (.func f) first.toArray captured.toArray)
    (hv : first ++ args.map (ev σ) ++ captured = vals) (hc : Calls P f vals.toArray w R)
    (h : ∀ e w', R e w' → ∃ v, e = .returned v ∧ GD P N ds ops Q E C k (L.setIfInBounds i true) (upd σ d v) w') : GO P N ds ops Q E C k L i σ w :=
  GO_enter hi hw rfl hd (r_callv he hx hv) hc h
theorem GO_alloc {z : Value} {i : Nat} (hi : ops[i]? = some ⟨some d, .alloc t, ty, pos, after, gd⟩) (hw : Region.wanted ⟨some d, .alloc t, ty, pos, after, gd⟩ (yl ops σ) = true) (hd : Nat.blt d N = true) (hz : (P.info? t).map (·.zero) = some (some z))
    (h : ∀ g w', New w w' g (.cells z.cells t) → GD P N ds ops Q E C k (L.setIfInBounds i true) (upd σ d (.pointer (some ⟨g, 0, none⟩))) w') : GO P N ds ops Q E C k L i σ w :=
  GO_val hi hw rfl hd (r_alloc hz) (h _ _ (New.alloc _ _))
theorem GO_lit1 {v : Value} {i : Nat} (hi : ops[i]? = some ⟨some d, .buildSlice t 1 #[(0, x)], ty, pos, after, gd⟩) (hw : Region.wanted ⟨some d, .buildSlice t 1 #[(0, x)], ty, pos, after, gd⟩ (yl ops σ) = true) (hd : Nat.blt d N = true)
    (hrun : ∀ w v, v.oneCell' = true → (Instr.buildSlice t 1 #[(0, v)]).run P w = .ok (.slice (some ⟨w.heap.size, 0, none⟩) 1 1) (w.alloc (.cells #[v] e))) (hx : ev σ x = v) (hv : v.oneCell' = true)
    (h : ∀ g w', New w w' g (.cells #[v] e) → GD P N ds ops Q E C k (L.setIfInBounds i true) (upd σ d (.slice (some ⟨g, 0, none⟩) 1 1)) w') : GO P N ds ops Q E C k L i σ w :=
  GO_val hi hw rfl hd (r_buildSlice (cells := #[v]) (by simp only [List.map_toArray, List.map_cons, List.map_nil, hx]; exact hrun w v hv)) (h _ _ (New.alloc _ _))

attribute [local semireducible] GD in
theorem GO_unit {o : Oper} {w' : World} {i : Nat} (hi : ops[i]? = some o) (hw : Region.wanted o (yl ops σ) = true) (hnd : noDefer o = true) (hd : dstok N o.dst = true)
    (hrun : (execOp (ev σ) o).run P w = .ok .skip w') (h : GD P N ds ops Q E C k (L.setIfInBounds i true) (updo σ o.dst undef) w') : GO P N ds ops Q E C k L i σ w := by
  intro a ha hcl
  unfold opT
  rw [hi]
  simp only [ha.yl, hw, if_true]
  refine ⟨hnd, ?_⟩
  unfold opS
  rw [ha.eval, hrun]
  exact h _ (ha.put _ _ hd) hcl
theorem GO_store1 {g o : Nat} {cs : Array Value} {t0 : TypeId} {v : Value} {i : Nat} (hi : ops[i]? = some ⟨none, .store t x y, ty, pos, after, gd⟩)
    (hw : Region.wanted ⟨none, .store t x y, ty, pos, after, gd⟩ (yl ops σ) = true) (hx : ev σ x = .pointer (some ⟨g, o, none⟩)) (hy : ev σ y = v) (hsz : (P.info? t).map (·.size) = some 1) (hb : w.heap[g]? = some (.cells cs t0 (0, 0)))
    (ho : o < cs.size) (h1 : v.oneCell' = true) (h : ∀ w', Put w w' g (.cells (cs.setIfInBounds o v) t0 (0, 0)) → GD P N ds ops Q E C k (L.setIfInBounds i true) σ w') : GO P N ds ops Q E C k L i σ w :=
  GO_unit hi hw rfl rfl (run_store1 hx hy hsz hb ho h1) (h _ (cells_put hb v))
theorem GO_storeA {g : Nat} {cs cells : Array Value} {t0 : TypeId} {i : Nat} (hi : ops[i]? = some ⟨none, .store t x y, ty, pos, after, gd⟩)
    (hw : Region.wanted ⟨none, .store t x y, ty, pos, after, gd⟩ (yl ops σ) = true) (hx : ev σ x = .pointer (some ⟨g, 0, none⟩)) (hy : ev σ y = .agg cells) (hsz : (P.info? t).map (·.size) = some cells.size) (hb : w.heap[g]? = some (.cells cs t0 (0, 0)))
    (hl : cells.size = cs.size) (h1 : ∀ v ∈ cells, v.oneCell' = true) (h : ∀ w', Put w w' g (.cells cells t0 (0, 0)) → GD P N ds ops Q E C k (L.setIfInBounds i true) σ w') : GO P N ds ops Q E C k L i σ w :=
  GO_unit hi hw rfl rfl (run_storeA hx hy hsz hb hl h1) (h _ (setRow_put hb))
/-- append(xs[:n:n], x), xs only read: a new row. -/
theorem run_appendC {α : Type} {enc : α → Value} {hone : ∀ x, (enc x).oneCell' = true} {z : Value} {bytes : Nat} (ht : P.underlying t = some (.slice e)) (hinfo : (P.info? e).map (fun i => (i.zero, i.size, i.bytes)) = some (some z, 1, bytes)) (hz : z.cells.size = 1)
    {A : Option Addr} {n : Nat} {xs : List α} {p : α} {g c : Nat} {te : TypeId} {fr : Nat × Nat} (hC : (Kd.scalar enc hone).C w A n xs) (hg : w.heap[g]? = some (.cells #[enc p] te fr)) (hl : (n + 1) * bytes ≤ 140737488355328) (hm : n + 1 ≤ maxLen)
    (hA : A = none → n = 0) {dst : Option Nat} (hx : ev σ x = .slice A n n) (hy : ev σ y = .slice (some ⟨g, 0, none⟩) 1 c) :
    ∃ v' w', (execOp (ev σ) ⟨dst, .call { callee := .builtin .append, args := #[x, y], argTypes := #[t, t] }, ty, pos, after, gd⟩).run P w = .ok (.value v') w' ∧ (Kd.scalar enc hone).R e w' w.heap.size (fun _ => True) v' (xs ++ [p]) ∧ w.grownBy w' none := by
  cases A with
  | none =>
    have hn := hA rfl
    subst hn
    have hxs : xs = [] := List.length_eq_zero_iff.1 hC.1
    subst hxs
    obtain ⟨v', w', hrun, hR, hg', _⟩ := run_appendR (σ := σ) (P := P) (w := w) (dst := dst) (ty := ty) (pos := pos) (after := after) (gd := gd) (Kd.scalar enc hone) (ok := fun _ => True) (okp := fun _ => False) (cs := [enc p]) ht hinfo hz (Nat.zero_lt_one) (Kd.R_nil _ e w w.heap.size _) hg (p := p) rfl (fun _ h => h.elim) (fun _ _ => trivial) (Nat.le_refl _) (by simpa using hl) (by simpa using hm) hx hy
    exact ⟨v', w', hrun, hR, hg'⟩
  | some ad =>
    obtain ⟨i0, hi, hzz⟩ := Option.map_eq_some_iff.1 hinfo
    simp only [Prod.mk.injEq] at hzz
    obtain ⟨hz0, hz1, hz2⟩ := hzz
    have hlen : xs.length = n := hC.1
    have hcells : ∀ j u, (xs.map enc)[j]? = some u → w.cell? (ad.add j) = some u := by
      intro j u hj
      have hjl : j < xs.length := by simpa using (List.getElem?_eq_some_iff.1 hj).1
      obtain ⟨ad', e', hc'⟩ := hC.2.2 (by omega)
      injection e' with e'
      subst e'
      obtain ⟨cs, hcl, hK, hcc⟩ := hc' j _ (List.getElem?_eq_getElem hjl)
      have hK' : cs = [enc xs[j]] := hK
      subst hK'
      have h0 := hcc 0 _ rfl
      have hu : u = enc xs[j] := by simpa [hjl] using hj.symm
      rw [hu]
      simpa [Kd.scalar] using h0
    obtain ⟨v', w', hrun, r1, r2⟩ := run_append_arg_grows (P := P) w t ty e i0 z 1 bytes ht hi hz0 hz1 hz2 hz (by decide) ad n n (xs.map enc) (by simp [hlen]) hcells ⟨g, 0, none⟩ 1 c [enc p] (by simp) (cellsAt (l := [enc p]) hg) (by omega) hm hl
    refine ⟨v', w', by simp [execOp, resolve, invoke, builtin, hx, hy, hrun], Kd.R_of_own ?_ (fun _ _ => trivial), r2⟩
    rw [List.length_append, hlen]
    simpa [encs] using r1
theorem GO_appendC {α : Type} {enc : α → Value} {hone : ∀ x, (enc x).oneCell' = true} {z : Value} {bytes : Nat} {A : Option Addr} {n : Nat} {xs : List α} {p : α} {g c : Nat} {te : TypeId} {fr : Nat × Nat} {i : Nat} (hi : ops[i]? = some ⟨some d, .call { callee := .builtin .append, args := #[x, y], argTypes := #[t, t] }, ty, pos, after, gd⟩)
    (hw : Region.wanted ⟨some d, .call { callee := .builtin .append, args := #[x, y], argTypes := #[t, t] }, ty, pos, after, gd⟩ (yl ops σ) = true) (hd : Nat.blt d N = true) (ht : P.underlying t = some (.slice e)) (hinfo : (P.info? e).map (fun i => (i.zero, i.size, i.bytes)) = some (some z, 1, bytes)) (hz : z.cells.size = 1)
    (hC : (Kd.scalar enc hone).C w A n xs) (hg : w.heap[g]? = some (.cells #[enc p] te fr)) (hl : (n + 1) * bytes ≤ 140737488355328) (hm : n + 1 ≤ maxLen)
    (hA : A = none → n = 0) (hx : ev σ x = .slice A n n) (hy : ev σ y = .slice (some ⟨g, 0, none⟩) 1 c)
    (h : ∀ v' w', (Kd.scalar enc hone).R e w' w.heap.size (fun _ => True) v' (xs ++ [p]) → w.grownBy w' none → GD P N ds ops Q E C k (L.setIfInBounds i true) (upd σ d v') w') : GO P N ds ops Q E C k L i σ w := by
  obtain ⟨v', w', hrun, hR, hg'⟩ := run_appendC (σ := σ) (P := P) (w := w) (dst := some d) (ty := ty) (pos := pos) (after := after) (gd := gd) (x := x) (y := y) ht hinfo hz hC hg hl hm hA hx hy
  exact GO_val hi hw rfl hd hrun (h v' w' hR hg')
end
/-- A row of scalars that is only read keeps, where one block that is a map has turned. -/
theorem scalarC_map {α : Type} {enc : α → Value} {hone : ∀ x, (enc x).oneCell' = true} {w w' : World} {A : Option Addr} {n : Nat} {xs : List α} {gM clock : Nat} {es : Array MapEntry} (hC : (Kd.scalar enc hone).C w A n xs) (hM : w.heap[gM]? = some (.map es clock)) (hch : Ch (fun k => k = gM) w w') : (Kd.scalar enc hone).C w' A n xs := by
  refine ⟨hC.1, hC.2.1, fun hn => ?_⟩
  obtain ⟨ad, e, hc⟩ := hC.2.2 hn
  refine ⟨ad, e, fun j p hj => ?_⟩
  obtain ⟨c, h1, h2, h3⟩ := hc j p hj
  refine ⟨c, h1, h2, fun i u hu => hch.cell (h3 i u hu) (fun hb => ?_)⟩
  have h4 := h3 i u hu
  unfold World.cell? at h4
  rw [hb, hM] at h4
  simp at h4
theorem ne_map {w : World} {g gM clock : Nat} {es : Array MapEntry} {cs : Array Value} {t : TypeId} {fr : Nat × Nat} (h : w.heap[g]? = some (.cells cs t fr)) (hM : w.heap[gM]? = some (.map es clock)) : g ≠ gM := fun e => by
  subst e; rw [h] at hM; cases hM
section
variable {r : Option Nat} {P : Program} {N : Nat} {ds : List Deferred} {Q : Exit → Act → World → Prop} {σ : Nat → Value} {w : World}
variable {ops : Array Oper} {rest : List Oper} {ty : TypeId} {pos : String} {after : Array Edge} {gd : Option (Nat × Bool)} {d : Nat} {x y : Operand} {t kt e : TypeId}
/-- Is it in the set? -/
theorem g_lookupB {g clock : Nat} {es : Array MapEntry} {key : Value} {kl : Lit} (K : Maps.Keyed P kt) (ht : P.underlying t = some (.map kt e)) (hz : (zeroValue e).run P w = .ok (.bool false) w) (hb : w.heap[g]? = some (.map es clock)) (hkeys : ∀ x ∈ es.toList, ∃ l, keyOf P kt x.key = some l) (hkey : keyOf P kt key = some kl)
    (hvals : ∀ a ∈ es.toList, a.val = .bool true) (hx : ev σ x = .map (some g)) (hy : ev σ y = key)
    (hw : Region.wanted ⟨some d, .lookup t x y false, ty, pos, after, gd⟩ (yl ops σ) = true := by rfl) (hd : Nat.blt d N = true := by rfl)
    (h : ∀ b : Bool, (b = true ↔ ∃ a ∈ es.toList, a.key = key) → GL r P N ds ops Q rest (upd σ d (.bool b)) w) :
    GL r P N ds ops Q (⟨some d, .lookup t x y false, ty, pos, after, gd⟩ :: rest) σ w := by
  refine g_lookup K ht hz hb hkeys hkey hx hy hw hd (fun a ha hk => ?_) (fun hn => ?_)
  · have := h true ⟨fun _ => ⟨a, ha, hk⟩, fun _ => rfl⟩
    simpa [hvals a ha] using this
  · have := h false ⟨fun h => (by cases h), fun ⟨a, ha, hk⟩ => absurd hk (hn a ha)⟩
    simpa using this
theorem r_indexO {dst : Option Nat} {kk : IntKind} {i : Int} {g len cap sz n : Nat} (hu : P.underlying t = some (.slice e)) (hsz : (P.info? e).map (·.size) = some sz) (hx : ev σ x = .slice (some ⟨g, 0, none⟩) len cap) (hy : ev σ y = .int kk i)
    (h0 : 0 ≤ i) (h1 : i < len) (hn : i.toNat * sz = n) : (execOp (ev σ) ⟨dst, .indexAddr t x y, ty, pos, after, gd⟩).run P w = .ok (.value (.pointer (some ⟨g, n, none⟩))) w := by
  have := r_indexS (dst := dst) (ty := ty) (pos := pos) (after := after) (gd := gd) (w := w) hu hsz hx hy h0 h1 hn
  rw [add_lit, Nat.zero_add] at this
  exact this
theorem g_indexO {kk : IntKind} {i : Int} {g len cap sz n : Nat} (hu : P.underlying t = some (.slice e)) (hsz : (P.info? e).map (·.size) = some sz) (hx : ev σ x = .slice (some ⟨g, 0, none⟩) len cap) (hy : ev σ y = .int kk i)
    (h0 : 0 ≤ i) (h1 : i < len) (hn : i.toNat * sz = n)
    (hw : Region.wanted ⟨some d, .indexAddr t x y, ty, pos, after, gd⟩ (yl ops σ) = true := by rfl) (hd : Nat.blt d N = true := by rfl) (h : GL r P N ds ops Q rest (upd σ d (.pointer (some ⟨g, n, none⟩))) w) :
    GL r P N ds ops Q (⟨some d, .indexAddr t x y, ty, pos, after, gd⟩ :: rest) σ w :=
  GL_val hw (by intro c hc; cases hc) (r_indexO hu hsz hx hy h0 h1 hn) hd h
theorem run_storeR {α : Type} {enc : α → Value} {h1 : ∀ x, (enc x).oneCell' = true} {base g n cap : Nat} {ok : Nat → Prop} {xs : List α} {i : Int} {u : α} {dst : Option Nat} (hx : ev σ x = .pointer (some ⟨g, i.toNat, none⟩)) (hy : ev σ y = enc u) (hsz : (P.info? t).map (·.size) = some 1)
    (HO : (Kd.scalar enc h1).R e w base ok (.slice (some ⟨g, 0, none⟩) n cap) xs) (hi0 : 0 ≤ i) (hi : i < n) :
    ∃ w', (execOp (ev σ) ⟨dst, .store t x y, ty, pos, after, gd⟩).run P w = .ok .skip w' ∧ (Kd.scalar enc h1).R e w' base ok (.slice (some ⟨g, 0, none⟩) n cap) (xs.set i.toNat u) ∧ w.grownBy w' (some g) := by
  obtain ⟨i', hi', hzz⟩ := Option.map_eq_some_iff.1 hsz
  obtain ⟨hn, hc, hC⟩ := Kd.R_reads' HO
  have hz : ∃ d : α, True := by
    cases xs with
    | nil => simp at hn; omega
    | cons d _ => exact ⟨d, trivial⟩
  obtain ⟨d, _⟩ := hz
  obtain ⟨hcell, hf⟩ := Kd.R_celln d HO i hi0 hi
  obtain ⟨hR, hg⟩ := Kd.R_putg HO i u
  have ho : (enc u).oneCell' = true := h1 u
  have hcells : (enc u).cells = #[enc u] := by revert ho; generalize enc u = v; intro ho; cases v <;> first | rfl | simp [Value.oneCell'] at ho
  refine ⟨w.setCell ⟨g, i.toNat, none⟩ (enc u), ?_, hR, hg⟩
  simp only [execOp, hx, hy, Instr.storeAt, Instr.sureAddr, storeVar, hcells]
  have hst := run_store P w ⟨g, i.toNat, none⟩ (enc u) .plain ho
  rw [hcell] at hst
  simp only [hf, Bool.false_eq_true, if_false] at hst
  simp [sizeOf, typeInfo, hi', hzz, storeCells, Addr.add, hst]
theorem GO_storeR {E : List Nat} {C : World → Prop} {k : Nat} {L : Array Bool} {α : Type} {enc : α → Value} {h1 : ∀ x, (enc x).oneCell' = true} {base g n cap : Nat} {ok : Nat → Prop} {xs : List α} {i : Int} {u : α} {j : Nat} (hj : ops[j]? = some ⟨none, .store t x y, ty, pos, after, gd⟩)
    (hw : Region.wanted ⟨none, .store t x y, ty, pos, after, gd⟩ (yl ops σ) = true) (hx : ev σ x = .pointer (some ⟨g, i.toNat, none⟩)) (hy : ev σ y = enc u) (hsz : (P.info? t).map (·.size) = some 1)
    (HO : (Kd.scalar enc h1).R e w base ok (.slice (some ⟨g, 0, none⟩) n cap) xs) (hi0 : 0 ≤ i) (hi : i < n)
    (h : ∀ w', (Kd.scalar enc h1).R e w' base ok (.slice (some ⟨g, 0, none⟩) n cap) (xs.set i.toNat u) → w.grownBy w' (some g) → GD P N ds ops Q E C k (L.setIfInBounds j true) σ w') : GO P N ds ops Q E C k L j σ w := by
  obtain ⟨w', hr, hR, hg⟩ := run_storeR (σ := σ) (P := P) (dst := none) (ty := ty) (pos := pos) (after := after) (gd := gd) (x := x) (y := y) hx hy hsz HO hi0 hi
  exact GO_unit hj hw rfl rfl hr (h w' hR hg)
end
end Go.Proofs.G

/- Rows appended to rows; sets of keys. -/
set_option linter.unusedVariables false
set_option linter.unusedSimpArgs false
namespace Go.Proofs.G
open Go Go.RowKit Go.Proofs.YtpfoleggapngoaaW.PrintWords
section
variable {r : Option Nat} {P : Program} {N : Nat} {ds : List Deferred} {Q : Exit → Act → World → Prop} {σ : Nat → Value} {w : World}
variable {ops : Array Oper} {rest : List Oper} {ty : TypeId} {pos : String} {after : Array Edge} {gd : Option (Nat × Bool)} {d : Nat} {dst : Option Nat} {x y u : Operand} {t kt e : TypeId}
/-- append(row of one's own, rows that are read...). -/
theorem run_appendRows {α : Type} (k : Kd α) {base bytes : Nat} {z : Value} (ht : P.underlying t = some (.slice e)) (hinfo : (P.info? e).map (fun i => (i.zero, i.size, i.bytes)) = some (some z, k.sz, bytes)) (hz : z.cells.size = k.sz) (hs0 : 0 < k.sz) (hb0 : 0 < bytes)
    {v : Value} {xs ys : List α} {A : Option Addr} {m c : Nat} {ok okp : Nat → Prop} (HO : k.R e w base ok v xs) (HR : k.C w A m ys) (hKM : ∀ x cs, k.K w x cs → k.M w base okp x cs) (hokp : ∀ i, okp i → ok i ∧ some i ≠ v.ownBlock) (hfresh : ∀ i, w.heap.size ≤ i → ok i)
    (hbase : base ≤ w.heap.size) (hl : (xs.length + m) * bytes ≤ 140737488355328) (hx : ev σ x = v) (hy : ev σ y = .slice A m c) :
    ∃ v1 w1, (execOp (ev σ) ⟨dst, .call { callee := .builtin .append, args := #[x, y], argTypes := #[t, t] }, ty, pos, after, gd⟩).run P w = .ok (.value v1) w1 ∧ k.R e w1 base ok v1 (xs ++ ys) ∧ w.grownBy w1 v.ownBlock ∧ (v1.ownBlock = v.ownBlock ∨ ∃ b, v1.ownBlock = some b ∧ w.heap.size ≤ b) := by
  obtain ⟨i0, hi, hzz⟩ := Option.map_eq_some_iff.1 hinfo
  simp only [Prod.mk.injEq] at hzz
  obtain ⟨hz0, hz1, hz2⟩ := hzz
  have hm : ys.length = m := HR.1
  have hlen : xs.length + m ≤ 140737488355328 := Nat.le_trans (Nat.le_mul_of_pos_right _ hb0) hl
  obtain ⟨hok, inner, hown, hr⟩ := HO
  have hrun : ∃ v1 w1, (Builtin.append_ #[t, t] ty #[v, .slice A m c]).run P w = .ok v1 w1 ∧ k.R e w1 base ok v1 (xs ++ ys) ∧ w.grownBy w1 v.ownBlock ∧ (v1.ownBlock = v.ownBlock ∨ ∃ b, v1.ownBlock = some b ∧ w.heap.size ≤ b) := by
    rcases A with _ | ad
    · have h0 : m = 0 := by
        rcases Nat.eq_zero_or_pos m with h0 | h0
        · exact h0
        · obtain ⟨ad, h, _⟩ := HR.2.2 h0
          cases h
      subst h0
      obtain rfl : ys = [] := List.eq_nil_of_length_eq_zero hm
      refine ⟨v, w, ?_, by rw [List.append_nil]; exact ⟨hok, inner, hown, hr⟩, World.grownBy.refl w _, .inl rfl⟩
      rcases hown.2 with ⟨rfl, hn⟩ | ⟨g, cap, cur, rfl, _, _, hnc, _⟩
      · simp [Builtin.append_, run_underlying ht, sizeOf, typeInfo, hi, Builtin.lenOf, Builtin.firstCells]
      · simp [Builtin.append_, run_underlying ht, sizeOf, typeInfo, hi, Builtin.lenOf, Builtin.firstCells, hnc, storeCells]
    · obtain ⟨news, hnr, hnc⟩ := ReadsRow.inner_ HR
      have hnM : Reps (k.M w base okp) k.sz ys news := hnr.imp_ (fun p c hp => hKM p c hp)
      have hone : ∀ u ∈ news, u.oneCell' = true := by
        intro u hu
        obtain ⟨q, hq, rfl⟩ := List.mem_iff_getElem.1 hu
        have hql : q / k.sz < ys.length := by
          rw [Nat.div_lt_iff_lt_mul hs0]
          rw [← hnM.1]
          exact hq
        have hc := hnM.2 (q / k.sz) _ (List.getElem?_eq_getElem hql)
        refine k.K_one (k.K_of_M hc) _ ?_
        rw [List.mem_iff_getElem?]
        refine ⟨q % k.sz, ?_⟩
        rw [List.getElem?_take, if_pos (Nat.mod_lt _ hs0), List.getElem?_drop, Nat.mul_comm, Nat.div_add_mod, List.getElem?_eq_getElem hq]
      obtain ⟨v1, w1, hrun, h2, hg, _, hat⟩ := run_append_own_at (P := P) w base t ty e i0 z k.sz bytes ht hi hz0 hz1 hz2 hz hs0 v xs.length inner hown ad m c news (by rw [hnM.1, hm]) hnc hone (by simp only [maxLen]; omega) hl hbase
      have hat' : v1.ownBlock = v.ownBlock ∨ ∃ b, v1.ownBlock = some b ∧ w.heap.size ≤ b := by
        rcases hat with hat | hat
        · exact .inl hat
        · exact .inr ⟨_, hat, Nat.le_refl _⟩
      have hne : ∀ i, some i ≠ v.ownBlock → i < w.heap.size → some i ≠ v1.ownBlock := by
        intro i hk hlt
        rcases hat' with hat | ⟨b, hb, hle⟩
        · rw [hat]; exact hk
        · rw [hb]
          intro he
          injection he with he
          omega
      have step : ∀ {q : α} {c : List Value} {o : Nat → Prop}, k.M w base o q c → (∀ i, o i → ok i ∧ some i ≠ v.ownBlock) → k.M w1 base (fun i => ok i ∧ some i ≠ v1.ownBlock) q c := by
        intro q c o hq ho
        have h1 := k.M_move (w1 := w1) (fun i hk => hg.block i hk.2.2.1 (ho i hk.1).2) (k.M_bound hq)
        exact k.M_mono (fun i hk => ⟨(ho i hk.1).1, hne i (ho i hk.1).2 hk.2.2.1⟩) h1
      refine ⟨v1, w1, hrun, ⟨fun i hk => ?_, inner ++ news, by rw [List.length_append, hm]; exact h2, Kd.reps_append (hr.imp_ (fun _ _ hq => step hq (fun _ hk => hk))) (hnM.imp_ (fun _ _ hq => step hq hokp))⟩, hg, hat'⟩
      rcases hat' with hat | ⟨b, hb, hle⟩
      · exact hok i (hat ▸ hk)
      · rw [hb] at hk
        injection hk with hk
        exact hfresh i (by omega)
  obtain ⟨v1, w1, hr1, h1, hg, hat⟩ := hrun
  exact ⟨v1, w1, by simp [execOp, resolve, invoke, builtin, hx, hy, hr1], h1, hg, hat⟩
theorem g_appendRows {α : Type} (k : Kd α) {base bytes : Nat} {z : Value} (ht : P.underlying t = some (.slice e)) (hinfo : (P.info? e).map (fun i => (i.zero, i.size, i.bytes)) = some (some z, k.sz, bytes)) (hz : z.cells.size = k.sz) (hs0 : 0 < k.sz) (hb0 : 0 < bytes)
    {v : Value} {xs ys : List α} {A : Option Addr} {m c : Nat} {ok okp : Nat → Prop} (HO : k.R e w base ok v xs) (HR : k.C w A m ys) (hKM : ∀ x cs, k.K w x cs → k.M w base okp x cs) (hokp : ∀ i, okp i → ok i ∧ some i ≠ v.ownBlock) (hfresh : ∀ i, w.heap.size ≤ i → ok i)
    (hbase : base ≤ w.heap.size) (hl : (xs.length + m) * bytes ≤ 140737488355328) (hx : ev σ x = v) (hy : ev σ y = .slice A m c)
    (hw : Region.wanted ⟨some d, .call { callee := .builtin .append, args := #[x, y], argTypes := #[t, t] }, ty, pos, after, gd⟩ (yl ops σ) = true := by rfl) (hd : Nat.blt d N = true := by rfl)
    (h : ∀ v1 w1, k.R e w1 base ok v1 (xs ++ ys) → w.grownBy w1 v.ownBlock → (v1.ownBlock = v.ownBlock ∨ ∃ b, v1.ownBlock = some b ∧ w.heap.size ≤ b) → GL r P N ds ops Q rest (upd σ d v1) w1) :
    GL r P N ds ops Q (⟨some d, .call { callee := .builtin .append, args := #[x, y], argTypes := #[t, t] }, ty, pos, after, gd⟩ :: rest) σ w := by
  obtain ⟨v1, w1, hr, h1, h2, h3⟩ := run_appendRows (σ := σ) (P := P) (dst := some d) (ty := ty) (pos := pos) (after := after) (gd := gd) (x := x) (y := y) k ht hinfo hz hs0 hb0 HO HR hKM hokp hfresh hbase hl hx hy
  exact GL_val hw (by intro c hc; cases hc) hr hd (h v1 w1 h1 h2 h3)

theorem r_shrN {m n : Nat} {kk : IntKind} {b : Int} {t' : TypeId} (hx : ev σ x = .int .i64 (m : Int)) (hy : ev σ y = .int kk b) (hn : b = n) (h64 : n ≤ 64) : (execOp (ev σ) ⟨dst, .binOp .shr t x y t', ty, pos, after, gd⟩).run P w = .ok (.value (.int .i64 ((m / 2 ^ n : Nat) : Int))) w := by
  have h := r_shr (P := P) (w := w) (dst := dst) (ty := ty) (pos := pos) (after := after) (gd := gd) (t := t) (t' := t') hx hy hn h64
  rw [h, Int.fdiv_eq_ediv_of_nonneg _ (show (0 : Int) ≤ 2 ^ n from Int.pow_nonneg (by omega))]
  congr 3
theorem r_bit {m : Nat} {t' : TypeId} (hx : ev σ x = .int .i64 (m : Int)) (hy : ev σ y = .int .i64 1) (hm : m < 2 ^ 63) : (execOp (ev σ) ⟨dst, .binOp .and t x y t', ty, pos, after, gd⟩).run P w = .ok (.value (.int .i64 ((m % 2 : Nat) : Int))) w := by
  have h := r_and (P := P) (w := w) (dst := dst) (ty := ty) (pos := pos) (after := after) (gd := gd) (t := t) (t' := t') (n := 1) hx hy hm (by decide)
  rw [h, Nat.and_one_is_mod]
/-! ### Sets of keys -/
open Classical in
noncomputable def lkB (es : Array MapEntry) (key : Value) : Bool := decide (∃ a ∈ es.toList, a.key = key)
theorem lkB_true {es : Array MapEntry} {key : Value} : lkB es key = true ↔ ∃ a ∈ es.toList, a.key = key := by simp [lkB]
theorem lkB_run {g clock : Nat} {es : Array MapEntry} {key : Value} {kl : Lit} (K : Maps.Keyed P kt) (ht : P.underlying t = some (.map kt e)) (hz : (zeroValue e).run P w = .ok (.bool false) w) (hb : w.heap[g]? = some (.map es clock)) (hkeys : ∀ x ∈ es.toList, ∃ l, keyOf P kt x.key = some l) (hkey : keyOf P kt key = some kl)
    (hvals : ∀ a ∈ es.toList, a.val = .bool true) : (Instr.lookup t (.map (some g)) key false).run P w = .ok (.bool (lkB es key)) w := by
  rcases lookup_run K ht hz hb hkeys hkey false with ⟨a, ha, hk, hr⟩ | ⟨hn, hr⟩
  · rw [hr, lkB_true.2 ⟨a, ha, hk⟩]; simp [hvals a ha]
  · rw [hr]
    cases hq : lkB es key with
    | true => obtain ⟨a, ha, hk⟩ := lkB_true.1 hq; exact absurd hk (hn a ha)
    | false => rfl
theorem update_run2 {g clock : Nat} {es : Array MapEntry} {key : Value} {kl : Lit} (K : Maps.Keyed P kt) (ht : P.underlying t = some (.map kt e)) (hb : w.heap[g]? = some (.map es clock)) (hkeys : ∀ x ∈ es.toList, ∃ l, keyOf P kt x.key = some l) (hkey : keyOf P kt key = some kl) (v : Value) :
    ∃ es' clock' w', (Instr.mapUpdate t (.map (some g)) key v).run P w = .ok () w' ∧ Put w w' g (.map es' clock') ∧ (∀ x ∈ es'.toList, x ∈ es.toList ∨ (x.key = key ∧ x.val = v)) ∧ (∀ k, lkB es' k = true ↔ (lkB es k = true ∨ k = key)) := by
  have hck := K.check w false hkey
  rcases K.find w hkey es.toList hkeys with ⟨h1, h2⟩ | ⟨j, x, h1, h2, h3⟩
  · obtain ⟨w', hr, hp⟩ := setObj_put (P := P) hb (es.push { key, val := v, born := clock }) (clock + 1)
    refine ⟨_, _, w', by simp [Instr.mapUpdate, run_underlying ht, run_getMap hb, hck, h1, hr], hp, fun x hx => ?_, fun k => ?_⟩
    · simp only [Array.toList_push, List.mem_append, List.mem_singleton] at hx
      rcases hx with hx | rfl
      · exact .inl hx
      · exact .inr ⟨rfl, rfl⟩
    · rw [lkB_true, lkB_true]
      simp only [Array.toList_push, List.mem_append, List.mem_singleton]
      constructor
      · rintro ⟨a, ha | rfl, hk⟩
        · exact .inl ⟨a, ha, hk⟩
        · exact .inr hk.symm
      · rintro (⟨a, ha, hk⟩ | rfl)
        · exact ⟨a, .inl ha, hk⟩
        · exact ⟨_, .inr rfl, rfl⟩
  · obtain ⟨w', hr, hp⟩ := setObj_put (P := P) hb (es.modify j fun e => { e with key, val := v }) clock
    have hx : (es[j]?).map (·.key) = some key := by
      rw [← Array.getElem?_toList, h2]; simp [h3]
    have hst := K.stays w hkey
    refine ⟨_, _, w', by simp [Instr.mapUpdate, run_underlying ht, run_getMap hb, hck, h1, hx, hst, hr], hp, fun y hy => ?_, fun k => ?_⟩
    · obtain ⟨i, hi, rfl⟩ := List.mem_iff_getElem.1 hy
      simp only [Array.length_toList, Array.size_modify] at hi
      simp only [Array.getElem_toList, Array.getElem_modify]
      by_cases hij : j = i
      · right; simp [hij]
      · left; simp [hij]
    · have hkeyj : ∀ i (hi : i < es.size), ((es.modify j fun e => { e with key, val := v })[i]'(by simpa using hi)).key = es[i].key := by
        intro i hi
        simp only [Array.getElem_modify]
        by_cases hij : j = i
        · subst hij
          rw [if_pos rfl]
          have : es[j] = x := by
            have h2' := h2
            rw [Array.getElem?_toList] at h2'
            simpa [hi] using h2'
          rw [this, h3]
        · rw [if_neg hij]
      rw [lkB_true, lkB_true]
      constructor
      · rintro ⟨a, ha, hk⟩
        obtain ⟨i, hi, rfl⟩ := List.mem_iff_getElem.1 ha
        simp only [Array.length_toList, Array.size_modify] at hi
        left
        refine ⟨es[i], by simp, ?_⟩
        rw [← hkeyj i hi]
        rw [Array.getElem_toList] at hk
        exact hk
      · rintro (⟨a, ha, hk⟩ | rfl)
        · obtain ⟨i, hi, rfl⟩ := List.mem_iff_getElem.1 ha
          simp only [Array.length_toList] at hi
          exact ⟨(es.modify j fun e => { e with key, val := v })[i]'(by simpa using hi), by rw [← Array.getElem_toList]; exact List.getElem_mem _, by rw [hkeyj i hi]; simpa using hk⟩
        · have hj : j < es.size := by
            have := (List.getElem?_eq_some_iff.1 h2).1
            simpa using this
          exact ⟨(es.modify j fun e => { e with key := k, val := v })[j]'(by simpa using hj), by rw [← Array.getElem_toList]; exact List.getElem_mem _, by simp only [Array.getElem_modify, if_true]⟩
theorem g_mapUpdate2 {g clock : Nat} {es : Array MapEntry} {key v : Value} {kl : Lit} (K : Maps.Keyed P kt) (ht : P.underlying t = some (.map kt e)) (hb : w.heap[g]? = some (.map es clock)) (hkeys : ∀ x ∈ es.toList, ∃ l, keyOf P kt x.key = some l) (hkey : keyOf P kt key = some kl)
    (hx : ev σ x = .map (some g)) (hy : ev σ y = key) (hu : ev σ u = v)
    (hw : Region.wanted ⟨none, .mapUpdate t x y u, ty, pos, after, gd⟩ (yl ops σ) = true := by rfl)
    (h : ∀ es' clock' w', Put w w' g (.map es' clock') → (∀ a ∈ es'.toList, a ∈ es.toList ∨ (a.key = key ∧ a.val = v)) → (∀ k, lkB es' k = true ↔ (lkB es k = true ∨ k = key)) → GL r P N ds ops Q rest σ w') :
    GL r P N ds ops Q (⟨none, .mapUpdate t x y u, ty, pos, after, gd⟩ :: rest) σ w := by
  obtain ⟨es', clock', w', hr, hp, he, hl⟩ := update_run2 K ht hb hkeys hkey v
  exact GL_unit hw (by intro c hc; cases hc) (by simp [execOp, hx, hy, hu, hr]) rfl (h es' clock' w' hp he hl)
theorem g_insert2 {g clock : Nat} {es : Array MapEntry} {key v : Value} {kl : Lit} (K : Maps.Keyed P kt) (ht : P.underlying t = some (.map kt e)) (hb : w.heap[g]? = some (.map es clock)) (hkeys : ∀ x ∈ es.toList, ∃ l, keyOf P kt x.key = some l) (hkey : keyOf P kt key = some kl)
    (hx : ev σ x = .map (some g)) (hy : ev σ y = key) (hu : ev σ u = v)
    (hw : Region.wanted ⟨none, .insert t x y u, ty, pos, after, gd⟩ (yl ops σ) = true := by rfl)
    (h : ∀ es' clock' w', Put w w' g (.map es' clock') → (∀ a ∈ es'.toList, a ∈ es.toList ∨ (a.key = key ∧ a.val = v)) → (∀ k, lkB es' k = true ↔ (lkB es k = true ∨ k = key)) → GL r P N ds ops Q rest σ w') :
    GL r P N ds ops Q (⟨none, .insert t x y u, ty, pos, after, gd⟩ :: rest) σ w := by
  obtain ⟨es', clock', w', hr, hp, he, hl⟩ := update_run2 K ht hb hkeys hkey v
  exact GL_unit hw (by intro c hc; cases hc) (by simp [execOp, hx, hy, hu, hr]) rfl (h es' clock' w' hp he hl)
end
end Go.Proofs.G

/- G: literals and append in regions that draw. -/
set_option linter.unusedVariables false
namespace Go.Proofs.G
open Go Go.RowKit Go.Proofs Go.Proofs.YtpfoleggapngoaaW.PrintWords
section
variable {r : Option Nat} {P : Program} {N : Nat} {ds : List Deferred} {Q : Exit → Act → World → Prop} {σ : Nat → Value} {w : World} {E : List Nat} {C : World → Prop} {ops : Array Oper} {k : Nat} {L : Array Bool} {d : Nat} {t e ty : TypeId} {pos : String} {after : Array Edge} {gd : Option (Nat × Bool)} {x y : Operand}
theorem GO_lits {parts : List (Nat × Operand)} {vals : List (Nat × Value)} {len : Nat} {cells : Array Value} {i : Nat} (hi : ops[i]? = some ⟨some d, .buildSlice t len parts.toArray, ty, pos, after, gd⟩) (hw : Region.wanted ⟨some d, .buildSlice t len parts.toArray, ty, pos, after, gd⟩ (yl ops σ) = true) (hd : Nat.blt d N = true)
    (hrun : (Instr.buildSlice t len vals.toArray).run P w = .ok (.slice (some ⟨w.heap.size, 0, none⟩) len len) (w.alloc (.cells cells e))) (hv : parts.map (fun p => (p.1, ev σ p.2)) = vals)
    (h : ∀ g w', New w w' g (.cells cells e) → GD P N ds ops Q E C k (L.setIfInBounds i true) (upd σ d (.slice (some ⟨g, 0, none⟩) len len)) w') : GO P N ds ops Q E C k L i σ w :=
  GO_val hi hw rfl hd (r_buildSlice (cells := cells) (by rw [bld_map, hv]; exact hrun)) (h _ _ (New.alloc _ _))
theorem GO_appendR {α : Type} (kd : Kd α) {z : Value} {bytes base : Nat} {i : Nat} (hi : ops[i]? = some ⟨some d, .call { callee := .builtin .append, args := #[x, y], argTypes := #[t, t] }, ty, pos, after, gd⟩)
    (hw : Region.wanted ⟨some d, .call { callee := .builtin .append, args := #[x, y], argTypes := #[t, t] }, ty, pos, after, gd⟩ (yl ops σ) = true) (hd : Nat.blt d N = true)
    (ht : P.underlying t = some (.slice e)) (hinfo : (P.info? e).map (fun i => (i.zero, i.size, i.bytes)) = some (some z, kd.sz, bytes)) (hz : z.cells.size = kd.sz) (hs0 : 0 < kd.sz)
    {v : Value} {xs : List α} {p : α} {cs : List Value} {ok okp : Nat → Prop} {g c : Nat} {te : TypeId} {fr : Nat × Nat} (HO : kd.R e w base ok v xs) (hg : w.heap[g]? = some (.cells cs.toArray te fr)) (hp : kd.M w base okp p cs) (hokp : ∀ k, okp k → ok k ∧ some k ≠ v.ownBlock)
    (hfresh : ∀ k, w.heap.size ≤ k → ok k) (hbase : base ≤ w.heap.size) (hl : (xs.length + 1) * bytes ≤ 140737488355328) (hm : xs.length + 1 ≤ maxLen) (hx : ev σ x = v) (hy : ev σ y = .slice (some ⟨g, 0, none⟩) 1 c)
    (h : ∀ v' w', kd.R e w' base ok v' (xs ++ [p]) → w.grownBy w' v.ownBlock → (v'.ownBlock = v.ownBlock ∨ v'.ownBlock = some w.heap.size) → GD P N ds ops Q E C k (L.setIfInBounds i true) (upd σ d v') w') : GO P N ds ops Q E C k L i σ w := by
  obtain ⟨v', w', hrun, r1, r2, r3⟩ := run_appendR (P := P) (dst := some d) (ty := ty) (pos := pos) (after := after) (gd := gd) kd ht hinfo hz hs0 HO hg hp hokp hfresh hbase hl hm hx hy
  exact GO_val hi hw rfl hd hrun (h v' w' r1 r2 r3)
end
end Go.Proofs.G

/- Ranges over functions: yield, the statement, the way out. -/
set_option linter.unusedVariables false
namespace Go.Proofs.G
open Go Go.RowKit Go.Proofs Go.Proofs.YtpfoleggapngoaaW.PrintWords
theorem Ch.own {S : Nat → Prop} {w W W' : World} {g : Nat} {o : Obj} (h : Ch S w W) (p : Put W W' g o) (hg : w.heap.size ≤ g) : Ch S w W' := h.trans p.ch (fun _ _ x => x) (fun k hk e => by omega)
theorem Ch.bel {S : Nat → Prop} {w W W' : World} (h : Ch S w W) (hb : Bel W W') : Ch S w W' := h.trans (Ch.of_below hb) (fun _ _ x => x) (fun _ _ x => x.elim)
theorem Ch.more {S : Nat → Prop} {w W W' : World} (h : Ch S w W) (k : Ch S W W') : Ch S w W' := h.trans k (fun _ _ x => x) (fun _ _ x => x)
theorem ne_loop {w : World} {g l : Nat} {rc : Loop} {cs : Array Value} {t : TypeId} {f : Nat × Nat} (h : w.heap[g]? = some (.cells cs t f)) (hl : w.heap[l]? = some (.loop rc)) : g ≠ l := fun e => by subst e; rw [h] at hl; cases hl
/-- A call of yield, at v: the round. -/
def Yc (P : Program) (l : Nat) (v : Value) (w : World) (R : Ending → World → Prop) : Prop :=
  ∃ rec : Loop, w.heap[l]? = some (.loop rec) ∧ rec.params.size = 1 ∧ RoundIn (FR none) 0 P l rec.fn ((rec.params.zip #[v]).foldl (fun tmps (t, a) => tmps.setIfInBounds t a) rec.tmps) rec.assign rec.body w R
theorem Yc.mono {P : Program} {l : Nat} {v : Value} {w : World} {R R' : Ending → World → Prop} (h : Yc P l v w R) (hr : ∀ e w', R e w' → R' e w') : Yc P l v w R' := by
  obtain ⟨rec, h1, h2, h3⟩ := h
  exact ⟨rec, h1, h2, h3.mono hr⟩
theorem put_obj {w : World} {l : Nat} {o o' : Obj} (h : w.heap[l]? = some o) : Put w (w.putObj l o') l o' := by
  have hlt := (Array.getElem?_eq_some_iff.1 h).1
  exact ⟨⟨rfl, rfl, rfl, by simp, fun k hk hn => World.putObj_heap_other hn⟩, World.putObj_heap_same hlt, by simp⟩
section
variable {r : Option Nat} {P : Program} {N : Nat} {ds : List Deferred} {Q : Exit → Act → World → Prop} {σ : Nat → Value} {w : World}
variable {ops : Array Oper} {rest : List Oper} {ty : TypeId} {pos : String} {after : Array Edge} {gd : Option (Nat × Bool)} {d : Nat} {x y : Operand}
attribute [local semireducible] GL GC
theorem g_yield {l : Nat} {v : Value} {ts : Array TypeId} {R : Ending → World → Prop} (hx : ev σ x = .func (.yield l) #[] #[]) (hy : ev σ y = v) (hY : Yc P l v w R)
    (hw : Region.wanted ⟨some d, .call { callee := .value x, args := #[y], argTypes := ts }, ty, pos, after, gd⟩ (yl ops σ) = true := by rfl) (hd : Nat.blt d N = true := by rfl)
    (h : ∀ e w', R e w' → ∃ u, e = .returned u ∧ GL none P N ds ops Q rest (upd σ d u) w') :
    GL none P N ds ops Q (⟨some d, .call { callee := .value x, args := #[y], argTypes := ts }, ty, pos, after, gd⟩ :: rest) σ w := by
  obtain ⟨rec, h1, h2, h3⟩ := hY
  have hrun : (execOp (ev σ) ⟨some d, .call { callee := .value x, args := #[y], argTypes := ts }, ty, pos, after, gd⟩).run P w = .ok (.round l rec.fn ((rec.params.zip #[v]).foldl (fun tmps (t, a) => tmps.setIfInBounds t a) rec.tmps) rec.assign rec.body) w := by
    have := run_yield (P := P) (w := w) (l := l) (args := #[v]) h1 (by simp [h2])
    simp only [execOp, resolve, hx, Deferred.ofValue, Sem.run_bind, Sem.run_pure, invoke]
    simp only [Result.andThen]
    simp [hy, this]
  refine GL_run hw (by intro c hc; cases hc) hrun fun a ha => ?_
  rw [Oper.uponIn_round]
  refine ⟨(fun hx => by cases hx), h3.mono fun e w' he => ?_⟩
  obtain ⟨u, rfl, hk⟩ := h e w' he
  exact hk _ (ha.put (some d) u hd)
/-- The statement. -/
theorem GC_range {g : Operand} {p : Tmp} {assign body : Code} {f : FuncId} {first captured : List Value}
    (he : ∀ args w, (callFunc f args).run P w = .ok (.enter f args) w) (hg : ev σ g = .func (.func f) first.toArray captured.toArray)
    (h : ∀ (rec : Loop) (w1 w2 : World) (b : Nat), New w w1 b (.deferred (some [])) → New w1 w2 (b + 1) (.loop rec) → rec.state = .ready → rec.pending = none → rec.params = #[p] → rec.assign = assign → rec.body = body → St N [] σ { tmps := rec.tmps, defers := [] } →
      Calls P f (first ++ [Value.func (.yield (b + 1)) #[] #[]] ++ captured).toArray w2 (fun e w3 => ∃ u rec', e = .returned u ∧ w3.heap[b + 1]? = some (.loop rec') ∧ rec'.state ≠ .busy ∧ rec'.pending = none ∧
        (∀ w4, Put w3 w4 (b + 1) (.loop { rec' with state := .exhausted }) → ∀ a, St N ({ target := .collected b, args := #[] } :: ds) σ a → Q .normal a w4))) :
    GC none P N ds (.rangeFunc g #[p] assign body) Q σ w := by
  intro a ha
  refine wpIn_rangeFunc fun fn hfn => ?_
  let rc : Loop := { state := .ready, pending := none, fn := fn, tmps := a.tmps, params := #[p], assign := assign, body := body, defers := w.heap.size }
  have hc := h rc (w.alloc (.deferred (some []))) ((w.alloc (.deferred (some []))).alloc (.loop rc)) w.heap.size (New.alloc _ _)
    (by have := New.alloc (w.alloc (.deferred (some []))) (.loop rc); simpa using this) rfl rfl rfl rfl rfl ⟨ha.size, rfl, ha.val⟩
  refine ⟨w.heap.size + 1, [{ target := .collected w.heap.size, args := #[] }], (w.alloc (.deferred (some []))).alloc (.loop rc), { target := .fn (.func f) captured.toArray, args := first.toArray ++ #[Value.func (.yield (w.heap.size + 1)) #[] #[]] }, (w.alloc (.deferred (some []))).alloc (.loop rc), f, (first ++ [Value.func (.yield (w.heap.size + 1)) #[] #[]] ++ captured).toArray, (w.alloc (.deferred (some []))).alloc (.loop rc), run_enterLoop_outer fn a.tmps #[p] assign body, ?_, fun _ _ => trivial, ?_, (fun hx => by cases hx), ?_⟩
  · rw [ha.eval]
    have hev : ∀ v, ev σ (.const v) = v := fun v => rfl
    simp [resolve, hg, hev, Deferred.ofValue]
  · simp only [invoke]
    have : first.toArray ++ #[Value.func (.yield (w.heap.size + 1)) #[] #[]] ++ captured.toArray = (first ++ [Value.func (.yield (w.heap.size + 1)) #[] #[]] ++ captured).toArray := by simp
    rw [this, he]
  · refine (calls_in none _ hc).mono fun e w3 hq => ?_
    obtain ⟨u, rec', rfl, h1, h2, h3, h4⟩ := hq
    refine ⟨none, w3.putObj (w.heap.size + 1) (.loop { rec' with state := .exhausted }), ?_, ?_⟩
    · exact (run_endLoop h1 h2).trans (by rw [h3])
    · exact h4 _ (put_obj h1) _ ⟨ha.size, by simp [ha.defers], ha.val⟩
/-- A round, from its codes. -/
theorem Yc_of {l : Nat} {rec : Loop} {p : Tmp} {v : Value} {R : Ending → World → Prop} (hl : w.heap[l]? = some (.loop rec)) (hp : rec.params = #[p]) (hpN : Nat.blt p N = true) (hst : St N [] σ { tmps := rec.tmps, defers := [] })
    (h : GC (some l) P N [] rec.assign (Exit.then (fun a₁ w₁ => ∃ rec1, w₁.heap[l]? = some (.loop rec1) ∧ rec1.state = .ready ∧ ∃ σ', St N [] σ' a₁ ∧ ∀ w2, Put w₁ w2 l (.loop { rec1 with state := .busy }) → GC (some l) P N [] rec.body (roundPost P l R) σ' w2) (fun _ _ _ => False)) (upd σ p v) w) : Yc P l v w R := by
  refine ⟨rec, hl, by simp [hp], ?_⟩
  refine roundIn_of_wpIn (F := FR none) trivial ?_
  have ha : St N [] (upd σ p v) { tmps := ((rec.params.zip #[v]).foldl (fun tmps (t, a) => tmps.setIfInBounds t a) rec.tmps), defers := [] } := by
    have := hst.put (some p) v hpN
    simpa [hp, Act.put, updo] using this
  refine wpIn_mono (h _ ha) fun e a1 w1 hq => ?_
  cases e with
  | normal =>
    obtain ⟨rec1, h1, h2, σ', hs, hb⟩ := hq
    exact ⟨_, run_beginRound h1 h2, hb _ (put_obj h1) a1 hs⟩
  | exit id => exact hq.elim
  | goto l => exact hq.elim
  | ret => exact hq.elim
  | panic ch => exact hq.elim
  | outgrown => exact hq.elim
/-- The round's end: on. -/
theorem round_on {l : Nat} {rec : Loop} {R : Ending → World → Prop} (hl : w.heap[l]? = some (.loop rec)) (h : ∀ w', Put w w' l (.loop { rec with state := .ready, pending := none }) → R (.returned (.bool true)) w') : ∀ a, St N [] σ a → roundPost P l R .normal a w :=
  fun a ha => ⟨_, _, run_endRound none hl, h _ (put_obj hl)⟩
end
section
variable {P : Program} {fn : Func} {R : Ending → World → Prop} {σ : Nat → Value} {w : World} {N : Nat}
theorem retM0 {t : Tmp} (h : fn.results = #[.tmp t]) (hR : R (.returned (σ t)) w) : ∀ a, St N [] σ a → bodyPostM (FR none) 0 P fn R .ret a w :=
  fun a ha => by
    show LeavesInM (FR none) 0 P fn a.tmps R a.defers .returning w
    rw [ha.defers]
    exact ⟨_, results_tmp h _ _ _, by rw [ha.val]; exact hR⟩
theorem retM1 {t : Tmp} {b : Nat} (h : fn.results = #[.tmp t]) (hb : w.heap[b]? = some (.deferred (some []))) (hR : ∀ w', Put w w' b (.deferred none) → R (.returned (σ t)) w') :
    ∀ a, St N [{ target := .collected b, args := #[] }] σ a → bodyPostM (FR none) 0 P fn R .ret a w :=
  fun a ha => by
    show LeavesInM (FR none) 0 P fn a.tmps R a.defers .returning w
    rw [ha.defers]
    refine ⟨by simp, .inl ⟨b, _, rfl, run_takeDeferred hb, ?_⟩⟩
    exact ⟨_, results_tmp h _ _ _, by rw [ha.val]; exact hR _ (put_obj hb)⟩
end
end Go.Proofs.G
