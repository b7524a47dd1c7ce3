/- Regions that draw, where several wait; an append to what is only read. -/
import Derived.Test.YtpfoleggapngoaaG9
import Derived.Scope
set_option linter.unusedVariables false
set_option linter.unusedSimpArgs false
namespace Go.Proofs.G
open Go Go.RowKit Go.Proofs.YtpfoleggapngoaaW.PrintWords
section
variable {F : Fence} {n : Nat} {P : Program} {b : Frame} {a : Act} {k : List Item} {cs : List Frame} {w : World} {Q : Exit → Act → World → Prop}
theorem stepR_scope {c : Code} : step P (lone (b.atR a (.code (.scope c) :: k)) cs w) = .next (lone (b.atR a (.code c :: .inScope c :: k)) cs w) :=
  step_lone_go (by simp [stepG, stepG.exec, Frame.atR])
theorem stepR_inScope {c : Code} : step P (lone (b.atR a (.inScope c :: k)) cs w) = .next (lone (b.atR a k) cs w) :=
  step_lone_go (by simp [stepG, stepG.exec, Frame.atR])
theorem wpIn_scope {c : Code} (h : c.wpIn F n P (Exit.noGoto Q) a w) : (Code.scope c).wpIn F n P Q a w := by
  intro b k cs hro hb hr
  have h0 : (lone (b.atR a (.code (.scope c) :: k)) cs w).fenced P F := fenced_calm hb hr rfl
  obtain ⟨e, a₁, w₁, hq, harr⟩ := h b (.inScope c :: k) cs hro hb hr
  cases e with
  | normal => exact ⟨.normal, a₁, w₁, hq, .head h0 stepR_scope (StepsIn.trans harr (.one (fenced_calm hb hr rfl) stepR_inScope))⟩
  | exit id =>
    have hx : exitTo id (.inScope c :: k) = exitTo id k := by simp [exitTo]
    exact ⟨.exit id, a₁, w₁, hq, fun k' hk => .head h0 stepR_scope (harr.1 k' (by rw [hx]; exact hk)),
      fun hr' hk => let ⟨k₁, h1, h2⟩ := harr.2 hr' (by rw [hx]; exact hk); ⟨k₁, h1, .head h0 stepR_scope h2⟩⟩
  | goto l => exact hq.elim
  | ret => exact ⟨_, a₁, w₁, hq, .of_steps (.one h0 stepR_scope) harr⟩
  | panic ch => exact ⟨_, a₁, w₁, hq, .of_steps (.one h0 stepR_scope) harr⟩
  | outgrown => exact ⟨_, a₁, w₁, hq, .of_steps (.one h0 stepR_scope) harr⟩
end
section
variable {r : Option Nat} {P : Program} {N : Nat} {ds : List Deferred} {Q : Exit → Act → World → Prop} {σ : Nat → Value} {w : World}
attribute [local semireducible] GC in
theorem Sc {c : Code} (h : GC r P N ds c (Exit.noGoto Q) σ w) : GC r P N ds (.scope c) Q σ w := fun a ha => wpIn_scope (h a ha)
theorem Sn (h : ∀ a, St N ds σ a → Q .normal a w) : ∀ a, St N ds σ a → Exit.noGoto Q .normal a w := h
theorem Sr (h : ∀ a, St N ds σ a → Q .ret a w) : ∀ a, St N ds σ a → Exit.noGoto Q .ret a w := h
theorem Sx {id : Nat} (h : ∀ a, St N ds σ a → Q (.exit id) a w) : ∀ a, St N ds σ a → Exit.noGoto Q (.exit id) a w := h
end
section
variable {r : Option Nat} {P : Program} {N : Nat} {ds : List Deferred} {Q : Exit → Act → World → Prop} {σ : Nat → Value} {w : World} {E : List Nat} {C : World → Prop} {ops : Array Oper} {k : Nat} {L : Array Bool}
/-- This operation now. -/
def GO (P : Program) (N : Nat) (ds : List Deferred) (ops : Array Oper) (Q : Exit → Act → World → Prop) (E : List Nat) (C : World → Prop) (k : Nat) (L : Array Bool) (i : Nat) (σ : Nat → Value) (w : World) : Prop :=
  ∀ a, St N ds σ a → closed ops (L.setIfInBounds i true) → opT P ops i (fun a' w' => wpT P ops Q E C k (L.setIfInBounds i true) a' w') a w
attribute [local semireducible] GD in
theorem GD_two (i j : Nat) (hr : Region.ready .any ops L = [i, j]) (hC : live E L → C w) (h1 : GO P N ds ops Q E C k L i σ w) (h2 : GO P N ds ops Q E C k L j σ w) : GD P N ds ops Q E C (k + 1) L σ w := by
  intro a ha hc
  refine ⟨hC, fun h0 => (by rw [hr] at h0; cases h0), fun u hu => ?_⟩
  have hcl := closed_step hc hu
  rw [hr] at hu
  rcases List.mem_cons.1 hu with rfl | hu
  · exact h1 a ha hcl
  · obtain rfl := List.mem_singleton.1 hu
    exact h2 a ha hcl
attribute [local semireducible] GD in
theorem GO_val {o : Oper} {v : Value} {w' : World} {i : Nat} (hi : ops[i]? = some o) (hw : Region.wanted o (yl ops σ) = true) (hnd : noDefer o = true) (hd : dstok N o.dst = true)
    (hrun : (execOp (ev σ) o).run P w = .ok (.value v) w') (h : GD P N ds ops Q E C k (L.setIfInBounds i true) (updo σ o.dst v) w') : GO P N ds ops Q E C k L i σ w := by
  intro a ha hcl
  unfold opT
  rw [hi]
  simp only [ha.yl, hw, if_true]
  refine ⟨hnd, ?_⟩
  unfold opS
  rw [ha.eval, hrun]
  exact h _ (ha.put _ _ hd) hcl
attribute [local semireducible] GD in
theorem GO_enter {o : Oper} {f : FuncId} {args : Array Value} {w1 : World} {R : Ending → World → Prop} {i : Nat} (hi : ops[i]? = some o) (hw : Region.wanted o (yl ops σ) = true) (hnd : noDefer o = true) (hd : dstok N o.dst = true)
    (hrun : (execOp (ev σ) o).run P w = .ok (.enter f args) w1) (hc : Calls P f args w1 R) (h : ∀ e w', R e w' → ∃ v, e = .returned v ∧ GD P N ds ops Q E C k (L.setIfInBounds i true) (updo σ o.dst v) w') : GO P N ds ops Q E C k L i σ w := by
  intro a ha hcl
  unfold opT
  rw [hi]
  simp only [ha.yl, hw, if_true]
  refine ⟨hnd, ?_⟩
  unfold opS
  rw [ha.eval, hrun]
  exact hc.mono fun e w' he => by
    obtain ⟨v, hv, hk⟩ := h e w' he
    exact ⟨v, hv, hk _ (ha.put _ _ hd) hcl⟩
theorem GD_one (i : Nat) (hr : Region.ready .any ops L = [i]) (hC : live E L → C w) (h1 : GO P N ds ops Q E C k L i σ w) : GD P N ds ops Q E C (k + 1) L σ w := by
  unfold GD
  intro a ha hc
  refine ⟨hC, fun h0 => (by rw [hr] at h0; cases h0), fun u hu => ?_⟩
  have hcl := closed_step hc hu
  rw [hr] at hu
  obtain rfl := List.mem_singleton.1 hu
  exact h1 a ha hcl
variable {ty : TypeId} {pos : String} {after : Array Edge} {gd : Option (Nat × Bool)} {d : Nat} {x y : Operand} {t e : TypeId}
theorem GO_call {f : FuncId} {args : List Operand} {ts : Array TypeId} {vals : List Value} {R : Ending → World → Prop} {i : Nat} (hi : ops[i]? = some ⟨some d, .call { callee := .value (.func f), args := args.toArray, argTypes := ts }, ty, pos, after, gd⟩)
    (hw : Region.wanted ⟨some d, .call { callee := .value (.func f), args := args.toArray, argTypes := ts }, ty, pos, after, gd⟩ (yl ops σ) = true) (hd : Nat.blt d N = true) (he : ∀ args w, (callFunc f args).run P w = .ok (.enter f args) w) (hv : args.map (ev σ) = vals) (hc : Calls P f vals.toArray w R)
    (h : ∀ e w', R e w' → ∃ v, e = .returned v ∧ GD P N ds ops Q E C k (L.setIfInBounds i true) (upd σ d v) w') : GO P N ds ops Q E C k L i σ w :=
  GO_enter hi hw rfl hd (r_call he hv) hc h
theorem GO_callv {f : FuncId} {args : List Operand} {ts : Array TypeId} {first captured vals : List Value} {R : Ending → World → Prop} {i : Nat} (hi : ops[i]? = some ⟨some d, .call { callee := .value x, args := args.toArray, argTypes := ts }, ty, pos, after, gd⟩)
    (hw : Region.wanted ⟨some d, .call { callee := .value x, args := args.toArray, argTypes := ts }, ty, pos, after, gd⟩ (yl ops σ) = true) (hd : Nat.blt d N = true) (he : ∀ args w, (callFunc f args).run P w = .ok (.enter f args) w) (hx : ev σ x = .func (.func f) first.toArray captured.toArray)
    (hv : first ++ args.map (ev σ) ++ captured = vals) (hc : Calls P f vals.toArray w R)
    (h : ∀ e w', R e w' → ∃ v, e = .returned v ∧ GD P N ds ops Q E C k (L.setIfInBounds i true) (upd σ d v) w') : GO P N ds ops Q E C k L i σ w :=
  GO_enter hi hw rfl hd (r_callv he hx hv) hc h
theorem GO_alloc {z : Value} {i : Nat} (hi : ops[i]? = some ⟨some d, .alloc t, ty, pos, after, gd⟩) (hw : Region.wanted ⟨some d, .alloc t, ty, pos, after, gd⟩ (yl ops σ) = true) (hd : Nat.blt d N = true) (hz : (P.info? t).map (·.zero) = some (some z))
    (h : ∀ g w', New w w' g (.cells z.cells t) → GD P N ds ops Q E C k (L.setIfInBounds i true) (upd σ d (.pointer (some ⟨g, 0, none⟩))) w') : GO P N ds ops Q E C k L i σ w :=
  GO_val hi hw rfl hd (r_alloc hz) (h _ _ (New.alloc _ _))
theorem GO_lit1 {v : Value} {i : Nat} (hi : ops[i]? = some ⟨some d, .buildSlice t 1 #[(0, x)], ty, pos, after, gd⟩) (hw : Region.wanted ⟨some d, .buildSlice t 1 #[(0, x)], ty, pos, after, gd⟩ (yl ops σ) = true) (hd : Nat.blt d N = true)
    (hrun : ∀ w v, v.oneCell' = true → (Instr.buildSlice t 1 #[(0, v)]).run P w = .ok (.slice (some ⟨w.heap.size, 0, none⟩) 1 1) (w.alloc (.cells #[v] e))) (hx : ev σ x = v) (hv : v.oneCell' = true)
    (h : ∀ g w', New w w' g (.cells #[v] e) → GD P N ds ops Q E C k (L.setIfInBounds i true) (upd σ d (.slice (some ⟨g, 0, none⟩) 1 1)) w') : GO P N ds ops Q E C k L i σ w :=
  GO_val hi hw rfl hd (r_buildSlice (cells := #[v]) (by simp only [List.map_toArray, List.map_cons, List.map_nil, hx]; exact hrun w v hv)) (h _ _ (New.alloc _ _))

attribute [local semireducible] GD in
theorem GO_unit {o : Oper} {w' : World} {i : Nat} (hi : ops[i]? = some o) (hw : Region.wanted o (yl ops σ) = true) (hnd : noDefer o = true) (hd : dstok N o.dst = true)
    (hrun : (execOp (ev σ) o).run P w = .ok .skip w') (h : GD P N ds ops Q E C k (L.setIfInBounds i true) (updo σ o.dst undef) w') : GO P N ds ops Q E C k L i σ w := by
  intro a ha hcl
  unfold opT
  rw [hi]
  simp only [ha.yl, hw, if_true]
  refine ⟨hnd, ?_⟩
  unfold opS
  rw [ha.eval, hrun]
  exact h _ (ha.put _ _ hd) hcl
theorem GO_store1 {g o : Nat} {cs : Array Value} {t0 : TypeId} {v : Value} {i : Nat} (hi : ops[i]? = some ⟨none, .store t x y, ty, pos, after, gd⟩)
    (hw : Region.wanted ⟨none, .store t x y, ty, pos, after, gd⟩ (yl ops σ) = true) (hx : ev σ x = .pointer (some ⟨g, o, none⟩)) (hy : ev σ y = v) (hsz : (P.info? t).map (·.size) = some 1) (hb : w.heap[g]? = some (.cells cs t0 (0, 0)))
    (ho : o < cs.size) (h1 : v.oneCell' = true) (h : ∀ w', Put w w' g (.cells (cs.setIfInBounds o v) t0 (0, 0)) → GD P N ds ops Q E C k (L.setIfInBounds i true) σ w') : GO P N ds ops Q E C k L i σ w :=
  GO_unit hi hw rfl rfl (run_store1 hx hy hsz hb ho h1) (h _ (cells_put hb v))
theorem GO_storeA {g : Nat} {cs cells : Array Value} {t0 : TypeId} {i : Nat} (hi : ops[i]? = some ⟨none, .store t x y, ty, pos, after, gd⟩)
    (hw : Region.wanted ⟨none, .store t x y, ty, pos, after, gd⟩ (yl ops σ) = true) (hx : ev σ x = .pointer (some ⟨g, 0, none⟩)) (hy : ev σ y = .agg cells) (hsz : (P.info? t).map (·.size) = some cells.size) (hb : w.heap[g]? = some (.cells cs t0 (0, 0)))
    (hl : cells.size = cs.size) (h1 : ∀ v ∈ cells, v.oneCell' = true) (h : ∀ w', Put w w' g (.cells cells t0 (0, 0)) → GD P N ds ops Q E C k (L.setIfInBounds i true) σ w') : GO P N ds ops Q E C k L i σ w :=
  GO_unit hi hw rfl rfl (run_storeA hx hy hsz hb hl h1) (h _ (setRow_put hb))
/-- append(xs[:n:n], x), xs only read: a new row. -/
theorem run_appendC {α : Type} {enc : α → Value} {hone : ∀ x, (enc x).oneCell' = true} {z : Value} {bytes : Nat} (ht : P.underlying t = some (.slice e)) (hinfo : (P.info? e).map (fun i => (i.zero, i.size, i.bytes)) = some (some z, 1, bytes)) (hz : z.cells.size = 1)
    {A : Option Addr} {n : Nat} {xs : List α} {p : α} {g c : Nat} {te : TypeId} {fr : Nat × Nat} (hC : (Kd.scalar enc hone).C w A n xs) (hg : w.heap[g]? = some (.cells #[enc p] te fr)) (hl : (n + 1) * bytes ≤ 140737488355328) (hm : n + 1 ≤ maxLen)
    (hA : A = none → n = 0) {dst : Option Nat} (hx : ev σ x = .slice A n n) (hy : ev σ y = .slice (some ⟨g, 0, none⟩) 1 c) :
    ∃ v' w', (execOp (ev σ) ⟨dst, .call { callee := .builtin .append, args := #[x, y], argTypes := #[t, t] }, ty, pos, after, gd⟩).run P w = .ok (.value v') w' ∧ (Kd.scalar enc hone).R e w' w.heap.size (fun _ => True) v' (xs ++ [p]) ∧ w.grownBy w' none := by
  cases A with
  | none =>
    have hn := hA rfl
    subst hn
    have hxs : xs = [] := List.length_eq_zero_iff.1 hC.1
    subst hxs
    obtain ⟨v', w', hrun, hR, hg', _⟩ := run_appendR (σ := σ) (P := P) (w := w) (dst := dst) (ty := ty) (pos := pos) (after := after) (gd := gd) (Kd.scalar enc hone) (ok := fun _ => True) (okp := fun _ => False) (cs := [enc p]) ht hinfo hz (Nat.zero_lt_one) (Kd.R_nil _ e w w.heap.size _) hg (p := p) rfl (fun _ h => h.elim) (fun _ _ => trivial) (Nat.le_refl _) (by simpa using hl) (by simpa using hm) hx hy
    exact ⟨v', w', hrun, hR, hg'⟩
  | some ad =>
    obtain ⟨i0, hi, hzz⟩ := Option.map_eq_some_iff.1 hinfo
    simp only [Prod.mk.injEq] at hzz
    obtain ⟨hz0, hz1, hz2⟩ := hzz
    have hlen : xs.length = n := hC.1
    have hcells : ∀ j u, (xs.map enc)[j]? = some u → w.cell? (ad.add j) = some u := by
      intro j u hj
      have hjl : j < xs.length := by simpa using (List.getElem?_eq_some_iff.1 hj).1
      obtain ⟨ad', e', hc'⟩ := hC.2.2 (by omega)
      injection e' with e'
      subst e'
      obtain ⟨cs, hcl, hK, hcc⟩ := hc' j _ (List.getElem?_eq_getElem hjl)
      have hK' : cs = [enc xs[j]] := hK
      subst hK'
      have h0 := hcc 0 _ rfl
      have hu : u = enc xs[j] := by simpa [hjl] using hj.symm
      rw [hu]
      simpa [Kd.scalar] using h0
    obtain ⟨v', w', hrun, r1, r2⟩ := run_append_arg_grows (P := P) w t ty e i0 z 1 bytes ht hi hz0 hz1 hz2 hz (by decide) ad n n (xs.map enc) (by simp [hlen]) hcells ⟨g, 0, none⟩ 1 c [enc p] (by simp) (cellsAt (l := [enc p]) hg) (by omega) hm hl
    refine ⟨v', w', by simp [execOp, resolve, invoke, builtin, hx, hy, hrun], Kd.R_of_own ?_ (fun _ _ => trivial), r2⟩
    rw [List.length_append, hlen]
    simpa [encs] using r1
theorem GO_appendC {α : Type} {enc : α → Value} {hone : ∀ x, (enc x).oneCell' = true} {z : Value} {bytes : Nat} {A : Option Addr} {n : Nat} {xs : List α} {p : α} {g c : Nat} {te : TypeId} {fr : Nat × Nat} {i : Nat} (hi : ops[i]? = some ⟨some d, .call { callee := .builtin .append, args := #[x, y], argTypes := #[t, t] }, ty, pos, after, gd⟩)
    (hw : Region.wanted ⟨some d, .call { callee := .builtin .append, args := #[x, y], argTypes := #[t, t] }, ty, pos, after, gd⟩ (yl ops σ) = true) (hd : Nat.blt d N = true) (ht : P.underlying t = some (.slice e)) (hinfo : (P.info? e).map (fun i => (i.zero, i.size, i.bytes)) = some (some z, 1, bytes)) (hz : z.cells.size = 1)
    (hC : (Kd.scalar enc hone).C w A n xs) (hg : w.heap[g]? = some (.cells #[enc p] te fr)) (hl : (n + 1) * bytes ≤ 140737488355328) (hm : n + 1 ≤ maxLen)
    (hA : A = none → n = 0) (hx : ev σ x = .slice A n n) (hy : ev σ y = .slice (some ⟨g, 0, none⟩) 1 c)
    (h : ∀ v' w', (Kd.scalar enc hone).R e w' w.heap.size (fun _ => True) v' (xs ++ [p]) → w.grownBy w' none → GD P N ds ops Q E C k (L.setIfInBounds i true) (upd σ d v') w') : GO P N ds ops Q E C k L i σ w := by
  obtain ⟨v', w', hrun, hR, hg'⟩ := run_appendC (σ := σ) (P := P) (w := w) (dst := some d) (ty := ty) (pos := pos) (after := after) (gd := gd) (x := x) (y := y) ht hinfo hz hC hg hl hm hA hx hy
  exact GO_val hi hw rfl hd hrun (h v' w' hR hg')
end
/-- A row of scalars that is only read keeps, where one block that is a map has turned. -/
theorem scalarC_map {α : Type} {enc : α → Value} {hone : ∀ x, (enc x).oneCell' = true} {w w' : World} {A : Option Addr} {n : Nat} {xs : List α} {gM clock : Nat} {es : Array MapEntry} (hC : (Kd.scalar enc hone).C w A n xs) (hM : w.heap[gM]? = some (.map es clock)) (hch : Ch (fun k => k = gM) w w') : (Kd.scalar enc hone).C w' A n xs := by
  refine ⟨hC.1, hC.2.1, fun hn => ?_⟩
  obtain ⟨ad, e, hc⟩ := hC.2.2 hn
  refine ⟨ad, e, fun j p hj => ?_⟩
  obtain ⟨c, h1, h2, h3⟩ := hc j p hj
  refine ⟨c, h1, h2, fun i u hu => hch.cell (h3 i u hu) (fun hb => ?_)⟩
  have h4 := h3 i u hu
  unfold World.cell? at h4
  rw [hb, hM] at h4
  simp at h4
theorem ne_map {w : World} {g gM clock : Nat} {es : Array MapEntry} {cs : Array Value} {t : TypeId} {fr : Nat × Nat} (h : w.heap[g]? = some (.cells cs t fr)) (hM : w.heap[gM]? = some (.map es clock)) : g ≠ gM := fun e => by
  subst e; rw [h] at hM; cases hM
section
variable {r : Option Nat} {P : Program} {N : Nat} {ds : List Deferred} {Q : Exit → Act → World → Prop} {σ : Nat → Value} {w : World}
variable {ops : Array Oper} {rest : List Oper} {ty : TypeId} {pos : String} {after : Array Edge} {gd : Option (Nat × Bool)} {d : Nat} {x y : Operand} {t kt e : TypeId}
/-- Is it in the set? -/
theorem g_lookupB {g clock : Nat} {es : Array MapEntry} {key : Value} {kl : Lit} (K : Maps.Keyed P kt) (ht : P.underlying t = some (.map kt e)) (hz : (zeroValue e).run P w = .ok (.bool false) w) (hb : w.heap[g]? = some (.map es clock)) (hkeys : ∀ x ∈ es.toList, ∃ l, keyOf P kt x.key = some l) (hkey : keyOf P kt key = some kl)
    (hvals : ∀ a ∈ es.toList, a.val = .bool true) (hx : ev σ x = .map (some g)) (hy : ev σ y = key)
    (hw : Region.wanted ⟨some d, .lookup t x y false, ty, pos, after, gd⟩ (yl ops σ) = true := by rfl) (hd : Nat.blt d N = true := by rfl)
    (h : ∀ b : Bool, (b = true ↔ ∃ a ∈ es.toList, a.key = key) → GL r P N ds ops Q rest (upd σ d (.bool b)) w) :
    GL r P N ds ops Q (⟨some d, .lookup t x y false, ty, pos, after, gd⟩ :: rest) σ w := by
  refine g_lookup K ht hz hb hkeys hkey hx hy hw hd (fun a ha hk => ?_) (fun hn => ?_)
  · have := h true ⟨fun _ => ⟨a, ha, hk⟩, fun _ => rfl⟩
    simpa [hvals a ha] using this
  · have := h false ⟨fun h => (by cases h), fun ⟨a, ha, hk⟩ => absurd hk (hn a ha)⟩
    simpa using this
theorem r_indexO {dst : Option Nat} {kk : IntKind} {i : Int} {g len cap sz n : Nat} (hu : P.underlying t = some (.slice e)) (hsz : (P.info? e).map (·.size) = some sz) (hx : ev σ x = .slice (some ⟨g, 0, none⟩) len cap) (hy : ev σ y = .int kk i)
    (h0 : 0 ≤ i) (h1 : i < len) (hn : i.toNat * sz = n) : (execOp (ev σ) ⟨dst, .indexAddr t x y, ty, pos, after, gd⟩).run P w = .ok (.value (.pointer (some ⟨g, n, none⟩))) w := by
  have := r_indexS (dst := dst) (ty := ty) (pos := pos) (after := after) (gd := gd) (w := w) hu hsz hx hy h0 h1 hn
  rw [add_lit, Nat.zero_add] at this
  exact this
theorem g_indexO {kk : IntKind} {i : Int} {g len cap sz n : Nat} (hu : P.underlying t = some (.slice e)) (hsz : (P.info? e).map (·.size) = some sz) (hx : ev σ x = .slice (some ⟨g, 0, none⟩) len cap) (hy : ev σ y = .int kk i)
    (h0 : 0 ≤ i) (h1 : i < len) (hn : i.toNat * sz = n)
    (hw : Region.wanted ⟨some d, .indexAddr t x y, ty, pos, after, gd⟩ (yl ops σ) = true := by rfl) (hd : Nat.blt d N = true := by rfl) (h : GL r P N ds ops Q rest (upd σ d (.pointer (some ⟨g, n, none⟩))) w) :
    GL r P N ds ops Q (⟨some d, .indexAddr t x y, ty, pos, after, gd⟩ :: rest) σ w :=
  GL_val hw (by intro c hc; cases hc) (r_indexO hu hsz hx hy h0 h1 hn) hd h
theorem run_storeR {α : Type} {enc : α → Value} {h1 : ∀ x, (enc x).oneCell' = true} {base g n cap : Nat} {ok : Nat → Prop} {xs : List α} {i : Int} {u : α} {dst : Option Nat} (hx : ev σ x = .pointer (some ⟨g, i.toNat, none⟩)) (hy : ev σ y = enc u) (hsz : (P.info? t).map (·.size) = some 1)
    (HO : (Kd.scalar enc h1).R e w base ok (.slice (some ⟨g, 0, none⟩) n cap) xs) (hi0 : 0 ≤ i) (hi : i < n) :
    ∃ w', (execOp (ev σ) ⟨dst, .store t x y, ty, pos, after, gd⟩).run P w = .ok .skip w' ∧ (Kd.scalar enc h1).R e w' base ok (.slice (some ⟨g, 0, none⟩) n cap) (xs.set i.toNat u) ∧ w.grownBy w' (some g) := by
  obtain ⟨i', hi', hzz⟩ := Option.map_eq_some_iff.1 hsz
  obtain ⟨hn, hc, hC⟩ := Kd.R_reads' HO
  have hz : ∃ d : α, True := by
    cases xs with
    | nil => simp at hn; omega
    | cons d _ => exact ⟨d, trivial⟩
  obtain ⟨d, _⟩ := hz
  obtain ⟨hcell, hf⟩ := Kd.R_celln d HO i hi0 hi
  obtain ⟨hR, hg⟩ := Kd.R_putg HO i u
  have ho : (enc u).oneCell' = true := h1 u
  have hcells : (enc u).cells = #[enc u] := by revert ho; generalize enc u = v; intro ho; cases v <;> first | rfl | simp [Value.oneCell'] at ho
  refine ⟨w.setCell ⟨g, i.toNat, none⟩ (enc u), ?_, hR, hg⟩
  simp only [execOp, hx, hy, Instr.storeAt, Instr.sureAddr, storeVar, hcells]
  have hst := run_store P w ⟨g, i.toNat, none⟩ (enc u) .plain ho
  rw [hcell] at hst
  simp only [hf, Bool.false_eq_true, if_false] at hst
  simp [sizeOf, typeInfo, hi', hzz, storeCells, Addr.add, hst]
theorem GO_storeR {E : List Nat} {C : World → Prop} {k : Nat} {L : Array Bool} {α : Type} {enc : α → Value} {h1 : ∀ x, (enc x).oneCell' = true} {base g n cap : Nat} {ok : Nat → Prop} {xs : List α} {i : Int} {u : α} {j : Nat} (hj : ops[j]? = some ⟨none, .store t x y, ty, pos, after, gd⟩)
    (hw : Region.wanted ⟨none, .store t x y, ty, pos, after, gd⟩ (yl ops σ) = true) (hx : ev σ x = .pointer (some ⟨g, i.toNat, none⟩)) (hy : ev σ y = enc u) (hsz : (P.info? t).map (·.size) = some 1)
    (HO : (Kd.scalar enc h1).R e w base ok (.slice (some ⟨g, 0, none⟩) n cap) xs) (hi0 : 0 ≤ i) (hi : i < n)
    (h : ∀ w', (Kd.scalar enc h1).R e w' base ok (.slice (some ⟨g, 0, none⟩) n cap) (xs.set i.toNat u) → w.grownBy w' (some g) → GD P N ds ops Q E C k (L.setIfInBounds j true) σ w') : GO P N ds ops Q E C k L j σ w := by
  obtain ⟨w', hr, hR, hg⟩ := run_storeR (σ := σ) (P := P) (dst := none) (ty := ty) (pos := pos) (after := after) (gd := gd) (x := x) (y := y) hx hy hsz HO hi0 hi
  exact GO_unit hj hw rfl rfl hr (h w' hR hg)
end
end Go.Proofs.G
