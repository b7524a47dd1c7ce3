/- Keeping what is known, step by step. -/
import Derived.Test.YtpfoleggapngoaaG7
set_option linter.unusedVariables false
set_option linter.unusedSimpArgs false
namespace Go.Proofs.G
open Go Go.RowKit Go.Proofs.YtpfoleggapngoaaW.PrintWords
/-- Below w's own size: as it was. -/
abbrev Bel (w w' : World) : Prop := Below w.heap.size w w'
section
variable {w w1 w2 : World} {g : Nat} {o : Obj}
theorem Ch.at0 (h : Ch nob w1 w2) (K : w1.heap[g]? = some o) : w2.heap[g]? = some o := h.at_ K id
theorem blt (K : w1.heap[g]? = some o) : g < w1.heap.size := (Array.getElem?_eq_some_iff.1 K).1
/-- New blocks only. -/
theorem Bel.new (hB : Bel w w1) {g' : Nat} {o' : Obj} (h : New w1 w2 g' o') : Bel w w2 := h.ch.step hB hB.size (fun _ _ => id)
theorem Bel.bel (hB : Bel w w1) (h : Bel w1 w2) : Bel w w2 := below_then hB hB.size h
theorem Bel.grown (hB : Bel w w1) {row : Option Nat} (h : w1.grownBy w2 row) (hr : ∀ k, row = some k → w.heap.size ≤ k) : Bel w w2 := Below.grown hB h hB.size hr
theorem Bel.put (hB : Bel w w1) {g' : Nat} {o' : Obj} (h : Put w1 w2 g' o') (hr : w.heap.size ≤ g') : Bel w w2 := h.ch.step hB hB.size (fun k hk e => by omega)
theorem Bel.drew (hB : Bel w w1) : Bel w (w1.drewN 1) := (Ch.of_drewN w1 1).step hB hB.size (fun _ _ => id)
theorem Bel.of_new {g' : Nat} {o' : Obj} (h : New w w1 g' o') : Bel w w1 := Bel.new (Below.refl _ _) h
theorem Bel.cellk {a : Addr} {v : Value} (hB : Bel w w1) (h : w.cell? a = some v) : w1.cell? a = some v := (hB.cell (World.block_lt_of_cell? w _ h)).trans h
theorem kN (K : w1.heap[g]? = some o) {g' : Nat} {o' : Obj} (h : New w1 w2 g' o') : w2.heap[g]? = some o := h.ch.at0 K
theorem kB (K : w1.heap[g]? = some o) (h : Bel w1 w2) : w2.heap[g]? = some o := (Ch.of_below h).at0 K
theorem kG (K : w1.heap[g]? = some o) {row : Option Nat} (h : w1.grownBy w2 row) (hne : some g ≠ row) : w2.heap[g]? = some o := (Ch.of_grown h).at_ K hne
theorem kP (K : w1.heap[g]? = some o) {g' : Nat} {o' : Obj} (h : Put w1 w2 g' o') (hne : g ≠ g') : w2.heap[g]? = some o := h.ch.at_ K hne
theorem ne_ty {g' : Nat} {c c' : Array Value} {t t' : TypeId} {f f' : Nat × Nat} (h : w.heap[g]? = some (.cells c t f)) (h' : w.heap[g']? = some (.cells c' t' f')) (hne : t ≠ t') : g ≠ g' := fun e => by
  subst e
  rw [h'] at h
  injection h with h
  injection h with _ h _
  exact hne h.symm
theorem New.ge (h : New w w1 g o) : w.heap.size ≤ g := Nat.le_of_eq h.size
theorem New.ne {g' : Nat} {o' : Obj} (h : New w1 w2 g o) (K : w1.heap[g']? = some o') : g' ≠ g := fun e => by have := blt K; have := h.size; omega
theorem New.ne' {g' : Nat} {o' : Obj} (h : New w1 w2 g o) (K : w1.heap[g']? = some o') : g ≠ g' := fun e => h.ne K e.symm

section
variable {α : Type} {d : Kd α} {e base : Nat} {ok : Nat → Prop} {v : Value} {xs : List α}
theorem rN (h : d.R e w1 base ok v xs) {g' : Nat} {o' : Obj} (hn : New w1 w2 g' o') : d.R e w2 base ok v xs := Kd.R_step h (fun k _ hk => hn.ch.blk k hk id)
theorem rB (h : d.R e w1 base ok v xs) (hb : Bel w1 w2) : d.R e w2 base ok v xs := Kd.R_below h hb
theorem rP (h : d.R e w1 base ok v xs) {g' : Nat} {o' : Obj} (hp : Put w1 w2 g' o') (hok : ∀ k, ok k → k ≠ g') : d.R e w2 base ok v xs := Kd.R_step h (fun k ho hk => hp.ch.blk k hk (hok k ho))
theorem rG (h : d.R e w1 base ok v xs) {row : Option Nat} (hg : w1.grownBy w2 row) (hok : ∀ k, ok k → some k ≠ row) : d.R e w2 base ok v xs := Kd.R_grown h hg hok
theorem cN {A : Option Addr} {n : Nat} (h : d.C w1 A n xs) {g' : Nat} {o' : Obj} (hn : New w1 w2 g' o') : d.C w2 A n xs := Kd.C_below h (Bel.of_new hn)
end
/-- What a row's block can't be: by the type of its cells. -/
theorem ne_own {α : Type} {d : Kd α} {e base : Nat} {ok : Nat → Prop} {v : Value} {xs : List α} (h : d.R e w1 base ok v xs) {t : Nat} {cells : Array Value} {fr : Nat × Nat} (hb : w1.heap[g]? = some (.cells cells t fr)) (ht : e ≠ t) : some g ≠ v.ownBlock := R_ne h hb ht
end
theorem add_add' (a : Addr) (i j : Nat) : (a.add i).add j = a.add (i + j) := by
  obtain ⟨g, o, s⟩ := a
  unfold Addr.add
  by_cases hi : i = 0
  · subst hi; simp
  · by_cases hj : j = 0
    · subst hj; simp [hi]
    · simp [hi, hj, Nat.add_assoc]
/-- An element's cells, in a later world. -/
theorem cells_at {w w1 : World} {ad : Addr} {i : Nat} {cs : List Value} (hc : ∀ j u, cs[j]? = some u → w.cell? (ad.add (i + j)) = some u) (hB : Bel w w1) : ∀ j u, cs[j]? = some u → w1.cell? ((ad.add i).add j) = some u := fun j u h => by
  rw [add_add']; exact hB.cellk (hc j u h)
theorem dead {E : List Nat} {L : Array Bool} {p : Prop} (e : Nat) (he : E.contains e = true) (hL : L.getD e true = true) : live E L → p := fun h => by
  have := h e (by simpa using he)
  rw [hL] at this
  cases this
section
variable {P : Program} {fn : Func} {R : Ending → World → Prop} {σ : Nat → Value} {w : World} {N : Nat}
/-- Results: a variable's, and a value. -/
theorem retct {p u : Tmp} {t : TypeId} {v : Value} (h : fn.results = #[.cell p t, .tmp u]) (ad : Addr) (hp : σ p = .pointer (some ad)) (hrun : (loadVar t ad).run P w = .ok v w) (hR : R (.returned (.tuple #[v, σ u])) w) :
    ∀ a, St N [] σ a → bodyPost P fn R .ret a w :=
  fun a ha => ⟨ha.defers, .tuple #[v, a.tmps.getD u undef], by simp [results, h, ha.val, hp, asAddr, Sem.run_bind, hrun], by rw [ha.val]; exact hR⟩
theorem loadVarA {ad : Addr} {l : List Value} {t : TypeId} {dsc : TypeDesc} (ht : P.underlying t = some dsc) (hsz : (P.info? t).map (·.size) = some l.length)
    (hc : ∀ j v, l[j]? = some v → w.cell? (ad.add j) = some v) (hs : isAggD dsc = true := by rfl) : (loadVar t ad).run P w = .ok (.agg l.toArray) w := by
  obtain ⟨i, hi, hzz⟩ := Option.map_eq_some_iff.1 hsz
  have h1 := run_isAgg (w := w) ht
  rw [hs] at h1
  have h2 := run_loadCells_list (P := P) (w := w) ad l hc
  simp [loadVar, h1, sizeOf, typeInfo, hi, hzz, h2, Result.andThen]
end
section
variable {r : Option Nat} {P : Program} {N : Nat} {ds : List Deferred} {Q : Exit → Act → World → Prop} {σ : Nat → Value} {w : World}
variable {ops : Array Oper} {rest : List Oper} {ty : TypeId} {pos : String} {after : Array Edge} {gd : Option (Nat × Bool)} {d : Nat} {x y : Operand} {t e : TypeId}
/-- []T{x}: one element of one cell. -/
theorem g_lit1 {v : Value} (hrun : ∀ w v, v.oneCell' = true → (Instr.buildSlice t 1 #[(0, v)]).run P w = .ok (.slice (some ⟨w.heap.size, 0, none⟩) 1 1) (w.alloc (.cells #[v] e))) (hx : ev σ x = v) (hv : v.oneCell' = true)
    (hw : Region.wanted ⟨some d, .buildSlice t 1 #[(0, x)], ty, pos, after, gd⟩ (yl ops σ) = true := by rfl) (hd : Nat.blt d N = true := by rfl)
    (h : ∀ g w', New w w' g (.cells #[v] e) → GL r P N ds ops Q rest (upd σ d (.slice (some ⟨g, 0, none⟩) 1 1)) w') :
    GL r P N ds ops Q (⟨some d, .buildSlice t 1 #[(0, x)], ty, pos, after, gd⟩ :: rest) σ w :=
  g_buildSlice (len := 1) (cells := #[v]) (by simp only [List.map_toArray, List.map_cons, List.map_nil, hx]; exact hrun w v hv) hw hd h
theorem bld_map (l : List (Nat × Operand)) (σ : Nat → Value) : (l.toArray.map fun (i, x) => (i, ev σ x)) = (l.map fun p => (p.1, ev σ p.2)).toArray := by rw [List.map_toArray]
/-- T{..}. -/
theorem g_bld {parts : List (Nat × Operand)} {vals : List (Nat × Value)} {v : Value} (hrun : (Instr.build t vals.toArray).run P w = .ok v w) (hv : parts.map (fun p => (p.1, ev σ p.2)) = vals)
    (hw : Region.wanted ⟨some d, .build t parts.toArray, ty, pos, after, gd⟩ (yl ops σ) = true := by rfl) (hd : Nat.blt d N = true := by rfl) (h : GL r P N ds ops Q rest (upd σ d v) w) :
    GL r P N ds ops Q (⟨some d, .build t parts.toArray, ty, pos, after, gd⟩ :: rest) σ w :=
  g_build (by rw [bld_map, hv]; exact hrun) hw hd h
theorem r_bld {dst : Option Nat} {parts : List (Nat × Operand)} {vals : List (Nat × Value)} {v : Value} (hrun : (Instr.build t vals.toArray).run P w = .ok v w) (hv : parts.map (fun p => (p.1, ev σ p.2)) = vals) :
    (execOp (ev σ) ⟨dst, .build t parts.toArray, ty, pos, after, gd⟩).run P w = .ok (.value v) w := r_build (by rw [bld_map, hv]; exact hrun)
/-- []T{..}: a new block. -/
theorem g_lits {parts : List (Nat × Operand)} {vals : List (Nat × Value)} {len : Nat} {cells : Array Value} (hrun : (Instr.buildSlice t len vals.toArray).run P w = .ok (.slice (some ⟨w.heap.size, 0, none⟩) len len) (w.alloc (.cells cells e))) (hv : parts.map (fun p => (p.1, ev σ p.2)) = vals)
    (hw : Region.wanted ⟨some d, .buildSlice t len parts.toArray, ty, pos, after, gd⟩ (yl ops σ) = true := by rfl) (hd : Nat.blt d N = true := by rfl)
    (h : ∀ g w', New w w' g (.cells cells e) → GL r P N ds ops Q rest (upd σ d (.slice (some ⟨g, 0, none⟩) len len)) w') :
    GL r P N ds ops Q (⟨some d, .buildSlice t len parts.toArray, ty, pos, after, gd⟩ :: rest) σ w :=
  g_buildSlice (by rw [bld_map, hv]; exact hrun) hw hd h
/-- []T{..}, told as a row of one's own. -/
theorem g_litsR {α : Type} (k : Kd α) {parts : List (Nat × Operand)} {vals : List (Nat × Value)} {len : Nat} {xs : List α} {inner : List Value} {okp : Nat → Prop} (hrun : (Instr.buildSlice t len vals.toArray).run P w = .ok (.slice (some ⟨w.heap.size, 0, none⟩) len len) (w.alloc (.cells inner.toArray e)))
    (hv : parts.map (fun p => (p.1, ev σ p.2)) = vals) (hl : xs.length = len) (hm : len ≤ 1000000) (hrep : Reps (k.M w w.heap.size okp) k.sz xs inner)
    (hw : Region.wanted ⟨some d, .buildSlice t len parts.toArray, ty, pos, after, gd⟩ (yl ops σ) = true := by rfl) (hd : Nat.blt d N = true := by rfl)
    (h : ∀ g w', k.R e w' w.heap.size (fun _ => True) (.slice (some ⟨g, 0, none⟩) len len) xs → w.grownBy w' none → GL r P N ds ops Q rest (upd σ d (.slice (some ⟨g, 0, none⟩) len len)) w') :
    GL r P N ds ops Q (⟨some d, .buildSlice t len parts.toArray, ty, pos, after, gd⟩ :: rest) σ w :=
  g_litR k (by rw [bld_map, hv]; exact hrun) hl hm hrep hw hd h
theorem run_store1 {dst : Option Nat} {g o : Nat} {cs : Array Value} {t0 : TypeId} {v : Value} (hx : ev σ x = .pointer (some ⟨g, o, none⟩)) (hy : ev σ y = v) (hsz : (P.info? t).map (·.size) = some 1) (hb : w.heap[g]? = some (.cells cs t0 (0, 0)))
    (ho : o < cs.size) (h1 : v.oneCell' = true) : (execOp (ev σ) ⟨dst, .store t x y, ty, pos, after, gd⟩).run P w = .ok .skip (w.setCell ⟨g, o, none⟩ v) := by
  obtain ⟨i, hi, hzz⟩ := Option.map_eq_some_iff.1 hsz
  have hc : w.cell? ⟨g, o, none⟩ = some cs[o] := by rw [cell_of_row w g o cs t0 (0, 0) hb]; simp [ho]
  have hf : w.frozen? ⟨g, o, none⟩ = false := frozen_of_row w g o cs t0 hb
  have hcells : v.cells = #[v] := by cases v <;> first | rfl | simp [Value.oneCell'] at h1
  simp only [execOp, hx, hy, Instr.storeAt, Instr.sureAddr, storeVar, hcells]
  have hst := run_store P w ⟨g, o, none⟩ v .plain h1
  rw [hc] at hst
  simp only [hf, Bool.false_eq_true, if_false] at hst
  simp [sizeOf, typeInfo, hi, hzz, storeCells, Addr.add, hst]
theorem GD_store1 {E : List Nat} {C : World → Prop} {k : Nat} {L : Array Bool} {g o : Nat} {cs : Array Value} {t0 : TypeId} {v : Value} (i : Nat) (hi : ops[i]? = some ⟨none, .store t x y, ty, pos, after, gd⟩) (hr : Region.ready .any ops L = [i]) (hC : live E L → C w)
    (hw : Region.wanted ⟨none, .store t x y, ty, pos, after, gd⟩ (yl ops σ) = true) (hx : ev σ x = .pointer (some ⟨g, o, none⟩)) (hy : ev σ y = v) (hsz : (P.info? t).map (·.size) = some 1) (hb : w.heap[g]? = some (.cells cs t0 (0, 0)))
    (ho : o < cs.size) (h1 : v.oneCell' = true) (h : ∀ w', Put w w' g (.cells (cs.setIfInBounds o v) t0 (0, 0)) → GD P N ds ops Q E C k (L.setIfInBounds i true) σ w') : GD P N ds ops Q E C (k + 1) L σ w :=
  GD_unit i hi hr hC hw rfl rfl (run_store1 hx hy hsz hb ho h1) (h _ (cells_put hb v))
theorem run_storeA {dst : Option Nat} {g : Nat} {cs cells : Array Value} {t0 : TypeId} (hx : ev σ x = .pointer (some ⟨g, 0, none⟩)) (hy : ev σ y = .agg cells) (hsz : (P.info? t).map (·.size) = some cells.size) (hb : w.heap[g]? = some (.cells cs t0 (0, 0)))
    (hl : cells.size = cs.size) (h1 : ∀ v ∈ cells, v.oneCell' = true) : (execOp (ev σ) ⟨dst, .store t x y, ty, pos, after, gd⟩).run P w = .ok .skip (w.setRow g cells) := by
  obtain ⟨i, hi, hzz⟩ := Option.map_eq_some_iff.1 hsz
  have hst := run_storeCells_from (P := P) g t0 cells.toList 0 cs w hb (by simpa using hl) (by simpa using h1)
  simp only [execOp, hx, hy, Instr.storeAt, Instr.sureAddr, storeVar, Value.cells]
  simp only [List.take_zero, List.nil_append, Array.toArray_toList, List.take] at hst
  simp [sizeOf, typeInfo, hi, hzz, hst]
theorem GD_storeA {E : List Nat} {C : World → Prop} {k : Nat} {L : Array Bool} {g : Nat} {cs cells : Array Value} {t0 : TypeId} (i : Nat) (hi : ops[i]? = some ⟨none, .store t x y, ty, pos, after, gd⟩) (hr : Region.ready .any ops L = [i]) (hC : live E L → C w)
    (hw : Region.wanted ⟨none, .store t x y, ty, pos, after, gd⟩ (yl ops σ) = true) (hx : ev σ x = .pointer (some ⟨g, 0, none⟩)) (hy : ev σ y = .agg cells) (hsz : (P.info? t).map (·.size) = some cells.size) (hb : w.heap[g]? = some (.cells cs t0 (0, 0)))
    (hl : cells.size = cs.size) (h1 : ∀ v ∈ cells, v.oneCell' = true) (h : ∀ w', Put w w' g (.cells cells t0 (0, 0)) → GD P N ds ops Q E C k (L.setIfInBounds i true) σ w') : GD P N ds ops Q E C (k + 1) L σ w :=
  GD_unit i hi hr hC hw rfl rfl (run_storeA hx hy hsz hb hl h1) (h _ (setRow_put hb))
/-- A call in a region that draws: it alone is ready. -/
theorem GD_call {E : List Nat} {C : World → Prop} {k : Nat} {L : Array Bool} {f : FuncId} {args : List Operand} {ts : Array TypeId} {vals : List Value} {R : Ending → World → Prop} (i : Nat) (hi : ops[i]? = some ⟨some d, .call { callee := .value (.func f), args := args.toArray, argTypes := ts }, ty, pos, after, gd⟩) (hr : Region.ready .any ops L = [i]) (hC : live E L → C w)
    (hw : Region.wanted ⟨some d, .call { callee := .value (.func f), args := args.toArray, argTypes := ts }, ty, pos, after, gd⟩ (yl ops σ) = true) (hd : Nat.blt d N = true) (he : ∀ args w, (callFunc f args).run P w = .ok (.enter f args) w) (hv : args.map (ev σ) = vals) (hc : Calls P f vals.toArray w R)
    (h : ∀ e w', R e w' → ∃ v, e = .returned v ∧ GD P N ds ops Q E C k (L.setIfInBounds i true) (upd σ d v) w') : GD P N ds ops Q E C (k + 1) L σ w :=
  GD_enter i hi hr hC hw rfl hd (r_call he hv) hc h
/-- append(xs, ys...): cells. -/
theorem g_appendN {α : Type} {enc : α → Value} {hone : ∀ x, (enc x).oneCell' = true} {z : Value} {bytes base : Nat} (ht : P.underlying t = some (.slice e)) (hinfo : (P.info? e).map (fun i => (i.zero, i.size, i.bytes)) = some (some z, 1, bytes)) (hz : z.cells.size = 1)
    {v : Value} {xs ys : List α} {ok : Nat → Prop} {ad : Addr} {m c : Nat} (HO : (Kd.scalar enc hone).R e w base ok v xs) (hys : ys.length = m) (hc : ∀ j u, (ys.map enc)[j]? = some u → w.cell? (ad.add j) = some u)
    (hfresh : ∀ k, w.heap.size ≤ k → ok k) (hbase : base ≤ w.heap.size) (hl : (xs.length + m) * bytes ≤ 140737488355328) (hm : xs.length + m ≤ maxLen) (hx : ev σ x = v) (hy : ev σ y = .slice (some ad) m c)
    (hw : Region.wanted ⟨some d, .call { callee := .builtin .append, args := #[x, y], argTypes := #[t, t] }, ty, pos, after, gd⟩ (yl ops σ) = true := by rfl) (hd : Nat.blt d N = true := by rfl)
    (h : ∀ v' w', (Kd.scalar enc hone).R e w' base ok v' (xs ++ ys) → w.grownBy w' v.ownBlock → GL r P N ds ops Q rest (upd σ d v') w') :
    GL r P N ds ops Q (⟨some d, .call { callee := .builtin .append, args := #[x, y], argTypes := #[t, t] }, ty, pos, after, gd⟩ :: rest) σ w := by
  obtain ⟨i0, hi, hzz⟩ := Option.map_eq_some_iff.1 hinfo
  simp only [Prod.mk.injEq] at hzz
  obtain ⟨hz0, hz1, hz2⟩ := hzz
  have hown := Kd.own_of_R HO
  obtain ⟨v', w', hrun, r1, r2, r3, r4⟩ := run_append_own_at (P := P) w base t ty e i0 z 1 bytes ht hi hz0 hz1 hz2 hz (by decide) v xs.length (encs enc xs) hown ad m c (ys.map enc) (by simp [hys]) hc (by simpa using fun a _ => hone a) hm hl hbase
  refine GL_val hw (by intro c hc; cases hc) (v := v') (w' := w') (by simp [execOp, resolve, invoke, builtin, hx, hy, hrun]) hd (h v' w' (Kd.R_of_own (by
    have : encs enc (xs ++ ys) = encs enc xs ++ ys.map enc := by simp [encs]
    rw [this, List.length_append, hys]; exact r1) fun k hk => ?_) r2)
  rcases r4 with r4 | r4
  · rw [r4] at hk; exact HO.1 k hk
  · rw [r4] at hk; injection hk with hk; exact hfresh k (by omega)
end
end Go.Proofs.G
