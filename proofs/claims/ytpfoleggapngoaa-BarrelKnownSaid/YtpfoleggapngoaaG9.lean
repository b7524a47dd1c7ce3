/- More operations: joins of ways, bits, rows that are written. -/
import Derived.Test.YtpfoleggapngoaaG5
import Derived.Laws.OwnMore
import Derived.DeepKeys3
import Derived.Maps.Keyed
set_option linter.unusedVariables false
set_option linter.unusedSimpArgs false
namespace Go.Proofs.G
open Go Go.RowKit Go.Proofs.YtpfoleggapngoaaW.PrintWords
section
variable {r : Option Nat} {P : Program} {N : Nat} {ds : List Deferred} {Q : Exit → Act → World → Prop} {σ : Nat → Value} {w : World}
attribute [local semireducible] GC GL in
/-- Where ways meet: what holds there. -/
theorem GC_join {x y : Code} (I : (Nat → Value) → World → Prop) (h1 : GC r P N ds x (Exit.then (fun a w => ∃ σ', St N ds σ' a ∧ I σ' w) Q) σ w) (h2 : ∀ σ' w', I σ' w' → GC r P N ds y Q σ' w') : GC r P N ds (.seq x y) Q σ w := by
  intro a ha
  refine wpIn_seq (wpIn_mono (h1 a ha) ?_)
  intro e a' w' hq
  cases e with
  | normal =>
    obtain ⟨σ', hs, hi⟩ := hq
    exact h2 σ' w' hi a' hs
  | exit id => exact hq
  | goto l => exact hq
  | ret => exact hq
  | panic ch => exact hq
  | outgrown => exact hq
/-- The way's end at a join. -/
theorem join_end {I : (Nat → Value) → World → Prop} (h : I σ w) : ∀ a, St N ds σ a → Exit.then (fun a w => ∃ σ', St N ds σ' a ∧ I σ' w) Q .normal a w := fun a ha => ⟨σ, ha, h⟩
end
section
variable {r : Option Nat} {P : Program} {N : Nat} {ds : List Deferred} {Q : Exit → Act → World → Prop} {σ : Nat → Value} {w : World}
variable {ops : Array Oper} {rest : List Oper} {ty : TypeId} {pos : String} {after : Array Edge} {gd : Option (Nat × Bool)} {d : Nat} {dst : Option Nat} {x y : Operand} {t t' e : TypeId}
/-- An operation by its run. -/
theorem g_v {o : Oper} {v : Value} {w' : World} (hrun : (execOp (ev σ) o).run P w = .ok (.value v) w') (hw : Region.wanted o (yl ops σ) = true := by rfl) (hnd : noDefer o = true := by rfl) (hd : dstok N o.dst = true := by rfl)
    (h : GL r P N ds ops Q rest (updo σ o.dst v) w') : GL r P N ds ops Q (o :: rest) σ w :=
  GL_val hw (fun c hc => by rw [noDefer, hc] at hnd; cases hnd) hrun hd h
section
variable {a b : Int}
theorem r_mul (hx : ev σ x = .int .i64 a) (hy : ev σ y = .int .i64 b) (hr : -9223372036854775808 ≤ a * b ∧ a * b ≤ 9223372036854775807) : (execOp (ev σ) ⟨dst, .binOp .mul t x y t', ty, pos, after, gd⟩).run P w = .ok (.value (.int .i64 (a * b))) w := by simp [execOp, eqGuard, binOp, hx, hy, Op.intArith, IntWalk.i64_in _ hr]
theorem r_rem (hx : ev σ x = .int .i64 a) (hy : ev σ y = .int .i64 b) (hr : b ≠ 0) : (execOp (ev σ) ⟨dst, .binOp .rem t x y t', ty, pos, after, gd⟩).run P w = .ok (.value (.int .i64 (a.tmod b))) w := by simp [execOp, eqGuard, binOp, hx, hy, Op.intDiv, hr]
theorem r_quo (hx : ev σ x = .int .i64 a) (hy : ev σ y = .int .i64 b) (hr : b ≠ 0) (h1 : -9223372036854775808 ≤ a.tdiv b ∧ a.tdiv b ≤ 9223372036854775807) : (execOp (ev σ) ⟨dst, .binOp .quo t x y t', ty, pos, after, gd⟩).run P w = .ok (.value (.int .i64 (a.tdiv b))) w := by simp [execOp, eqGuard, binOp, hx, hy, Op.intDiv, hr, IntWalk.i64_in _ h1]
theorem r_neg (hx : ev σ x = .int .i64 a) (hr : -9223372036854775808 ≤ -a ∧ -a ≤ 9223372036854775807) : (execOp (ev σ) ⟨dst, .unOp .neg t x, ty, pos, after, gd⟩).run P w = .ok (.value (.int .i64 (-a))) w := by simp [execOp, hx, Op.unary, Op.intArith, IntWalk.i64_in _ hr]
/-- 1 << n, n small. -/
theorem r_shl {n : Nat} {k : IntKind} (hx : ev σ x = .int .i64 a) (hy : ev σ y = .int k b) (hn : b = n) (h64 : n ≤ 64) (hr : -9223372036854775808 ≤ a * 2 ^ n ∧ a * 2 ^ n ≤ 9223372036854775807) : (execOp (ev σ) ⟨dst, .binOp .shl t x y t', ty, pos, after, gd⟩).run P w = .ok (.value (.int .i64 (a * 2 ^ n))) w := by
  subst hn
  have h1 : ¬ ((n : Int) < 0) := by omega
  have h2 : min n IntKind.i64.bits = n := Nat.min_eq_left h64
  simp [execOp, eqGuard, binOp, hx, hy, Op.shift, h1, h2, IntWalk.i64_in _ hr]
theorem r_shr {n : Nat} {k : IntKind} (hx : ev σ x = .int .i64 a) (hy : ev σ y = .int k b) (hn : b = n) (h64 : n ≤ 64) : (execOp (ev σ) ⟨dst, .binOp .shr t x y t', ty, pos, after, gd⟩).run P w = .ok (.value (.int .i64 (a.fdiv (2 ^ n)))) w := by
  subst hn
  have h1 : ¬ ((n : Int) < 0) := by omega
  have h2 : min n IntKind.i64.bits = n := Nat.min_eq_left h64
  simp [execOp, eqGuard, binOp, hx, hy, Op.shift, h1, h2, Int.fdiv_eq_ediv_of_nonneg _ (show (0 : Int) ≤ 2 ^ n from Int.pow_nonneg (by omega))]
/-- bits of numbers that are not negative. -/
theorem bv_of (n : Nat) (h : n < 2 ^ 63) : (BitVec.ofInt 64 (n : Int)).toNat = n := by
  rw [BitVec.ofInt_natCast, BitVec.toNat_ofNat]; omega
theorem r_and {m n : Nat} (hx : ev σ x = .int .i64 (m : Int)) (hy : ev σ y = .int .i64 (n : Int)) (hm : m < 2 ^ 63) (hn : n < 2 ^ 63) : (execOp (ev σ) ⟨dst, .binOp .and t x y t', ty, pos, after, gd⟩).run P w = .ok (.value (.int .i64 ((m &&& n : Nat) : Int))) w := by
  have h1 : (BitVec.ofInt 64 (m : Int) &&& BitVec.ofInt 64 (n : Int)).toNat = m &&& n := by rw [BitVec.toNat_and, bv_of m hm, bv_of n hn]
  have h2 : m &&& n < 2 ^ 63 := Nat.and_lt_two_pow _ hn
  have h3 : IntKind.i64.wrap ((BitVec.ofInt 64 (m : Int) &&& BitVec.ofInt 64 (n : Int)).toNat : Int) = ((m &&& n : Nat) : Int) := by rw [h1]; exact IntWalk.i64_in _ (by omega)
  simp only [execOp, eqGuard, binOp, hx, hy, Op.intBits]
  simp [IntKind.bits] at h3 ⊢
  exact h3
theorem r_or {m n : Nat} (hx : ev σ x = .int .i64 (m : Int)) (hy : ev σ y = .int .i64 (n : Int)) (hm : m < 2 ^ 63) (hn : n < 2 ^ 63) : (execOp (ev σ) ⟨dst, .binOp .or t x y t', ty, pos, after, gd⟩).run P w = .ok (.value (.int .i64 ((m ||| n : Nat) : Int))) w := by
  have h1 : (BitVec.ofInt 64 (m : Int) ||| BitVec.ofInt 64 (n : Int)).toNat = m ||| n := by rw [BitVec.toNat_or, bv_of m hm, bv_of n hn]
  have h2 : m ||| n < 2 ^ 63 := Nat.or_lt_two_pow hm hn
  have h3 : IntKind.i64.wrap ((BitVec.ofInt 64 (m : Int) ||| BitVec.ofInt 64 (n : Int)).toNat : Int) = ((m ||| n : Nat) : Int) := by rw [h1]; exact IntWalk.i64_in _ (by omega)
  simp only [execOp, eqGuard, binOp, hx, hy, Op.intBits]
  simp [IntKind.bits] at h3 ⊢
  exact h3
end
theorem r_min {a b m : Int} {ts : Array TypeId} (hx : ev σ x = .int .i64 a) (hy : ev σ y = .int .i64 b) (hm : min a b = m) :
    (execOp (ev σ) ⟨dst, .call { callee := .builtin .min, args := #[x, y], argTypes := ts }, ty, pos, after, gd⟩).run P w = .ok (.value (.int .i64 m)) w := by
  have : (if b < a then b else a) = m := by rw [← hm]; split <;> omega
  simp [execOp, resolve, hx, hy, invoke, builtin, Builtin.min_, Builtin.min2, this]
theorem equal_bool {a b : Bool} (ht : P.underlying t = some .bool) : (Op.equal t (.bool a) (.bool b)).run P w = .ok (a == b) w := by
  unfold Op.equal Op.maxDepth
  rw [show (10000 : Nat) = 9999 + 1 from rfl, Op.equalIn]
  simp [run_underlying ht]
/-- bool == bool. -/
theorem r_eqlB {a b : Bool} (ht : P.underlying t = some .bool) (hx : ev σ x = .bool a) (hy : ev σ y = .bool b) : (execOp (ev σ) ⟨dst, .binOp .eql t x y t', ty, pos, after, gd⟩).run P w = .ok (.value (.bool (a == b))) w := by
  simp [execOp, eqGuard, binOp, hx, hy, equal_bool ht]
theorem r_neqB {a b : Bool} (ht : P.underlying t = some .bool) (hx : ev σ x = .bool a) (hy : ev σ y = .bool b) : (execOp (ev σ) ⟨dst, .binOp .neq t x y t', ty, pos, after, gd⟩).run P w = .ok (.value (.bool (!(a == b)))) w := by
  simp [execOp, eqGuard, binOp, hx, hy, equal_bool ht]
/-- A store into a row of scalars of one's own. -/
theorem g_storeR {α : Type} {enc : α → Value} {h1 : ∀ x, (enc x).oneCell' = true} {base g n cap : Nat} {ok : Nat → Prop} {xs : List α} {i : Int} {u : α} (hx : ev σ x = .pointer (some ⟨g, i.toNat, none⟩)) (hy : ev σ y = enc u) (hsz : (P.info? t).map (·.size) = some 1)
    (HO : (Kd.scalar enc h1).R e w base ok (.slice (some ⟨g, 0, none⟩) n cap) xs) (hi0 : 0 ≤ i) (hi : i < n)
    (hw : Region.wanted ⟨none, .store t x y, ty, pos, after, gd⟩ (yl ops σ) = true := by rfl)
    (h : ∀ w', (Kd.scalar enc h1).R e w' base ok (.slice (some ⟨g, 0, none⟩) n cap) (xs.set i.toNat u) → w.grownBy w' (some g) → GL r P N ds ops Q rest σ w') :
    GL r P N ds ops Q (⟨none, .store t x y, ty, pos, after, gd⟩ :: rest) σ w := by
  obtain ⟨i', hi', hzz⟩ := Option.map_eq_some_iff.1 hsz
  obtain ⟨hn, hc, hC⟩ := Kd.R_reads' HO
  have hz : ∃ d : α, True := by
    cases xs with
    | nil => simp at hn; omega
    | cons d _ => exact ⟨d, trivial⟩
  obtain ⟨d, _⟩ := hz
  obtain ⟨hcell, hf⟩ := Kd.R_celln d HO i hi0 hi
  obtain ⟨hR, hg⟩ := Kd.R_putg HO i u
  have ho : (enc u).oneCell' = true := h1 u
  have hcells : (enc u).cells = #[enc u] := by revert ho; generalize enc u = v; intro ho; cases v <;> first | rfl | simp [Value.oneCell'] at ho
  refine GL_unit hw (by intro c hc; cases hc) (w' := w.setCell ⟨g, i.toNat, none⟩ (enc u)) ?_ rfl (h _ hR hg)
  simp only [execOp, hx, hy, Instr.storeAt, Instr.sureAddr, storeVar, hcells]
  have hst := run_store P w ⟨g, i.toNat, none⟩ (enc u) .plain ho
  rw [hcell] at hst
  simp only [hf, Bool.false_eq_true, if_false] at hst
  simp [sizeOf, typeInfo, hi', hzz, storeCells, Addr.add, hst]
/-- A row that has just been laid. -/
theorem fresh_R {α : Type} (k : Kd α) {xs : List α} {inner : List Value} {okp : Nat → Prop} (hrep : Reps (k.M w w.heap.size okp) k.sz xs inner) (hm : xs.length ≤ 9223372036854775807) :
    k.R e (w.alloc (.cells inner.toArray e)) w.heap.size (fun _ => True) (.slice (some ⟨w.heap.size, 0, none⟩) xs.length xs.length) xs := by
  refine ⟨fun _ _ => trivial, inner, ?_, ?_⟩
  · have h2 := World.ownsRow_lit (base := w.heap.size) (e := e) (size := k.sz) w inner.toArray xs.length (Nat.le_refl _) (by simpa [maxLen] using hm) (by simpa using hrep.1)
    simpa using h2
  · refine hrep.imp_ (fun p c hp => k.M_mono (fun k hk => ⟨trivial, fun he => ?_⟩) (Kd.M_below (k.M_bound hp) (below_alloc (Below.refl _ _) _)))
    have h3 : k = w.heap.size := by simpa [Value.ownBlock] using he
    have := hk.2.2.1
    omega
/-- A literal, told as a row of one's own. -/
theorem g_litR {α : Type} (k : Kd α) {parts : Array (Nat × Operand)} {len : Nat} {xs : List α} {inner : List Value} {okp : Nat → Prop} (hrun : (Instr.buildSlice t len (parts.map fun (i, x) => (i, ev σ x))).run P w = .ok (.slice (some ⟨w.heap.size, 0, none⟩) len len) (w.alloc (.cells inner.toArray e)))
    (hl : xs.length = len) (hm : len ≤ 1000000) (hrep : Reps (k.M w w.heap.size okp) k.sz xs inner)
    (hw : Region.wanted ⟨some d, .buildSlice t len parts, ty, pos, after, gd⟩ (yl ops σ) = true := by rfl) (hd : Nat.blt d N = true := by rfl)
    (h : ∀ g w', k.R e w' w.heap.size (fun _ => True) (.slice (some ⟨g, 0, none⟩) len len) xs → w.grownBy w' none → GL r P N ds ops Q rest (upd σ d (.slice (some ⟨g, 0, none⟩) len len)) w') :
    GL r P N ds ops Q (⟨some d, .buildSlice t len parts, ty, pos, after, gd⟩ :: rest) σ w := by
  subst hl
  exact GL_val hw (by intro c hc; cases hc) (v := .slice (some ⟨w.heap.size, 0, none⟩) xs.length xs.length) (w' := w.alloc (.cells inner.toArray e)) (by simp only [execOp]; rw [Sem.run_bind, hrun]; rfl) hd
    (h _ _ (fresh_R k hrep (by omega)) (World.grownBy_alloc w _ none))
/-- make([]T, n). -/
theorem g_makeR {α : Type} (k : Kd α) {n : Nat} {z : Value} {z0 : α} {bytes : Nat} {okp : Nat → Prop} (ht : P.underlying t = some (.slice e)) (hinfo : (P.info? e).map (fun i => (i.zero, i.size, i.bytes)) = some (some z, k.sz, bytes)) (hz : z.cells.size = k.sz) (hs0 : 0 < k.sz) (hb0 : 0 < bytes)
    (hzero : k.M w w.heap.size okp z0 z.cells.toList) (hx : ev σ x = .int .i64 (n : Int)) (hy : ev σ y = .int .i64 (n : Int)) (hl : n * bytes ≤ 281474976710656)
    (hw : Region.wanted ⟨some d, .makeSlice t x y, ty, pos, after, gd⟩ (yl ops σ) = true := by rfl) (hd : Nat.blt d N = true := by rfl)
    (h : ∀ g w', k.R e w' w.heap.size (fun _ => True) (.slice (some ⟨g, 0, none⟩) n n) (List.replicate n z0) → w.grownBy w' none → GL r P N ds ops Q rest (upd σ d (.slice (some ⟨g, 0, none⟩) n n)) w') :
    GL r P N ds ops Q (⟨some d, .makeSlice t x y, ty, pos, after, gd⟩ :: rest) σ w := by
  obtain ⟨i0, hi, hzz⟩ := Option.map_eq_some_iff.1 hinfo
  simp only [Prod.mk.injEq] at hzz
  obtain ⟨hz0, hz1, hz2⟩ := hzz
  have hm : n ≤ 281474976710656 := Nat.le_trans (Nat.le_mul_of_pos_right _ hb0) hl
  have hr := run_make (P := P) w t e i0 z ht hi hz0 .i64 .i64 (n : Int) (n : Int) (by omega) (Int.le_refl _)
    (by
      have h3 : ((i0.bytes * n : Nat) : Int) ≤ 281474976710656 := by rw [hz2, Nat.mul_comm]; omega
      rwa [Int.natCast_mul] at h3) (by omega)
  simp only [Int.toNat_natCast] at hr
  rw [hz1] at hr
  have hR := fresh_R (e := e) k (xs := List.replicate n z0) (inner := (madeCells z.cells (n * k.sz)).toList) (okp := okp) (Kd.reps_made hz hs0 hzero n) (by simp; omega)
  rw [List.length_replicate, Array.toArray_toList] at hR
  exact GL_val hw (by intro c hc; cases hc) (v := .slice (some ⟨w.heap.size, 0, none⟩) n n) (w' := w.alloc (.cells (madeCells z.cells (n * k.sz)) e)) (by simp [execOp, hx, hy, hr]) hd (h _ _ hR (World.grownBy_alloc w _ none))
end
end Go.Proofs.G

/- Short names, for printed walks. -/
set_option linter.unusedVariables false
namespace Go.Proofs.G
open Go Go.RowKit
section
variable {r : Option Nat} {P : Program} {N : Nat} {ds : List Deferred} {Q : Exit → Act → World → Prop} {σ : Nat → Value} {w : World}
theorem Sq {x y : Code} (h : GC r P N ds x (Exit.then (fun a w => y.wpIn (FR r) 0 P Q a w) Q) σ w) : GC r P N ds (.seq x y) Q σ w := GC_seq h
theorem Sk (h : ∀ a, St N ds σ a → Q .normal a w) : GC r P N ds .skip Q σ w := GC_skip h
theorem Lb {l : Nat} (h : ∀ a, St N ds σ a → Q .normal a w) : GC r P N ds (.label l) Q σ w := GC_label h
theorem Xi {id : Nat} (h : ∀ a, St N ds σ a → Q (.exit id) a w) : GC r P N ds (.exit id) Q σ w := GC_exit h
theorem Rt (h : ∀ a, St N ds σ a → Q .ret a w) : GC r P N ds .ret Q σ w := GC_ret h
theorem Ct {c : Operand} {x y : Code} (hc : ev σ c = .bool true) (h : GC r P N ds x Q σ w) : GC r P N ds (.cond c x y) Q σ w := GC_cond_true hc h
theorem Cf {c : Operand} {x y : Code} (hc : ev σ c = .bool false) (h : GC r P N ds y Q σ w) : GC r P N ds (.cond c x y) Q σ w := GC_cond_false hc h
theorem Bk {id : Nat} {c : Code} (h : GC r P N ds c (Exit.inBlock id Q) σ w) : GC r P N ds (.block id c) Q σ w := GC_block h
theorem Rg {id : Nat} {l : List Oper} (h : GL r P N ds l.toArray Q l σ w) : GC r P N ds (.region id l.toArray false) Q σ w := GC_region h
theorem Nl {ops : Array Oper} (h : ∀ a, St N ds σ a → Q .normal a w) : GL r P N ds ops Q [] σ w := GL_nil h
theorem Tn {y : Code} (h : GC r P N ds y Q σ w) : ∀ a, St N ds σ a → Exit.then (fun a w => y.wpIn (FR r) 0 P Q a w) Q .normal a w := then_normal rfl h
theorem Tx {K : Act → World → Prop} {id : Nat} (h : ∀ a, St N ds σ a → Q (.exit id) a w) : ∀ a, St N ds σ a → Exit.then K Q (.exit id) a w := h
theorem Tr {K : Act → World → Prop} (h : ∀ a, St N ds σ a → Q .ret a w) : ∀ a, St N ds σ a → Exit.then K Q .ret a w := h
theorem Bn {id : Nat} (h : ∀ a, St N ds σ a → Q .normal a w) : ∀ a, St N ds σ a → Exit.inBlock id Q .normal a w := h
theorem Br {id : Nat} (h : ∀ a, St N ds σ a → Q .ret a w) : ∀ a, St N ds σ a → Exit.inBlock id Q .ret a w := h
theorem Bs {id : Nat} (h : ∀ a, St N ds σ a → Q .normal a w) : ∀ a, St N ds σ a → Exit.inBlock id Q (.exit id) a w := block_same h
theorem Bo {id id' : Nat} (h : ∀ a, St N ds σ a → Q (.exit id') a w) (hne : Nat.beq id' id = false := by rfl) : ∀ a, St N ds σ a → Exit.inBlock id Q (.exit id') a w := block_other hne h
variable {ops : Array Oper} {rest : List Oper} {ty : TypeId} {pos : String} {after : Array Edge} {gd : Option (Nat × Bool)} {d : Nat} {x y : Operand} {t e : TypeId}
theorem Mv (h : GL r P N ds ops Q rest (upd σ d (ev σ x)) w) (hw : Region.wanted ⟨some d, .move x, ty, pos, after, gd⟩ (yl ops σ) = true := by rfl) (hd : Nat.blt d N = true := by rfl) : GL r P N ds ops Q (⟨some d, .move x, ty, pos, after, gd⟩ :: rest) σ w := g_move hw hd h
theorem As (h : GL r P N ds ops Q rest (upd σ d (ev σ x)) w) (hw : Region.wanted ⟨some d, .assign x, ty, pos, after, gd⟩ (yl ops σ) = true := by rfl) (hd : Nat.blt d N = true := by rfl) : GL r P N ds ops Q (⟨some d, .assign x, ty, pos, after, gd⟩ :: rest) σ w := g_assign hw hd h
theorem Of {op : Op} (h : GL r P N ds ops Q rest (upd σ d undef) w) (hw : Region.wanted ⟨some d, op, ty, pos, after, gd⟩ (yl ops σ) = false := by rfl) (hd : Nat.blt d N = true := by rfl) : GL r P N ds ops Q (⟨some d, op, ty, pos, after, gd⟩ :: rest) σ w := g_off hw hd h
theorem Of0 {op : Op} (h : GL r P N ds ops Q rest σ w) (hw : Region.wanted ⟨none, op, ty, pos, after, gd⟩ (yl ops σ) = false := by rfl) : GL r P N ds ops Q (⟨none, op, ty, pos, after, gd⟩ :: rest) σ w := GL_skip hw rfl h
theorem Nt {b : Bool} (hx : ev σ x = .bool b) (h : GL r P N ds ops Q rest (upd σ d (.bool (!b))) w) (hw : Region.wanted ⟨some d, .unOp .not t x, ty, pos, after, gd⟩ (yl ops σ) = true := by rfl) (hd : Nat.blt d N = true := by rfl) : GL r P N ds ops Q (⟨some d, .unOp .not t x, ty, pos, after, gd⟩ :: rest) σ w := g_not hx hw hd h
theorem Pt {c : Operand} (hc : ev σ c = .bool true) (h : GL r P N ds ops Q rest (upd σ d (ev σ x)) w) (hw : Region.wanted ⟨some d, .pick c x y, ty, pos, after, gd⟩ (yl ops σ) = true := by rfl) (hd : Nat.blt d N = true := by rfl) : GL r P N ds ops Q (⟨some d, .pick c x y, ty, pos, after, gd⟩ :: rest) σ w := g_pickT hc hw hd h
theorem Pf {c : Operand} (hc : ev σ c = .bool false) (h : GL r P N ds ops Q rest (upd σ d (ev σ y)) w) (hw : Region.wanted ⟨some d, .pick c x y, ty, pos, after, gd⟩ (yl ops σ) = true := by rfl) (hd : Nat.blt d N = true := by rfl) : GL r P N ds ops Q (⟨some d, .pick c x y, ty, pos, after, gd⟩ :: rest) σ w := g_pickF hc hw hd h
theorem Xt {vs : Array Value} {i : Nat} {v : Value} (hx : ev σ x = .tuple vs) (hv : vs[i]? = some v) (h : GL r P N ds ops Q rest (upd σ d v) w) (hw : Region.wanted ⟨some d, .extract x i, ty, pos, after, gd⟩ (yl ops σ) = true := by rfl) (hd : Nat.blt d N = true := by rfl) : GL r P N ds ops Q (⟨some d, .extract x i, ty, pos, after, gd⟩ :: rest) σ w := g_extract hx hv hw hd h
theorem Mf {fn : Fn} {first captured : List Operand} (h : GL r P N ds ops Q rest (upd σ d (.func fn (first.map (ev σ)).toArray (captured.map (ev σ)).toArray)) w) (hw : Region.wanted ⟨some d, .makeFunc fn first.toArray captured.toArray, ty, pos, after, gd⟩ (yl ops σ) = true := by rfl) (hd : Nat.blt d N = true := by rfl) :
    GL r P N ds ops Q (⟨some d, .makeFunc fn first.toArray captured.toArray, ty, pos, after, gd⟩ :: rest) σ w := g_makeFunc hw hd (by rw [List.map_toArray, List.map_toArray]; exact h)
theorem Ln {A : Option Addr} {n c : Nat} (hu : P.underlying t = some (.slice e)) (hx : ev σ x = .slice A n c) (h : GL r P N ds ops Q rest (upd σ d (.int .i64 n)) w) (hw : Region.wanted ⟨some d, .call { callee := .builtin .len, args := #[x], argTypes := #[t] }, ty, pos, after, gd⟩ (yl ops σ) = true := by rfl) (hd : Nat.blt d N = true := by rfl) :
    GL r P N ds ops Q (⟨some d, .call { callee := .builtin .len, args := #[x], argTypes := #[t] }, ty, pos, after, gd⟩ :: rest) σ w := g_len hu hx hw hd h
theorem Fb {f off g o : Nat} (hf : ∀ w a, (Instr.fieldAt t (.pointer (some a)) f).run P w = .ok (.pointer (some (a.add off))) w) (hx : ev σ x = .pointer (some ⟨g, o, none⟩)) (h : GL r P N ds ops Q rest (upd σ d (.pointer (some ⟨g, o + off, none⟩))) w)
    (hw : Region.wanted ⟨some d, .fieldAddr t x f, ty, pos, after, gd⟩ (yl ops σ) = true := by rfl) (hd : Nat.blt d N = true := by rfl) : GL r P N ds ops Q (⟨some d, .fieldAddr t x f, ty, pos, after, gd⟩ :: rest) σ w := g_fieldAddrB hf hx hw hd h
theorem Fa {f off : Nat} {ad : Addr} (hf : ∀ w a, (Instr.fieldAt t (.pointer (some a)) f).run P w = .ok (.pointer (some (a.add off))) w) (hx : ev σ x = .pointer (some ad)) (h : GL r P N ds ops Q rest (upd σ d (.pointer (some (ad.add off)))) w)
    (hw : Region.wanted ⟨some d, .fieldAddr t x f, ty, pos, after, gd⟩ (yl ops σ) = true := by rfl) (hd : Nat.blt d N = true := by rfl) : GL r P N ds ops Q (⟨some d, .fieldAddr t x f, ty, pos, after, gd⟩ :: rest) σ w := g_fieldAddr hf hx rfl hw hd h
theorem L1 {ad : Addr} {v : Value} {dsc : TypeDesc} (ht : P.underlying t = some dsc) (hc : w.cell? ad = some v) (hx : ev σ x = .pointer (some ad)) (h : GL r P N ds ops Q rest (upd σ d v) w) (hs : isAggD dsc = false := by rfl)
    (hw : Region.wanted ⟨some d, .load t x, ty, pos, after, gd⟩ (yl ops σ) = true := by rfl) (hd : Nat.blt d N = true := by rfl) : GL r P N ds ops Q (⟨some d, .load t x, ty, pos, after, gd⟩ :: rest) σ w := g_load1 hx ht hc hs hw hd h
end
end Go.Proofs.G

/- Keeping what is known, step by step. -/
set_option linter.unusedVariables false
set_option linter.unusedSimpArgs false
namespace Go.Proofs.G
open Go Go.RowKit Go.Proofs.YtpfoleggapngoaaW.PrintWords
/-- Below w's own size: as it was. -/
abbrev Bel (w w' : World) : Prop := Below w.heap.size w w'
section
variable {w w1 w2 : World} {g : Nat} {o : Obj}
theorem Ch.at0 (h : Ch nob w1 w2) (K : w1.heap[g]? = some o) : w2.heap[g]? = some o := h.at_ K id
theorem blt (K : w1.heap[g]? = some o) : g < w1.heap.size := (Array.getElem?_eq_some_iff.1 K).1
/-- New blocks only. -/
theorem Bel.new (hB : Bel w w1) {g' : Nat} {o' : Obj} (h : New w1 w2 g' o') : Bel w w2 := h.ch.step hB hB.size (fun _ _ => id)
theorem Bel.bel (hB : Bel w w1) (h : Bel w1 w2) : Bel w w2 := below_then hB hB.size h
theorem Bel.grown (hB : Bel w w1) {row : Option Nat} (h : w1.grownBy w2 row) (hr : ∀ k, row = some k → w.heap.size ≤ k) : Bel w w2 := Below.grown hB h hB.size hr
theorem Bel.put (hB : Bel w w1) {g' : Nat} {o' : Obj} (h : Put w1 w2 g' o') (hr : w.heap.size ≤ g') : Bel w w2 := h.ch.step hB hB.size (fun k hk e => by omega)
theorem Bel.drew (hB : Bel w w1) : Bel w (w1.drewN 1) := (Ch.of_drewN w1 1).step hB hB.size (fun _ _ => id)
theorem Bel.of_new {g' : Nat} {o' : Obj} (h : New w w1 g' o') : Bel w w1 := Bel.new (Below.refl _ _) h
theorem Bel.cellk {a : Addr} {v : Value} (hB : Bel w w1) (h : w.cell? a = some v) : w1.cell? a = some v := (hB.cell (World.block_lt_of_cell? w _ h)).trans h
theorem kN (K : w1.heap[g]? = some o) {g' : Nat} {o' : Obj} (h : New w1 w2 g' o') : w2.heap[g]? = some o := h.ch.at0 K
theorem kB (K : w1.heap[g]? = some o) (h : Bel w1 w2) : w2.heap[g]? = some o := (Ch.of_below h).at0 K
theorem kG (K : w1.heap[g]? = some o) {row : Option Nat} (h : w1.grownBy w2 row) (hne : some g ≠ row) : w2.heap[g]? = some o := (Ch.of_grown h).at_ K hne
theorem kP (K : w1.heap[g]? = some o) {g' : Nat} {o' : Obj} (h : Put w1 w2 g' o') (hne : g ≠ g') : w2.heap[g]? = some o := h.ch.at_ K hne
theorem ne_ty {g' : Nat} {c c' : Array Value} {t t' : TypeId} {f f' : Nat × Nat} (h : w.heap[g]? = some (.cells c t f)) (h' : w.heap[g']? = some (.cells c' t' f')) (hne : t ≠ t') : g ≠ g' := fun e => by
  subst e
  rw [h'] at h
  injection h with h
  injection h with _ h _
  exact hne h.symm
theorem New.ge (h : New w w1 g o) : w.heap.size ≤ g := Nat.le_of_eq h.size
theorem New.ne {g' : Nat} {o' : Obj} (h : New w1 w2 g o) (K : w1.heap[g']? = some o') : g' ≠ g := fun e => by have := blt K; have := h.size; omega
theorem New.ne' {g' : Nat} {o' : Obj} (h : New w1 w2 g o) (K : w1.heap[g']? = some o') : g ≠ g' := fun e => h.ne K e.symm

section
variable {α : Type} {d : Kd α} {e base : Nat} {ok : Nat → Prop} {v : Value} {xs : List α}
theorem rN (h : d.R e w1 base ok v xs) {g' : Nat} {o' : Obj} (hn : New w1 w2 g' o') : d.R e w2 base ok v xs := Kd.R_step h (fun k _ hk => hn.ch.blk k hk id)
theorem rB (h : d.R e w1 base ok v xs) (hb : Bel w1 w2) : d.R e w2 base ok v xs := Kd.R_below h hb
theorem rP (h : d.R e w1 base ok v xs) {g' : Nat} {o' : Obj} (hp : Put w1 w2 g' o') (hok : ∀ k, ok k → k ≠ g') : d.R e w2 base ok v xs := Kd.R_step h (fun k ho hk => hp.ch.blk k hk (hok k ho))
theorem rG (h : d.R e w1 base ok v xs) {row : Option Nat} (hg : w1.grownBy w2 row) (hok : ∀ k, ok k → some k ≠ row) : d.R e w2 base ok v xs := Kd.R_grown h hg hok
theorem cN {A : Option Addr} {n : Nat} (h : d.C w1 A n xs) {g' : Nat} {o' : Obj} (hn : New w1 w2 g' o') : d.C w2 A n xs := Kd.C_below h (Bel.of_new hn)
end
/-- What a row's block can't be: by the type of its cells. -/
theorem ne_own {α : Type} {d : Kd α} {e base : Nat} {ok : Nat → Prop} {v : Value} {xs : List α} (h : d.R e w1 base ok v xs) {t : Nat} {cells : Array Value} {fr : Nat × Nat} (hb : w1.heap[g]? = some (.cells cells t fr)) (ht : e ≠ t) : some g ≠ v.ownBlock := R_ne h hb ht
end
theorem add_add' (a : Addr) (i j : Nat) : (a.add i).add j = a.add (i + j) := by
  obtain ⟨g, o, s⟩ := a
  unfold Addr.add
  by_cases hi : i = 0
  · subst hi; simp
  · by_cases hj : j = 0
    · subst hj; simp [hi]
    · simp [hi, hj, Nat.add_assoc]
/-- An element's cells, in a later world. -/
theorem cells_at {w w1 : World} {ad : Addr} {i : Nat} {cs : List Value} (hc : ∀ j u, cs[j]? = some u → w.cell? (ad.add (i + j)) = some u) (hB : Bel w w1) : ∀ j u, cs[j]? = some u → w1.cell? ((ad.add i).add j) = some u := fun j u h => by
  rw [add_add']; exact hB.cellk (hc j u h)
theorem dead {E : List Nat} {L : Array Bool} {p : Prop} (e : Nat) (he : E.contains e = true) (hL : L.getD e true = true) : live E L → p := fun h => by
  have := h e (by simpa using he)
  rw [hL] at this
  cases this
section
variable {P : Program} {fn : Func} {R : Ending → World → Prop} {σ : Nat → Value} {w : World} {N : Nat}
/-- Results: a variable's, and a value. -/
theorem retct {p u : Tmp} {t : TypeId} {v : Value} (h : fn.results = #[.cell p t, .tmp u]) (ad : Addr) (hp : σ p = .pointer (some ad)) (hrun : (loadVar t ad).run P w = .ok v w) (hR : R (.returned (.tuple #[v, σ u])) w) :
    ∀ a, St N [] σ a → bodyPost P fn R .ret a w :=
  fun a ha => ⟨ha.defers, .tuple #[v, a.tmps.getD u undef], by simp [results, h, ha.val, hp, asAddr, Sem.run_bind, hrun], by rw [ha.val]; exact hR⟩
theorem loadVarA {ad : Addr} {l : List Value} {t : TypeId} {dsc : TypeDesc} (ht : P.underlying t = some dsc) (hsz : (P.info? t).map (·.size) = some l.length)
    (hc : ∀ j v, l[j]? = some v → w.cell? (ad.add j) = some v) (hs : isAggD dsc = true := by rfl) : (loadVar t ad).run P w = .ok (.agg l.toArray) w := by
  obtain ⟨i, hi, hzz⟩ := Option.map_eq_some_iff.1 hsz
  have h1 := run_isAgg (w := w) ht
  rw [hs] at h1
  have h2 := run_loadCells_list (P := P) (w := w) ad l hc
  simp [loadVar, h1, sizeOf, typeInfo, hi, hzz, h2, Result.andThen]
end
section
variable {r : Option Nat} {P : Program} {N : Nat} {ds : List Deferred} {Q : Exit → Act → World → Prop} {σ : Nat → Value} {w : World}
variable {ops : Array Oper} {rest : List Oper} {ty : TypeId} {pos : String} {after : Array Edge} {gd : Option (Nat × Bool)} {d : Nat} {x y : Operand} {t e : TypeId}
/-- []T{x}: one element of one cell. -/
theorem g_lit1 {v : Value} (hrun : ∀ w v, v.oneCell' = true → (Instr.buildSlice t 1 #[(0, v)]).run P w = .ok (.slice (some ⟨w.heap.size, 0, none⟩) 1 1) (w.alloc (.cells #[v] e))) (hx : ev σ x = v) (hv : v.oneCell' = true)
    (hw : Region.wanted ⟨some d, .buildSlice t 1 #[(0, x)], ty, pos, after, gd⟩ (yl ops σ) = true := by rfl) (hd : Nat.blt d N = true := by rfl)
    (h : ∀ g w', New w w' g (.cells #[v] e) → GL r P N ds ops Q rest (upd σ d (.slice (some ⟨g, 0, none⟩) 1 1)) w') :
    GL r P N ds ops Q (⟨some d, .buildSlice t 1 #[(0, x)], ty, pos, after, gd⟩ :: rest) σ w :=
  g_buildSlice (len := 1) (cells := #[v]) (by simp only [List.map_toArray, List.map_cons, List.map_nil, hx]; exact hrun w v hv) hw hd h
theorem bld_map (l : List (Nat × Operand)) (σ : Nat → Value) : (l.toArray.map fun (i, x) => (i, ev σ x)) = (l.map fun p => (p.1, ev σ p.2)).toArray := by rw [List.map_toArray]
/-- T{..}. -/
theorem g_bld {parts : List (Nat × Operand)} {vals : List (Nat × Value)} {v : Value} (hrun : (Instr.build t vals.toArray).run P w = .ok v w) (hv : parts.map (fun p => (p.1, ev σ p.2)) = vals)
    (hw : Region.wanted ⟨some d, .build t parts.toArray, ty, pos, after, gd⟩ (yl ops σ) = true := by rfl) (hd : Nat.blt d N = true := by rfl) (h : GL r P N ds ops Q rest (upd σ d v) w) :
    GL r P N ds ops Q (⟨some d, .build t parts.toArray, ty, pos, after, gd⟩ :: rest) σ w :=
  g_build (by rw [bld_map, hv]; exact hrun) hw hd h
theorem r_bld {dst : Option Nat} {parts : List (Nat × Operand)} {vals : List (Nat × Value)} {v : Value} (hrun : (Instr.build t vals.toArray).run P w = .ok v w) (hv : parts.map (fun p => (p.1, ev σ p.2)) = vals) :
    (execOp (ev σ) ⟨dst, .build t parts.toArray, ty, pos, after, gd⟩).run P w = .ok (.value v) w := r_build (by rw [bld_map, hv]; exact hrun)
/-- []T{..}: a new block. -/
theorem g_lits {parts : List (Nat × Operand)} {vals : List (Nat × Value)} {len : Nat} {cells : Array Value} (hrun : (Instr.buildSlice t len vals.toArray).run P w = .ok (.slice (some ⟨w.heap.size, 0, none⟩) len len) (w.alloc (.cells cells e))) (hv : parts.map (fun p => (p.1, ev σ p.2)) = vals)
    (hw : Region.wanted ⟨some d, .buildSlice t len parts.toArray, ty, pos, after, gd⟩ (yl ops σ) = true := by rfl) (hd : Nat.blt d N = true := by rfl)
    (h : ∀ g w', New w w' g (.cells cells e) → GL r P N ds ops Q rest (upd σ d (.slice (some ⟨g, 0, none⟩) len len)) w') :
    GL r P N ds ops Q (⟨some d, .buildSlice t len parts.toArray, ty, pos, after, gd⟩ :: rest) σ w :=
  g_buildSlice (by rw [bld_map, hv]; exact hrun) hw hd h
/-- []T{..}, told as a row of one's own. -/
theorem g_litsR {α : Type} (k : Kd α) {parts : List (Nat × Operand)} {vals : List (Nat × Value)} {len : Nat} {xs : List α} {inner : List Value} {okp : Nat → Prop} (hrun : (Instr.buildSlice t len vals.toArray).run P w = .ok (.slice (some ⟨w.heap.size, 0, none⟩) len len) (w.alloc (.cells inner.toArray e)))
    (hv : parts.map (fun p => (p.1, ev σ p.2)) = vals) (hl : xs.length = len) (hm : len ≤ 1000000) (hrep : Reps (k.M w w.heap.size okp) k.sz xs inner)
    (hw : Region.wanted ⟨some d, .buildSlice t len parts.toArray, ty, pos, after, gd⟩ (yl ops σ) = true := by rfl) (hd : Nat.blt d N = true := by rfl)
    (h : ∀ g w', k.R e w' w.heap.size (fun _ => True) (.slice (some ⟨g, 0, none⟩) len len) xs → w.grownBy w' none → GL r P N ds ops Q rest (upd σ d (.slice (some ⟨g, 0, none⟩) len len)) w') :
    GL r P N ds ops Q (⟨some d, .buildSlice t len parts.toArray, ty, pos, after, gd⟩ :: rest) σ w :=
  g_litR k (by rw [bld_map, hv]; exact hrun) hl hm hrep hw hd h
theorem run_store1 {dst : Option Nat} {g o : Nat} {cs : Array Value} {t0 : TypeId} {v : Value} (hx : ev σ x = .pointer (some ⟨g, o, none⟩)) (hy : ev σ y = v) (hsz : (P.info? t).map (·.size) = some 1) (hb : w.heap[g]? = some (.cells cs t0 (0, 0)))
    (ho : o < cs.size) (h1 : v.oneCell' = true) : (execOp (ev σ) ⟨dst, .store t x y, ty, pos, after, gd⟩).run P w = .ok .skip (w.setCell ⟨g, o, none⟩ v) := by
  obtain ⟨i, hi, hzz⟩ := Option.map_eq_some_iff.1 hsz
  have hc : w.cell? ⟨g, o, none⟩ = some cs[o] := by rw [cell_of_row w g o cs t0 (0, 0) hb]; simp [ho]
  have hf : w.frozen? ⟨g, o, none⟩ = false := frozen_of_row w g o cs t0 hb
  have hcells : v.cells = #[v] := by cases v <;> first | rfl | simp [Value.oneCell'] at h1
  simp only [execOp, hx, hy, Instr.storeAt, Instr.sureAddr, storeVar, hcells]
  have hst := run_store P w ⟨g, o, none⟩ v .plain h1
  rw [hc] at hst
  simp only [hf, Bool.false_eq_true, if_false] at hst
  simp [sizeOf, typeInfo, hi, hzz, storeCells, Addr.add, hst]
theorem GD_store1 {E : List Nat} {C : World → Prop} {k : Nat} {L : Array Bool} {g o : Nat} {cs : Array Value} {t0 : TypeId} {v : Value} (i : Nat) (hi : ops[i]? = some ⟨none, .store t x y, ty, pos, after, gd⟩) (hr : Region.ready .any ops L = [i]) (hC : live E L → C w)
    (hw : Region.wanted ⟨none, .store t x y, ty, pos, after, gd⟩ (yl ops σ) = true) (hx : ev σ x = .pointer (some ⟨g, o, none⟩)) (hy : ev σ y = v) (hsz : (P.info? t).map (·.size) = some 1) (hb : w.heap[g]? = some (.cells cs t0 (0, 0)))
    (ho : o < cs.size) (h1 : v.oneCell' = true) (h : ∀ w', Put w w' g (.cells (cs.setIfInBounds o v) t0 (0, 0)) → GD P N ds ops Q E C k (L.setIfInBounds i true) σ w') : GD P N ds ops Q E C (k + 1) L σ w :=
  GD_unit i hi hr hC hw rfl rfl (run_store1 hx hy hsz hb ho h1) (h _ (cells_put hb v))
theorem run_storeA {dst : Option Nat} {g : Nat} {cs cells : Array Value} {t0 : TypeId} (hx : ev σ x = .pointer (some ⟨g, 0, none⟩)) (hy : ev σ y = .agg cells) (hsz : (P.info? t).map (·.size) = some cells.size) (hb : w.heap[g]? = some (.cells cs t0 (0, 0)))
    (hl : cells.size = cs.size) (h1 : ∀ v ∈ cells, v.oneCell' = true) : (execOp (ev σ) ⟨dst, .store t x y, ty, pos, after, gd⟩).run P w = .ok .skip (w.setRow g cells) := by
  obtain ⟨i, hi, hzz⟩ := Option.map_eq_some_iff.1 hsz
  have hst := run_storeCells_from (P := P) g t0 cells.toList 0 cs w hb (by simpa using hl) (by simpa using h1)
  simp only [execOp, hx, hy, Instr.storeAt, Instr.sureAddr, storeVar, Value.cells]
  simp only [List.take_zero, List.nil_append, Array.toArray_toList, List.take] at hst
  simp [sizeOf, typeInfo, hi, hzz, hst]
theorem GD_storeA {E : List Nat} {C : World → Prop} {k : Nat} {L : Array Bool} {g : Nat} {cs cells : Array Value} {t0 : TypeId} (i : Nat) (hi : ops[i]? = some ⟨none, .store t x y, ty, pos, after, gd⟩) (hr : Region.ready .any ops L = [i]) (hC : live E L → C w)
    (hw : Region.wanted ⟨none, .store t x y, ty, pos, after, gd⟩ (yl ops σ) = true) (hx : ev σ x = .pointer (some ⟨g, 0, none⟩)) (hy : ev σ y = .agg cells) (hsz : (P.info? t).map (·.size) = some cells.size) (hb : w.heap[g]? = some (.cells cs t0 (0, 0)))
    (hl : cells.size = cs.size) (h1 : ∀ v ∈ cells, v.oneCell' = true) (h : ∀ w', Put w w' g (.cells cells t0 (0, 0)) → GD P N ds ops Q E C k (L.setIfInBounds i true) σ w') : GD P N ds ops Q E C (k + 1) L σ w :=
  GD_unit i hi hr hC hw rfl rfl (run_storeA hx hy hsz hb hl h1) (h _ (setRow_put hb))
/-- A call in a region that draws: it alone is ready. -/
theorem GD_call {E : List Nat} {C : World → Prop} {k : Nat} {L : Array Bool} {f : FuncId} {args : List Operand} {ts : Array TypeId} {vals : List Value} {R : Ending → World → Prop} (i : Nat) (hi : ops[i]? = some ⟨some d, .call { callee := .value (.func f), args := args.toArray, argTypes := ts }, ty, pos, after, gd⟩) (hr : Region.ready .any ops L = [i]) (hC : live E L → C w)
    (hw : Region.wanted ⟨some d, .call { callee := .value (.func f), args := args.toArray, argTypes := ts }, ty, pos, after, gd⟩ (yl ops σ) = true) (hd : Nat.blt d N = true) (he : ∀ args w, (callFunc f args).run P w = .ok (.enter f args) w) (hv : args.map (ev σ) = vals) (hc : Calls P f vals.toArray w R)
    (h : ∀ e w', R e w' → ∃ v, e = .returned v ∧ GD P N ds ops Q E C k (L.setIfInBounds i true) (upd σ d v) w') : GD P N ds ops Q E C (k + 1) L σ w :=
  GD_enter i hi hr hC hw rfl hd (r_call he hv) hc h
/-- append(xs, ys...): cells. -/
theorem g_appendN {α : Type} {enc : α → Value} {hone : ∀ x, (enc x).oneCell' = true} {z : Value} {bytes base : Nat} (ht : P.underlying t = some (.slice e)) (hinfo : (P.info? e).map (fun i => (i.zero, i.size, i.bytes)) = some (some z, 1, bytes)) (hz : z.cells.size = 1)
    {v : Value} {xs ys : List α} {ok : Nat → Prop} {ad : Addr} {m c : Nat} (HO : (Kd.scalar enc hone).R e w base ok v xs) (hys : ys.length = m) (hc : ∀ j u, (ys.map enc)[j]? = some u → w.cell? (ad.add j) = some u)
    (hfresh : ∀ k, w.heap.size ≤ k → ok k) (hbase : base ≤ w.heap.size) (hl : (xs.length + m) * bytes ≤ 140737488355328) (hm : xs.length + m ≤ maxLen) (hx : ev σ x = v) (hy : ev σ y = .slice (some ad) m c)
    (hw : Region.wanted ⟨some d, .call { callee := .builtin .append, args := #[x, y], argTypes := #[t, t] }, ty, pos, after, gd⟩ (yl ops σ) = true := by rfl) (hd : Nat.blt d N = true := by rfl)
    (h : ∀ v' w', (Kd.scalar enc hone).R e w' base ok v' (xs ++ ys) → w.grownBy w' v.ownBlock → GL r P N ds ops Q rest (upd σ d v') w') :
    GL r P N ds ops Q (⟨some d, .call { callee := .builtin .append, args := #[x, y], argTypes := #[t, t] }, ty, pos, after, gd⟩ :: rest) σ w := by
  obtain ⟨i0, hi, hzz⟩ := Option.map_eq_some_iff.1 hinfo
  simp only [Prod.mk.injEq] at hzz
  obtain ⟨hz0, hz1, hz2⟩ := hzz
  have hown := Kd.own_of_R HO
  obtain ⟨v', w', hrun, r1, r2, r3, r4⟩ := run_append_own_at (P := P) w base t ty e i0 z 1 bytes ht hi hz0 hz1 hz2 hz (by decide) v xs.length (encs enc xs) hown ad m c (ys.map enc) (by simp [hys]) hc (by simpa using fun a _ => hone a) hm hl hbase
  refine GL_val hw (by intro c hc; cases hc) (v := v') (w' := w') (by simp [execOp, resolve, invoke, builtin, hx, hy, hrun]) hd (h v' w' (Kd.R_of_own (by
    have : encs enc (xs ++ ys) = encs enc xs ++ ys.map enc := by simp [encs]
    rw [this, List.length_append, hys]; exact r1) fun k hk => ?_) r2)
  rcases r4 with r4 | r4
  · rw [r4] at hk; exact HO.1 k hk
  · rw [r4] at hk; injection hk with hk; exact hfresh k (by omega)
end
end Go.Proofs.G

/- Maps, and arrays that are compared. -/
set_option linter.unusedVariables false
set_option linter.unusedSimpArgs false
namespace Go.Proofs.G
open Go Go.RowKit Go.Proofs.YtpfoleggapngoaaW.PrintWords
section
variable {P : Program} {w : World} {t kt e : TypeId} {g clock : Nat} {es : Array MapEntry} {key z : Value} {kl : Lit}
theorem run_getMap (hb : w.heap[g]? = some (.map es clock)) : (getObj g).run P w = .ok (.map es clock) w := by simp [getObj, Sem.run, hb]
theorem lookup_run (K : Maps.Keyed P kt) (ht : P.underlying t = some (.map kt e)) (hz : (zeroValue e).run P w = .ok z w) (hb : w.heap[g]? = some (.map es clock)) (hkeys : ∀ x ∈ es.toList, ∃ l, keyOf P kt x.key = some l) (hkey : keyOf P kt key = some kl) (c : Bool) :
    (∃ x ∈ es.toList, x.key = key ∧ (Instr.lookup t (.map (some g)) key c).run P w = .ok (if c then .tuple #[x.val, .bool true] else x.val) w) ∨ ((∀ x ∈ es.toList, x.key ≠ key) ∧ (Instr.lookup t (.map (some g)) key c).run P w = .ok (if c then .tuple #[z, .bool false] else z) w) := by
  have hck := K.check w es.isEmpty hkey
  rcases K.find w hkey es.toList hkeys with ⟨h1, h2⟩ | ⟨j, x, h1, h2, h3⟩
  · exact .inr ⟨h2, by cases c <;> simp [Instr.lookup, run_underlying ht, run_getMap hb, hck, h1, hz]⟩
  · exact .inl ⟨x, List.mem_of_getElem? h2, h3, by cases c <;> simp [Instr.lookup, run_underlying ht, run_getMap hb, hck, h1]⟩
theorem setObj_put (hb : w.heap[g]? = some (.map es clock)) (es' : Array MapEntry) (clock' : Nat) : ∃ w', (setObj g (.map es' clock')).run P w = .ok () w' ∧ Put w w' g (.map es' clock') := by
  have hlt := (Array.getElem?_eq_some_iff.1 hb).1
  refine ⟨{ w with heap := w.heap.setIfInBounds g (.map es' clock') }, by simp [setObj, Sem.run, hb], ⟨⟨rfl, rfl, rfl, by simp, fun k hk hn => by simp [Array.getElem?_setIfInBounds_ne (Ne.symm hn)]⟩, by simp [hlt], by simp⟩⟩
theorem update_run (K : Maps.Keyed P kt) (ht : P.underlying t = some (.map kt e)) (hb : w.heap[g]? = some (.map es clock)) (hkeys : ∀ x ∈ es.toList, ∃ l, keyOf P kt x.key = some l) (hkey : keyOf P kt key = some kl) (v : Value) :
    ∃ es' clock' w', (Instr.mapUpdate t (.map (some g)) key v).run P w = .ok () w' ∧ Put w w' g (.map es' clock') ∧ ∀ x ∈ es'.toList, x ∈ es.toList ∨ (x.key = key ∧ x.val = v) := by
  have hck := K.check w false hkey
  rcases K.find w hkey es.toList hkeys with ⟨h1, h2⟩ | ⟨j, x, h1, h2, h3⟩
  · obtain ⟨w', hr, hp⟩ := setObj_put (P := P) hb (es.push { key, val := v, born := clock }) (clock + 1)
    refine ⟨_, _, w', by simp [Instr.mapUpdate, run_underlying ht, run_getMap hb, hck, h1, hr], hp, fun x hx => ?_⟩
    simp only [Array.toList_push, List.mem_append, List.mem_singleton] at hx
    rcases hx with hx | rfl
    · exact .inl hx
    · exact .inr ⟨rfl, rfl⟩
  · obtain ⟨w', hr, hp⟩ := setObj_put (P := P) hb (es.modify j fun e => { e with key, val := v }) clock
    have hx : (es[j]?).map (·.key) = some key := by
      rw [← Array.getElem?_toList, h2]; simp [h3]
    have hst := K.stays w hkey
    refine ⟨_, _, w', by simp [Instr.mapUpdate, run_underlying ht, run_getMap hb, hck, h1, hx, hst, hr], hp, fun y hy => ?_⟩
    obtain ⟨i, hi, rfl⟩ := List.mem_iff_getElem.1 hy
    simp only [Array.length_toList, Array.size_modify] at hi
    simp only [Array.getElem_toList, Array.getElem_modify]
    by_cases hij : j = i
    · right; simp [hij]
    · left; simp [hij]
end
section
variable {r : Option Nat} {P : Program} {N : Nat} {ds : List Deferred} {Q : Exit → Act → World → Prop} {σ : Nat → Value} {w : World}
variable {ops : Array Oper} {rest : List Oper} {ty : TypeId} {pos : String} {after : Array Edge} {gd : Option (Nat × Bool)} {d : Nat} {x y u : Operand} {t kt e : TypeId}
theorem g_lookup {g clock : Nat} {es : Array MapEntry} {key z : Value} {kl : Lit} {c : Bool} (K : Maps.Keyed P kt) (ht : P.underlying t = some (.map kt e)) (hz : (zeroValue e).run P w = .ok z w) (hb : w.heap[g]? = some (.map es clock)) (hkeys : ∀ x ∈ es.toList, ∃ l, keyOf P kt x.key = some l) (hkey : keyOf P kt key = some kl)
    (hx : ev σ x = .map (some g)) (hy : ev σ y = key)
    (hw : Region.wanted ⟨some d, .lookup t x y c, ty, pos, after, gd⟩ (yl ops σ) = true := by rfl) (hd : Nat.blt d N = true := by rfl)
    (h1 : ∀ a ∈ es.toList, a.key = key → GL r P N ds ops Q rest (upd σ d (if c then .tuple #[a.val, .bool true] else a.val)) w) (h2 : (∀ a ∈ es.toList, a.key ≠ key) → GL r P N ds ops Q rest (upd σ d (if c then .tuple #[z, .bool false] else z)) w) :
    GL r P N ds ops Q (⟨some d, .lookup t x y c, ty, pos, after, gd⟩ :: rest) σ w := by
  rcases lookup_run K ht hz hb hkeys hkey c with ⟨a, ha, hk, hr⟩ | ⟨hn, hr⟩
  · exact GL_val hw (by intro c hc; cases hc) (r_lookup (by rw [hx, hy]; exact hr)) hd (h1 a ha hk)
  · exact GL_val hw (by intro c hc; cases hc) (r_lookup (by rw [hx, hy]; exact hr)) hd (h2 hn)
theorem g_mapUpdate {g clock : Nat} {es : Array MapEntry} {key v : Value} {kl : Lit} (K : Maps.Keyed P kt) (ht : P.underlying t = some (.map kt e)) (hb : w.heap[g]? = some (.map es clock)) (hkeys : ∀ x ∈ es.toList, ∃ l, keyOf P kt x.key = some l) (hkey : keyOf P kt key = some kl)
    (hx : ev σ x = .map (some g)) (hy : ev σ y = key) (hu : ev σ u = v)
    (hw : Region.wanted ⟨none, .mapUpdate t x y u, ty, pos, after, gd⟩ (yl ops σ) = true := by rfl)
    (h : ∀ es' clock' w', Put w w' g (.map es' clock') → (∀ a ∈ es'.toList, a ∈ es.toList ∨ (a.key = key ∧ a.val = v)) → GL r P N ds ops Q rest σ w') :
    GL r P N ds ops Q (⟨none, .mapUpdate t x y u, ty, pos, after, gd⟩ :: rest) σ w := by
  obtain ⟨es', clock', w', hr, hp, he⟩ := update_run K ht hb hkeys hkey v
  exact GL_unit hw (by intro c hc; cases hc) (by simp [execOp, hx, hy, hu, hr]) rfl (h es' clock' w' hp he)
/-- Arrays, or structs, compared. -/
theorem g_eqlA {m : Nat} {a b : Array Value} {la lb : Lit} {t' : TypeId} (hm : m ≤ 10000) (hk : P.keyTypeAt m t = true) (hti : P.tiled m t = true) (hwide : (match P.underlying t with | some (.array _ _) | some (.struct _) => true | _ => false) = true) (hg : P.eqGuardType P.depth t = false)
    (ha : keyOf P t (.agg a) = some la) (hb : keyOf P t (.agg b) = some lb) (hx : ev σ x = .agg a) (hy : ev σ y = .agg b)
    (hw : Region.wanted ⟨some d, .binOp .eql t x y t', ty, pos, after, gd⟩ (yl ops σ) = true := by rfl) (hd : Nat.blt d N = true := by rfl)
    (h1 : a = b → GL r P N ds ops Q rest (upd σ d (.bool true)) w) (h2 : a ≠ b → GL r P N ds ops Q rest (upd σ d (.bool false)) w) :
    GL r P N ds ops Q (⟨some d, .binOp .eql t x y t', ty, pos, after, gd⟩ :: rest) σ w := by
  obtain ⟨q, hq, hiff⟩ := run_equal_deep (P := P) w hm hk hwide ha hb
  have hrun : (execOp (ev σ) ⟨some d, .binOp .eql t x y t', ty, pos, after, gd⟩).run P w = .ok (.value (.bool q)) w := by
    simp [execOp, eqGuard, binOp, hx, hy, program, Sem.run, hg, hq]
  cases q with
  | true => exact GL_val hw (by intro c hc; cases hc) hrun hd (h1 (by have := keyOf_inj_deep hti hwide ha ((hiff.1 rfl) ▸ hb); injection this))
  | false => exact GL_val hw (by intro c hc; cases hc) hrun hd (h2 (fun e => by subst e; rw [ha] at hb; injection hb with hb; have := hiff.2 hb; cases this))
end
end Go.Proofs.G
