/- More operations: joins of ways, bits, rows that are written. -/
import Derived.Test.YtpfoleggapngoaaG5
import Derived.Laws.OwnMore
set_option linter.unusedVariables false
set_option linter.unusedSimpArgs false
namespace Go.Proofs.G
open Go Go.RowKit Go.Proofs.YtpfoleggapngoaaW.PrintWords
section
variable {r : Option Nat} {P : Program} {N : Nat} {ds : List Deferred} {Q : Exit → Act → World → Prop} {σ : Nat → Value} {w : World}
attribute [local semireducible] GC GL in
/-- Where ways meet: what holds there. -/
theorem GC_join {x y : Code} (I : (Nat → Value) → World → Prop) (h1 : GC r P N ds x (Exit.then (fun a w => ∃ σ', St N ds σ' a ∧ I σ' w) Q) σ w) (h2 : ∀ σ' w', I σ' w' → GC r P N ds y Q σ' w') : GC r P N ds (.seq x y) Q σ w := by
  intro a ha
  refine wpIn_seq (wpIn_mono (h1 a ha) ?_)
  intro e a' w' hq
  cases e with
  | normal =>
    obtain ⟨σ', hs, hi⟩ := hq
    exact h2 σ' w' hi a' hs
  | exit id => exact hq
  | goto l => exact hq
  | ret => exact hq
  | panic ch => exact hq
  | outgrown => exact hq
/-- The way's end at a join. -/
theorem join_end {I : (Nat → Value) → World → Prop} (h : I σ w) : ∀ a, St N ds σ a → Exit.then (fun a w => ∃ σ', St N ds σ' a ∧ I σ' w) Q .normal a w := fun a ha => ⟨σ, ha, h⟩
end
section
variable {r : Option Nat} {P : Program} {N : Nat} {ds : List Deferred} {Q : Exit → Act → World → Prop} {σ : Nat → Value} {w : World}
variable {ops : Array Oper} {rest : List Oper} {ty : TypeId} {pos : String} {after : Array Edge} {gd : Option (Nat × Bool)} {d : Nat} {dst : Option Nat} {x y : Operand} {t t' e : TypeId}
/-- An operation by its run. -/
theorem g_v {o : Oper} {v : Value} {w' : World} (hrun : (execOp (ev σ) o).run P w = .ok (.value v) w') (hw : Region.wanted o (yl ops σ) = true := by rfl) (hnd : noDefer o = true := by rfl) (hd : dstok N o.dst = true := by rfl)
    (h : GL r P N ds ops Q rest (updo σ o.dst v) w') : GL r P N ds ops Q (o :: rest) σ w :=
  GL_val hw (fun c hc => by rw [noDefer, hc] at hnd; cases hnd) hrun hd h
section
variable {a b : Int}
theorem r_mul (hx : ev σ x = .int .i64 a) (hy : ev σ y = .int .i64 b) (hr : -9223372036854775808 ≤ a * b ∧ a * b ≤ 9223372036854775807) : (execOp (ev σ) ⟨dst, .binOp .mul t x y t', ty, pos, after, gd⟩).run P w = .ok (.value (.int .i64 (a * b))) w := by simp [execOp, eqGuard, binOp, hx, hy, Op.intArith, IntWalk.i64_in _ hr]
theorem r_rem (hx : ev σ x = .int .i64 a) (hy : ev σ y = .int .i64 b) (hr : b ≠ 0) : (execOp (ev σ) ⟨dst, .binOp .rem t x y t', ty, pos, after, gd⟩).run P w = .ok (.value (.int .i64 (a.tmod b))) w := by simp [execOp, eqGuard, binOp, hx, hy, Op.intDiv, hr]
theorem r_quo (hx : ev σ x = .int .i64 a) (hy : ev σ y = .int .i64 b) (hr : b ≠ 0) (h1 : -9223372036854775808 ≤ a.tdiv b ∧ a.tdiv b ≤ 9223372036854775807) : (execOp (ev σ) ⟨dst, .binOp .quo t x y t', ty, pos, after, gd⟩).run P w = .ok (.value (.int .i64 (a.tdiv b))) w := by simp [execOp, eqGuard, binOp, hx, hy, Op.intDiv, hr, IntWalk.i64_in _ h1]
theorem r_neg (hx : ev σ x = .int .i64 a) (hr : -9223372036854775808 ≤ -a ∧ -a ≤ 9223372036854775807) : (execOp (ev σ) ⟨dst, .unOp .neg t x, ty, pos, after, gd⟩).run P w = .ok (.value (.int .i64 (-a))) w := by simp [execOp, hx, Op.unary, Op.intArith, IntWalk.i64_in _ hr]
/-- 1 << n, n small. -/
theorem r_shl {n : Nat} {k : IntKind} (hx : ev σ x = .int .i64 a) (hy : ev σ y = .int k b) (hn : b = n) (h64 : n ≤ 64) (hr : -9223372036854775808 ≤ a * 2 ^ n ∧ a * 2 ^ n ≤ 9223372036854775807) : (execOp (ev σ) ⟨dst, .binOp .shl t x y t', ty, pos, after, gd⟩).run P w = .ok (.value (.int .i64 (a * 2 ^ n))) w := by
  subst hn
  have h1 : ¬ ((n : Int) < 0) := by omega
  have h2 : min n IntKind.i64.bits = n := Nat.min_eq_left h64
  simp [execOp, eqGuard, binOp, hx, hy, Op.shift, h1, h2, IntWalk.i64_in _ hr]
theorem r_shr {n : Nat} {k : IntKind} (hx : ev σ x = .int .i64 a) (hy : ev σ y = .int k b) (hn : b = n) (h64 : n ≤ 64) : (execOp (ev σ) ⟨dst, .binOp .shr t x y t', ty, pos, after, gd⟩).run P w = .ok (.value (.int .i64 (a.fdiv (2 ^ n)))) w := by
  subst hn
  have h1 : ¬ ((n : Int) < 0) := by omega
  have h2 : min n IntKind.i64.bits = n := Nat.min_eq_left h64
  simp [execOp, eqGuard, binOp, hx, hy, Op.shift, h1, h2, Int.fdiv_eq_ediv_of_nonneg _ (show (0 : Int) ≤ 2 ^ n from Int.pow_nonneg (by omega))]
/-- bits of numbers that are not negative. -/
theorem bv_of (n : Nat) (h : n < 2 ^ 63) : (BitVec.ofInt 64 (n : Int)).toNat = n := by
  rw [BitVec.ofInt_natCast, BitVec.toNat_ofNat]; omega
theorem r_and {m n : Nat} (hx : ev σ x = .int .i64 (m : Int)) (hy : ev σ y = .int .i64 (n : Int)) (hm : m < 2 ^ 63) (hn : n < 2 ^ 63) : (execOp (ev σ) ⟨dst, .binOp .and t x y t', ty, pos, after, gd⟩).run P w = .ok (.value (.int .i64 ((m &&& n : Nat) : Int))) w := by
  have h1 : (BitVec.ofInt 64 (m : Int) &&& BitVec.ofInt 64 (n : Int)).toNat = m &&& n := by rw [BitVec.toNat_and, bv_of m hm, bv_of n hn]
  have h2 : m &&& n < 2 ^ 63 := Nat.and_lt_two_pow _ hn
  have h3 : IntKind.i64.wrap ((BitVec.ofInt 64 (m : Int) &&& BitVec.ofInt 64 (n : Int)).toNat : Int) = ((m &&& n : Nat) : Int) := by rw [h1]; exact IntWalk.i64_in _ (by omega)
  simp only [execOp, eqGuard, binOp, hx, hy, Op.intBits]
  simp [IntKind.bits] at h3 ⊢
  exact h3
theorem r_or {m n : Nat} (hx : ev σ x = .int .i64 (m : Int)) (hy : ev σ y = .int .i64 (n : Int)) (hm : m < 2 ^ 63) (hn : n < 2 ^ 63) : (execOp (ev σ) ⟨dst, .binOp .or t x y t', ty, pos, after, gd⟩).run P w = .ok (.value (.int .i64 ((m ||| n : Nat) : Int))) w := by
  have h1 : (BitVec.ofInt 64 (m : Int) ||| BitVec.ofInt 64 (n : Int)).toNat = m ||| n := by rw [BitVec.toNat_or, bv_of m hm, bv_of n hn]
  have h2 : m ||| n < 2 ^ 63 := Nat.or_lt_two_pow hm hn
  have h3 : IntKind.i64.wrap ((BitVec.ofInt 64 (m : Int) ||| BitVec.ofInt 64 (n : Int)).toNat : Int) = ((m ||| n : Nat) : Int) := by rw [h1]; exact IntWalk.i64_in _ (by omega)
  simp only [execOp, eqGuard, binOp, hx, hy, Op.intBits]
  simp [IntKind.bits] at h3 ⊢
  exact h3
end
theorem r_min {a b m : Int} {ts : Array TypeId} (hx : ev σ x = .int .i64 a) (hy : ev σ y = .int .i64 b) (hm : min a b = m) :
    (execOp (ev σ) ⟨dst, .call { callee := .builtin .min, args := #[x, y], argTypes := ts }, ty, pos, after, gd⟩).run P w = .ok (.value (.int .i64 m)) w := by
  have : (if b < a then b else a) = m := by rw [← hm]; split <;> omega
  simp [execOp, resolve, hx, hy, invoke, builtin, Builtin.min_, Builtin.min2, this]
theorem equal_bool {a b : Bool} (ht : P.underlying t = some .bool) : (Op.equal t (.bool a) (.bool b)).run P w = .ok (a == b) w := by
  unfold Op.equal Op.maxDepth
  rw [show (10000 : Nat) = 9999 + 1 from rfl, Op.equalIn]
  simp [run_underlying ht]
/-- bool == bool. -/
theorem r_eqlB {a b : Bool} (ht : P.underlying t = some .bool) (hx : ev σ x = .bool a) (hy : ev σ y = .bool b) : (execOp (ev σ) ⟨dst, .binOp .eql t x y t', ty, pos, after, gd⟩).run P w = .ok (.value (.bool (a == b))) w := by
  simp [execOp, eqGuard, binOp, hx, hy, equal_bool ht]
theorem r_neqB {a b : Bool} (ht : P.underlying t = some .bool) (hx : ev σ x = .bool a) (hy : ev σ y = .bool b) : (execOp (ev σ) ⟨dst, .binOp .neq t x y t', ty, pos, after, gd⟩).run P w = .ok (.value (.bool (!(a == b)))) w := by
  simp [execOp, eqGuard, binOp, hx, hy, equal_bool ht]
/-- A store into a row of scalars of one's own. -/
theorem g_storeR {α : Type} {enc : α → Value} {h1 : ∀ x, (enc x).oneCell' = true} {base g n cap : Nat} {ok : Nat → Prop} {xs : List α} {i : Int} {u : α} (hx : ev σ x = .pointer (some ⟨g, i.toNat, none⟩)) (hy : ev σ y = enc u) (hsz : (P.info? t).map (·.size) = some 1)
    (HO : (Kd.scalar enc h1).R e w base ok (.slice (some ⟨g, 0, none⟩) n cap) xs) (hi0 : 0 ≤ i) (hi : i < n)
    (hw : Region.wanted ⟨none, .store t x y, ty, pos, after, gd⟩ (yl ops σ) = true := by rfl)
    (h : ∀ w', (Kd.scalar enc h1).R e w' base ok (.slice (some ⟨g, 0, none⟩) n cap) (xs.set i.toNat u) → w.grownBy w' (some g) → GL r P N ds ops Q rest σ w') :
    GL r P N ds ops Q (⟨none, .store t x y, ty, pos, after, gd⟩ :: rest) σ w := by
  obtain ⟨i', hi', hzz⟩ := Option.map_eq_some_iff.1 hsz
  obtain ⟨hn, hc, hC⟩ := Kd.R_reads' HO
  have hz : ∃ d : α, True := by
    cases xs with
    | nil => simp at hn; omega
    | cons d _ => exact ⟨d, trivial⟩
  obtain ⟨d, _⟩ := hz
  obtain ⟨hcell, hf⟩ := Kd.R_celln d HO i hi0 hi
  obtain ⟨hR, hg⟩ := Kd.R_putg HO i u
  have ho : (enc u).oneCell' = true := h1 u
  have hcells : (enc u).cells = #[enc u] := by revert ho; generalize enc u = v; intro ho; cases v <;> first | rfl | simp [Value.oneCell'] at ho
  refine GL_unit hw (by intro c hc; cases hc) (w' := w.setCell ⟨g, i.toNat, none⟩ (enc u)) ?_ rfl (h _ hR hg)
  simp only [execOp, hx, hy, Instr.storeAt, Instr.sureAddr, storeVar, hcells]
  have hst := run_store P w ⟨g, i.toNat, none⟩ (enc u) .plain ho
  rw [hcell] at hst
  simp only [hf, Bool.false_eq_true, if_false] at hst
  simp [sizeOf, typeInfo, hi', hzz, storeCells, Addr.add, hst]
/-- A row that has just been laid. -/
theorem fresh_R {α : Type} (k : Kd α) {xs : List α} {inner : List Value} {okp : Nat → Prop} (hrep : Reps (k.M w w.heap.size okp) k.sz xs inner) (hm : xs.length ≤ 9223372036854775807) :
    k.R e (w.alloc (.cells inner.toArray e)) w.heap.size (fun _ => True) (.slice (some ⟨w.heap.size, 0, none⟩) xs.length xs.length) xs := by
  refine ⟨fun _ _ => trivial, inner, ?_, ?_⟩
  · have h2 := World.ownsRow_lit (base := w.heap.size) (e := e) (size := k.sz) w inner.toArray xs.length (Nat.le_refl _) (by simpa [maxLen] using hm) (by simpa using hrep.1)
    simpa using h2
  · refine hrep.imp_ (fun p c hp => k.M_mono (fun k hk => ⟨trivial, fun he => ?_⟩) (Kd.M_below (k.M_bound hp) (below_alloc (Below.refl _ _) _)))
    have h3 : k = w.heap.size := by simpa [Value.ownBlock] using he
    have := hk.2.2.1
    omega
/-- A literal, told as a row of one's own. -/
theorem g_litR {α : Type} (k : Kd α) {parts : Array (Nat × Operand)} {len : Nat} {xs : List α} {inner : List Value} {okp : Nat → Prop} (hrun : (Instr.buildSlice t len (parts.map fun (i, x) => (i, ev σ x))).run P w = .ok (.slice (some ⟨w.heap.size, 0, none⟩) len len) (w.alloc (.cells inner.toArray e)))
    (hl : xs.length = len) (hm : len ≤ 1000000) (hrep : Reps (k.M w w.heap.size okp) k.sz xs inner)
    (hw : Region.wanted ⟨some d, .buildSlice t len parts, ty, pos, after, gd⟩ (yl ops σ) = true := by rfl) (hd : Nat.blt d N = true := by rfl)
    (h : ∀ g w', k.R e w' w.heap.size (fun _ => True) (.slice (some ⟨g, 0, none⟩) len len) xs → w.grownBy w' none → GL r P N ds ops Q rest (upd σ d (.slice (some ⟨g, 0, none⟩) len len)) w') :
    GL r P N ds ops Q (⟨some d, .buildSlice t len parts, ty, pos, after, gd⟩ :: rest) σ w := by
  subst hl
  exact GL_val hw (by intro c hc; cases hc) (v := .slice (some ⟨w.heap.size, 0, none⟩) xs.length xs.length) (w' := w.alloc (.cells inner.toArray e)) (by simp only [execOp]; rw [Sem.run_bind, hrun]; rfl) hd
    (h _ _ (fresh_R k hrep (by omega)) (World.grownBy_alloc w _ none))
/-- make([]T, n). -/
theorem g_makeR {α : Type} (k : Kd α) {n : Nat} {z : Value} {z0 : α} {bytes : Nat} {okp : Nat → Prop} (ht : P.underlying t = some (.slice e)) (hinfo : (P.info? e).map (fun i => (i.zero, i.size, i.bytes)) = some (some z, k.sz, bytes)) (hz : z.cells.size = k.sz) (hs0 : 0 < k.sz) (hb0 : 0 < bytes)
    (hzero : k.M w w.heap.size okp z0 z.cells.toList) (hx : ev σ x = .int .i64 (n : Int)) (hy : ev σ y = .int .i64 (n : Int)) (hl : n * bytes ≤ 281474976710656)
    (hw : Region.wanted ⟨some d, .makeSlice t x y, ty, pos, after, gd⟩ (yl ops σ) = true := by rfl) (hd : Nat.blt d N = true := by rfl)
    (h : ∀ g w', k.R e w' w.heap.size (fun _ => True) (.slice (some ⟨g, 0, none⟩) n n) (List.replicate n z0) → w.grownBy w' none → GL r P N ds ops Q rest (upd σ d (.slice (some ⟨g, 0, none⟩) n n)) w') :
    GL r P N ds ops Q (⟨some d, .makeSlice t x y, ty, pos, after, gd⟩ :: rest) σ w := by
  obtain ⟨i0, hi, hzz⟩ := Option.map_eq_some_iff.1 hinfo
  simp only [Prod.mk.injEq] at hzz
  obtain ⟨hz0, hz1, hz2⟩ := hzz
  have hm : n ≤ 281474976710656 := Nat.le_trans (Nat.le_mul_of_pos_right _ hb0) hl
  have hr := run_make (P := P) w t e i0 z ht hi hz0 .i64 .i64 (n : Int) (n : Int) (by omega) (Int.le_refl _)
    (by
      have h3 : ((i0.bytes * n : Nat) : Int) ≤ 281474976710656 := by rw [hz2, Nat.mul_comm]; omega
      rwa [Int.natCast_mul] at h3) (by omega)
  simp only [Int.toNat_natCast] at hr
  rw [hz1] at hr
  have hR := fresh_R (e := e) k (xs := List.replicate n z0) (inner := (madeCells z.cells (n * k.sz)).toList) (okp := okp) (Kd.reps_made hz hs0 hzero n) (by simp; omega)
  rw [List.length_replicate, Array.toArray_toList] at hR
  exact GL_val hw (by intro c hc; cases hc) (v := .slice (some ⟨w.heap.size, 0, none⟩) n n) (w' := w.alloc (.cells (madeCells z.cells (n * k.sz)) e)) (by simp [execOp, hx, hy, hr]) hd (h _ _ hR (World.grownBy_alloc w _ none))
end
end Go.Proofs.G
