/- Addresses, calls, builtins, literals. -/
import Derived.Test.YtpfoleggapngoaaG1
import Derived.WalkSpells
set_option linter.unusedVariables false
set_option linter.unusedSimpArgs false
namespace Go.Proofs.G
open Go Go.RowKit

theorem add_lit (g o n : Nat) : (⟨g, o, none⟩ : Addr).add n = ⟨g, o + n, none⟩ := by
  unfold Addr.add; split
  · simp_all
  · rfl
theorem add_add (a : Addr) (i j : Nat) (h : a.spot = none) : (a.add i).add j = a.add (i + j) := by
  obtain ⟨g, o, s⟩ := a
  simp only at h
  subst h
  rw [add_lit, add_lit, add_lit, Nat.add_assoc]

section
variable {r : Option Nat} {P : Program} {N : Nat} {ds : List Deferred} {Q : Exit → Act → World → Prop} {σ : Nat → Value} {w : World}
variable {ops : Array Oper} {rest : List Oper} {ty : TypeId} {pos : String} {after : Array Edge} {gd : Option (Nat × Bool)} {d : Nat} {x y : Operand} {t e : TypeId}

theorem run_fieldAt {fields : Array Field} {fd : Field} {f off sz : Nat} (hu : P.underlying t = some (.struct fields)) (hf : fields[f]? = some fd) (ho : fd.offset = off)
    (hs : (P.info? fd.type).map (·.size) = some (sz + 1)) (w : World) (a : Addr) : (Instr.fieldAt t (.pointer (some a)) f).run P w = .ok (.pointer (some (a.add off))) w := by
  obtain ⟨i, hi, hzz⟩ := Option.map_eq_some_iff.1 hs
  simp [Instr.fieldAt, run_underlying hu, hf, Instr.sureAddr, fieldPlace, sizeOf, typeInfo, hi, hzz, ho]

theorem g_fieldAddr {f off : Nat} {ad ad' : Addr} (hf : ∀ w a, (Instr.fieldAt t (.pointer (some a)) f).run P w = .ok (.pointer (some (a.add off))) w) (hx : ev σ x = .pointer (some ad)) (ha : ad.add off = ad')
    (hw : Region.wanted ⟨some d, .fieldAddr t x f, ty, pos, after, gd⟩ (yl ops σ) = true := by rfl) (hd : Nat.blt d N = true := by rfl) (h : GL r P N ds ops Q rest (upd σ d (.pointer (some ad'))) w) :
    GL r P N ds ops Q (⟨some d, .fieldAddr t x f, ty, pos, after, gd⟩ :: rest) σ w :=
  GL_val hw (by intro c hc; cases hc) (v := .pointer (some ad')) (by simp [execOp, hx, hf, ha]) hd h
theorem g_fieldAddrB {f off g o : Nat} (hf : ∀ w a, (Instr.fieldAt t (.pointer (some a)) f).run P w = .ok (.pointer (some (a.add off))) w) (hx : ev σ x = .pointer (some ⟨g, o, none⟩))
    (hw : Region.wanted ⟨some d, .fieldAddr t x f, ty, pos, after, gd⟩ (yl ops σ) = true := by rfl) (hd : Nat.blt d N = true := by rfl) (h : GL r P N ds ops Q rest (upd σ d (.pointer (some ⟨g, o + off, none⟩))) w) :
    GL r P N ds ops Q (⟨some d, .fieldAddr t x f, ty, pos, after, gd⟩ :: rest) σ w :=
  g_fieldAddr hf hx (add_lit _ _ _) hw hd h
theorem g_indexS {k : IntKind} {i : Int} {ad : Addr} {len cap sz n : Nat} (hu : P.underlying t = some (.slice e)) (hsz : (P.info? e).map (·.size) = some sz) (hx : ev σ x = .slice (some ad) len cap) (hy : ev σ y = .int k i)
    (h0 : 0 ≤ i) (h1 : i < len) (hn : i.toNat * sz = n)
    (hw : Region.wanted ⟨some d, .indexAddr t x y, ty, pos, after, gd⟩ (yl ops σ) = true := by rfl) (hd : Nat.blt d N = true := by rfl) (h : GL r P N ds ops Q rest (upd σ d (.pointer (some (ad.add n)))) w) :
    GL r P N ds ops Q (⟨some d, .indexAddr t x y, ty, pos, after, gd⟩ :: rest) σ w := by
  obtain ⟨i', hi, hzz⟩ := Option.map_eq_some_iff.1 hsz
  exact GL_val hw (by intro c hc; cases hc) (v := .pointer (some (ad.add n))) (by
    simp [execOp, hx, hy, Instr.indexAt, asIntOf, run_underlying hu, h0, h1, sizeOf, typeInfo, hi, hzz, hn]) hd h
theorem g_indexA {k : IntKind} {i : Int} {ad ad' : Addr} {len sz : Nat} (hu : P.underlying t = some (.array len e)) (hsz : (P.info? e).map (·.size) = some sz) (hx : ev σ x = .pointer (some ad)) (hy : ev σ y = .int k i)
    (h0 : 0 ≤ i) (h1 : i < len) (hn : ad.add (i.toNat * sz) = ad')
    (hw : Region.wanted ⟨some d, .indexAddr t x y, ty, pos, after, gd⟩ (yl ops σ) = true := by rfl) (hd : Nat.blt d N = true := by rfl) (h : GL r P N ds ops Q rest (upd σ d (.pointer (some ad'))) w) :
    GL r P N ds ops Q (⟨some d, .indexAddr t x y, ty, pos, after, gd⟩ :: rest) σ w := by
  obtain ⟨i', hi, hzz⟩ := Option.map_eq_some_iff.1 hsz
  exact GL_val hw (by intro c hc; cases hc) (v := .pointer (some ad')) (by
    simp [execOp, hx, hy, Instr.indexAt, asIntOf, run_underlying hu, Instr.sureAddr, h0, h1, sizeOf, typeInfo, hi, hzz, hn]) hd h

/-! ### Calls -/
theorem enters {f : FuncId} {fn : Func} {c : Code} (hf : P.funcs[f]? = some fn) (hn : (fn.name == "runtime.NumGoroutine") = false) (hb : fn.body = some c) : ∀ args w, (callFunc f args).run P w = .ok (.enter f args) w := by
  intro args w
  have h1 : fn.name ≠ "runtime.NumGoroutine" := by simpa using hn
  simp [callFunc, hf, h1, hb, mark]
theorem g_call {f : FuncId} {args : List Operand} {ts : Array TypeId} {vals : List Value} {R : Ending → World → Prop} (he : ∀ args w, (callFunc f args).run P w = .ok (.enter f args) w)
    (hv : args.map (ev σ) = vals) (hc : Calls P f vals.toArray w R)
    (hw : Region.wanted ⟨some d, .call { callee := .value (.func f), args := args.toArray, argTypes := ts }, ty, pos, after, gd⟩ (yl ops σ) = true := by rfl) (hd : Nat.blt d N = true := by rfl)
    (h : ∀ e w', R e w' → ∃ v, e = .returned v ∧ GL r P N ds ops Q rest (upd σ d v) w') :
    GL r P N ds ops Q (⟨some d, .call { callee := .value (.func f), args := args.toArray, argTypes := ts }, ty, pos, after, gd⟩ :: rest) σ w :=
  GL_enter hw (by intro c hc; cases hc) (f := f) (args := vals.toArray) (w1 := w) (by simp [execOp, resolve, ev, Deferred.ofValue, invoke, hv, he]) hd hc h
theorem g_callv {f : FuncId} {args : List Operand} {ts : Array TypeId} {first captured vals : List Value} {R : Ending → World → Prop} (he : ∀ args w, (callFunc f args).run P w = .ok (.enter f args) w)
    (hx : ev σ x = .func (.func f) first.toArray captured.toArray) (hv : first ++ args.map (ev σ) ++ captured = vals) (hc : Calls P f vals.toArray w R)
    (hw : Region.wanted ⟨some d, .call { callee := .value x, args := args.toArray, argTypes := ts }, ty, pos, after, gd⟩ (yl ops σ) = true := by rfl) (hd : Nat.blt d N = true := by rfl)
    (h : ∀ e w', R e w' → ∃ v, e = .returned v ∧ GL r P N ds ops Q rest (upd σ d v) w') :
    GL r P N ds ops Q (⟨some d, .call { callee := .value x, args := args.toArray, argTypes := ts }, ty, pos, after, gd⟩ :: rest) σ w :=
  GL_enter hw (by intro c hc; cases hc) (f := f) (args := vals.toArray) (w1 := w) (by
    have : (first.toArray ++ args.toArray.map (ev σ)) ++ captured.toArray = vals.toArray := by rw [← hv]; simp
    simp only [execOp, resolve, hx, Deferred.ofValue, Sem.run_bind, Sem.run_pure, invoke]
    simp only [Result.andThen]
    rw [this, he]) hd hc h

/-! ### Builtins -/
theorem g_len {A : Option Addr} {n c : Nat} (hu : P.underlying t = some (.slice e)) (hx : ev σ x = .slice A n c)
    (hw : Region.wanted ⟨some d, .call { callee := .builtin .len, args := #[x], argTypes := #[t] }, ty, pos, after, gd⟩ (yl ops σ) = true := by rfl) (hd : Nat.blt d N = true := by rfl)
    (h : GL r P N ds ops Q rest (upd σ d (.int .i64 n)) w) :
    GL r P N ds ops Q (⟨some d, .call { callee := .builtin .len, args := #[x], argTypes := #[t] }, ty, pos, after, gd⟩ :: rest) σ w :=
  GL_val hw (by intro c hc; cases hc) (v := .int .i64 n) (by simp [execOp, resolve, hx, invoke, builtin, Builtin.len_, run_underlying hu, goInt]) hd h
theorem g_max {a b m : Int} {ts : Array TypeId} (hx : ev σ x = .int .i64 a) (hy : ev σ y = .int .i64 b) (hm : max a b = m)
    (hw : Region.wanted ⟨some d, .call { callee := .builtin .max, args := #[x, y], argTypes := ts }, ty, pos, after, gd⟩ (yl ops σ) = true := by rfl) (hd : Nat.blt d N = true := by rfl)
    (h : GL r P N ds ops Q rest (upd σ d (.int .i64 m)) w) :
    GL r P N ds ops Q (⟨some d, .call { callee := .builtin .max, args := #[x, y], argTypes := ts }, ty, pos, after, gd⟩ :: rest) σ w :=
  GL_val hw (by intro c hc; cases hc) (v := .int .i64 m) (by
    have : (if b > a then b else a) = m := by rw [← hm]; split <;> omega
    simp [execOp, resolve, hx, hy, invoke, builtin, Builtin.max_, Builtin.max2, this]) hd h
/-- append to a row of one's own. -/
theorem g_append {base : Nat} {i : TypeInfo} {z : Value} {size bytes : Nat} (h1 : P.underlying t = some (.slice e)) (h2 : P.info? e = some i) (h3 : i.zero = some z) (h4 : i.size = size) (h5 : i.bytes = bytes) (h6 : z.cells.size = size) (h7 : 0 < size)
    {v : Value} {k : Nat} {xs : List Value} (hx : ev σ x = v) (hown : w.ownsRow base e size v k xs) {ad : Addr} {m c : Nat} {news : List Value} (hy : ev σ y = .slice (some ad) m c) (hn : news.length = m * size)
    (hc : ∀ j u, news[j]? = some u → w.cell? (ad.add j) = some u) (h1c : ∀ u ∈ news, u.oneCell' = true) (b1 : k + m ≤ maxLen) (b2 : (k + m) * bytes ≤ 140737488355328) (b3 : base ≤ w.heap.size)
    (hw : Region.wanted ⟨some d, .call { callee := .builtin .append, args := #[x, y], argTypes := #[t, t] }, ty, pos, after, gd⟩ (yl ops σ) = true := by rfl) (hd : Nat.blt d N = true := by rfl)
    (h : ∀ v' w', w'.ownsRow base e size v' (k + m) (xs ++ news) → w.grownBy w' v.ownBlock → (v' = .slice none 0 0 ↔ v = .slice none 0 0 ∧ m = 0) → GL r P N ds ops Q rest (upd σ d v') w') :
    GL r P N ds ops Q (⟨some d, .call { callee := .builtin .append, args := #[x, y], argTypes := #[t, t] }, ty, pos, after, gd⟩ :: rest) σ w := by
  obtain ⟨v', w', hrun, r1, r2, r3⟩ := run_append_own (P := P) w base t ty e i z size bytes h1 h2 h3 h4 h5 h6 h7 v k xs hown ad m c news hn hc h1c b1 b2 b3
  exact GL_val hw (by intro c hc; cases hc) (v := v') (w' := w') (by simp [execOp, resolve, invoke, builtin, hx, hy, hrun]) hd (h v' w' r1 r2 r3)
/-- append where there is no room: a new row. -/
theorem g_append_new {i : TypeInfo} {z : Value} {size bytes : Nat} (h1 : P.underlying t = some (.slice e)) (h2 : P.info? e = some i) (h3 : i.zero = some z) (h4 : i.size = size) (h5 : i.bytes = bytes) (h6 : z.cells.size = size) (h7 : 0 < size)
    {b : Addr} {n cap : Nat} {olds : List Value} (hx : ev σ x = .slice (some b) n cap) (hlo : olds.length = n * size) (ho : ∀ j u, olds[j]? = some u → w.cell? (b.add j) = some u)
    {ad : Addr} {m c : Nat} {news : List Value} (hy : ev σ y = .slice (some ad) m c) (hn : news.length = m * size)
    (hc : ∀ j u, news[j]? = some u → w.cell? (ad.add j) = some u) (hg : cap < n + m) (b1 : n + m ≤ maxLen) (b2 : (n + m) * bytes ≤ 140737488355328)
    (hw : Region.wanted ⟨some d, .call { callee := .builtin .append, args := #[x, y], argTypes := #[t, t] }, ty, pos, after, gd⟩ (yl ops σ) = true := by rfl) (hd : Nat.blt d N = true := by rfl)
    (h : ∀ v' w', w'.ownsRow w.heap.size e size v' (n + m) (olds ++ news) → w.grownBy w' none → GL r P N ds ops Q rest (upd σ d v') w') :
    GL r P N ds ops Q (⟨some d, .call { callee := .builtin .append, args := #[x, y], argTypes := #[t, t] }, ty, pos, after, gd⟩ :: rest) σ w := by
  obtain ⟨v', w', hrun, r1, r2⟩ := run_append_arg_grows (P := P) (w := w) t ty e i z size bytes h1 h2 h3 h4 h5 h6 h7 b n cap olds hlo ho ad m c news hn hc hg b1 b2
  exact GL_val hw (by intro c hc; cases hc) (v := v') (w' := w') (by simp [execOp, resolve, invoke, builtin, hx, hy, hrun]) hd (h v' w' r1 r2)

/-! ### Literals -/
theorem g_build {parts : Array (Nat × Operand)} {v : Value} (hrun : (Instr.build t (parts.map fun (i, x) => (i, ev σ x))).run P w = .ok v w)
    (hw : Region.wanted ⟨some d, .build t parts, ty, pos, after, gd⟩ (yl ops σ) = true := by rfl) (hd : Nat.blt d N = true := by rfl) (h : GL r P N ds ops Q rest (upd σ d v) w) :
    GL r P N ds ops Q (⟨some d, .build t parts, ty, pos, after, gd⟩ :: rest) σ w :=
  GL_val hw (by intro c hc; cases hc) (v := v) (by simp only [execOp]; rw [Sem.run_bind, hrun]; rfl) hd h
theorem g_buildSlice {parts : Array (Nat × Operand)} {len : Nat} {cells : Array Value} (hrun : (Instr.buildSlice t len (parts.map fun (i, x) => (i, ev σ x))).run P w = .ok (.slice (some ⟨w.heap.size, 0, none⟩) len len) (w.alloc (.cells cells e)))
    (hw : Region.wanted ⟨some d, .buildSlice t len parts, ty, pos, after, gd⟩ (yl ops σ) = true := by rfl) (hd : Nat.blt d N = true := by rfl)
    (h : ∀ g w', New w w' g (.cells cells e) → GL r P N ds ops Q rest (upd σ d (.slice (some ⟨g, 0, none⟩) len len)) w') :
    GL r P N ds ops Q (⟨some d, .buildSlice t len parts, ty, pos, after, gd⟩ :: rest) σ w :=
  GL_val hw (by intro c hc; cases hc) (v := .slice (some ⟨w.heap.size, 0, none⟩) len len) (w' := w.alloc (.cells cells e)) (by simp only [execOp]; rw [Sem.run_bind, hrun]; rfl) hd (h _ _ (New.alloc _ _))
/-- 'xs[:n:m]' of a slice. -/
theorem g_slice3 {A : Option Addr} {len cap n m : Nat} {a b : Int} {kx ky : Operand} (hu : P.underlying t = some (.slice e)) (hsz : ∃ i, P.info? e = some i) (hx : ev σ x = .slice A len cap) (ha : ev σ kx = .int .i64 a) (hb : ev σ ky = .int .i64 b)
    (hn : a = (n : Int)) (hm : b = (m : Int)) (h1 : n ≤ m) (h2 : m ≤ cap)
    (hw : Region.wanted ⟨some d, .slice t x none (some kx) (some ky), ty, pos, after, gd⟩ (yl ops σ) = true := by rfl) (hd : Nat.blt d N = true := by rfl) (h : GL r P N ds ops Q rest (upd σ d (.slice A n m)) w) :
    GL r P N ds ops Q (⟨some d, .slice t x none (some kx) (some ky), ty, pos, after, gd⟩ :: rest) σ w := by
  obtain ⟨i, hi⟩ := hsz
  subst hn hm
  have h1' : (n : Int) ≤ (m : Int) := by omega
  have h2' : (m : Int) ≤ (cap : Int) := by omega
  refine GL_val hw (by intro c hc; cases hc) (v := .slice A n m) ?_ hd h
  have hA : (A.map fun y => y.add 0) = A := by cases A <;> simp [Addr.add]
  simp [execOp, hx, ha, hb, Instr.sliceAt, Instr.slice, run_underlying hu, Instr.sliceBounds, Instr.sliceBound, asIntOf, h1', h2', h1, h2, sizeOf, typeInfo, hi, hA]
/-- 'a[:n:m]' of an array behind a pointer. -/
theorem g_slice3A {ad : Addr} {len n m : Nat} {a b : Int} {kx ky : Operand} (hu : P.underlying t = some (.array len e)) (hsz : ∃ i, P.info? e = some i) (hx : ev σ x = .pointer (some ad)) (ha : ev σ kx = .int .i64 a) (hb : ev σ ky = .int .i64 b)
    (hn : a = (n : Int)) (hm : b = (m : Int)) (h1 : n ≤ m) (h2 : m ≤ len)
    (hw : Region.wanted ⟨some d, .slice t x none (some kx) (some ky), ty, pos, after, gd⟩ (yl ops σ) = true := by rfl) (hd : Nat.blt d N = true := by rfl) (h : GL r P N ds ops Q rest (upd σ d (.slice (some ad) n m)) w) :
    GL r P N ds ops Q (⟨some d, .slice t x none (some kx) (some ky), ty, pos, after, gd⟩ :: rest) σ w := by
  obtain ⟨i, hi⟩ := hsz
  subst hn hm
  have h1' : (n : Int) ≤ (m : Int) := by omega
  have h2' : (m : Int) ≤ (len : Int) := by omega
  refine GL_val hw (by intro c hc; cases hc) (v := .slice (some ad) n m) ?_ hd h
  have hA : ad.add 0 = ad := by simp [Addr.add]
  simp [execOp, hx, ha, hb, Instr.sliceAt, run_underlying hu, Instr.sureAddr, Instr.sliceBounds, Instr.sliceBound, asIntOf, h1', h2', h1, h2, sizeOf, typeInfo, hi, hA]
theorem g_makeMap (hw : Region.wanted ⟨some d, .makeMap t none, ty, pos, after, gd⟩ (yl ops σ) = true := by rfl) (hd : Nat.blt d N = true := by rfl)
    (h : ∀ g w', New w w' g (.map #[] 0) → GL r P N ds ops Q rest (upd σ d (.map (some g))) w') :
    GL r P N ds ops Q (⟨some d, .makeMap t none, ty, pos, after, gd⟩ :: rest) σ w :=
  GL_val hw (by intro c hc; cases hc) (v := .map (some w.heap.size)) (w' := w.alloc (.map #[] 0)) (by simp [execOp, Instr.makeMap]) hd (h _ _ (New.alloc _ _))
/-- 'xs == nil', 'xs != nil'. -/
theorem g_eqlNil {A : Option Addr} {n c n' c' : Nat} {t' : TypeId} (hu : P.underlying t = some (.slice e)) (hx : ev σ x = .slice A n c) (hy : ev σ y = .slice none n' c')
    (hw : Region.wanted ⟨some d, .binOp .eql t x y t', ty, pos, after, gd⟩ (yl ops σ) = true := by rfl) (hd : Nat.blt d N = true := by rfl) (h : GL r P N ds ops Q rest (upd σ d (.bool A.isNone)) w) :
    GL r P N ds ops Q (⟨some d, .binOp .eql t x y t', ty, pos, after, gd⟩ :: rest) σ w :=
  GL_val hw (by intro c hc; cases hc) (v := .bool A.isNone) (by
    simp only [execOp, hx, hy]
    rw [Sem.run_bind, show eqGuard .eql t x y (.slice A n c) (.slice none n' c') = pure () from rfl]
    simp [Lib.run_eql_slice_nil w _ _ A n c n' c' hu]) hd h
theorem g_neqNil {A : Option Addr} {n c n' c' : Nat} {t' : TypeId} (hu : P.underlying t = some (.slice e)) (hx : ev σ x = .slice A n c) (hy : ev σ y = .slice none n' c')
    (hw : Region.wanted ⟨some d, .binOp .neq t x y t', ty, pos, after, gd⟩ (yl ops σ) = true := by rfl) (hd : Nat.blt d N = true := by rfl) (h : GL r P N ds ops Q rest (upd σ d (.bool (!A.isNone))) w) :
    GL r P N ds ops Q (⟨some d, .binOp .neq t x y t', ty, pos, after, gd⟩ :: rest) σ w :=
  GL_val hw (by intro c hc; cases hc) (v := .bool (!A.isNone)) (by
    simp only [execOp, hx, hy]
    rw [Sem.run_bind, show eqGuard .neq t x y (.slice A n c) (.slice none n' c') = pure () from rfl]
    simp [run_neq_slice_nil_any w _ _ A n c n' c' hu]) hd h
end
end Go.Proofs.G
