/- What an operation's run gives, for regions that draw. -/
import Derived.Test.YtpfoleggapngoaaG3
set_option linter.unusedVariables false
set_option linter.unusedSimpArgs false
namespace Go.Proofs.G
open Go Go.RowKit
section
variable {P : Program} {σ : Nat → Value} {w : World} {C : World → Prop} {ty : TypeId} {pos : String} {after : Array Edge} {gd : Option (Nat × Bool)} {dst : Option Nat} {x y : Operand} {t t' e : TypeId}
theorem qv {o : Oper} {v : Value} {ρ : Operand → Value} (h : ∀ w, C w → (execOp ρ o).run P w = .ok (.value v) w) : QR P C (execOp ρ o) v := fun w hC => by rw [h w hC]; exact ⟨rfl, rfl⟩
theorem qc {o : Oper} {v : Value} {ρ : Operand → Value} {f : FuncId} {args : Array Value} (h : ∀ w, C w → (execOp ρ o).run P w = .ok (.enter f args) w) (hc : ∀ w, C w → Calls P f args w (fun e w'' => e = .returned v ∧ w'' = w)) : QR P C (execOp ρ o) v := fun w hC => by rw [h w hC]; exact ⟨rfl, hc w hC⟩
theorem r_move : (execOp (ev σ) ⟨dst, .move x, ty, pos, after, gd⟩).run P w = .ok (.value (ev σ x)) w := rfl
theorem r_assign : (execOp (ev σ) ⟨dst, .assign x, ty, pos, after, gd⟩).run P w = .ok (.value (ev σ x)) w := rfl
theorem r_not {b : Bool} (hx : ev σ x = .bool b) : (execOp (ev σ) ⟨dst, .unOp .not t x, ty, pos, after, gd⟩).run P w = .ok (.value (.bool (!b))) w := by simp [execOp, hx, Op.unary]
theorem r_pickT {c : Operand} (hc : ev σ c = .bool true) : (execOp (ev σ) ⟨dst, .pick c x y, ty, pos, after, gd⟩).run P w = .ok (.value (ev σ x)) w := by simp [execOp, hc, asBool]
theorem r_pickF {c : Operand} (hc : ev σ c = .bool false) : (execOp (ev σ) ⟨dst, .pick c x y, ty, pos, after, gd⟩).run P w = .ok (.value (ev σ y)) w := by simp [execOp, hc, asBool]
theorem r_extract {vs : Array Value} {i : Nat} {v : Value} (hx : ev σ x = .tuple vs) (hv : vs[i]? = some v) : (execOp (ev σ) ⟨dst, .extract x i, ty, pos, after, gd⟩).run P w = .ok (.value v) w := by simp [execOp, hx, Instr.extract, hv]
theorem r_makeFunc {fn : Fn} {first captured : Array Operand} : (execOp (ev σ) ⟨dst, .makeFunc fn first captured, ty, pos, after, gd⟩).run P w = .ok (.value (.func fn (first.map (ev σ)) (captured.map (ev σ)))) w := by simp [execOp, Instr.makeFunc]
section
variable {a b : Int} (hx : ev σ x = .int .i64 a) (hy : ev σ y = .int .i64 b)
include hx hy
theorem r_add (hr : -9223372036854775808 ≤ a + b ∧ a + b ≤ 9223372036854775807) : (execOp (ev σ) ⟨dst, .binOp .add t x y t', ty, pos, after, gd⟩).run P w = .ok (.value (.int .i64 (a + b))) w := by simp [execOp, eqGuard, binOp, hx, hy, Op.intArith, IntWalk.i64_in _ hr]
theorem r_addw : (execOp (ev σ) ⟨dst, .binOp .add t x y t', ty, pos, after, gd⟩).run P w = .ok (.value (.int .i64 (wrap64 (a + b)))) w := by simp [execOp, eqGuard, binOp, hx, hy, Op.intArith, IntWalk.i64_left]
theorem r_sub (hr : -9223372036854775808 ≤ a - b ∧ a - b ≤ 9223372036854775807) : (execOp (ev σ) ⟨dst, .binOp .sub t x y t', ty, pos, after, gd⟩).run P w = .ok (.value (.int .i64 (a - b))) w := by simp [execOp, eqGuard, binOp, hx, hy, Op.intArith, IntWalk.i64_in _ hr]
theorem r_subw : (execOp (ev σ) ⟨dst, .binOp .sub t x y t', ty, pos, after, gd⟩).run P w = .ok (.value (.int .i64 (wrap64 (a - b)))) w := by simp [execOp, eqGuard, binOp, hx, hy, Op.intArith, IntWalk.i64_left]
theorem r_lssT (c : a < b) : (execOp (ev σ) ⟨dst, .binOp .lss t x y t', ty, pos, after, gd⟩).run P w = .ok (.value (.bool true)) w := by simp [execOp, eqGuard, binOp, hx, hy, Op.intCmp, c]
theorem r_lssF (c : ¬ (a < b)) : (execOp (ev σ) ⟨dst, .binOp .lss t x y t', ty, pos, after, gd⟩).run P w = .ok (.value (.bool false)) w := by simp [execOp, eqGuard, binOp, hx, hy, Op.intCmp]; omega
theorem r_leqT (c : a ≤ b) : (execOp (ev σ) ⟨dst, .binOp .leq t x y t', ty, pos, after, gd⟩).run P w = .ok (.value (.bool true)) w := by simp [execOp, eqGuard, binOp, hx, hy, Op.intCmp, c]
theorem r_leqF (c : ¬ (a ≤ b)) : (execOp (ev σ) ⟨dst, .binOp .leq t x y t', ty, pos, after, gd⟩).run P w = .ok (.value (.bool false)) w := by simp [execOp, eqGuard, binOp, hx, hy, Op.intCmp]; omega
theorem r_gtrT (c : b < a) : (execOp (ev σ) ⟨dst, .binOp .gtr t x y t', ty, pos, after, gd⟩).run P w = .ok (.value (.bool true)) w := by simp [execOp, eqGuard, binOp, hx, hy, Op.intCmp, c]
theorem r_gtrF (c : ¬ (b < a)) : (execOp (ev σ) ⟨dst, .binOp .gtr t x y t', ty, pos, after, gd⟩).run P w = .ok (.value (.bool false)) w := by simp [execOp, eqGuard, binOp, hx, hy, Op.intCmp]; omega
theorem r_geqT (c : b ≤ a) : (execOp (ev σ) ⟨dst, .binOp .geq t x y t', ty, pos, after, gd⟩).run P w = .ok (.value (.bool true)) w := by simp [execOp, eqGuard, binOp, hx, hy, Op.intCmp, c]
theorem r_geqF (c : ¬ (b ≤ a)) : (execOp (ev σ) ⟨dst, .binOp .geq t x y t', ty, pos, after, gd⟩).run P w = .ok (.value (.bool false)) w := by simp [execOp, eqGuard, binOp, hx, hy, Op.intCmp]; omega
theorem r_eqlT (c : a = b) : (execOp (ev σ) ⟨dst, .binOp .eql t x y t', ty, pos, after, gd⟩).run P w = .ok (.value (.bool true)) w := by simp [execOp, eqGuard, binOp, hx, hy, Op.intCmp, c]
theorem r_eqlF (c : ¬ (a = b)) : (execOp (ev σ) ⟨dst, .binOp .eql t x y t', ty, pos, after, gd⟩).run P w = .ok (.value (.bool false)) w := by simp [execOp, eqGuard, binOp, hx, hy, Op.intCmp]; omega
theorem r_neqT (c : a ≠ b) : (execOp (ev σ) ⟨dst, .binOp .neq t x y t', ty, pos, after, gd⟩).run P w = .ok (.value (.bool true)) w := by simp [execOp, eqGuard, binOp, hx, hy, Op.intCmp, c]
theorem r_neqF (c : ¬ (a ≠ b)) : (execOp (ev σ) ⟨dst, .binOp .neq t x y t', ty, pos, after, gd⟩).run P w = .ok (.value (.bool false)) w := by simp [execOp, eqGuard, binOp, hx, hy, Op.intCmp]; omega
end
theorem r_fieldAddr {f off : Nat} {ad ad' : Addr} (hf : ∀ w a, (Instr.fieldAt t (.pointer (some a)) f).run P w = .ok (.pointer (some (a.add off))) w) (hx : ev σ x = .pointer (some ad)) (ha : ad.add off = ad') :
    (execOp (ev σ) ⟨dst, .fieldAddr t x f, ty, pos, after, gd⟩).run P w = .ok (.value (.pointer (some ad'))) w := by simp [execOp, hx, hf, ha]
theorem r_fieldAddrB {f off g o : Nat} (hf : ∀ w a, (Instr.fieldAt t (.pointer (some a)) f).run P w = .ok (.pointer (some (a.add off))) w) (hx : ev σ x = .pointer (some ⟨g, o, none⟩)) :
    (execOp (ev σ) ⟨dst, .fieldAddr t x f, ty, pos, after, gd⟩).run P w = .ok (.value (.pointer (some ⟨g, o + off, none⟩))) w := r_fieldAddr hf hx (add_lit _ _ _)
theorem r_indexS {k : IntKind} {i : Int} {ad : Addr} {len cap sz n : Nat} (hu : P.underlying t = some (.slice e)) (hsz : (P.info? e).map (·.size) = some sz) (hx : ev σ x = .slice (some ad) len cap) (hy : ev σ y = .int k i)
    (h0 : 0 ≤ i) (h1 : i < len) (hn : i.toNat * sz = n) : (execOp (ev σ) ⟨dst, .indexAddr t x y, ty, pos, after, gd⟩).run P w = .ok (.value (.pointer (some (ad.add n)))) w := by
  obtain ⟨i', hi, hzz⟩ := Option.map_eq_some_iff.1 hsz
  simp [execOp, hx, hy, Instr.indexAt, asIntOf, run_underlying hu, h0, h1, sizeOf, typeInfo, hi, hzz, hn]
theorem r_indexA {k : IntKind} {i : Int} {ad ad' : Addr} {len sz : Nat} (hu : P.underlying t = some (.array len e)) (hsz : (P.info? e).map (·.size) = some sz) (hx : ev σ x = .pointer (some ad)) (hy : ev σ y = .int k i)
    (h0 : 0 ≤ i) (h1 : i < len) (hn : ad.add (i.toNat * sz) = ad') : (execOp (ev σ) ⟨dst, .indexAddr t x y, ty, pos, after, gd⟩).run P w = .ok (.value (.pointer (some ad'))) w := by
  obtain ⟨i', hi, hzz⟩ := Option.map_eq_some_iff.1 hsz
  simp [execOp, hx, hy, Instr.indexAt, asIntOf, run_underlying hu, Instr.sureAddr, h0, h1, sizeOf, typeInfo, hi, hzz, hn]
theorem r_load1 {ad : Addr} {v : Value} {dsc : TypeDesc} (hx : ev σ x = .pointer (some ad)) (ht : P.underlying t = some dsc) (hc : w.cell? ad = some v) (hs : isAggD dsc = false := by rfl) :
    (execOp (ev σ) ⟨dst, .load t x, ty, pos, after, gd⟩).run P w = .ok (.value v) w := by
  have := run_isAgg (w := w) ht
  rw [hs] at this
  simp [execOp, hx, Instr.loadAt, Instr.sureAddr, loadVar, this, load, hc, Result.andThen, Sem.run]
theorem r_loadA {ad : Addr} {l : List Value} {dsc : TypeDesc} (hx : ev σ x = .pointer (some ad)) (ht : P.underlying t = some dsc) (hsz : (P.info? t).map (·.size) = some l.length)
    (hc : ∀ j v, l[j]? = some v → w.cell? (ad.add j) = some v) (hs : isAggD dsc = true := by rfl) :
    (execOp (ev σ) ⟨dst, .load t x, ty, pos, after, gd⟩).run P w = .ok (.value (.agg l.toArray)) w := by
  obtain ⟨i, hi, hzz⟩ := Option.map_eq_some_iff.1 hsz
  have h1 := run_isAgg (w := w) ht
  rw [hs] at h1
  have h2 := run_loadCells_list (P := P) (w := w) ad l hc
  simp [execOp, hx, Instr.loadAt, Instr.sureAddr, loadVar, h1, sizeOf, typeInfo, hi, hzz, h2, Result.andThen]
theorem r_len {A : Option Addr} {n c : Nat} (hu : P.underlying t = some (.slice e)) (hx : ev σ x = .slice A n c) :
    (execOp (ev σ) ⟨dst, .call { callee := .builtin .len, args := #[x], argTypes := #[t] }, ty, pos, after, gd⟩).run P w = .ok (.value (.int .i64 n)) w := by
  simp [execOp, resolve, hx, invoke, builtin, Builtin.len_, run_underlying hu, goInt]
theorem r_max {a b m : Int} {ts : Array TypeId} (hx : ev σ x = .int .i64 a) (hy : ev σ y = .int .i64 b) (hm : max a b = m) :
    (execOp (ev σ) ⟨dst, .call { callee := .builtin .max, args := #[x, y], argTypes := ts }, ty, pos, after, gd⟩).run P w = .ok (.value (.int .i64 m)) w := by
  have : (if b > a then b else a) = m := by rw [← hm]; split <;> omega
  simp [execOp, resolve, hx, hy, invoke, builtin, Builtin.max_, Builtin.max2, this]
theorem r_build {parts : Array (Nat × Operand)} {v : Value} (hrun : (Instr.build t (parts.map fun (i, x) => (i, ev σ x))).run P w = .ok v w) :
    (execOp (ev σ) ⟨dst, .build t parts, ty, pos, after, gd⟩).run P w = .ok (.value v) w := by simp only [execOp]; rw [Sem.run_bind, hrun]; rfl
theorem r_slice3 {A : Option Addr} {len cap n m : Nat} {a b : Int} {kx ky : Operand} (hu : P.underlying t = some (.slice e)) (hsz : ∃ i, P.info? e = some i) (hx : ev σ x = .slice A len cap) (ha : ev σ kx = .int .i64 a) (hb : ev σ ky = .int .i64 b)
    (hn : a = (n : Int)) (hm : b = (m : Int)) (h1 : n ≤ m) (h2 : m ≤ cap) : (execOp (ev σ) ⟨dst, .slice t x none (some kx) (some ky), ty, pos, after, gd⟩).run P w = .ok (.value (.slice A n m)) w := by
  obtain ⟨i, hi⟩ := hsz
  subst hn hm
  have h1' : (n : Int) ≤ (m : Int) := by omega
  have h2' : (m : Int) ≤ (cap : Int) := by omega
  have hA : (A.map fun y => y.add 0) = A := by cases A <;> simp [Addr.add]
  simp [execOp, hx, ha, hb, Instr.sliceAt, Instr.slice, run_underlying hu, Instr.sliceBounds, Instr.sliceBound, asIntOf, h1', h2', h1, h2, sizeOf, typeInfo, hi, hA]
theorem r_call {f : FuncId} {args : List Operand} {ts : Array TypeId} {vals : List Value} (he : ∀ args w, (callFunc f args).run P w = .ok (.enter f args) w) (hv : args.map (ev σ) = vals) :
    (execOp (ev σ) ⟨dst, .call { callee := .value (.func f), args := args.toArray, argTypes := ts }, ty, pos, after, gd⟩).run P w = .ok (.enter f vals.toArray) w := by simp [execOp, resolve, ev, Deferred.ofValue, invoke, hv, he]
theorem r_callv {f : FuncId} {args : List Operand} {ts : Array TypeId} {first captured vals : List Value} (he : ∀ args w, (callFunc f args).run P w = .ok (.enter f args) w)
    (hx : ev σ x = .func (.func f) first.toArray captured.toArray) (hv : first ++ args.map (ev σ) ++ captured = vals) :
    (execOp (ev σ) ⟨dst, .call { callee := .value x, args := args.toArray, argTypes := ts }, ty, pos, after, gd⟩).run P w = .ok (.enter f vals.toArray) w := by
  have : (first.toArray ++ args.toArray.map (ev σ)) ++ captured.toArray = vals.toArray := by rw [← hv]; simp
  simp only [execOp, resolve, hx, Deferred.ofValue, Sem.run_bind, Sem.run_pure, invoke]
  simp only [Result.andThen]
  rw [this, he]
theorem r_alloc {z : Value} (hz : (P.info? t).map (·.zero) = some (some z)) : (execOp (ev σ) ⟨dst, .alloc t, ty, pos, after, gd⟩).run P w = .ok (.value (.pointer (some ⟨w.heap.size, 0, none⟩))) (w.alloc (.cells z.cells t)) := by
  obtain ⟨i, hi, hzz⟩ := Option.map_eq_some_iff.1 hz
  simp [execOp, Instr.alloc, zeroValue, typeInfo, hi, hzz, newVar, newRow]
theorem r_buildSlice {parts : Array (Nat × Operand)} {len : Nat} {cells : Array Value} (hrun : (Instr.buildSlice t len (parts.map fun (i, x) => (i, ev σ x))).run P w = .ok (.slice (some ⟨w.heap.size, 0, none⟩) len len) (w.alloc (.cells cells e))) :
    (execOp (ev σ) ⟨dst, .buildSlice t len parts, ty, pos, after, gd⟩).run P w = .ok (.value (.slice (some ⟨w.heap.size, 0, none⟩) len len)) (w.alloc (.cells cells e)) := by simp only [execOp]; rw [Sem.run_bind, hrun]; rfl
theorem r_lookup {v : Value} {ok : Bool} (hrun : (Instr.lookup t (ev σ x) (ev σ y) ok).run P w = .ok v w) : (execOp (ev σ) ⟨dst, .lookup t x y ok, ty, pos, after, gd⟩).run P w = .ok (.value v) w := by simp only [execOp]; rw [Sem.run_bind, hrun]; rfl
end
end Go.Proofs.G
