/- The operations, one lemma each. -/
import Derived.Test.YtpfoleggapngoaaG0
set_option linter.unusedVariables false
set_option linter.unusedSimpArgs false
namespace Go.Proofs.G
open Go Go.RowKit

/-- Only blocks of S may have turned; nothing has gone. -/
structure Ch (S : Nat → Prop) (w w' : World) : Prop where
  os : w'.os = w.os
  tape : w'.tape = w.tape
  output : w'.output = w.output
  size : w.heap.size ≤ w'.heap.size
  blk : ∀ k, k < w.heap.size → ¬ S k → w'.heap[k]? = w.heap[k]?
def nob : Nat → Prop := fun _ => False
theorem Ch.refl (S : Nat → Prop) (w : World) : Ch S w w := ⟨rfl, rfl, rfl, Nat.le_refl _, fun _ _ _ => rfl⟩
theorem Ch.mono {S S' : Nat → Prop} {w w' : World} (h : Ch S w w') (hs : ∀ k, k < w.heap.size → S k → S' k) : Ch S' w w' :=
  ⟨h.os, h.tape, h.output, h.size, fun k hk hn => h.blk k hk (fun hx => hn (hs k hk hx))⟩
/-- Two steps; what the second one turns must be of S, or new. -/
theorem Ch.trans {S S1 S2 : Nat → Prop} {a b c : World} (h : Ch S1 a b) (k : Ch S2 b c) (h1 : ∀ k, k < a.heap.size → S1 k → S k) (h2 : ∀ k, k < a.heap.size → S2 k → S k) : Ch S a c :=
  ⟨k.os.trans h.os, k.tape.trans h.tape, k.output.trans h.output, Nat.le_trans h.size k.size, fun i hi hn =>
    (k.blk i (Nat.lt_of_lt_of_le hi h.size) (fun hx => hn (h2 i hi hx))).trans (h.blk i hi (fun hx => hn (h1 i hi hx)))⟩
theorem Ch.then {S : Nat → Prop} {a b c : World} (h : Ch S a b) (k : Ch nob b c) : Ch S a c := h.trans k (fun _ _ h => h) (fun _ _ h => h.elim)
theorem Ch.at_ {S : Nat → Prop} {w w' : World} (h : Ch S w w') {g : Nat} {o : Obj} (hb : w.heap[g]? = some o) (hn : ¬ S g) : w'.heap[g]? = some o :=
  (h.blk g (Array.getElem?_eq_some_iff.1 hb).1 hn).trans hb
theorem Ch.cell {S : Nat → Prop} {w w' : World} (h : Ch S w w') {a : Addr} {v : Value} (hc : w.cell? a = some v) (hn : ¬ S a.block) : w'.cell? a = some v :=
  (World.cell?_of_block (h.blk a.block (World.block_lt_of_cell? w a hc) hn)).trans hc
theorem Ch.below {S : Nat → Prop} {w w' : World} {B : Nat} (h : Ch S w w') (hB : B ≤ w.heap.size) (hs : ∀ k, k < B → ¬ S k) : Below B w w' :=
  ⟨h.os, h.tape, h.output, h.size, fun k hk => h.blk k (Nat.lt_of_lt_of_le hk hB) (hs k hk)⟩
theorem Ch.of_below {w w' : World} (h : Below w.heap.size w w') : Ch nob w w' := ⟨h.os, h.tape, h.output, h.size, fun k hk _ => h.block k hk⟩
theorem Ch.of_drewN (w : World) (n : Nat) : Ch nob w (w.drewN n) := ⟨rfl, rfl, rfl, Nat.le_refl _, fun _ _ _ => rfl⟩
theorem Ch.of_grown {w w' : World} {row : Option Nat} (h : w.grownBy w' row) : Ch (fun k => some k = row) w w' := ⟨h.os, h.tape, h.output, h.size, fun k hk hn => h.block k hk hn⟩
theorem Ch.of_alloc (w : World) (o : Obj) : Ch nob w (w.alloc o) := ⟨rfl, rfl, rfl, by simp, fun k hk _ => Below.heap_alloc w o k hk⟩
/-- Whatever lay below B lies so still, if nothing of S is below B. -/
theorem Ch.step {S : Nat → Prop} {w0 w w' : World} {B : Nat} (hb : Below B w0 w) (h : Ch S w w') (hB : B ≤ w.heap.size) (hs : ∀ k, k < B → ¬ S k) : Below B w0 w' := hb.trans (h.below hB hs)

/-- A new block. -/
structure New (w w' : World) (g : Nat) (o : Obj) : Prop where
  size : w.heap.size = g
  at_ : w'.heap[g]? = some o
  ch : Ch nob w w'
  size' : w'.heap.size = g + 1
theorem New.alloc (w : World) (o : Obj) : New w (w.alloc o) w.heap.size o := ⟨rfl, heap_alloc_new w o, Ch.of_alloc w o, by simp⟩

/-- Block g is now o'. -/
structure Put (w w' : World) (g : Nat) (o' : Obj) : Prop where
  ch : Ch (fun k => k = g) w w'
  at_ : w'.heap[g]? = some o'
  size : w'.heap.size = w.heap.size

section
variable {r : Option Nat} {P : Program} {N : Nat} {ds : List Deferred} {Q : Exit → Act → World → Prop} {σ : Nat → Value} {w : World}
variable {ops : Array Oper} {rest : List Oper} {ty : TypeId} {pos : String} {after : Array Edge} {gd : Option (Nat × Bool)} {d : Nat} {x y : Operand}

theorem g_move (hw : Region.wanted ⟨some d, .move x, ty, pos, after, gd⟩ (yl ops σ) = true := by rfl) (hd : Nat.blt d N = true := by rfl) (h : GL r P N ds ops Q rest (upd σ d (ev σ x)) w) :
    GL r P N ds ops Q (⟨some d, .move x, ty, pos, after, gd⟩ :: rest) σ w :=
  GL_val hw (by intro c hc; cases hc) (v := ev σ x) rfl hd h
theorem g_assign (hw : Region.wanted ⟨some d, .assign x, ty, pos, after, gd⟩ (yl ops σ) = true := by rfl) (hd : Nat.blt d N = true := by rfl) (h : GL r P N ds ops Q rest (upd σ d (ev σ x)) w) :
    GL r P N ds ops Q (⟨some d, .assign x, ty, pos, after, gd⟩ :: rest) σ w :=
  GL_val hw (by intro c hc; cases hc) (v := ev σ x) rfl hd h
/-- A guard that says no. -/
theorem g_off {op : Op} (hw : Region.wanted ⟨some d, op, ty, pos, after, gd⟩ (yl ops σ) = false := by rfl) (hd : Nat.blt d N = true := by rfl) (h : GL r P N ds ops Q rest (upd σ d undef) w) :
    GL r P N ds ops Q (⟨some d, op, ty, pos, after, gd⟩ :: rest) σ w := GL_skip hw hd h

section arith
variable {t t' : TypeId} {a b : Int}
theorem g_add (hx : ev σ x = .int .i64 a) (hy : ev σ y = .int .i64 b) (hr : -9223372036854775808 ≤ a + b ∧ a + b ≤ 9223372036854775807)
    (hw : Region.wanted ⟨some d, .binOp .add t x y t', ty, pos, after, gd⟩ (yl ops σ) = true := by rfl) (hd : Nat.blt d N = true := by rfl) (h : GL r P N ds ops Q rest (upd σ d (.int .i64 (a + b))) w) :
    GL r P N ds ops Q (⟨some d, .binOp .add t x y t', ty, pos, after, gd⟩ :: rest) σ w :=
  GL_val hw (by intro c hc; cases hc) (v := .int .i64 (a + b)) (by simp [execOp, eqGuard, binOp, hx, hy, Op.intArith, IntWalk.i64_in _ hr]) hd h
theorem g_addw (hx : ev σ x = .int .i64 a) (hy : ev σ y = .int .i64 b)
    (hw : Region.wanted ⟨some d, .binOp .add t x y t', ty, pos, after, gd⟩ (yl ops σ) = true := by rfl) (hd : Nat.blt d N = true := by rfl) (h : GL r P N ds ops Q rest (upd σ d (.int .i64 (wrap64 (a + b)))) w) :
    GL r P N ds ops Q (⟨some d, .binOp .add t x y t', ty, pos, after, gd⟩ :: rest) σ w :=
  GL_val hw (by intro c hc; cases hc) (v := .int .i64 (wrap64 (a + b))) (by simp [execOp, eqGuard, binOp, hx, hy, Op.intArith, IntWalk.i64_left]) hd h
theorem g_sub (hx : ev σ x = .int .i64 a) (hy : ev σ y = .int .i64 b) (hr : -9223372036854775808 ≤ a - b ∧ a - b ≤ 9223372036854775807)
    (hw : Region.wanted ⟨some d, .binOp .sub t x y t', ty, pos, after, gd⟩ (yl ops σ) = true := by rfl) (hd : Nat.blt d N = true := by rfl) (h : GL r P N ds ops Q rest (upd σ d (.int .i64 (a - b))) w) :
    GL r P N ds ops Q (⟨some d, .binOp .sub t x y t', ty, pos, after, gd⟩ :: rest) σ w :=
  GL_val hw (by intro c hc; cases hc) (v := .int .i64 (a - b)) (by simp [execOp, eqGuard, binOp, hx, hy, Op.intArith, IntWalk.i64_in _ hr]) hd h
theorem g_lss (hx : ev σ x = .int .i64 a) (hy : ev σ y = .int .i64 b)
    (hw : Region.wanted ⟨some d, .binOp .lss t x y t', ty, pos, after, gd⟩ (yl ops σ) = true := by rfl) (hd : Nat.blt d N = true := by rfl)
    (h1 : a < b → GL r P N ds ops Q rest (upd σ d (.bool true)) w) (h2 : ¬ a < b → GL r P N ds ops Q rest (upd σ d (.bool false)) w) :
    GL r P N ds ops Q (⟨some d, .binOp .lss t x y t', ty, pos, after, gd⟩ :: rest) σ w := by
  by_cases c : a < b
  · exact GL_val hw (by intro c hc; cases hc) (v := .bool true) (by simp [execOp, eqGuard, binOp, hx, hy, Op.intCmp, c]) hd (h1 c)
  · exact GL_val hw (by intro c hc; cases hc) (v := .bool false) (by simp [execOp, eqGuard, binOp, hx, hy, Op.intCmp]; omega) hd (h2 c)
theorem g_leq (hx : ev σ x = .int .i64 a) (hy : ev σ y = .int .i64 b)
    (hw : Region.wanted ⟨some d, .binOp .leq t x y t', ty, pos, after, gd⟩ (yl ops σ) = true := by rfl) (hd : Nat.blt d N = true := by rfl)
    (h1 : a ≤ b → GL r P N ds ops Q rest (upd σ d (.bool true)) w) (h2 : ¬ a ≤ b → GL r P N ds ops Q rest (upd σ d (.bool false)) w) :
    GL r P N ds ops Q (⟨some d, .binOp .leq t x y t', ty, pos, after, gd⟩ :: rest) σ w := by
  by_cases c : a ≤ b
  · exact GL_val hw (by intro c hc; cases hc) (v := .bool true) (by simp [execOp, eqGuard, binOp, hx, hy, Op.intCmp, c]) hd (h1 c)
  · exact GL_val hw (by intro c hc; cases hc) (v := .bool false) (by simp [execOp, eqGuard, binOp, hx, hy, Op.intCmp]; omega) hd (h2 c)
theorem g_gtr (hx : ev σ x = .int .i64 a) (hy : ev σ y = .int .i64 b)
    (hw : Region.wanted ⟨some d, .binOp .gtr t x y t', ty, pos, after, gd⟩ (yl ops σ) = true := by rfl) (hd : Nat.blt d N = true := by rfl)
    (h1 : b < a → GL r P N ds ops Q rest (upd σ d (.bool true)) w) (h2 : ¬ b < a → GL r P N ds ops Q rest (upd σ d (.bool false)) w) :
    GL r P N ds ops Q (⟨some d, .binOp .gtr t x y t', ty, pos, after, gd⟩ :: rest) σ w := by
  by_cases c : b < a
  · exact GL_val hw (by intro c hc; cases hc) (v := .bool true) (by simp [execOp, eqGuard, binOp, hx, hy, Op.intCmp, c]) hd (h1 c)
  · exact GL_val hw (by intro c hc; cases hc) (v := .bool false) (by simp [execOp, eqGuard, binOp, hx, hy, Op.intCmp]; omega) hd (h2 c)
theorem g_geq (hx : ev σ x = .int .i64 a) (hy : ev σ y = .int .i64 b)
    (hw : Region.wanted ⟨some d, .binOp .geq t x y t', ty, pos, after, gd⟩ (yl ops σ) = true := by rfl) (hd : Nat.blt d N = true := by rfl)
    (h1 : b ≤ a → GL r P N ds ops Q rest (upd σ d (.bool true)) w) (h2 : ¬ b ≤ a → GL r P N ds ops Q rest (upd σ d (.bool false)) w) :
    GL r P N ds ops Q (⟨some d, .binOp .geq t x y t', ty, pos, after, gd⟩ :: rest) σ w := by
  by_cases c : b ≤ a
  · exact GL_val hw (by intro c hc; cases hc) (v := .bool true) (by simp [execOp, eqGuard, binOp, hx, hy, Op.intCmp, c]) hd (h1 c)
  · exact GL_val hw (by intro c hc; cases hc) (v := .bool false) (by simp [execOp, eqGuard, binOp, hx, hy, Op.intCmp]; omega) hd (h2 c)
theorem g_eql (hx : ev σ x = .int .i64 a) (hy : ev σ y = .int .i64 b)
    (hw : Region.wanted ⟨some d, .binOp .eql t x y t', ty, pos, after, gd⟩ (yl ops σ) = true := by rfl) (hd : Nat.blt d N = true := by rfl)
    (h1 : a = b → GL r P N ds ops Q rest (upd σ d (.bool true)) w) (h2 : a ≠ b → GL r P N ds ops Q rest (upd σ d (.bool false)) w) :
    GL r P N ds ops Q (⟨some d, .binOp .eql t x y t', ty, pos, after, gd⟩ :: rest) σ w := by
  by_cases c : a = b
  · exact GL_val hw (by intro c hc; cases hc) (v := .bool true) (by simp [execOp, eqGuard, binOp, hx, hy, Op.intCmp, c]) hd (h1 c)
  · exact GL_val hw (by intro c hc; cases hc) (v := .bool false) (by simp [execOp, eqGuard, binOp, hx, hy, Op.intCmp, c]) hd (h2 c)
theorem g_neq (hx : ev σ x = .int .i64 a) (hy : ev σ y = .int .i64 b)
    (hw : Region.wanted ⟨some d, .binOp .neq t x y t', ty, pos, after, gd⟩ (yl ops σ) = true := by rfl) (hd : Nat.blt d N = true := by rfl)
    (h1 : a ≠ b → GL r P N ds ops Q rest (upd σ d (.bool true)) w) (h2 : a = b → GL r P N ds ops Q rest (upd σ d (.bool false)) w) :
    GL r P N ds ops Q (⟨some d, .binOp .neq t x y t', ty, pos, after, gd⟩ :: rest) σ w := by
  by_cases c : a = b
  · exact GL_val hw (by intro c hc; cases hc) (v := .bool false) (by simp [execOp, eqGuard, binOp, hx, hy, Op.intCmp, c]) hd (h2 c)
  · exact GL_val hw (by intro c hc; cases hc) (v := .bool true) (by simp [execOp, eqGuard, binOp, hx, hy, Op.intCmp, c]) hd (h1 c)
theorem g_not {b : Bool} (hx : ev σ x = .bool b)
    (hw : Region.wanted ⟨some d, .unOp .not t x, ty, pos, after, gd⟩ (yl ops σ) = true := by rfl) (hd : Nat.blt d N = true := by rfl) (h : GL r P N ds ops Q rest (upd σ d (.bool (!b))) w) :
    GL r P N ds ops Q (⟨some d, .unOp .not t x, ty, pos, after, gd⟩ :: rest) σ w :=
  GL_val hw (by intro c hc; cases hc) (v := .bool (!b)) (by simp [execOp, hx, Op.unary]) hd h
theorem g_pickT {c : Operand} (hc : ev σ c = .bool true)
    (hw : Region.wanted ⟨some d, .pick c x y, ty, pos, after, gd⟩ (yl ops σ) = true := by rfl) (hd : Nat.blt d N = true := by rfl) (h : GL r P N ds ops Q rest (upd σ d (ev σ x)) w) :
    GL r P N ds ops Q (⟨some d, .pick c x y, ty, pos, after, gd⟩ :: rest) σ w :=
  GL_val hw (by intro c hc; cases hc) (v := ev σ x) (by simp [execOp, hc, asBool]) hd h
theorem g_pickF {c : Operand} (hc : ev σ c = .bool false)
    (hw : Region.wanted ⟨some d, .pick c x y, ty, pos, after, gd⟩ (yl ops σ) = true := by rfl) (hd : Nat.blt d N = true := by rfl) (h : GL r P N ds ops Q rest (upd σ d (ev σ y)) w) :
    GL r P N ds ops Q (⟨some d, .pick c x y, ty, pos, after, gd⟩ :: rest) σ w :=
  GL_val hw (by intro c hc; cases hc) (v := ev σ y) (by simp [execOp, hc, asBool]) hd h
theorem g_extract {vs : Array Value} {i : Nat} {v : Value} (hx : ev σ x = .tuple vs) (hv : vs[i]? = some v)
    (hw : Region.wanted ⟨some d, .extract x i, ty, pos, after, gd⟩ (yl ops σ) = true := by rfl) (hd : Nat.blt d N = true := by rfl) (h : GL r P N ds ops Q rest (upd σ d v) w) :
    GL r P N ds ops Q (⟨some d, .extract x i, ty, pos, after, gd⟩ :: rest) σ w :=
  GL_val hw (by intro c hc; cases hc) (v := v) (by simp [execOp, hx, Instr.extract, hv]) hd h
theorem g_makeFunc {fn : Fn} {first captured : Array Operand}
    (hw : Region.wanted ⟨some d, .makeFunc fn first captured, ty, pos, after, gd⟩ (yl ops σ) = true := by rfl) (hd : Nat.blt d N = true := by rfl) (h : GL r P N ds ops Q rest (upd σ d (.func fn (first.map (ev σ)) (captured.map (ev σ)))) w) :
    GL r P N ds ops Q (⟨some d, .makeFunc fn first captured, ty, pos, after, gd⟩ :: rest) σ w :=
  GL_val hw (by intro c hc; cases hc) (v := .func fn (first.map (ev σ)) (captured.map (ev σ))) (by simp [execOp, Instr.makeFunc]) hd h
end arith

/-! ### Memory -/
section mem
variable {t t' : TypeId}
theorem g_box {v : Value} (hx : ev σ x = v)
    (hw : Region.wanted ⟨some d, .box t x, ty, pos, after, gd⟩ (yl ops σ) = true := by rfl) (hd : Nat.blt d N = true := by rfl)
    (h : ∀ g w', New w w' g (.cells v.cells t) → GL r P N ds ops Q rest (upd σ d (.pointer (some ⟨g, 0, none⟩))) w') :
    GL r P N ds ops Q (⟨some d, .box t x, ty, pos, after, gd⟩ :: rest) σ w :=
  GL_val hw (by intro c hc; cases hc) (v := .pointer (some ⟨w.heap.size, 0, none⟩)) (w' := w.alloc (.cells v.cells t)) (by simp [execOp, Instr.box, newVar, newRow, hx]) hd (h _ _ (New.alloc _ _))
theorem g_alloc {z : Value} (hz : (P.info? t).map (·.zero) = some (some z))
    (hw : Region.wanted ⟨some d, .alloc t, ty, pos, after, gd⟩ (yl ops σ) = true := by rfl) (hd : Nat.blt d N = true := by rfl)
    (h : ∀ g w', New w w' g (.cells z.cells t) → GL r P N ds ops Q rest (upd σ d (.pointer (some ⟨g, 0, none⟩))) w') :
    GL r P N ds ops Q (⟨some d, .alloc t, ty, pos, after, gd⟩ :: rest) σ w := by
  obtain ⟨i, hi, hzz⟩ := Option.map_eq_some_iff.1 hz
  exact GL_val hw (by intro c hc; cases hc) (v := .pointer (some ⟨w.heap.size, 0, none⟩)) (w' := w.alloc (.cells z.cells t)) (by simp [execOp, Instr.alloc, zeroValue, typeInfo, hi, hzz, newVar, newRow]) hd (h _ _ (New.alloc _ _))

def isAggD : TypeDesc → Bool | .struct _ | .array _ _ => true | _ => false
theorem run_isAgg {dsc : TypeDesc} (ht : P.underlying t = some dsc) : (isAgg t).run P w = .ok (isAggD dsc) w := by
  simp only [isAgg, Sem.run_bind, run_underlying ht, Result.andThen]
  cases dsc <;> rfl

theorem g_load1 {ad : Addr} {v : Value} {dsc : TypeDesc} (hx : ev σ x = .pointer (some ad)) (ht : P.underlying t = some dsc) (hc : w.cell? ad = some v) (hs : isAggD dsc = false := by rfl)
    (hw : Region.wanted ⟨some d, .load t x, ty, pos, after, gd⟩ (yl ops σ) = true := by rfl) (hd : Nat.blt d N = true := by rfl) (h : GL r P N ds ops Q rest (upd σ d v) w) :
    GL r P N ds ops Q (⟨some d, .load t x, ty, pos, after, gd⟩ :: rest) σ w :=
  GL_val hw (by intro c hc; cases hc) (v := v) (by
    have := run_isAgg (w := w) ht
    rw [hs] at this
    simp [execOp, hx, Instr.loadAt, Instr.sureAddr, loadVar, this, load, hc, Result.andThen, Sem.run]) hd h
theorem g_loadA {ad : Addr} {l : List Value} {dsc : TypeDesc} (hx : ev σ x = .pointer (some ad)) (ht : P.underlying t = some dsc) (hsz : (P.info? t).map (·.size) = some l.length)
    (hc : ∀ j v, l[j]? = some v → w.cell? (ad.add j) = some v) (hs : isAggD dsc = true := by rfl)
    (hw : Region.wanted ⟨some d, .load t x, ty, pos, after, gd⟩ (yl ops σ) = true := by rfl) (hd : Nat.blt d N = true := by rfl) (h : GL r P N ds ops Q rest (upd σ d (.agg l.toArray)) w) :
    GL r P N ds ops Q (⟨some d, .load t x, ty, pos, after, gd⟩ :: rest) σ w := by
  obtain ⟨i, hi, hzz⟩ := Option.map_eq_some_iff.1 hsz
  exact GL_val hw (by intro c hc; cases hc) (v := .agg l.toArray) (by
    have h1 := run_isAgg (w := w) ht
    rw [hs] at h1
    have h2 := run_loadCells_list (P := P) (w := w) ad l hc
    simp [execOp, hx, Instr.loadAt, Instr.sureAddr, loadVar, h1, sizeOf, typeInfo, hi, hzz, h2, Result.andThen]) hd h

theorem cells_put {cs : Array Value} {g o : Nat} {t0 : TypeId} (hb : w.heap[g]? = some (.cells cs t0 (0, 0))) (v : Value) :
    Put w (w.setCell ⟨g, o, none⟩ v) g (.cells (cs.setIfInBounds o v) t0 (0, 0)) :=
  ⟨⟨rfl, rfl, rfl, by simp [World.setCell], fun k hk hn => Below.heap_setCell w _ v k hn⟩, by simp [World.setCell, Array.getElem?_modify, hb], by simp [World.setCell]⟩
theorem setRow_put {cs cs' : Array Value} {g : Nat} {t0 : TypeId} (hb : w.heap[g]? = some (.cells cs t0 (0, 0))) : Put w (w.setRow g cs') g (.cells cs' t0 (0, 0)) := by
  refine ⟨⟨rfl, rfl, rfl, by simp, fun k hk hn => ?_⟩, ?_, by simp⟩
  · simp [World.setRow, Array.getElem?_modify, Ne.symm hn]
  · simp [World.setRow, Array.getElem?_modify, hb]

/-- A store of one cell into a block that is told. -/
theorem g_store1 {g o : Nat} {cs : Array Value} {t0 : TypeId} {v : Value} (hx : ev σ x = .pointer (some ⟨g, o, none⟩)) (hy : ev σ y = v) (hsz : (P.info? t).map (·.size) = some 1) (hb : w.heap[g]? = some (.cells cs t0 (0, 0)))
    (ho : o < cs.size) (h1 : v.oneCell' = true := by rfl)
    (hw : Region.wanted ⟨none, .store t x y, ty, pos, after, gd⟩ (yl ops σ) = true := by rfl)
    (h : ∀ w', Put w w' g (.cells (cs.setIfInBounds o v) t0 (0, 0)) → GL r P N ds ops Q rest σ w') :
    GL r P N ds ops Q (⟨none, .store t x y, ty, pos, after, gd⟩ :: rest) σ w := by
  obtain ⟨i, hi, hzz⟩ := Option.map_eq_some_iff.1 hsz
  refine GL_unit hw (by intro c hc; cases hc) (w' := w.setCell ⟨g, o, none⟩ v) ?_ rfl (h _ (cells_put hb v))
  have hc : w.cell? ⟨g, o, none⟩ = some cs[o] := by rw [cell_of_row w g o cs t0 (0, 0) hb]; simp [ho]
  have hf : w.frozen? ⟨g, o, none⟩ = false := frozen_of_row w g o cs t0 hb
  have hcells : v.cells = #[v] := by cases v <;> first | rfl | simp [Value.oneCell'] at h1
  simp only [execOp, hx, hy, Instr.storeAt, Instr.sureAddr, storeVar, hcells]
  have hst := run_store P w ⟨g, o, none⟩ v .plain h1
  rw [hc] at hst
  simp only [hf, Bool.false_eq_true, if_false] at hst
  simp [sizeOf, typeInfo, hi, hzz, storeCells, Addr.add, hst]
/-- A store of a whole variable. -/
theorem g_storeA {g : Nat} {cs cells : Array Value} {t0 : TypeId} (hx : ev σ x = .pointer (some ⟨g, 0, none⟩)) (hy : ev σ y = .agg cells) (hsz : (P.info? t).map (·.size) = some cells.size) (hb : w.heap[g]? = some (.cells cs t0 (0, 0)))
    (hl : cells.size = cs.size) (h1 : ∀ v ∈ cells, v.oneCell' = true)
    (hw : Region.wanted ⟨none, .store t x y, ty, pos, after, gd⟩ (yl ops σ) = true := by rfl)
    (h : ∀ w', Put w w' g (.cells cells t0 (0, 0)) → GL r P N ds ops Q rest σ w') :
    GL r P N ds ops Q (⟨none, .store t x y, ty, pos, after, gd⟩ :: rest) σ w := by
  obtain ⟨i, hi, hzz⟩ := Option.map_eq_some_iff.1 hsz
  have hst := run_storeCells_from (P := P) g t0 cells.toList 0 cs w hb (by simpa using hl) (by simpa using h1)
  refine GL_unit hw (by intro c hc; cases hc) (w' := w.setRow g cells) ?_ rfl (h _ (setRow_put hb))
  simp only [execOp, hx, hy, Instr.storeAt, Instr.sureAddr, storeVar, Value.cells]
  simp only [List.take_zero, List.nil_append, Array.toArray_toList, List.take] at hst
  simp [sizeOf, typeInfo, hi, hzz, hst]
end mem
end
end Go.Proofs.G
