/- Short names, for printed walks. -/
import Derived.Test.YtpfoleggapngoaaG6
set_option linter.unusedVariables false
namespace Go.Proofs.G
open Go Go.RowKit
section
variable {r : Option Nat} {P : Program} {N : Nat} {ds : List Deferred} {Q : Exit → Act → World → Prop} {σ : Nat → Value} {w : World}
theorem Sq {x y : Code} (h : GC r P N ds x (Exit.then (fun a w => y.wpIn (FR r) 0 P Q a w) Q) σ w) : GC r P N ds (.seq x y) Q σ w := GC_seq h
theorem Sk (h : ∀ a, St N ds σ a → Q .normal a w) : GC r P N ds .skip Q σ w := GC_skip h
theorem Lb {l : Nat} (h : ∀ a, St N ds σ a → Q .normal a w) : GC r P N ds (.label l) Q σ w := GC_label h
theorem Xi {id : Nat} (h : ∀ a, St N ds σ a → Q (.exit id) a w) : GC r P N ds (.exit id) Q σ w := GC_exit h
theorem Rt (h : ∀ a, St N ds σ a → Q .ret a w) : GC r P N ds .ret Q σ w := GC_ret h
theorem Ct {c : Operand} {x y : Code} (hc : ev σ c = .bool true) (h : GC r P N ds x Q σ w) : GC r P N ds (.cond c x y) Q σ w := GC_cond_true hc h
theorem Cf {c : Operand} {x y : Code} (hc : ev σ c = .bool false) (h : GC r P N ds y Q σ w) : GC r P N ds (.cond c x y) Q σ w := GC_cond_false hc h
theorem Bk {id : Nat} {c : Code} (h : GC r P N ds c (Exit.inBlock id Q) σ w) : GC r P N ds (.block id c) Q σ w := GC_block h
theorem Rg {id : Nat} {l : List Oper} (h : GL r P N ds l.toArray Q l σ w) : GC r P N ds (.region id l.toArray false) Q σ w := GC_region h
theorem Nl {ops : Array Oper} (h : ∀ a, St N ds σ a → Q .normal a w) : GL r P N ds ops Q [] σ w := GL_nil h
theorem Tn {y : Code} (h : GC r P N ds y Q σ w) : ∀ a, St N ds σ a → Exit.then (fun a w => y.wpIn (FR r) 0 P Q a w) Q .normal a w := then_normal rfl h
theorem Tx {K : Act → World → Prop} {id : Nat} (h : ∀ a, St N ds σ a → Q (.exit id) a w) : ∀ a, St N ds σ a → Exit.then K Q (.exit id) a w := h
theorem Tr {K : Act → World → Prop} (h : ∀ a, St N ds σ a → Q .ret a w) : ∀ a, St N ds σ a → Exit.then K Q .ret a w := h
theorem Bn {id : Nat} (h : ∀ a, St N ds σ a → Q .normal a w) : ∀ a, St N ds σ a → Exit.inBlock id Q .normal a w := h
theorem Br {id : Nat} (h : ∀ a, St N ds σ a → Q .ret a w) : ∀ a, St N ds σ a → Exit.inBlock id Q .ret a w := h
theorem Bs {id : Nat} (h : ∀ a, St N ds σ a → Q .normal a w) : ∀ a, St N ds σ a → Exit.inBlock id Q (.exit id) a w := block_same h
theorem Bo {id id' : Nat} (h : ∀ a, St N ds σ a → Q (.exit id') a w) (hne : Nat.beq id' id = false := by rfl) : ∀ a, St N ds σ a → Exit.inBlock id Q (.exit id') a w := block_other hne h
variable {ops : Array Oper} {rest : List Oper} {ty : TypeId} {pos : String} {after : Array Edge} {gd : Option (Nat × Bool)} {d : Nat} {x y : Operand} {t e : TypeId}
theorem Mv (h : GL r P N ds ops Q rest (upd σ d (ev σ x)) w) (hw : Region.wanted ⟨some d, .move x, ty, pos, after, gd⟩ (yl ops σ) = true := by rfl) (hd : Nat.blt d N = true := by rfl) : GL r P N ds ops Q (⟨some d, .move x, ty, pos, after, gd⟩ :: rest) σ w := g_move hw hd h
theorem As (h : GL r P N ds ops Q rest (upd σ d (ev σ x)) w) (hw : Region.wanted ⟨some d, .assign x, ty, pos, after, gd⟩ (yl ops σ) = true := by rfl) (hd : Nat.blt d N = true := by rfl) : GL r P N ds ops Q (⟨some d, .assign x, ty, pos, after, gd⟩ :: rest) σ w := g_assign hw hd h
theorem Of {op : Op} (h : GL r P N ds ops Q rest (upd σ d undef) w) (hw : Region.wanted ⟨some d, op, ty, pos, after, gd⟩ (yl ops σ) = false := by rfl) (hd : Nat.blt d N = true := by rfl) : GL r P N ds ops Q (⟨some d, op, ty, pos, after, gd⟩ :: rest) σ w := g_off hw hd h
theorem Of0 {op : Op} (h : GL r P N ds ops Q rest σ w) (hw : Region.wanted ⟨none, op, ty, pos, after, gd⟩ (yl ops σ) = false := by rfl) : GL r P N ds ops Q (⟨none, op, ty, pos, after, gd⟩ :: rest) σ w := GL_skip hw rfl h
theorem Nt {b : Bool} (hx : ev σ x = .bool b) (h : GL r P N ds ops Q rest (upd σ d (.bool (!b))) w) (hw : Region.wanted ⟨some d, .unOp .not t x, ty, pos, after, gd⟩ (yl ops σ) = true := by rfl) (hd : Nat.blt d N = true := by rfl) : GL r P N ds ops Q (⟨some d, .unOp .not t x, ty, pos, after, gd⟩ :: rest) σ w := g_not hx hw hd h
theorem Pt {c : Operand} (hc : ev σ c = .bool true) (h : GL r P N ds ops Q rest (upd σ d (ev σ x)) w) (hw : Region.wanted ⟨some d, .pick c x y, ty, pos, after, gd⟩ (yl ops σ) = true := by rfl) (hd : Nat.blt d N = true := by rfl) : GL r P N ds ops Q (⟨some d, .pick c x y, ty, pos, after, gd⟩ :: rest) σ w := g_pickT hc hw hd h
theorem Pf {c : Operand} (hc : ev σ c = .bool false) (h : GL r P N ds ops Q rest (upd σ d (ev σ y)) w) (hw : Region.wanted ⟨some d, .pick c x y, ty, pos, after, gd⟩ (yl ops σ) = true := by rfl) (hd : Nat.blt d N = true := by rfl) : GL r P N ds ops Q (⟨some d, .pick c x y, ty, pos, after, gd⟩ :: rest) σ w := g_pickF hc hw hd h
theorem Xt {vs : Array Value} {i : Nat} {v : Value} (hx : ev σ x = .tuple vs) (hv : vs[i]? = some v) (h : GL r P N ds ops Q rest (upd σ d v) w) (hw : Region.wanted ⟨some d, .extract x i, ty, pos, after, gd⟩ (yl ops σ) = true := by rfl) (hd : Nat.blt d N = true := by rfl) : GL r P N ds ops Q (⟨some d, .extract x i, ty, pos, after, gd⟩ :: rest) σ w := g_extract hx hv hw hd h
theorem Mf {fn : Fn} {first captured : List Operand} (h : GL r P N ds ops Q rest (upd σ d (.func fn (first.map (ev σ)).toArray (captured.map (ev σ)).toArray)) w) (hw : Region.wanted ⟨some d, .makeFunc fn first.toArray captured.toArray, ty, pos, after, gd⟩ (yl ops σ) = true := by rfl) (hd : Nat.blt d N = true := by rfl) :
    GL r P N ds ops Q (⟨some d, .makeFunc fn first.toArray captured.toArray, ty, pos, after, gd⟩ :: rest) σ w := g_makeFunc hw hd (by rw [List.map_toArray, List.map_toArray]; exact h)
theorem Ln {A : Option Addr} {n c : Nat} (hu : P.underlying t = some (.slice e)) (hx : ev σ x = .slice A n c) (h : GL r P N ds ops Q rest (upd σ d (.int .i64 n)) w) (hw : Region.wanted ⟨some d, .call { callee := .builtin .len, args := #[x], argTypes := #[t] }, ty, pos, after, gd⟩ (yl ops σ) = true := by rfl) (hd : Nat.blt d N = true := by rfl) :
    GL r P N ds ops Q (⟨some d, .call { callee := .builtin .len, args := #[x], argTypes := #[t] }, ty, pos, after, gd⟩ :: rest) σ w := g_len hu hx hw hd h
theorem Fb {f off g o : Nat} (hf : ∀ w a, (Instr.fieldAt t (.pointer (some a)) f).run P w = .ok (.pointer (some (a.add off))) w) (hx : ev σ x = .pointer (some ⟨g, o, none⟩)) (h : GL r P N ds ops Q rest (upd σ d (.pointer (some ⟨g, o + off, none⟩))) w)
    (hw : Region.wanted ⟨some d, .fieldAddr t x f, ty, pos, after, gd⟩ (yl ops σ) = true := by rfl) (hd : Nat.blt d N = true := by rfl) : GL r P N ds ops Q (⟨some d, .fieldAddr t x f, ty, pos, after, gd⟩ :: rest) σ w := g_fieldAddrB hf hx hw hd h
theorem Fa {f off : Nat} {ad : Addr} (hf : ∀ w a, (Instr.fieldAt t (.pointer (some a)) f).run P w = .ok (.pointer (some (a.add off))) w) (hx : ev σ x = .pointer (some ad)) (h : GL r P N ds ops Q rest (upd σ d (.pointer (some (ad.add off)))) w)
    (hw : Region.wanted ⟨some d, .fieldAddr t x f, ty, pos, after, gd⟩ (yl ops σ) = true := by rfl) (hd : Nat.blt d N = true := by rfl) : GL r P N ds ops Q (⟨some d, .fieldAddr t x f, ty, pos, after, gd⟩ :: rest) σ w := g_fieldAddr hf hx rfl hw hd h
theorem L1 {ad : Addr} {v : Value} {dsc : TypeDesc} (ht : P.underlying t = some dsc) (hc : w.cell? ad = some v) (hx : ev σ x = .pointer (some ad)) (h : GL r P N ds ops Q rest (upd σ d v) w) (hs : isAggD dsc = false := by rfl)
    (hw : Region.wanted ⟨some d, .load t x, ty, pos, after, gd⟩ (yl ops σ) = true := by rfl) (hd : Nat.blt d N = true := by rfl) : GL r P N ds ops Q (⟨some d, .load t x, ty, pos, after, gd⟩ :: rest) σ w := g_load1 hx ht hc hs hw hd h
end
end Go.Proofs.G
