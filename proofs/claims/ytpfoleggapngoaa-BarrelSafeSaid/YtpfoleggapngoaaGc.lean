/- G: literals and append in regions that draw. -/
import Derived.Test.YtpfoleggapngoaaGb
set_option linter.unusedVariables false
namespace Go.Proofs.G
open Go Go.RowKit Go.Proofs Go.Proofs.YtpfoleggapngoaaW.PrintWords
section
variable {r : Option Nat} {P : Program} {N : Nat} {ds : List Deferred} {Q : Exit → Act → World → Prop} {σ : Nat → Value} {w : World} {E : List Nat} {C : World → Prop} {ops : Array Oper} {k : Nat} {L : Array Bool} {d : Nat} {t e ty : TypeId} {pos : String} {after : Array Edge} {gd : Option (Nat × Bool)} {x y : Operand}
theorem GO_lits {parts : List (Nat × Operand)} {vals : List (Nat × Value)} {len : Nat} {cells : Array Value} {i : Nat} (hi : ops[i]? = some ⟨some d, .buildSlice t len parts.toArray, ty, pos, after, gd⟩) (hw : Region.wanted ⟨some d, .buildSlice t len parts.toArray, ty, pos, after, gd⟩ (yl ops σ) = true) (hd : Nat.blt d N = true)
    (hrun : (Instr.buildSlice t len vals.toArray).run P w = .ok (.slice (some ⟨w.heap.size, 0, none⟩) len len) (w.alloc (.cells cells e))) (hv : parts.map (fun p => (p.1, ev σ p.2)) = vals)
    (h : ∀ g w', New w w' g (.cells cells e) → GD P N ds ops Q E C k (L.setIfInBounds i true) (upd σ d (.slice (some ⟨g, 0, none⟩) len len)) w') : GO P N ds ops Q E C k L i σ w :=
  GO_val hi hw rfl hd (r_buildSlice (cells := cells) (by rw [bld_map, hv]; exact hrun)) (h _ _ (New.alloc _ _))
theorem GO_appendR {α : Type} (kd : Kd α) {z : Value} {bytes base : Nat} {i : Nat} (hi : ops[i]? = some ⟨some d, .call { callee := .builtin .append, args := #[x, y], argTypes := #[t, t] }, ty, pos, after, gd⟩)
    (hw : Region.wanted ⟨some d, .call { callee := .builtin .append, args := #[x, y], argTypes := #[t, t] }, ty, pos, after, gd⟩ (yl ops σ) = true) (hd : Nat.blt d N = true)
    (ht : P.underlying t = some (.slice e)) (hinfo : (P.info? e).map (fun i => (i.zero, i.size, i.bytes)) = some (some z, kd.sz, bytes)) (hz : z.cells.size = kd.sz) (hs0 : 0 < kd.sz)
    {v : Value} {xs : List α} {p : α} {cs : List Value} {ok okp : Nat → Prop} {g c : Nat} {te : TypeId} {fr : Nat × Nat} (HO : kd.R e w base ok v xs) (hg : w.heap[g]? = some (.cells cs.toArray te fr)) (hp : kd.M w base okp p cs) (hokp : ∀ k, okp k → ok k ∧ some k ≠ v.ownBlock)
    (hfresh : ∀ k, w.heap.size ≤ k → ok k) (hbase : base ≤ w.heap.size) (hl : (xs.length + 1) * bytes ≤ 140737488355328) (hm : xs.length + 1 ≤ maxLen) (hx : ev σ x = v) (hy : ev σ y = .slice (some ⟨g, 0, none⟩) 1 c)
    (h : ∀ v' w', kd.R e w' base ok v' (xs ++ [p]) → w.grownBy w' v.ownBlock → (v'.ownBlock = v.ownBlock ∨ v'.ownBlock = some w.heap.size) → GD P N ds ops Q E C k (L.setIfInBounds i true) (upd σ d v') w') : GO P N ds ops Q E C k L i σ w := by
  obtain ⟨v', w', hrun, r1, r2, r3⟩ := run_appendR (P := P) (dst := some d) (ty := ty) (pos := pos) (after := after) (gd := gd) kd ht hinfo hz hs0 HO hg hp hokp hfresh hbase hl hm hx hy
  exact GO_val hi hw rfl hd hrun (h v' w' r1 r2 r3)
end
end Go.Proofs.G
