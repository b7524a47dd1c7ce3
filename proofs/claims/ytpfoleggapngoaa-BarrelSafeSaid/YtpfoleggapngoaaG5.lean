/- Rows told by kinds. -/
import Derived.Test.YtpfoleggapngoaaG4
import Derived.Maps.AppendAt
import Derived.Test.YtpfoleggapngoaaWWords
set_option linter.unusedVariables false
set_option linter.unusedSimpArgs false
namespace Go.Proofs.G
open Go Go.RowKit Go.Proofs.YtpfoleggapngoaaW.PrintWords
theorem retb {b b' : Bool} (h : b = b') : Ending.returned (.bool b) = .returned (.bool b') := by rw [h]
theorem reti {a b : Int} (h : a = b) : Ending.returned (.int .i64 a) = .returned (.int .i64 b) := by rw [h]
theorem cellAt {w : World} {g j : Nat} {cs : Array Value} {t : TypeId} {fr : Nat × Nat} {v : Value} (hb : w.heap[g]? = some (.cells cs t fr)) (hj : cs[j]? = some v) : w.cell? ⟨g, j, none⟩ = some v := (cell_of_row w g j cs t fr hb).trans hj
theorem cellsAt {w : World} {g : Nat} {l : List Value} {t : TypeId} {fr : Nat × Nat} (hb : w.heap[g]? = some (.cells l.toArray t fr)) : ∀ j v, l[j]? = some v → w.cell? ((⟨g, 0, none⟩ : Addr).add j) = some v := fun j v hj => by
  rw [add_lit, Nat.zero_add]; exact cellAt hb (by simpa using hj)
theorem add0 (g n : Nat) : (⟨g, 0, none⟩ : Addr).add (n * 1) = ⟨g, n, none⟩ := by rw [add_lit, Nat.mul_one, Nat.zero_add]
theorem Ch.R {α : Type} {d : Kd α} {e base : Nat} {ok S : Nat → Prop} {w w' : World} {v : Value} {xs : List α} (hc : Ch S w w') (h : d.R e w base ok v xs) (hS : ∀ k, ok k → ¬ S k) : d.R e w' base ok v xs :=
  Kd.R_step h (fun k ho hlt => hc.blk k hlt (hS k ho))
theorem Ch.C {α : Type} {d : Kd α} {w w' : World} {A : Option Addr} {n : Nat} {xs : List α} (hc : Ch nob w w') (h : d.C w A n xs) : d.C w' A n xs := Kd.C_below h (hc.below (Nat.le_refl _) (fun _ _ => id))
/-- Which block is no row's own: by its type. -/
theorem R_ne {α : Type} {d : Kd α} {e base : Nat} {ok : Nat → Prop} {w : World} {v : Value} {xs : List α} (h : d.R e w base ok v xs) {g t : Nat} {cells : Array Value} {fr : Nat × Nat} (hb : w.heap[g]? = some (.cells cells t fr)) (ht : e ≠ t) : some g ≠ v.ownBlock := by
  intro he
  obtain ⟨inner, ho⟩ := Kd.R_own h
  obtain ⟨cells', hc⟩ := own_typed ho g he.symm
  rw [hc] at hb
  injection hb with hb
  injection hb with _ hb _
  exact ht hb
section
variable {r : Option Nat} {P : Program} {N : Nat} {ds : List Deferred} {Q : Exit → Act → World → Prop} {σ : Nat → Value} {w : World}
variable {ops : Array Oper} {rest : List Oper} {ty : TypeId} {pos : String} {after : Array Edge} {gd : Option (Nat × Bool)} {d : Nat} {x y : Operand} {t e : TypeId} {dst : Option Nat}
theorem run_appendR {α : Type} (k : Kd α) {z : Value} {bytes base : Nat} (ht : P.underlying t = some (.slice e)) (hinfo : (P.info? e).map (fun i => (i.zero, i.size, i.bytes)) = some (some z, k.sz, bytes)) (hz : z.cells.size = k.sz) (hs0 : 0 < k.sz)
    {v : Value} {xs : List α} {p : α} {cs : List Value} {ok okp : Nat → Prop} {g c : Nat} {te : TypeId} {fr : Nat × Nat} (HO : k.R e w base ok v xs) (hg : w.heap[g]? = some (.cells cs.toArray te fr)) (hp : k.M w base okp p cs) (hokp : ∀ k, okp k → ok k ∧ some k ≠ v.ownBlock)
    (hfresh : ∀ k, w.heap.size ≤ k → ok k) (hbase : base ≤ w.heap.size) (hl : (xs.length + 1) * bytes ≤ 140737488355328) (hm : xs.length + 1 ≤ maxLen) (hx : ev σ x = v) (hy : ev σ y = .slice (some ⟨g, 0, none⟩) 1 c) :
    ∃ v' w', (execOp (ev σ) ⟨dst, .call { callee := .builtin .append, args := #[x, y], argTypes := #[t, t] }, ty, pos, after, gd⟩).run P w = .ok (.value v') w' ∧ k.R e w' base ok v' (xs ++ [p]) ∧ w.grownBy w' v.ownBlock ∧
      (v'.ownBlock = v.ownBlock ∨ v'.ownBlock = some w.heap.size) := by
  obtain ⟨i0, hi, hzz⟩ := Option.map_eq_some_iff.1 hinfo
  simp only [Prod.mk.injEq] at hzz
  obtain ⟨hz0, hz1, hz2⟩ := hzz
  obtain ⟨h0, inner, hown, hr⟩ := HO
  have hcl := k.K_len (k.K_of_M hp)
  obtain ⟨v', w', hrun, r1, r2, r3, r4⟩ := run_append_own_at (P := P) w base t ty e i0 z k.sz bytes ht hi hz0 hz1 hz2 hz hs0 v xs.length inner hown ⟨g, 0, none⟩ 1 c cs (by rw [hcl, Nat.one_mul]) (cellsAt hg) (k.K_one (k.K_of_M hp)) hm hl hbase
  refine ⟨v', w', by simp [execOp, resolve, invoke, builtin, hx, hy, hrun], Kd.R_appended h0 hr hp hokp hfresh r1 r2 (by rcases r4 with r4 | r4; exact .inl r4; exact .inr ⟨_, r4, Nat.le_refl _⟩), r2, r4⟩
/-- append(row, x): a row of one's own, told by a kind; x's cells lie in a block. -/
theorem g_appendR {α : Type} (k : Kd α) {z : Value} {bytes base : Nat} (ht : P.underlying t = some (.slice e)) (hinfo : (P.info? e).map (fun i => (i.zero, i.size, i.bytes)) = some (some z, k.sz, bytes)) (hz : z.cells.size = k.sz) (hs0 : 0 < k.sz)
    {v : Value} {xs : List α} {p : α} {cs : List Value} {ok okp : Nat → Prop} {g c : Nat} {te : TypeId} {fr : Nat × Nat} (HO : k.R e w base ok v xs) (hg : w.heap[g]? = some (.cells cs.toArray te fr)) (hp : k.M w base okp p cs) (hokp : ∀ k, okp k → ok k ∧ some k ≠ v.ownBlock)
    (hfresh : ∀ k, w.heap.size ≤ k → ok k) (hbase : base ≤ w.heap.size) (hl : (xs.length + 1) * bytes ≤ 140737488355328) (hm : xs.length + 1 ≤ maxLen) (hx : ev σ x = v) (hy : ev σ y = .slice (some ⟨g, 0, none⟩) 1 c)
    (hw : Region.wanted ⟨some d, .call { callee := .builtin .append, args := #[x, y], argTypes := #[t, t] }, ty, pos, after, gd⟩ (yl ops σ) = true := by rfl) (hd : Nat.blt d N = true := by rfl)
    (h : ∀ v' w', k.R e w' base ok v' (xs ++ [p]) → w.grownBy w' v.ownBlock → (v'.ownBlock = v.ownBlock ∨ v'.ownBlock = some w.heap.size) → GL r P N ds ops Q rest (upd σ d v') w') :
    GL r P N ds ops Q (⟨some d, .call { callee := .builtin .append, args := #[x, y], argTypes := #[t, t] }, ty, pos, after, gd⟩ :: rest) σ w := by
  obtain ⟨v', w', hrun, r1, r2, r3⟩ := run_appendR (P := P) (dst := some d) (ty := ty) (pos := pos) (after := after) (gd := gd) k ht hinfo hz hs0 HO hg hp hokp hfresh hbase hl hm hx hy
  exact GL_val hw (by intro c hc; cases hc) hrun hd (h v' w' r1 r2 r3)
theorem set1 (f : Nat → Value) (v : Value) : (Array.map f (Array.range 1)).setIfInBounds 0 v = #[v] := by
  apply Array.ext
  · simp
  · intro i h1 h2
    simp at h1
    subst h1
    simp
/-- A literal of one element of one cell. -/
theorem run_buildSlice1 {i : TypeInfo} {z v : Value} (ht : P.underlying t = some (.slice e)) (hi : P.info? e = some i) (hz : i.zero = some z) (hs : i.size = 1) (hzs : z.cells.size = 1) (hv : v.oneCell' = true) :
    (Instr.buildSlice t 1 #[(0, v)]).run P w = .ok (.slice (some ⟨w.heap.size, 0, none⟩) 1 1) (w.alloc (.cells #[v] e)) := by
  have hc : v.cells = #[v] := by cases v <;> first | rfl | simp [Value.oneCell'] at hv
  simp [Instr.buildSlice, run_underlying ht, sizeOf, zeroValue, typeInfo, hi, hz, hs, hzs, Instr.fill, hc, newRow]
  congr 2
  exact set1 _ _
end
end Go.Proofs.G
