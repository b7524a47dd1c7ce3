/- Maps, and arrays that are compared. -/
import Derived.Test.YtpfoleggapngoaaG8
import Derived.DeepKeys3
import Derived.Maps.Keyed
set_option linter.unusedVariables false
set_option linter.unusedSimpArgs false
namespace Go.Proofs.G
open Go Go.RowKit Go.Proofs.YtpfoleggapngoaaW.PrintWords
section
variable {P : Program} {w : World} {t kt e : TypeId} {g clock : Nat} {es : Array MapEntry} {key z : Value} {kl : Lit}
theorem run_getMap (hb : w.heap[g]? = some (.map es clock)) : (getObj g).run P w = .ok (.map es clock) w := by simp [getObj, Sem.run, hb]
theorem lookup_run (K : Maps.Keyed P kt) (ht : P.underlying t = some (.map kt e)) (hz : (zeroValue e).run P w = .ok z w) (hb : w.heap[g]? = some (.map es clock)) (hkeys : ∀ x ∈ es.toList, ∃ l, keyOf P kt x.key = some l) (hkey : keyOf P kt key = some kl) (c : Bool) :
    (∃ x ∈ es.toList, x.key = key ∧ (Instr.lookup t (.map (some g)) key c).run P w = .ok (if c then .tuple #[x.val, .bool true] else x.val) w) ∨ ((∀ x ∈ es.toList, x.key ≠ key) ∧ (Instr.lookup t (.map (some g)) key c).run P w = .ok (if c then .tuple #[z, .bool false] else z) w) := by
  have hck := K.check w es.isEmpty hkey
  rcases K.find w hkey es.toList hkeys with ⟨h1, h2⟩ | ⟨j, x, h1, h2, h3⟩
  · exact .inr ⟨h2, by cases c <;> simp [Instr.lookup, run_underlying ht, run_getMap hb, hck, h1, hz]⟩
  · exact .inl ⟨x, List.mem_of_getElem? h2, h3, by cases c <;> simp [Instr.lookup, run_underlying ht, run_getMap hb, hck, h1]⟩
theorem setObj_put (hb : w.heap[g]? = some (.map es clock)) (es' : Array MapEntry) (clock' : Nat) : ∃ w', (setObj g (.map es' clock')).run P w = .ok () w' ∧ Put w w' g (.map es' clock') := by
  have hlt := (Array.getElem?_eq_some_iff.1 hb).1
  refine ⟨{ w with heap := w.heap.setIfInBounds g (.map es' clock') }, by simp [setObj, Sem.run, hb], ⟨⟨rfl, rfl, rfl, by simp, fun k hk hn => by simp [Array.getElem?_setIfInBounds_ne (Ne.symm hn)]⟩, by simp [hlt], by simp⟩⟩
theorem update_run (K : Maps.Keyed P kt) (ht : P.underlying t = some (.map kt e)) (hb : w.heap[g]? = some (.map es clock)) (hkeys : ∀ x ∈ es.toList, ∃ l, keyOf P kt x.key = some l) (hkey : keyOf P kt key = some kl) (v : Value) :
    ∃ es' clock' w', (Instr.mapUpdate t (.map (some g)) key v).run P w = .ok () w' ∧ Put w w' g (.map es' clock') ∧ ∀ x ∈ es'.toList, x ∈ es.toList ∨ (x.key = key ∧ x.val = v) := by
  have hck := K.check w false hkey
  rcases K.find w hkey es.toList hkeys with ⟨h1, h2⟩ | ⟨j, x, h1, h2, h3⟩
  · obtain ⟨w', hr, hp⟩ := setObj_put (P := P) hb (es.push { key, val := v, born := clock }) (clock + 1)
    refine ⟨_, _, w', by simp [Instr.mapUpdate, run_underlying ht, run_getMap hb, hck, h1, hr], hp, fun x hx => ?_⟩
    simp only [Array.toList_push, List.mem_append, List.mem_singleton] at hx
    rcases hx with hx | rfl
    · exact .inl hx
    · exact .inr ⟨rfl, rfl⟩
  · obtain ⟨w', hr, hp⟩ := setObj_put (P := P) hb (es.modify j fun e => { e with key, val := v }) clock
    have hx : (es[j]?).map (·.key) = some key := by
      rw [← Array.getElem?_toList, h2]; simp [h3]
    have hst := K.stays w hkey
    refine ⟨_, _, w', by simp [Instr.mapUpdate, run_underlying ht, run_getMap hb, hck, h1, hx, hst, hr], hp, fun y hy => ?_⟩
    obtain ⟨i, hi, rfl⟩ := List.mem_iff_getElem.1 hy
    simp only [Array.length_toList, Array.size_modify] at hi
    simp only [Array.getElem_toList, Array.getElem_modify]
    by_cases hij : j = i
    · right; simp [hij]
    · left; simp [hij]
end
section
variable {r : Option Nat} {P : Program} {N : Nat} {ds : List Deferred} {Q : Exit → Act → World → Prop} {σ : Nat → Value} {w : World}
variable {ops : Array Oper} {rest : List Oper} {ty : TypeId} {pos : String} {after : Array Edge} {gd : Option (Nat × Bool)} {d : Nat} {x y u : Operand} {t kt e : TypeId}
theorem g_lookup {g clock : Nat} {es : Array MapEntry} {key z : Value} {kl : Lit} {c : Bool} (K : Maps.Keyed P kt) (ht : P.underlying t = some (.map kt e)) (hz : (zeroValue e).run P w = .ok z w) (hb : w.heap[g]? = some (.map es clock)) (hkeys : ∀ x ∈ es.toList, ∃ l, keyOf P kt x.key = some l) (hkey : keyOf P kt key = some kl)
    (hx : ev σ x = .map (some g)) (hy : ev σ y = key)
    (hw : Region.wanted ⟨some d, .lookup t x y c, ty, pos, after, gd⟩ (yl ops σ) = true := by rfl) (hd : Nat.blt d N = true := by rfl)
    (h1 : ∀ a ∈ es.toList, a.key = key → GL r P N ds ops Q rest (upd σ d (if c then .tuple #[a.val, .bool true] else a.val)) w) (h2 : (∀ a ∈ es.toList, a.key ≠ key) → GL r P N ds ops Q rest (upd σ d (if c then .tuple #[z, .bool false] else z)) w) :
    GL r P N ds ops Q (⟨some d, .lookup t x y c, ty, pos, after, gd⟩ :: rest) σ w := by
  rcases lookup_run K ht hz hb hkeys hkey c with ⟨a, ha, hk, hr⟩ | ⟨hn, hr⟩
  · exact GL_val hw (by intro c hc; cases hc) (r_lookup (by rw [hx, hy]; exact hr)) hd (h1 a ha hk)
  · exact GL_val hw (by intro c hc; cases hc) (r_lookup (by rw [hx, hy]; exact hr)) hd (h2 hn)
theorem g_mapUpdate {g clock : Nat} {es : Array MapEntry} {key v : Value} {kl : Lit} (K : Maps.Keyed P kt) (ht : P.underlying t = some (.map kt e)) (hb : w.heap[g]? = some (.map es clock)) (hkeys : ∀ x ∈ es.toList, ∃ l, keyOf P kt x.key = some l) (hkey : keyOf P kt key = some kl)
    (hx : ev σ x = .map (some g)) (hy : ev σ y = key) (hu : ev σ u = v)
    (hw : Region.wanted ⟨none, .mapUpdate t x y u, ty, pos, after, gd⟩ (yl ops σ) = true := by rfl)
    (h : ∀ es' clock' w', Put w w' g (.map es' clock') → (∀ a ∈ es'.toList, a ∈ es.toList ∨ (a.key = key ∧ a.val = v)) → GL r P N ds ops Q rest σ w') :
    GL r P N ds ops Q (⟨none, .mapUpdate t x y u, ty, pos, after, gd⟩ :: rest) σ w := by
  obtain ⟨es', clock', w', hr, hp, he⟩ := update_run K ht hb hkeys hkey v
  exact GL_unit hw (by intro c hc; cases hc) (by simp [execOp, hx, hy, hu, hr]) rfl (h es' clock' w' hp he)
/-- Arrays, or structs, compared. -/
theorem g_eqlA {m : Nat} {a b : Array Value} {la lb : Lit} {t' : TypeId} (hm : m ≤ 10000) (hk : P.keyTypeAt m t = true) (hti : P.tiled m t = true) (hwide : (match P.underlying t with | some (.array _ _) | some (.struct _) => true | _ => false) = true) (hg : P.eqGuardType P.depth t = false)
    (ha : keyOf P t (.agg a) = some la) (hb : keyOf P t (.agg b) = some lb) (hx : ev σ x = .agg a) (hy : ev σ y = .agg b)
    (hw : Region.wanted ⟨some d, .binOp .eql t x y t', ty, pos, after, gd⟩ (yl ops σ) = true := by rfl) (hd : Nat.blt d N = true := by rfl)
    (h1 : a = b → GL r P N ds ops Q rest (upd σ d (.bool true)) w) (h2 : a ≠ b → GL r P N ds ops Q rest (upd σ d (.bool false)) w) :
    GL r P N ds ops Q (⟨some d, .binOp .eql t x y t', ty, pos, after, gd⟩ :: rest) σ w := by
  obtain ⟨q, hq, hiff⟩ := run_equal_deep (P := P) w hm hk hwide ha hb
  have hrun : (execOp (ev σ) ⟨some d, .binOp .eql t x y t', ty, pos, after, gd⟩).run P w = .ok (.value (.bool q)) w := by
    simp [execOp, eqGuard, binOp, hx, hy, program, Sem.run, hg, hq]
  cases q with
  | true => exact GL_val hw (by intro c hc; cases hc) hrun hd (h1 (by have := keyOf_inj_deep hti hwide ha ((hiff.1 rfl) ▸ hb); injection this))
  | false => exact GL_val hw (by intro c hc; cases hc) hrun hd (h2 (fun e => by subst e; rw [ha] at hb; injection hb with hb; have := hiff.2 hb; cases this))
end
end Go.Proofs.G
