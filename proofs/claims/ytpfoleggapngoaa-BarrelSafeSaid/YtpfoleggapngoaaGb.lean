/- Rows appended to rows; sets of keys. -/
import Derived.Test.YtpfoleggapngoaaGa
set_option linter.unusedVariables false
set_option linter.unusedSimpArgs false
namespace Go.Proofs.G
open Go Go.RowKit Go.Proofs.YtpfoleggapngoaaW.PrintWords
section
variable {r : Option Nat} {P : Program} {N : Nat} {ds : List Deferred} {Q : Exit → Act → World → Prop} {σ : Nat → Value} {w : World}
variable {ops : Array Oper} {rest : List Oper} {ty : TypeId} {pos : String} {after : Array Edge} {gd : Option (Nat × Bool)} {d : Nat} {dst : Option Nat} {x y u : Operand} {t kt e : TypeId}
/-- append(row of one's own, rows that are read...). -/
theorem run_appendRows {α : Type} (k : Kd α) {base bytes : Nat} {z : Value} (ht : P.underlying t = some (.slice e)) (hinfo : (P.info? e).map (fun i => (i.zero, i.size, i.bytes)) = some (some z, k.sz, bytes)) (hz : z.cells.size = k.sz) (hs0 : 0 < k.sz) (hb0 : 0 < bytes)
    {v : Value} {xs ys : List α} {A : Option Addr} {m c : Nat} {ok okp : Nat → Prop} (HO : k.R e w base ok v xs) (HR : k.C w A m ys) (hKM : ∀ x cs, k.K w x cs → k.M w base okp x cs) (hokp : ∀ i, okp i → ok i ∧ some i ≠ v.ownBlock) (hfresh : ∀ i, w.heap.size ≤ i → ok i)
    (hbase : base ≤ w.heap.size) (hl : (xs.length + m) * bytes ≤ 140737488355328) (hx : ev σ x = v) (hy : ev σ y = .slice A m c) :
    ∃ v1 w1, (execOp (ev σ) ⟨dst, .call { callee := .builtin .append, args := #[x, y], argTypes := #[t, t] }, ty, pos, after, gd⟩).run P w = .ok (.value v1) w1 ∧ k.R e w1 base ok v1 (xs ++ ys) ∧ w.grownBy w1 v.ownBlock ∧ (v1.ownBlock = v.ownBlock ∨ ∃ b, v1.ownBlock = some b ∧ w.heap.size ≤ b) := by
  obtain ⟨i0, hi, hzz⟩ := Option.map_eq_some_iff.1 hinfo
  simp only [Prod.mk.injEq] at hzz
  obtain ⟨hz0, hz1, hz2⟩ := hzz
  have hm : ys.length = m := HR.1
  have hlen : xs.length + m ≤ 140737488355328 := Nat.le_trans (Nat.le_mul_of_pos_right _ hb0) hl
  obtain ⟨hok, inner, hown, hr⟩ := HO
  have hrun : ∃ v1 w1, (Builtin.append_ #[t, t] ty #[v, .slice A m c]).run P w = .ok v1 w1 ∧ k.R e w1 base ok v1 (xs ++ ys) ∧ w.grownBy w1 v.ownBlock ∧ (v1.ownBlock = v.ownBlock ∨ ∃ b, v1.ownBlock = some b ∧ w.heap.size ≤ b) := by
    rcases A with _ | ad
    · have h0 : m = 0 := by
        rcases Nat.eq_zero_or_pos m with h0 | h0
        · exact h0
        · obtain ⟨ad, h, _⟩ := HR.2.2 h0
          cases h
      subst h0
      obtain rfl : ys = [] := List.eq_nil_of_length_eq_zero hm
      refine ⟨v, w, ?_, by rw [List.append_nil]; exact ⟨hok, inner, hown, hr⟩, World.grownBy.refl w _, .inl rfl⟩
      rcases hown.2 with ⟨rfl, hn⟩ | ⟨g, cap, cur, rfl, _, _, hnc, _⟩
      · simp [Builtin.append_, run_underlying ht, sizeOf, typeInfo, hi, Builtin.lenOf, Builtin.firstCells]
      · simp [Builtin.append_, run_underlying ht, sizeOf, typeInfo, hi, Builtin.lenOf, Builtin.firstCells, hnc, storeCells]
    · obtain ⟨news, hnr, hnc⟩ := ReadsRow.inner_ HR
      have hnM : Reps (k.M w base okp) k.sz ys news := hnr.imp_ (fun p c hp => hKM p c hp)
      have hone : ∀ u ∈ news, u.oneCell' = true := by
        intro u hu
        obtain ⟨q, hq, rfl⟩ := List.mem_iff_getElem.1 hu
        have hql : q / k.sz < ys.length := by
          rw [Nat.div_lt_iff_lt_mul hs0]
          rw [← hnM.1]
          exact hq
        have hc := hnM.2 (q / k.sz) _ (List.getElem?_eq_getElem hql)
        refine k.K_one (k.K_of_M hc) _ ?_
        rw [List.mem_iff_getElem?]
        refine ⟨q % k.sz, ?_⟩
        rw [List.getElem?_take, if_pos (Nat.mod_lt _ hs0), List.getElem?_drop, Nat.mul_comm, Nat.div_add_mod, List.getElem?_eq_getElem hq]
      obtain ⟨v1, w1, hrun, h2, hg, _, hat⟩ := run_append_own_at (P := P) w base t ty e i0 z k.sz bytes ht hi hz0 hz1 hz2 hz hs0 v xs.length inner hown ad m c news (by rw [hnM.1, hm]) hnc hone (by simp only [maxLen]; omega) hl hbase
      have hat' : v1.ownBlock = v.ownBlock ∨ ∃ b, v1.ownBlock = some b ∧ w.heap.size ≤ b := by
        rcases hat with hat | hat
        · exact .inl hat
        · exact .inr ⟨_, hat, Nat.le_refl _⟩
      have hne : ∀ i, some i ≠ v.ownBlock → i < w.heap.size → some i ≠ v1.ownBlock := by
        intro i hk hlt
        rcases hat' with hat | ⟨b, hb, hle⟩
        · rw [hat]; exact hk
        · rw [hb]
          intro he
          injection he with he
          omega
      have step : ∀ {q : α} {c : List Value} {o : Nat → Prop}, k.M w base o q c → (∀ i, o i → ok i ∧ some i ≠ v.ownBlock) → k.M w1 base (fun i => ok i ∧ some i ≠ v1.ownBlock) q c := by
        intro q c o hq ho
        have h1 := k.M_move (w1 := w1) (fun i hk => hg.block i hk.2.2.1 (ho i hk.1).2) (k.M_bound hq)
        exact k.M_mono (fun i hk => ⟨(ho i hk.1).1, hne i (ho i hk.1).2 hk.2.2.1⟩) h1
      refine ⟨v1, w1, hrun, ⟨fun i hk => ?_, inner ++ news, by rw [List.length_append, hm]; exact h2, Kd.reps_append (hr.imp_ (fun _ _ hq => step hq (fun _ hk => hk))) (hnM.imp_ (fun _ _ hq => step hq hokp))⟩, hg, hat'⟩
      rcases hat' with hat | ⟨b, hb, hle⟩
      · exact hok i (hat ▸ hk)
      · rw [hb] at hk
        injection hk with hk
        exact hfresh i (by omega)
  obtain ⟨v1, w1, hr1, h1, hg, hat⟩ := hrun
  exact ⟨v1, w1, by simp [execOp, resolve, invoke, builtin, hx, hy, hr1], h1, hg, hat⟩
theorem g_appendRows {α : Type} (k : Kd α) {base bytes : Nat} {z : Value} (ht : P.underlying t = some (.slice e)) (hinfo : (P.info? e).map (fun i => (i.zero, i.size, i.bytes)) = some (some z, k.sz, bytes)) (hz : z.cells.size = k.sz) (hs0 : 0 < k.sz) (hb0 : 0 < bytes)
    {v : Value} {xs ys : List α} {A : Option Addr} {m c : Nat} {ok okp : Nat → Prop} (HO : k.R e w base ok v xs) (HR : k.C w A m ys) (hKM : ∀ x cs, k.K w x cs → k.M w base okp x cs) (hokp : ∀ i, okp i → ok i ∧ some i ≠ v.ownBlock) (hfresh : ∀ i, w.heap.size ≤ i → ok i)
    (hbase : base ≤ w.heap.size) (hl : (xs.length + m) * bytes ≤ 140737488355328) (hx : ev σ x = v) (hy : ev σ y = .slice A m c)
    (hw : Region.wanted ⟨some d, .call { callee := .builtin .append, args := #[x, y], argTypes := #[t, t] }, ty, pos, after, gd⟩ (yl ops σ) = true := by rfl) (hd : Nat.blt d N = true := by rfl)
    (h : ∀ v1 w1, k.R e w1 base ok v1 (xs ++ ys) → w.grownBy w1 v.ownBlock → (v1.ownBlock = v.ownBlock ∨ ∃ b, v1.ownBlock = some b ∧ w.heap.size ≤ b) → GL r P N ds ops Q rest (upd σ d v1) w1) :
    GL r P N ds ops Q (⟨some d, .call { callee := .builtin .append, args := #[x, y], argTypes := #[t, t] }, ty, pos, after, gd⟩ :: rest) σ w := by
  obtain ⟨v1, w1, hr, h1, h2, h3⟩ := run_appendRows (σ := σ) (P := P) (dst := some d) (ty := ty) (pos := pos) (after := after) (gd := gd) (x := x) (y := y) k ht hinfo hz hs0 hb0 HO HR hKM hokp hfresh hbase hl hx hy
  exact GL_val hw (by intro c hc; cases hc) hr hd (h v1 w1 h1 h2 h3)

theorem r_shrN {m n : Nat} {kk : IntKind} {b : Int} {t' : TypeId} (hx : ev σ x = .int .i64 (m : Int)) (hy : ev σ y = .int kk b) (hn : b = n) (h64 : n ≤ 64) : (execOp (ev σ) ⟨dst, .binOp .shr t x y t', ty, pos, after, gd⟩).run P w = .ok (.value (.int .i64 ((m / 2 ^ n : Nat) : Int))) w := by
  have h := r_shr (P := P) (w := w) (dst := dst) (ty := ty) (pos := pos) (after := after) (gd := gd) (t := t) (t' := t') hx hy hn h64
  rw [h, Int.fdiv_eq_ediv_of_nonneg _ (show (0 : Int) ≤ 2 ^ n from Int.pow_nonneg (by omega))]
  congr 3
theorem r_bit {m : Nat} {t' : TypeId} (hx : ev σ x = .int .i64 (m : Int)) (hy : ev σ y = .int .i64 1) (hm : m < 2 ^ 63) : (execOp (ev σ) ⟨dst, .binOp .and t x y t', ty, pos, after, gd⟩).run P w = .ok (.value (.int .i64 ((m % 2 : Nat) : Int))) w := by
  have h := r_and (P := P) (w := w) (dst := dst) (ty := ty) (pos := pos) (after := after) (gd := gd) (t := t) (t' := t') (n := 1) hx hy hm (by decide)
  rw [h, Nat.and_one_is_mod]
/-! ### Sets of keys -/
open Classical in
noncomputable def lkB (es : Array MapEntry) (key : Value) : Bool := decide (∃ a ∈ es.toList, a.key = key)
theorem lkB_true {es : Array MapEntry} {key : Value} : lkB es key = true ↔ ∃ a ∈ es.toList, a.key = key := by simp [lkB]
theorem lkB_run {g clock : Nat} {es : Array MapEntry} {key : Value} {kl : Lit} (K : Maps.Keyed P kt) (ht : P.underlying t = some (.map kt e)) (hz : (zeroValue e).run P w = .ok (.bool false) w) (hb : w.heap[g]? = some (.map es clock)) (hkeys : ∀ x ∈ es.toList, ∃ l, keyOf P kt x.key = some l) (hkey : keyOf P kt key = some kl)
    (hvals : ∀ a ∈ es.toList, a.val = .bool true) : (Instr.lookup t (.map (some g)) key false).run P w = .ok (.bool (lkB es key)) w := by
  rcases lookup_run K ht hz hb hkeys hkey false with ⟨a, ha, hk, hr⟩ | ⟨hn, hr⟩
  · rw [hr, lkB_true.2 ⟨a, ha, hk⟩]; simp [hvals a ha]
  · rw [hr]
    cases hq : lkB es key with
    | true => obtain ⟨a, ha, hk⟩ := lkB_true.1 hq; exact absurd hk (hn a ha)
    | false => rfl
theorem update_run2 {g clock : Nat} {es : Array MapEntry} {key : Value} {kl : Lit} (K : Maps.Keyed P kt) (ht : P.underlying t = some (.map kt e)) (hb : w.heap[g]? = some (.map es clock)) (hkeys : ∀ x ∈ es.toList, ∃ l, keyOf P kt x.key = some l) (hkey : keyOf P kt key = some kl) (v : Value) :
    ∃ es' clock' w', (Instr.mapUpdate t (.map (some g)) key v).run P w = .ok () w' ∧ Put w w' g (.map es' clock') ∧ (∀ x ∈ es'.toList, x ∈ es.toList ∨ (x.key = key ∧ x.val = v)) ∧ (∀ k, lkB es' k = true ↔ (lkB es k = true ∨ k = key)) := by
  have hck := K.check w false hkey
  rcases K.find w hkey es.toList hkeys with ⟨h1, h2⟩ | ⟨j, x, h1, h2, h3⟩
  · obtain ⟨w', hr, hp⟩ := setObj_put (P := P) hb (es.push { key, val := v, born := clock }) (clock + 1)
    refine ⟨_, _, w', by simp [Instr.mapUpdate, run_underlying ht, run_getMap hb, hck, h1, hr], hp, fun x hx => ?_, fun k => ?_⟩
    · simp only [Array.toList_push, List.mem_append, List.mem_singleton] at hx
      rcases hx with hx | rfl
      · exact .inl hx
      · exact .inr ⟨rfl, rfl⟩
    · rw [lkB_true, lkB_true]
      simp only [Array.toList_push, List.mem_append, List.mem_singleton]
      constructor
      · rintro ⟨a, ha | rfl, hk⟩
        · exact .inl ⟨a, ha, hk⟩
        · exact .inr hk.symm
      · rintro (⟨a, ha, hk⟩ | rfl)
        · exact ⟨a, .inl ha, hk⟩
        · exact ⟨_, .inr rfl, rfl⟩
  · obtain ⟨w', hr, hp⟩ := setObj_put (P := P) hb (es.modify j fun e => { e with key, val := v }) clock
    have hx : (es[j]?).map (·.key) = some key := by
      rw [← Array.getElem?_toList, h2]; simp [h3]
    have hst := K.stays w hkey
    refine ⟨_, _, w', by simp [Instr.mapUpdate, run_underlying ht, run_getMap hb, hck, h1, hx, hst, hr], hp, fun y hy => ?_, fun k => ?_⟩
    · obtain ⟨i, hi, rfl⟩ := List.mem_iff_getElem.1 hy
      simp only [Array.length_toList, Array.size_modify] at hi
      simp only [Array.getElem_toList, Array.getElem_modify]
      by_cases hij : j = i
      · right; simp [hij]
      · left; simp [hij]
    · have hkeyj : ∀ i (hi : i < es.size), ((es.modify j fun e => { e with key, val := v })[i]'(by simpa using hi)).key = es[i].key := by
        intro i hi
        simp only [Array.getElem_modify]
        by_cases hij : j = i
        · subst hij
          rw [if_pos rfl]
          have : es[j] = x := by
            have h2' := h2
            rw [Array.getElem?_toList] at h2'
            simpa [hi] using h2'
          rw [this, h3]
        · rw [if_neg hij]
      rw [lkB_true, lkB_true]
      constructor
      · rintro ⟨a, ha, hk⟩
        obtain ⟨i, hi, rfl⟩ := List.mem_iff_getElem.1 ha
        simp only [Array.length_toList, Array.size_modify] at hi
        left
        refine ⟨es[i], by simp, ?_⟩
        rw [← hkeyj i hi]
        rw [Array.getElem_toList] at hk
        exact hk
      · rintro (⟨a, ha, hk⟩ | rfl)
        · obtain ⟨i, hi, rfl⟩ := List.mem_iff_getElem.1 ha
          simp only [Array.length_toList] at hi
          exact ⟨(es.modify j fun e => { e with key, val := v })[i]'(by simpa using hi), by rw [← Array.getElem_toList]; exact List.getElem_mem _, by rw [hkeyj i hi]; simpa using hk⟩
        · have hj : j < es.size := by
            have := (List.getElem?_eq_some_iff.1 h2).1
            simpa using this
          exact ⟨(es.modify j fun e => { e with key := k, val := v })[j]'(by simpa using hj), by rw [← Array.getElem_toList]; exact List.getElem_mem _, by simp only [Array.getElem_modify, if_true]⟩
theorem g_mapUpdate2 {g clock : Nat} {es : Array MapEntry} {key v : Value} {kl : Lit} (K : Maps.Keyed P kt) (ht : P.underlying t = some (.map kt e)) (hb : w.heap[g]? = some (.map es clock)) (hkeys : ∀ x ∈ es.toList, ∃ l, keyOf P kt x.key = some l) (hkey : keyOf P kt key = some kl)
    (hx : ev σ x = .map (some g)) (hy : ev σ y = key) (hu : ev σ u = v)
    (hw : Region.wanted ⟨none, .mapUpdate t x y u, ty, pos, after, gd⟩ (yl ops σ) = true := by rfl)
    (h : ∀ es' clock' w', Put w w' g (.map es' clock') → (∀ a ∈ es'.toList, a ∈ es.toList ∨ (a.key = key ∧ a.val = v)) → (∀ k, lkB es' k = true ↔ (lkB es k = true ∨ k = key)) → GL r P N ds ops Q rest σ w') :
    GL r P N ds ops Q (⟨none, .mapUpdate t x y u, ty, pos, after, gd⟩ :: rest) σ w := by
  obtain ⟨es', clock', w', hr, hp, he, hl⟩ := update_run2 K ht hb hkeys hkey v
  exact GL_unit hw (by intro c hc; cases hc) (by simp [execOp, hx, hy, hu, hr]) rfl (h es' clock' w' hp he hl)
theorem g_insert2 {g clock : Nat} {es : Array MapEntry} {key v : Value} {kl : Lit} (K : Maps.Keyed P kt) (ht : P.underlying t = some (.map kt e)) (hb : w.heap[g]? = some (.map es clock)) (hkeys : ∀ x ∈ es.toList, ∃ l, keyOf P kt x.key = some l) (hkey : keyOf P kt key = some kl)
    (hx : ev σ x = .map (some g)) (hy : ev σ y = key) (hu : ev σ u = v)
    (hw : Region.wanted ⟨none, .insert t x y u, ty, pos, after, gd⟩ (yl ops σ) = true := by rfl)
    (h : ∀ es' clock' w', Put w w' g (.map es' clock') → (∀ a ∈ es'.toList, a ∈ es.toList ∨ (a.key = key ∧ a.val = v)) → (∀ k, lkB es' k = true ↔ (lkB es k = true ∨ k = key)) → GL r P N ds ops Q rest σ w') :
    GL r P N ds ops Q (⟨none, .insert t x y u, ty, pos, after, gd⟩ :: rest) σ w := by
  obtain ⟨es', clock', w', hr, hp, he, hl⟩ := update_run2 K ht hb hkeys hkey v
  exact GL_unit hw (by intro c hc; cases hc) (by simp [execOp, hx, hy, hu, hr]) rfl (h es' clock' w' hp he hl)
end
end Go.Proofs.G
