/- barrel: the plain law of what is easier; a field of a struct in a row of one's own is written. -/
import Derived.Test.YtpfoleggapngoaaB33
set_option linter.unusedVariables false
set_option linter.unusedSimpArgs false
namespace Go.Proofs.B
open Go Go.RowKit Go.Proofs Go.Proofs.G Go.Proofs.F Go.Proofs.YtpfoleggapngoaaW.PrintWords
/-- x is y, made easier. -/
structure Easy (y x : List S70) : Prop where
  len : x.length = y.length
  ok : yardOk x = true
  each : ∀ i, i < y.length → (yd x i).f1 = (yd y i).f1 ∧ (yd y i).f0 ≤ (yd x i).f0 ∧ (yd x i).f2 ≤ (yd y i).f2 ∧ (yd x i).f3.f1 ≤ (yd y i).f3.f1
theorem okPlan_easy {y x : List S70} (E : Easy y x) : ∀ (p : List Int) (lv lv' : Nat → Int), (∀ i, i < y.length → lv i ≤ lv' i) → okPlan y lv p → okPlan x lv' p
  | [], _, _, _, _ => trivial
  | t :: ts, lv, lv', h, ⟨h1, h2, h3⟩ => by
    have h4 : ∀ i, i < y.length → lkF lv (hiF y) y.length i ≤ lkF lv' (hiF x) x.length i := fun i hi => by
      have := h i hi
      have := E.each i hi
      unfold lkF hiF
      rw [if_pos hi, if_pos (by rw [E.len]; exact hi)]
      omega
    refine ⟨(dry_iff _ _ _).2 fun i hi => ?_, by rw [E.len]; exact h2, okPlan_easy E ts _ _ (fun i hi => ?_) h3⟩
    · rw [E.len] at hi
      have := (dry_iff _ _ _).1 h1 i hi
      have := h4 i hi
      have := E.each i hi
      omega
    · have h5 := h4 i hi
      have h6 := (E.each i hi).1
      unfold topF
      by_cases hc : 0 ≤ t ∧ i = t.toNat
      · rw [if_pos hc, if_pos hc]; omega
      · rw [if_neg hc, if_neg hc]; exact h5
theorem easy_beg {y x : List S70} (E : Easy y x) : ∀ i, i < y.length → begF y i ≤ begF x i := fun i hi => (E.each i hi).2.1
theorem yd_set (y : List S70) (k : Nat) (c : S70) (hk : k < y.length) (i : Nat) : yd (y.set k c) i = if i = k then c else yd y i := by
  unfold yd
  rw [List.getD_eq_getElem?_getD, List.getD_eq_getElem?_getD, List.getElem?_set]
  by_cases e : i = k
  · subst e
    rw [if_pos rfl, if_pos rfl, if_pos hk]; rfl
  · rw [if_neg e, if_neg (fun h => e h.symm)]
theorem easy_set {y : List S70} (hy : yardOk y = true) {k : Nat} (hk : k < y.length) (c : S70) (hc : caskOk c = true) (h1 : c.f1 = (yd y k).f1) (h0 : (yd y k).f0 ≤ c.f0) (h2 : c.f2 ≤ (yd y k).f2) (h3 : c.f3.f1 ≤ (yd y k).f3.f1) : Easy y (y.set k c) where
  len := List.length_set
  ok := by
    unfold yardOk at hy ⊢
    rw [List.length_set]
    simp only [Bool.and_eq_true] at hy ⊢
    refine ⟨hy.1, List.all_eq_true.2 fun z hz => ?_⟩
    rcases List.mem_or_eq_of_mem_set hz with h | h
    · exact List.all_eq_true.1 hy.2 z h
    · rw [h]; exact hc
  each := fun i hi => by
    rw [yd_set y k c hk i]
    split
    · rename_i e; subst e; exact ⟨h1, h0, h2, h3⟩
    · exact ⟨rfl, Int.le_refl _, Int.le_refl _, Int.le_refl _⟩
theorem okPlan_take {y : List S70} : ∀ (n : Nat) (p : List Int) (lv : Nat → Int), okPlan y lv p → okPlan y lv (p.take n)
  | 0, p, lv, _ => by rw [List.take_zero]; trivial
  | n + 1, [], lv, h => h
  | n + 1, t :: ts, lv, ⟨h1, h2, h3⟩ => ⟨h1, h2, okPlan_take n ts _ h3⟩
theorem keep_ok {y : List S70} {mo : Nat} {code : Int} {plan p : List Int} (h : KeepRes y mo code plan) (hy : yardOk y = true) (hm : mo ≤ 12) (hp : okPlan y (begF y) p) (hl : p.length = mo) : code = 0 ∧ plan.length = mo := by
  rcases h with ⟨_, _, ⟨h1, h2, _⟩ | ⟨_, _, h3⟩⟩ | ⟨_, h, _⟩ | ⟨h, _⟩
  · exact ⟨h1, by omega⟩
  · exact absurd hp (h3 p (by omega))
  · exact absurd (by omega) h
  · exact absurd hy h
section
variable {P : Program} {σ : Nat → Value} {w : World} {ty : TypeId} {pos : String} {after : Array Edge} {gd : Option (Nat × Bool)} {dst : Option Nat} {x y : Operand} {t e : TypeId}
theorem r_sliceTo {A : Option Addr} {len cap n : Nat} {a : Int} {kx : Operand} (hu : P.underlying t = some (.slice e)) (hsz : ∃ i, P.info? e = some i) (hx : ev σ x = .slice A len cap) (ha : ev σ kx = .int .i64 a)
    (hn : a = (n : Int)) (h1 : n ≤ cap) : (execOp (ev σ) ⟨dst, .slice t x none (some kx) none, ty, pos, after, gd⟩).run P w = .ok (.value (.slice A n cap)) w := by
  obtain ⟨i, hi⟩ := hsz
  subst hn
  have h1' : (n : Int) ≤ (cap : Int) := by omega
  have hA : (A.map fun y => y.add 0) = A := by cases A <;> simp [Addr.add]
  simp [execOp, hx, ha, Instr.sliceAt, Instr.slice, run_underlying hu, Instr.sliceBounds, Instr.sliceBound, asIntOf, h1', h1, sizeOf, typeInfo, hi, hA]
end
theorem R_putF {e base g n cap : Nat} {ok : Nat → Prop} {W : World} {xs : List S70} (h : k70.R e W base ok (.slice (some ⟨g, 0, none⟩) n cap) xs) (i f : Nat) (hi : i < n) (hf : f < 5) (u : Value) (x' : S70)
    (hx : [.int .i64 x'.f0, .int .i64 x'.f1, .int .i64 x'.f2, .int .i64 x'.f3.f0, .int .i64 x'.f3.f1] = [Value.int .i64 (yd xs i).f0, .int .i64 (yd xs i).f1, .int .i64 (yd xs i).f2, .int .i64 (yd xs i).f3.f0, .int .i64 (yd xs i).f3.f1].set f u) :
    k70.R e (W.setCell ⟨g, i * 5 + f, none⟩ u) base ok (.slice (some ⟨g, 0, none⟩) n cap) (xs.set i x') ∧ W.grownBy (W.setCell ⟨g, i * 5 + f, none⟩ u) (some g) ∧ (∃ u0, W.cell? ⟨g, i * 5 + f, none⟩ = some u0) ∧ W.frozen? ⟨g, i * 5 + f, none⟩ = false := by
  obtain ⟨c, hcl, hM, hcc, hfz⟩ := Kd.R_elem h z70 (i : Int) (by omega) (by omega)
  have hc := k70_openM hM
  rw [Int.toNat_natCast] at hc hcc hfz
  have hs := Kd.R_seg h (i : Int) (by omega) (by omega) (c := c) (seg := [u]) (j := f) (okp := fun _ => False) (x' := x') hcl (by rw [Int.toNat_natCast]; exact hcc) (by show f + 1 ≤ 5; omega)
    (by
      have : c.take f ++ [u] ++ c.drop (f + [u].length) = [.int .i64 x'.f0, .int .i64 x'.f1, .int .i64 x'.f2, .int .i64 x'.f3.f0, .int .i64 x'.f3.f1] := by
        rw [hx, List.set_eq_take_append_cons_drop, if_pos (by simpa using hf), hc, List.append_assoc]; rfl
      rw [this]
      exact k70_mkM _ _ _ _) (fun _ h => h.elim)
  rw [Int.toNat_natCast] at hs
  have hlt : f < c.length := by rw [hcl]; exact hf
  exact ⟨hs.1, hs.2, ⟨_, hcc f _ (List.getElem?_eq_getElem hlt)⟩, hfz f⟩
section
variable {r : Option Nat} {P : Program} {N : Nat} {ds : List Deferred} {Q : Exit → Act → World → Prop} {σ : Nat → Value} {w : World} {ops : Array Oper} {ty : TypeId} {pos : String} {after : Array Edge} {gd : Option (Nat × Bool)} {x y : Operand} {t e : TypeId}
theorem GO_storeF {E : List Nat} {C : World → Prop} {k : Nat} {L : Array Bool} {base g n cap : Nat} {ok : Nat → Prop} {xs : List S70} {i f : Nat} {u : Int} {x' : S70} {j : Nat} (hj : ops[j]? = some ⟨none, .store t x y, ty, pos, after, gd⟩)
    (hw : Region.wanted ⟨none, .store t x y, ty, pos, after, gd⟩ (yl ops σ) = true) (hx : ev σ x = .pointer (some ⟨g, i * 5 + f, none⟩)) (hy : ev σ y = .int .i64 u) (hsz : (P.info? t).map (·.size) = some 1)
    (HO : k70.R e w base ok (.slice (some ⟨g, 0, none⟩) n cap) xs) (hi : i < n) (hf : f < 5)
    (he : [.int .i64 x'.f0, .int .i64 x'.f1, .int .i64 x'.f2, .int .i64 x'.f3.f0, .int .i64 x'.f3.f1] = [Value.int .i64 (yd xs i).f0, .int .i64 (yd xs i).f1, .int .i64 (yd xs i).f2, .int .i64 (yd xs i).f3.f0, .int .i64 (yd xs i).f3.f1].set f (.int .i64 u))
    (h : ∀ w', k70.R e w' base ok (.slice (some ⟨g, 0, none⟩) n cap) (xs.set i x') → w.grownBy w' (some g) → GD P N ds ops Q E C k (L.setIfInBounds j true) σ w') : GO P N ds ops Q E C k L j σ w := by
  obtain ⟨hR, hg, ⟨u0, hcell⟩, hfz⟩ := R_putF HO i f hi hf (.int .i64 u) x' he
  obtain ⟨i', hi', hzz⟩ := Option.map_eq_some_iff.1 hsz
  refine GO_unit hj hw rfl rfl (w' := w.setCell ⟨g, i * 5 + f, none⟩ (.int .i64 u)) ?_ (h _ hR hg)
  have hcells : (Value.int .i64 u).cells = #[.int .i64 u] := rfl
  simp only [execOp, hx, hy, Instr.storeAt, Instr.sureAddr, storeVar, hcells]
  have hst := run_store P w ⟨g, i * 5 + f, none⟩ (.int .i64 u) .plain rfl
  rw [hcell] at hst
  simp only [hfz, Bool.false_eq_true, if_false] at hst
  simp [sizeOf, typeInfo, hi', hzz, storeCells, Addr.add, hst]
end
end Go.Proofs.B
