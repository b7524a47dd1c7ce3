/- barrel: the plain law of Set: as many barrels as there can be. -/
import Derived.Test.YtpfoleggapngoaaB2
import Derived.Test.YtpfoleggapngoaaGd
import Derived.Test.YtpfoleggapngoaaB6
import Derived.Test.YtpfoleggapngoaaB11
set_option linter.unusedVariables false
namespace Go.Proofs.B
open Go Go.RowKit Go.Proofs Go.Proofs.G Go.Proofs.F Go.Proofs.YtpfoleggapngoaaW.PrintWords
/-- Staves that rise, within, and none gone. -/
def Ris (n : Nat) (g : List Bool) (s : List Int) : Prop := s.Pairwise (· < ·) ∧ ∀ k ∈ s, (0 ≤ k ∧ k < n) ∧ g.getD k.toNat false = false
def markG (g : List Bool) (s : List Int) : List Bool := s.foldl (fun g k => g.set k.toNat true) g
theorem markG_len : ∀ (s : List Int) (g : List Bool), (markG g s).length = g.length
  | [], _ => rfl
  | k :: ks, g => by rw [markG, List.foldl_cons]; have := markG_len ks (g.set k.toNat true); rw [markG] at this; rw [this, List.length_set]
theorem getD_set (g : List Bool) (i j : Nat) (b : Bool) (h : i < g.length) : (g.set i b).getD j false = if j = i then b else g.getD j false := by
  by_cases e : j = i
  · subst e; simp [List.getD_eq_getElem?_getD, h]
  · rw [if_neg e]; simp [List.getD_eq_getElem?_getD, List.getElem?_set_ne (Ne.symm e)]
theorem markG_get : ∀ (s : List Int) (g : List Bool) (j : Nat), (∀ k ∈ s, 0 ≤ k ∧ k < g.length) → ((markG g s).getD j false = true ↔ g.getD j false = true ∨ (j : Int) ∈ s)
  | [], g, j, _ => by simp [markG]
  | k :: ks, g, j, h => by
    have h0 := h k (by simp)
    have ih := markG_get ks (g.set k.toNat true) j (fun x hx => by rw [List.length_set]; exact h x (by simp [hx]))
    rw [markG, List.foldl_cons]
    rw [markG] at ih
    rw [ih, getD_set g k.toNat j true (by omega), List.mem_cons]
    split
    · rename_i e; constructor
      · intro _; right; left; omega
      · intro _; left; rfl
    · rename_i e; constructor
      · rintro (h | h)
        · exact .inl h
        · exact .inr (.inr h)
      · rintro (h | h | h)
        · exact .inl h
        · omega
        · exact .inr h
theorem markG_false {s : List Int} {g : List Bool} {j : Nat} (h : ∀ k ∈ s, 0 ≤ k ∧ k < g.length) : (markG g s).getD j false = false ↔ g.getD j false = false ∧ (j : Int) ∉ s := by
  have := markG_get s g j h
  constructor
  · intro h1
    refine ⟨?_, fun h2 => ?_⟩
    · cases hq : g.getD j false with
      | false => rfl
      | true => rw [this.2 (.inl hq)] at h1; cases h1
    · rw [this.2 (.inr h2)] at h1; cases h1
  · rintro ⟨h1, h2⟩
    cases hq : (markG g s).getD j false with
    | false => rfl
    | true => rcases this.1 hq with h | h; rw [h1] at h; cases h; exact absurd h h2
theorem stavesGo_iff (n : Nat) : ∀ (s : List Int) (last : Int) (g g' : List Bool), -1 ≤ last → n ≤ g.length → (stavesGo n s last g = some g' ↔ (s.Pairwise (· < ·) ∧ (∀ k ∈ s, last < k ∧ k < n ∧ g.getD k.toNat false = false)) ∧ g' = markG g s)
  | [], last, g, g', _, _ => by
    unfold stavesGo markG
    exact ⟨fun h => ⟨⟨List.Pairwise.nil, fun k hk => by simp at hk⟩, by injection h with h; exact h.symm⟩, fun h => by rw [h.2]; rfl⟩
  | k :: ks, last, g, g', hl, hg => by
    unfold stavesGo
    by_cases hc : (last + 1 ≤ k ∧ k ≤ (n : Int) - 1) ∧ g.getD k.toNat false = false
    · rw [if_pos hc, stavesGo_iff n ks k (g.set k.toNat true) g' (by omega) (by rw [List.length_set]; exact hg)]
      have hm : markG (g.set k.toNat true) ks = markG g (k :: ks) := rfl
      rw [hm]
      constructor
      · rintro ⟨⟨h1, h2⟩, h3⟩
        refine ⟨⟨List.pairwise_cons.2 ⟨fun x hx => (h2 x hx).1, h1⟩, fun x hx => ?_⟩, h3⟩
        rcases List.mem_cons.1 hx with rfl | hx
        · exact ⟨by omega, by omega, hc.2⟩
        · obtain ⟨h4, h5, h6⟩ := h2 x hx
          rw [getD_set g _ _ _ (by omega), if_neg (by omega)] at h6
          exact ⟨by omega, h5, h6⟩
      · rintro ⟨⟨h1, h2⟩, h3⟩
        obtain ⟨h4, h5⟩ := List.pairwise_cons.1 h1
        refine ⟨⟨h5, fun x hx => ?_⟩, h3⟩
        have h6 := h4 x hx
        have h7 := h2 x (by simp [hx])
        refine ⟨h6, h7.2.1, ?_⟩
        rw [getD_set g _ _ _ (by omega), if_neg (by omega)]
        exact h7.2.2
    · rw [if_neg hc]
      constructor
      · intro h; cases h
      · rintro ⟨⟨h1, h2⟩, h3⟩
        have := h2 k (by simp)
        exact absurd ⟨⟨by omega, by omega⟩, this.2.2⟩ hc
/-- Barrels of what is not gone. -/
def Pk (n : Nat) (isB : List Int → Bool) (g : List Bool) (l : List (List Int)) : Prop := (∀ s ∈ l, Ris n g s ∧ isB s = true) ∧ l.Pairwise (fun a b => ∀ k ∈ a, k ∉ b)
theorem Ris.rng {n : Nat} {g : List Bool} {s : List Int} (h : Ris n g s) (hn : n ≤ g.length) : ∀ k ∈ s, 0 ≤ k ∧ k < g.length := fun k hk => by have := (h.2 k hk).1; omega
theorem Ris.mark {n : Nat} {g : List Bool} {s t : List Int} (h : Ris n g s) (hn : n ≤ g.length) : Ris n (markG g s) t ↔ Ris n g t ∧ ∀ k ∈ s, k ∉ t := by
  have hr := h.rng hn
  constructor
  · rintro ⟨h1, h2⟩
    refine ⟨⟨h1, fun k hk => ⟨(h2 k hk).1, ((markG_false hr).1 (h2 k hk).2).1⟩⟩, fun k hk hkt => ?_⟩
    have := ((markG_false hr).1 (h2 k hkt).2).2
    rw [Int.toNat_of_nonneg (h2 k hkt).1.1] at this
    exact this hk
  · rintro ⟨⟨h1, h2⟩, h3⟩
    refine ⟨h1, fun k hk => ⟨(h2 k hk).1, (markG_false hr).2 ⟨(h2 k hk).2, ?_⟩⟩⟩
    rw [Int.toNat_of_nonneg (h2 k hk).1.1]
    exact fun h => h3 k h hk
theorem areGo_iff (n : Nat) (isB : List Int → Bool) : ∀ (l : List (List Int)) (g : List Bool), n ≤ g.length → (areGo n isB l g = true ↔ Pk n isB g l)
  | [], g, _ => by simp [areGo, Pk]
  | s :: ss, g, hg => by
    unfold areGo
    have hst := stavesGo_iff n s (-1) g
    cases hq : stavesGo n s (-1) g with
    | none =>
      constructor
      · intro h; cases h
      · rintro ⟨h1, _⟩
        have h2 := (h1 s (by simp)).1
        have := (hst (markG g s) (by decide) hg).2 ⟨⟨h2.1, fun k hk => ⟨by have := (h2.2 k hk).1; omega, (h2.2 k hk).1.2, (h2.2 k hk).2⟩⟩, rfl⟩
        rw [hq] at this; cases this
    | some g' =>
      obtain ⟨⟨h1, h2⟩, rfl⟩ := (hst g' (by decide) hg).1 hq
      have hris : Ris n g s := ⟨h1, fun k hk => ⟨⟨by have := h2 k hk; omega, (h2 k hk).2.1⟩, (h2 k hk).2.2⟩⟩
      have ih := areGo_iff n isB ss (markG g s) (by rw [markG_len]; exact hg)
      simp only
      constructor
      · intro h
        split at h
        · rename_i hb
          obtain ⟨h3, h4⟩ := ih.1 h
          refine ⟨fun t ht => ?_, List.pairwise_cons.2 ⟨fun t ht => ((hris.mark hg).1 (h3 t ht).1).2, h4⟩⟩
          rcases List.mem_cons.1 ht with rfl | ht
          · exact ⟨hris, hb⟩
          · exact ⟨((hris.mark hg).1 (h3 t ht).1).1, (h3 t ht).2⟩
        · cases h
      · rintro ⟨h3, h4⟩
        obtain ⟨h5, h6⟩ := List.pairwise_cons.1 h4
        rw [if_pos (h3 s (by simp)).2]
        exact ih.2 ⟨fun t ht => ⟨(hris.mark hg).2 ⟨(h3 t (by simp [ht])).1, h5 t ht⟩, (h3 t (by simp [ht])).2⟩, h6⟩
def Best (n : Nat) (isB : List Int → Bool) (g : List Bool) (l : List (List Int)) : Prop := Pk n isB g l ∧ ∀ l', Pk n isB g l' → l'.length ≤ l.length
theorem best_all {n : Nat} {isB : List Int → Bool} {g : List Bool} (hB : ∀ s, isB s = true → s ≠ []) (h : ∀ k, k < n → g.getD k false = true) : Best n isB g [] := by
  refine ⟨⟨fun s hs => by simp at hs, List.Pairwise.nil⟩, fun l' h' => ?_⟩
  cases l' with
  | nil => exact Nat.le_refl _
  | cons s ss =>
    obtain ⟨h1, h2⟩ := h'.1 s (by simp)
    cases s with
    | nil => exact absurd rfl (hB _ h2)
    | cons k ks =>
      have h3 := h1.2 k (by simp)
      rw [h k.toNat (by omega)] at h3
      exact absurd h3.2 (by decide)
theorem pk_mono {n : Nat} {isB : List Int → Bool} {g g' : List Bool} {l : List (List Int)} (h : Pk n isB g' l) (hg : ∀ k, g.getD k false = true → g'.getD k false = true) : Pk n isB g l :=
  ⟨fun s hs => ⟨⟨(h.1 s hs).1.1, fun k hk => ⟨((h.1 s hs).1.2 k hk).1, by
    have := ((h.1 s hs).1.2 k hk).2
    cases hq : g.getD k.toNat false with
    | false => rfl
    | true => rw [hg _ hq] at this; cases this⟩⟩, (h.1 s hs).2⟩, h.2⟩
theorem pk_cons {n : Nat} {isB : List Int → Bool} {g : List Bool} {s : List Int} {l : List (List Int)} (hn : n ≤ g.length) (hs : Ris n g s) (hb : isB s = true) (h : Pk n isB (markG g s) l) : Pk n isB g (s :: l) := by
  refine ⟨fun t ht => ?_, List.pairwise_cons.2 ⟨fun t ht => ((hs.mark hn).1 (h.1 t ht).1).2, h.2⟩⟩
  rcases List.mem_cons.1 ht with rfl | ht
  · exact ⟨hs, hb⟩
  · exact ⟨((hs.mark hn).1 (h.1 t ht).1).1, (h.1 t ht).2⟩
theorem pk_out {n : Nat} {isB : List Int → Bool} {g : List Bool} {s : List Int} {a b : List (List Int)} (hn : n ≤ g.length) (h : Pk n isB g (a ++ s :: b)) : Pk n isB (markG g s) (a ++ b) := by
  obtain ⟨h1, h2⟩ := h
  have hs := (h1 s (by simp)).1
  obtain ⟨h3, h4, h5⟩ := List.pairwise_append.1 h2
  obtain ⟨h6, h7⟩ := List.pairwise_cons.1 h4
  refine ⟨fun t ht => ?_, List.pairwise_append.2 ⟨h3, h7, fun x hx y hy => h5 x hx y (by simp [hy])⟩⟩
  have ht' : t ∈ a ++ s :: b := by
    rcases List.mem_append.1 ht with h | h
    · simp [h]
    · simp [h]
  refine ⟨(hs.mark hn).2 ⟨(h1 t ht').1, fun k hk hkt => ?_⟩, (h1 t ht').2⟩
  rcases List.mem_append.1 ht with h | h
  · exact h5 t h s (by simp) k hkt hk
  · exact h6 t h k hk hkt
/-- With the first stave that is not gone: without it, or in some barrel that begins with it. -/
theorem best_step {n : Nat} {isB : List Int → Bool} {g : List Bool} {best b0 : List (List Int)} {f : Nat} (hB : ∀ s, isB s = true → s ≠ []) (hn : n ≤ g.length) (hf : f < n) (hgf : g.getD f false = false) (hlow : ∀ k, k < f → g.getD k false = true)
    (h1 : Pk n isB g best) (h0 : Best n isB (g.set f true) b0) (hb : b0.length ≤ best.length) (hall : ∀ ks, Ris n g ((f : Int) :: ks) → isB ((f : Int) :: ks) = true → ∃ m, Best n isB (markG g ((f : Int) :: ks)) m ∧ m.length + 1 ≤ best.length) : Best n isB g best := by
  refine ⟨h1, fun l' h' => ?_⟩
  by_cases hc : ∃ s ∈ l', (f : Int) ∈ s
  · obtain ⟨s, hs, hfs⟩ := hc
    obtain ⟨a, b, rfl⟩ := List.append_of_mem hs
    have hr := (h'.1 s hs).1
    cases s with
    | nil => simp at hfs
    | cons k ks =>
      have hk := hr.2 k (by simp)
      have hkf : k = f := by
        have h5 : ¬ k.toNat < f := fun h => by rw [hlow _ h] at hk; exact absurd hk.2 (by decide)
        rcases List.mem_cons.1 hfs with h | h
        · exact h.symm
        · have := (List.pairwise_cons.1 hr.1).1 _ h; omega
      subst hkf
      obtain ⟨m, hm, hle⟩ := hall ks hr (h'.1 _ hs).2
      have := hm.2 _ (pk_out hn h')
      simp only [List.length_append, List.length_cons] at *
      omega
  · have hp : Pk n isB (g.set f true) l' := by
      refine ⟨fun s hs => ⟨⟨(h'.1 s hs).1.1, fun k hk => ⟨((h'.1 s hs).1.2 k hk).1, ?_⟩⟩, (h'.1 s hs).2⟩, h'.2⟩
      have h3 := (h'.1 s hs).1.2 k hk
      rw [getD_set g f _ _ (by omega), if_neg (fun e => hc ⟨s, hs, by rw [← e, Int.toNat_of_nonneg h3.1.1]; exact hk⟩)]
      exact h3.2
    have := h0.2 l' hp
    omega
/-- How many are left. -/
def left (n : Nat) (g : List Bool) : Nat := ((List.range n).filter fun k => !g.getD k false).length
theorem left_lt {n : Nat} {g g' : List Bool} (h : ∀ k, g.getD k false = true → g'.getD k false = true) {f : Nat} (hf : f < n) (h1 : g.getD f false = false) (h2 : g'.getD f false = true) : left n g' < left n g := by
  unfold left
  induction n with
  | zero => omega
  | succ n ih =>
    rw [List.range_succ, List.filter_append, List.filter_append, List.length_append, List.length_append]
    have hle : ∀ m, ((List.range m).filter fun k => !g'.getD k false).length ≤ ((List.range m).filter fun k => !g.getD k false).length := fun m => by
      rw [← List.countP_eq_length_filter, ← List.countP_eq_length_filter]
      refine List.countP_mono_left fun k _ hk => ?_
      cases hq : g.getD k false with
      | false => rfl
      | true => rw [h k hq] at hk; exact hk
    by_cases e : f = n
    · subst e
      have h3 := hle f
      have e1 : ([f].filter fun k => !g'.getD k false) = [] := by rw [List.filter_cons, h2]; rfl
      have e2 : ([f].filter fun k => !g.getD k false) = [f] := by rw [List.filter_cons, h1]; rfl
      rw [e1, e2]
      simp only [List.length_nil, List.length_singleton]
      omega
    · have h3 := ih (by omega)
      have h4 : ([n].filter fun k => !g'.getD k false).length ≤ ([n].filter fun k => !g.getD k false).length := by
        cases hq : g.getD n false with
        | true =>
          have e1 : ([n].filter fun k => !g'.getD k false) = [] := by rw [List.filter_cons, h n hq]; rfl
          rw [e1]; exact Nat.zero_le _
        | false =>
          have e2 : ([n].filter fun k => !g.getD k false) = [n] := by rw [List.filter_cons, hq]; rfl
          rw [e2]; exact List.length_filter_le _ _
      omega
end Go.Proofs.B

/- barrel: the barrels that a range over a function yields. -/
set_option linter.unusedVariables false
set_option linter.unusedSimpArgs false
set_option maxRecDepth 10000
namespace Go.Proofs.B
open Go Go.RowKit Go.Proofs Go.Proofs.G Go.Proofs.F Go.Proofs.YtpfoleggapngoaaW.PrintWords
/-- Cells stay, but of variables of the type [][]int. -/
def Kp (w w' : World) : Prop := w.heap.size ≤ w'.heap.size ∧ ∀ (k : Nat) (cs : Array Value) (t : TypeId) (f : Nat × Nat), t ≠ 25 → w.heap[k]? = some (Obj.cells cs t f) → w'.heap[k]? = some (Obj.cells cs t f)
theorem Kp.refl (w : World) : Kp w w := ⟨Nat.le_refl _, fun _ _ _ _ _ h => h⟩
theorem Kp.trans {a b c : World} (h : Kp a b) (k : Kp b c) : Kp a c := ⟨Nat.le_trans h.1 k.1, fun i cs t f ht hi => k.2 i cs t f ht (h.2 i cs t f ht hi)⟩
theorem Kp.of {w w' : World} (h : Bel w w') : Kp w w' := ⟨h.size, fun k cs t f _ hk => kB hk h⟩
theorem Kp.put {w w' : World} {g : Nat} {o o' : Obj} (h : Put w w' g o') (ho : w.heap[g]? = some o) (hn : ∀ cs t f, o = .cells cs t f → t = 25) : Kp w w' :=
  ⟨Nat.le_of_eq h.size.symm, fun k cs t f ht hk => kP hk h (fun e => by subst e; rw [hk] at ho; injection ho with ho; exact ht (hn _ _ _ ho.symm))⟩
theorem R_kp {α : Type} {enc : α → Value} {h1 : ∀ x, (enc x).oneCell' = true} {e : Nat} {w w' : World} {v : Value} {xs : List α} (he : e ≠ 25) (h : (Kd.scalar enc h1).R e w 0 (fun _ => True) v xs) (hk : Kp w w') : (Kd.scalar enc h1).R e w' 0 (fun _ => True) v xs :=
  Kd.R_of_own (own_move (Kd.own_of_R h) (fun k hk' => by obtain ⟨cs, hc⟩ := own_typed (Kd.own_of_R h) k hk'; rw [hk.2 k cs _ _ he hc, hc])) (fun _ _ => trivial)
abbrev RTi (w : World) (v : Value) (s : List Int) : Prop := (Kd.int .i64).R 3 w 0 (fun _ => True) v s
theorem RTi.kp {w w' : World} {v : Value} {s : List Int} (h : RTi w v s) (hk : Kp w w') : RTi w' v s := R_kp (by decide) h hk
structure IBx (A : Option Addr) (c n : Nat) (girth play : Int) (g : List Bool) (l gP gY gG gS : Nat) (w : World) : Prop where
  KP : w.heap[gP]? = some (.cells #[.slice A n c, .int .i64 girth, .int .i64 play] 101 (0, 0))
  KY : w.heap[gY]? = some (.cells #[.func (.yield l) #[] #[]] 102 (0, 0))
  KG : w.heap[gG]? = some (.cells (bs g) 99 (0, 0))
  KS : w.heap[gS]? = some (.cells #[.func (.func 94) #[] #[.pointer (some ⟨gP, 0, none⟩), .pointer (some ⟨gY, 0, none⟩), .pointer (some ⟨gG, 0, none⟩), .pointer (some ⟨gS, 0, none⟩)]] 102 (0, 0))
theorem IBx.kp {A : Option Addr} {c n : Nat} {girth play : Int} {g : List Bool} {l gP gY gG gS : Nat} {w w' : World} (h : IBx A c n girth play g l gP gY gG gS w) (hk : Kp w w') : IBx A c n girth play g l gP gY gG gS w' :=
  ⟨hk.2 _ _ _ _ (by decide) h.KP, hk.2 _ _ _ _ (by decide) h.KY, hk.2 _ _ _ _ (by decide) h.KG, hk.2 _ _ _ _ (by decide) h.KS⟩
theorem rd_snoc (s : List Int) (x : Int) : rd (s ++ [x]) ((s ++ [x]).length - 1 : Int) = x := by
  rw [List.length_append, List.length_singleton, show ((s.length + 1 : Nat) : Int) - 1 = (s.length : Nat) by omega, rd_nat _ s.length (by simp)]
  simp
theorem last_lt {s : List Int} {x : Int} {t : List Int} (h : (s ++ x :: t).Pairwise (· < ·)) (hs : 0 < s.length) : rd s ((s.length : Int) - 1) < x := by
  have h1 := (List.pairwise_append.1 h).2.2
  refine h1 _ (rd_mem (by omega) (by omega)) _ (by simp)
theorem ris_snoc {n : Nat} {g : List Bool} {s : List Int} {k : Int} (h : Ris n g s) (hs : 0 < s.length) (hk : rd s ((s.length : Int) - 1) < k) (hkn : k < n) (hg : g.getD k.toNat false = false) : Ris n g (s ++ [k]) := by
  have h0 := (h.2 _ (rd_mem (xs := s) (i := (s.length : Int) - 1) (by omega) (by omega))).1
  refine ⟨List.pairwise_append.2 ⟨h.1, List.pairwise_singleton _ _, fun a ha b hb => ?_⟩, fun x hx => ?_⟩
  · rw [List.mem_singleton.1 hb]
    obtain ⟨i, hi, rfl⟩ := List.mem_iff_getElem.1 ha
    by_cases e : i = s.length - 1
    · subst e
      rw [show ((s.length : Int) - 1) = ((s.length - 1 : Nat) : Int) by omega, rd_nat _ _ hi] at hk
      exact hk
    · have h2 := List.pairwise_iff_getElem.1 h.1 i (s.length - 1) hi (by omega) (by omega)
      rw [show ((s.length : Int) - 1) = ((s.length - 1 : Nat) : Int) by omega, rd_nat _ _ (by omega)] at hk
      omega
  · rcases List.mem_append.1 hx with hx | hx
    · exact h.2 x hx
    · rw [List.mem_singleton.1 hx]; exact ⟨⟨by omega, hkn⟩, hg⟩
theorem isBarrel_pos {ws : List Int} {girth play : Int} {s : List Int} (h : isBarrelL ws girth play s = true) : s ≠ [] := fun e => by subst e; simp [isBarrelL] at h
section
variable {J : List (List Int) → World → Prop} {A : Option Addr} {c : Nat} {ws : List Int} {girth play : Int} {g : List Bool} {l : Nat}
set_option maxHeartbeats 4000000 in
theorem longer_c (hJ : ∀ d W W', J d W → Bel W W' → J d W') (hJw : ∀ d W, J d W → (Kd.int .i64).C W A ws.length ws)
    (hY : ∀ d y v W, J d W → RTi W v y → Ris ws.length g y → isBarrelL ws girth play y = true → Yc Try.prog l v W (fun e W' => e = .returned (.bool true) ∧ J (d ++ [y]) W' ∧ Kp W W'))
    (hb : ∀ x ∈ ws, 0 ≤ x ∧ x ≤ 1000) (hn : ws.length ≤ 10) (hgi : 0 ≤ girth ∧ girth ≤ 100000) (hpl : 0 ≤ play ∧ play ≤ 100000) (hgl : g.length = 10) (gP gY gG gS : Nat) :
    ∀ (n : Nat) (s : List Int) (v : Value) (d : List (List Int)) (w : World), Ris ws.length g s → 0 < s.length → (ws.length : Int) - rd s ((s.length : Int) - 1) ≤ n → J d w → IBx A c ws.length girth play g l gP gY gG gS w → RTi w v s →
    Calls Try.prog 94 #[v, .pointer (some ⟨gP, 0, none⟩), .pointer (some ⟨gY, 0, none⟩), .pointer (some ⟨gG, 0, none⟩), .pointer (some ⟨gS, 0, none⟩)] w fun e w' => ∃ ys, e = .returned (.bool true) ∧ J (d ++ ys) w' ∧ Kp w w' ∧
      ∀ t, Ris ws.length g (s ++ t) → isBarrelL ws girth play (s ++ t) = true → s ++ t ∈ ys := by
  intro n
  induction n with
  | zero =>
    intro s v d w hs hs0 hm
    have := (hs.2 _ (rd_mem (xs := s) (i := (s.length : Int) - 1) (by omega) (by omega))).1
    omega
  | succ n ih =>
    intro s v d w hs hs0 hm hJd hbx hv
    obtain ⟨gs, cs, rfl, _, hgs, _⟩ := Kd.R_form hv hs0
    have hsl : s.length ≤ 10 := by
      have h1 : ∀ (m : Nat), m < s.length → (m : Int) ≤ rd s m := fun m => by
        induction m with
        | zero => intro h; exact (hs.2 _ (rd_mem (xs := s) (i := ((0 : Nat) : Int)) (by omega) (by omega))).1.1
        | succ m ih =>
          intro h
          have h2 := ih (by omega)
          have h3 := List.pairwise_iff_getElem.1 hs.1 m (m + 1) (by omega) h (by omega)
          rw [rd_nat s m (by omega)] at h2
          rw [rd_nat s (m + 1) h]
          omega
      have h2 := h1 (s.length - 1) (by omega)
      have h3 := (hs.2 _ (rd_mem (xs := s) (i := ((s.length - 1 : Nat) : Int)) (by omega) (by omega))).1
      omega
    have hlast := (hs.2 _ (rd_mem (xs := s) (i := (s.length : Int) - 1) (by omega) (by omega))).1
    have hcs : s.length ≤ cs := (Kd.R_reads' hv).2.1
    refine G_enter (l := [.slice (some ⟨gs, 0, none⟩) s.length cs, .pointer (some ⟨gP, 0, none⟩), .pointer (some ⟨gY, 0, none⟩), .pointer (some ⟨gG, 0, none⟩), .pointer (some ⟨gS, 0, none⟩)]) Try.func94 rfl rfl ?_
    refine Sq (Rg (As (Nl (Tn (Sc ?_)))))
    refine GC_join (fun σ w' => ∃ (ys : List (List Int)) (τ : Nat → Value), σ = upd (upd (upd (upd (upd τ 0 (.slice (some ⟨gs, 0, none⟩) s.length cs)) 1 (.pointer (some ⟨gP, 0, none⟩))) 2 (.pointer (some ⟨gY, 0, none⟩))) 3 (.pointer (some ⟨gG, 0, none⟩))) 4 (.pointer (some ⟨gS, 0, none⟩)) ∧ J (d ++ ys) w' ∧ Kp w w' ∧ (isBarrelL ws girth play s = true → s ∈ ys)) ?_ ?_
    · skip
      refine Sq (Rg ?_)
      refine g_loadA rfl Try.underlying101 info101 (l := [.slice A ws.length c, .int .i64 girth, .int .i64 play]) (cellsAt hbx.KP) (h := ?_)
      refine Mv ?_
      refine g_call he63 rfl (isBarrel_c A (some ⟨gs, 0, none⟩) c cs ws s girth play _ (hJw _ _ hJd) (Kd.R_reads' hv).2.2 hb (by omega) (fun k hk => (hs.2 k hk).1) hgi hpl) (h := ?_)
      rintro e w11 ⟨rfl, hb11⟩
      refine ⟨_, rfl, ?_⟩
      have hJ11 := hJ _ _ _ hJd hb11
      have hbx11 := hbx.kp (Kp.of hb11)
      have hv11 := hv.kp (Kp.of hb11)
      refine Mv ?_
      cases q12 : isBarrelL ws girth play s with
      | true =>
        refine L1 Try.underlying102 (cellAt hbx11.KY rfl) rfl (Mv ?_)
        refine g_yield rfl rfl (hY _ s _ _ hJ11 hv11 hs q12) (h := ?_)
        rintro e w15 ⟨rfl, hJ15, hK15⟩
        refine ⟨_, rfl, ?_⟩
        refine Nt rfl (Pt rfl (Nl (Tn (Cf rfl (Sk ?_)))))
        exact join_end ⟨[s], _, has rfl (has rfl (has rfl (has rfl (has rfl rfl)))), hJ15, (Kp.of hb11).trans hK15, fun _ => by simp⟩
      | false =>
        refine Of (Of (Of (Of (Pf rfl (Nl (Tn (Cf rfl (Sk ?_))))))))
        exact join_end ⟨[], _, has rfl (has rfl (has rfl (has rfl (has rfl rfl)))), by rw [List.append_nil]; exact hJ11, Kp.of hb11, fun h => by cases h⟩
    · rintro _ w2 ⟨ys1, τ1, rfl, hJ2, hK2, hself⟩
      refine Sq (Rg ?_)
      have hbx2 := hbx.kp hK2
      refine Mv (Ln Try.underlying22 rfl (As (Nl (Tn (Sq (Lb (Tn (Sq (Sq (Rg (Fb f101_0 rfl (Fb f24_0 rfl (L1 Try.underlying22 (cellAt hbx2.KP rfl) rfl (Ln Try.underlying22 rfl (Mv (Nl (Tn (Bk ?_))))))))))))))))))
      refine GC_loop (fun m σ w' => ∃ (k : Nat) (ys : List (List Int)) (τ : Nat → Value), σ = upd (upd (upd (upd (upd (upd (upd (upd τ 0 (.slice (some ⟨gs, 0, none⟩) s.length cs)) 1 (.pointer (some ⟨gP, 0, none⟩))) 2 (.pointer (some ⟨gY, 0, none⟩))) 3 (.pointer (some ⟨gG, 0, none⟩))) 4 (.pointer (some ⟨gS, 0, none⟩))) 7 (.int .i64 s.length)) 23 (.int .i64 ws.length)) 24 (.int .i64 k) ∧ k ≤ ws.length ∧ m = ws.length - k ∧ J (d ++ ys) w' ∧ Kp w w' ∧ (isBarrelL ws girth play s = true → s ∈ ys) ∧ ∀ x t, x < (k : Int) → Ris ws.length g (s ++ x :: t) → isBarrelL ws girth play (s ++ x :: t) = true → s ++ x :: t ∈ ys) (ws.length) ⟨0, ys1, _, has rfl (has rfl (has rfl (has rfl (has rfl (has rfl (has rfl (has rfl rfl))))))), Nat.zero_le _, rfl, hJ2, hK2, hself, fun x t hx hr _ => by have := (hr.2 x (by simp)).1; omega⟩ ?_
      rintro m _ w3 ⟨k, ys, τ, rfl, hk, rfl, hJ3, hK3, hself3, hall⟩
      refine Sq (Rg ?_)
      refine g_lss rfl rfl (h1 := fun c25 => ?_) (h2 := fun c25 => ?_)
      · skip
        refine Nl (Tn (Sq (Ct rfl (Sk (Tn (Sq (Bk (Sq (Rg ?_)))))))))
        have hkl : k < ws.length := by omega
        have hbx3 := hbx.kp hK3
        have hv3 := hv.kp hK3
        have h32 := (Kd.R_celln (0 : Int) hv3 ((s.length : Int) - 1) (by omega) (by omega)).1
        refine Mv (As (Nl (Tn (Sq (Sq (Rg (Mv (Mv (Mv ?_)))))))))
        refine g_sub rfl rfl (by omega) (h := ?_)
        refine g_indexO Try.underlying22 info3 rfl rfl  (by omega) (by omega) (Nat.mul_one _) (h := ?_)
        refine L1 Try.underlying3 (h32) rfl ?_
        refine g_leq rfl rfl (h1 := fun c33 => ?_) (h2 := fun c33 => ?_)
        · skip
          refine Mv (Of (Of (Of (Pt rfl (Nl (Tn (Ct rfl (Xi (Tx (Bs (Tn (Rg ?_))))))))))))
          refine g_add rfl rfl (by omega) (h := ?_)
          refine Mv (Nl ?_)
          exact round_end (ws.length - (k + 1)) (by omega) ⟨k + 1, ys, _, has rfl (has rfl (has rfl (has rfl (has rfl (has rfl (has rfl (has rfl rfl))))))), hkl, rfl, hJ3, hK3, hself3, fun x t hx hr hB => by
            by_cases e : x < (k : Int)
            · exact hall x t e hr hB
            · have := last_lt hr.1 hs0
              have hc : (k : Int) ≤ rd s ((s.length : Int) - 1) := c33
              omega⟩
        · skip
          refine Mv (Mv ?_)
          refine g_indexA Try.underlying99 info4 rfl rfl (by omega) (by omega) (add0 _ _) (h := ?_)
          refine L1 Try.underlying4 (cellAt hbx3.KG (bs_get (by rw [hgl]; exact Nat.lt_of_lt_of_le hkl hn))) rfl (Pf rfl (Nl (Tn ?_)))
          cases q38 : g.getD (k : Int).toNat false with
          | true =>
            refine Ct rfl (Xi (Tx (Bs (Tn (Rg ?_)))))
            refine g_add rfl rfl (by omega) (h := ?_)
            refine Mv (Nl ?_)
            exact round_end (ws.length - (k + 1)) (by omega) ⟨k + 1, ys, _, has rfl (has rfl (has rfl (has rfl (has rfl (has rfl (has rfl (has rfl rfl))))))), hkl, rfl, hJ3, hK3, hself3, fun x t hx hr hB => by
              by_cases e : x < (k : Int)
              · exact hall x t e hr hB
              · obtain rfl : x = k := by omega
                have := (hr.2 (k : Int) (by simp)).2
                rw [q38] at this
                cases this⟩
          | false =>
            refine Cf rfl (Sk (Tn (Sq ?_)))
            have hB8 : Bel w3 (w3.drewN 1) := Bel.drew (Below.refl _ _)
            refine GD_start 10 [8] (fun w' => w'.heap[gS]? = some (.cells #[.func (.func 94) #[] #[.pointer (some ⟨gP, 0, none⟩), .pointer (some ⟨gY, 0, none⟩), .pointer (some ⟨gG, 0, none⟩), .pointer (some ⟨gS, 0, none⟩)]] 102 (0, 0))) (by kernel_rfl) rfl ?_
            refine GD_take 0 rfl (by kernel_rfl) (by kernel_rfl) (by kernel_rfl) (by kernel_rfl) rfl rfl rfl (qv fun wq hC => by exact r_load1 rfl Try.underlying102 (cellAt hC rfl)) ?_
            refine GD_pure 1 rfl (by kernel_rfl) (by kernel_rfl) (by kernel_rfl) (by kernel_rfl) rfl rfl rfl (qv fun wq hC => by exact r_move) ?_
            refine GD_pure 2 rfl (by kernel_rfl) (by kernel_rfl) (by kernel_rfl) (by kernel_rfl) rfl rfl rfl (qv fun wq hC => by exact r_move) ?_
            refine GD_pure 3 rfl (by kernel_rfl) (by kernel_rfl) (by kernel_rfl) (by kernel_rfl) rfl rfl rfl (qv fun wq hC => by exact r_move) ?_
            refine GD_take 4 rfl (by kernel_rfl) (by kernel_rfl) (by kernel_rfl) (by kernel_rfl) rfl rfl rfl (qv fun wq hC => by exact r_slice3 Try.underlying22 inf3 rfl rfl rfl rfl rfl (Nat.le_refl _) hcs) ?_
            refine GD_pure 5 rfl (by kernel_rfl) (by kernel_rfl) (by kernel_rfl) (by kernel_rfl) rfl rfl rfl (qv fun wq hC => by exact r_move) ?_
            refine GD_one 6 (by kernel_rfl) (fun _ => kB hbx3.KS hB8) ?_
            refine GO_lit1 rfl rfl rfl bs22 rfl rfl (fun g45 w45 N45 => ?_)
            have hB8 := hB8.new N45
            refine GD_one 7 (by kernel_rfl) (fun _ => kB hbx3.KS hB8) ?_
            refine GO_appendC (p := (k : Int)) rfl rfl rfl Try.underlying22 zi3 rfl (Kd.C_below (Kd.R_reads' hv3).2.2 hB8) N45.at_ (by omega) (by simp [maxLen]; omega) (fun h => by cases h) rfl rfl (fun v46 w46 HR46 hg46 => ?_)
            have hB8 := hB8.grown hg46 (fun k hk => by cases hk)
            refine GD_one 8 (by kernel_rfl) (fun _ => kB hbx3.KS hB8) ?_
            have hkl2 : rd s ((s.length : Int) - 1) < k := by have : ¬ (k : Int) ≤ rd s ((s.length : Int) - 1) := c33; omega
            refine GO_callv rfl rfl rfl he94 rfl rfl (ih (s ++ [(k : Int)]) v46 (d ++ ys) w46 (ris_snoc hs hs0 hkl2 (by omega) q38) (by simp) (by rw [rd_snoc]; omega) (hJ _ _ _ hJ3 hB8) (hbx3.kp (Kp.of hB8)) (Kd.R_lower HR46 (Nat.zero_le _))) (fun e w47 he => ?_)
            obtain ⟨ys47, rfl, hJ47, hK47, hall47⟩ := he
            refine ⟨_, rfl, ?_⟩
            refine GD_pure 9 rfl (by kernel_rfl) (by kernel_rfl) (by kernel_rfl) (by kernel_rfl) rfl rfl rfl (qv fun wq hC => by exact r_not rfl) ?_
            refine GD_end (by kernel_rfl) (dead 8 rfl (by kernel_rfl)) ?_
            refine Tn (Cf rfl (Sk (Bn (Tn (Rg ?_)))))
            refine g_add rfl rfl (by omega) (h := ?_)
            refine Mv (Nl ?_)
            exact round_end (ws.length - (k + 1)) (by omega) ⟨k + 1, ys ++ ys47, _, has rfl (has rfl (has rfl (has rfl (has rfl (has rfl (has rfl (has rfl rfl))))))), hkl, rfl, by rw [← List.append_assoc]; exact hJ47, (hK3.trans (Kp.of hB8)).trans hK47, fun h => List.mem_append.2 (.inl (hself3 h)), fun x t hx hr hB => by
              by_cases e : x < (k : Int)
              · exact List.mem_append.2 (.inl (hall x t e hr hB))
              · obtain rfl : x = k := by omega
                have h1 : s ++ [(k : Int)] ++ t = s ++ (k : Int) :: t := by simp
                have := hall47 t (by rw [h1]; exact hr) (by rw [h1]; exact hB)
                rw [h1] at this
                exact List.mem_append.2 (.inr this)⟩
      · skip
        refine Nl (Tn (Sq (Cf rfl (Xi (Tx (Tx (Bs (Tn (Sq (Rg (As (Nl (Tn (Rt (Sr ?_)))))))))))))))
        exact ret1 rfl ⟨ys, rfl, hJ3, hK3, fun t hr hB => by
          cases t with
          | nil => rw [List.append_nil] at *; exact hself3 hB
          | cons x t => exact hall x t (by have := (hr.2 x (by simp)).1; omega) hr hB⟩
end
end Go.Proofs.B

/- barrel: the range function itself. -/
set_option linter.unusedVariables false
set_option linter.unusedSimpArgs false
set_option maxRecDepth 10000
namespace Go.Proofs.B
open Go Go.RowKit Go.Proofs Go.Proofs.G Go.Proofs.F Go.Proofs.YtpfoleggapngoaaW.PrintWords
theorem iterMake_c (A : Option Addr) (c n : Nat) (girth play : Int) (g : List Bool) (first : Nat) (w : World) :
    Calls Try.prog 69 #[.agg #[.slice A n c, .int .i64 girth, .int .i64 play], .int .i64 first, .agg (bs g)] w fun e w' => ∃ gP gG gF, e = .returned (.func (.func 93) #[] #[.pointer (some ⟨gP, 0, none⟩), .pointer (some ⟨gG, 0, none⟩), .pointer (some ⟨gF, 0, none⟩)]) ∧ Bel w w' ∧
      w'.heap[gP]? = some (.cells #[.slice A n c, .int .i64 girth, .int .i64 play] 101 (0, 0)) ∧ w'.heap[gG]? = some (.cells (bs g) 99 (0, 0)) ∧ w'.heap[gF]? = some (.cells #[.int .i64 first] 3 (0, 0)) := by
  refine G_enter (l := [.agg #[.slice A n c, .int .i64 girth, .int .i64 play], .int .i64 first, .agg (bs g)]) Try.func69 rfl rfl ?_
  refine Sq (Rg ?_)
  refine g_box rfl (h := fun g3 w3 N3 => ?_)
  have K3 := N3.at_
  have hB3 := Bel.of_new N3
  refine g_box rfl (h := fun g4 w4 N4 => ?_)
  have K4 := N4.at_
  have hB4 := hB3.new N4
  refine g_box rfl (h := fun g5 w5 N5 => ?_)
  have K5 := N5.at_
  have hB5 := hB4.new N5
  refine As (Nl (Tn (Sq (Rg (Mf (As (Nl (Tn (Rt ?_)))))))))
  exact ret1 rfl ⟨g3, g5, g4, rfl, hB5, kN (kN K3 N4) N5, K5, kN K4 N5⟩
section
variable {J : List (List Int) → World → Prop} {A : Option Addr} {c : Nat} {ws : List Int} {girth play : Int} {g : List Bool} {l : Nat}
set_option maxHeartbeats 2000000 in
theorem iter_c (hJ : ∀ d W W', J d W → Bel W W' → J d W') (hJw : ∀ d W, J d W → (Kd.int .i64).C W A ws.length ws)
    (hY : ∀ d y v W, J d W → RTi W v y → Ris ws.length g y → isBarrelL ws girth play y = true → Yc Try.prog l v W (fun e W' => e = .returned (.bool true) ∧ J (d ++ [y]) W' ∧ Kp W W'))
    (hb : ∀ x ∈ ws, 0 ≤ x ∧ x ≤ 1000) (hn : ws.length ≤ 10) (hgi : 0 ≤ girth ∧ girth ≤ 100000) (hpl : 0 ≤ play ∧ play ≤ 100000) (hgl : g.length = 10) (gP gG gF first : Nat) (hf : first < ws.length) (hgf : g.getD first false = false)
    (w : World) (hJ0 : J [] w) (KP : w.heap[gP]? = some (.cells #[.slice A ws.length c, .int .i64 girth, .int .i64 play] 101 (0, 0))) (KG : w.heap[gG]? = some (.cells (bs g) 99 (0, 0))) (KF : w.heap[gF]? = some (.cells #[.int .i64 first] 3 (0, 0))) :
    Calls Try.prog 93 #[.func (.yield l) #[] #[], .pointer (some ⟨gP, 0, none⟩), .pointer (some ⟨gG, 0, none⟩), .pointer (some ⟨gF, 0, none⟩)] w fun e w' => ∃ ys, e = .returned (.tuple #[]) ∧ J ys w' ∧
      ∀ t, Ris ws.length g ((first : Int) :: t) → isBarrelL ws girth play ((first : Int) :: t) = true → (first : Int) :: t ∈ ys := by
  refine G_enter (l := [.func (.yield l) #[] #[], .pointer (some ⟨gP, 0, none⟩), .pointer (some ⟨gG, 0, none⟩), .pointer (some ⟨gF, 0, none⟩)]) Try.func93 rfl rfl ?_
  refine Sq (Rg ?_)
  refine g_box rfl (h := fun g4 w4 N4 => ?_)
  have K4 := N4.at_
  have hB4 := Bel.of_new N4
  have K4a : w4.heap[g4]? = some (.cells #[.func (.yield l) #[] #[]] 102 (0, 0)) := K4
  refine Nl (Tn (Sq (Rg ?_)))
  refine g_alloc (z := .nilFunc) (by kernel_rfl) (h := fun g5 w5 N5 => ?_)
  have K5 := N5.at_
  have hB5 := hB4.new N5
  have K5a : w5.heap[g5]? = some (.cells #[.nilFunc] 102 (0, 0)) := K5
  refine Nl (Tn (Sq (Rg (Mf ?_))))
  refine g_store1 rfl rfl info102 K5a (by decide) (h := fun w6 P6 => ?_)
  have hB6 := hB5.put P6 (Nat.le_trans hB4.size N5.ge)
  have hbx : IBx A c ws.length girth play g l gP g4 gG g5 w6 := ⟨kB KP hB6, kP (kN K4a N5) P6 (N5.ne K4a), kB KG hB6, P6.at_⟩
  refine Nl (Tn (Rg (L1 Try.underlying102 (cellAt hbx.KS rfl) rfl (L1 Try.underlying3 (cellAt (kB KF hB6) rfl) rfl ?_))))
  refine g_lit1 bs22 rfl rfl (h := fun g9 w9 N9 => ?_)
  have hB9 := hB6.new N9
  refine g_callv he94 rfl rfl (longer_c hJ hJw hY hb hn hgi hpl hgl gP g4 gG g5 ws.length [(first : Int)] _ [] w9 ⟨List.pairwise_singleton _ _, fun k hk => by rw [List.mem_singleton.1 hk]; exact ⟨⟨by omega, by omega⟩, by simpa using hgf⟩⟩ (by simp) (by simp only [List.length_singleton]; have := hf; have h0 : rd [(first : Int)] (((1 : Nat) : Int) - 1) = first := rfl; omega) (hJ _ _ _ hJ0 hB9) (hbx.kp (Kp.of (Bel.of_new N9))) (Kd.R_of_own ⟨rfl, .inr ⟨g9, 1, _, rfl, Nat.zero_le _, N9.at_, Nat.le_refl _, by decide, rfl, rfl⟩⟩ (fun _ _ => trivial))) (h := ?_)
  rintro e w10 ⟨ys, rfl, hJ10, hK10, hall⟩
  refine ⟨_, rfl, ?_⟩
  refine Nl ?_
  exact end0 rfl ⟨ys, rfl, hJ10, fun t hr hB => hall t hr hB⟩
end
end Go.Proofs.B
