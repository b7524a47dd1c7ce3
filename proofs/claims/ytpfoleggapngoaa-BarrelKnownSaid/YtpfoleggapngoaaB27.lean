/- barrel: the chapter's examples hold. -/
import Derived.Test.YtpfoleggapngoaaB26
import Derived.Test.YtpfoleggapngoaaB25
import Derived.Test.YtpfoleggapngoaaB14
set_option linter.unusedVariables false
set_option linter.unusedSimpArgs false
set_option maxRecDepth 10000
namespace Go.Proofs.B
open Go Go.RowKit Go.Proofs Go.Proofs.G Go.Proofs.F Go.Proofs.YtpfoleggapngoaaW.PrintWords
/-! ### How many barrels there can be, by the widths -/
def wid (n : Nat) (ws : List Int) (g : List Bool) : Int := sumN (fun k => if g.getD k false = true then 0 else rd ws (k : Nat)) n
theorem wid_set (n : Nat) (ws : List Int) (g : List Bool) (k : Nat) (hk : k < n) (hg : k < g.length) (h : g.getD k false = false) : wid n ws (g.set k true) = wid n ws g - rd ws k := by
  unfold wid
  have e : sumN (fun j => if (g.set k true).getD j false = true then 0 else rd ws (j : Nat)) n = sumN (fun j => (if g.getD j false = true then 0 else rd ws (j : Nat)) - rd ws k * one ((k : Int) = (j : Int))) n := sumN_congr n fun j hj => by
    rw [getD_set g k j true hg]
    unfold one
    by_cases e : j = k
    · subst e; rw [if_pos rfl, if_pos rfl, if_pos rfl, h]; simp
    · rw [if_neg e, if_neg (show ¬ (k : Int) = (j : Int) by omega)]; simp
  rw [e, sumN_sub, sumN_mul, sumN_one n k (by omega)]; omega
theorem wid_mark (n : Nat) (ws : List Int) : ∀ (s : List Int) (g : List Bool), n ≤ g.length → Ris n g s → wid n ws (markG g s) = wid n ws g - (s.map (rd ws)).sum
  | [], g, _, _ => by simp [markG]
  | k :: ks, g, hn, h => by
    have hk := h.2 k (by simp)
    have h1 := wid_set n ws g k.toNat (by omega) (by omega) hk.2
    have h2 := wid_mark n ws ks (g.set k.toNat true) (by rw [List.length_set]; exact hn) ⟨(List.pairwise_cons.1 h.1).2, fun x hx => by
      have h3 := (List.pairwise_cons.1 h.1).1 x hx
      have h4 := h.2 x (by simp [hx])
      refine ⟨h4.1, ?_⟩
      rw [getD_set g _ _ _ (by omega), if_neg (by omega)]
      exact h4.2⟩
    have h3 : markG g (k :: ks) = markG (g.set k.toNat true) ks := rfl
    rw [h3, h2, h1, List.map_cons, List.sum_cons, Int.toNat_of_nonneg hk.1.1]; omega
theorem wid_nonneg (n : Nat) (ws : List Int) (g : List Bool) (h : ∀ k : Nat, 0 ≤ rd ws k) : 0 ≤ wid n ws g := sumN_nonneg n (fun s => by
  show 0 ≤ (if g.getD s false = true then (0 : Int) else rd ws (s : Nat))
  split
  · exact Int.le_refl _
  · exact h s)
theorem pk_wid (n : Nat) (isB : List Int → Bool) (ws : List Int) (lo : Int) (hlo : 0 ≤ lo) (hp : ∀ k : Nat, 0 ≤ rd ws k) (hB : ∀ s, isB s = true → lo ≤ (s.map (rd ws)).sum) : ∀ (l : List (List Int)) (g : List Bool), n ≤ g.length → Pk n isB g l → lo * l.length ≤ wid n ws g
  | [], g, _, _ => by simpa using wid_nonneg n ws g hp
  | s :: l, g, hn, h => by
    have hs := h.1 s (by simp)
    have h1 := pk_wid n isB ws lo hlo hp hB l (markG g s) (by rw [markG_len]; exact hn) (pk_out (a := []) hn h)
    rw [wid_mark n ws s g hn hs.1] at h1
    have h2 := hB s hs.2
    rw [List.length_cons, Int.natCast_add, Int.mul_add]
    simp only [Int.natCast_one, Int.mul_one]
    omega
theorem pile_best {ls : List (List Int)} (h : Best 7 (isBarrelL pileL 100 10) g0 ls) : ls.length = 3 := by
  have h1 : Pk 7 (isBarrelL pileL 100 10) g0 [[0, 4, 6], [1, 2], [3, 5]] := (areGo_iff 7 _ _ _ (by decide)).1 (by decide)
  have h2 := h.2 _ h1
  have h3 := pk_wid 7 (isBarrelL pileL 100 10) pileL 90 (by decide) (fun k => by
    match k with
    | 0 => decide
    | 1 => decide
    | 2 => decide
    | 3 => decide
    | 4 => decide
    | 5 => decide
    | 6 => decide
    | k + 7 =>
      have : ((k + 7 : Nat) : Int).toNat = k + 7 := Int.toNat_natCast _
      unfold rd; rw [this]; simp [pileL, List.getD_eq_getElem?_getD]) (fun s hs => by
    have : 100 - 10 ≤ (s.map (rd pileL)).sum ∧ (s.map (rd pileL)).sum ≤ 100 := by
      unfold isBarrelL at hs
      have := (Bool.and_eq_true _ _ ▸ hs : _ ∧ _).2
      exact of_decide_eq_true this
    omega) ls g0 (by decide) h.1
  have h4 : wid 7 pileL g0 = 285 := by decide
  rw [h4] at h3
  have h5 : ([[0, 4, 6], [1, 2], [3, 5]] : List (List Int)).length = 3 := rfl
  omega
/-! ### The other examples -/
theorem pile_ok : PileOk pileL 100 10 := by unfold PileOk; decide
theorem yard_ok : yardOk yardL = true := by decide
theorem run_ex : runL yardL [1, 0] [[10, 8], [5, 2]] = ([60, 58], -1, 0) := by
  unfold runL
  rw [if_pos yard_ok, if_pos (by unfold PlanOk RowOk CellOk; decide)]
  decide
theorem first_ex : firstL yardL 12 = (1, 1, 0) := by decide
theorem keep_ex {code : Int} {plan : List Int} (h : KeepRes yardL 4 code plan) : code = 0 ∧ plan.length = 4 := by
  rcases h with ⟨_, _, ⟨h1, h2, _⟩ | ⟨_, _, h3⟩⟩ | ⟨_, h, _⟩ | ⟨h, _⟩
  · exact ⟨h1, h2⟩
  · refine absurd ?_ (h3 [1, 0, 1, 0] rfl)
    exact ⟨by decide, ⟨by decide, by decide⟩, by decide, ⟨by decide, by decide⟩, by decide, ⟨by decide, by decide⟩, by decide, ⟨by decide, by decide⟩, trivial⟩
  · exact absurd (by decide) h
  · exact absurd yard_ok h
theorem proves_ex : provesL 3 (bookL 4) 3 = (true, 0) := by decide
theorem counts_ex : areCounts 3 (bookL 9) [11, 8, 3, 8] = (true, 0) := by decide
theorem book_ok (last : Int) (h : last = 9 ∨ last = 4) : bookOk 3 (bookL last) = true := by rcases h with rfl | rfl <;> decide
theorem book_hm (last : Int) : ∀ k, k < (bookL last).length → (0 ≤ (mv (bookL last) k).f0 ∧ (mv (bookL last) k).f0 < (3 : Nat)) ∧ (0 ≤ (mv (bookL last) k).f1 ∧ (mv (bookL last) k).f1 < (3 : Nat)) := by
  intro k hk
  have e0 : ∀ k, mv (bookL last) k = mv (bookL last) k := fun _ => rfl
  match k, hk with
  | 0, _ => exact ⟨⟨(by decide : (0 : Int) ≤ 0), (by decide : (0 : Int) < (3 : Nat))⟩, (by decide : (0 : Int) ≤ 1), (by decide : (1 : Int) < (3 : Nat))⟩
  | 1, _ => exact ⟨⟨(by decide : (0 : Int) ≤ 1), (by decide : (1 : Int) < (3 : Nat))⟩, (by decide : (0 : Int) ≤ 2), (by decide : (2 : Int) < (3 : Nat))⟩
  | 2, _ => exact ⟨⟨(by decide : (0 : Int) ≤ 1), (by decide : (1 : Int) < (3 : Nat))⟩, (by decide : (0 : Int) ≤ 0), (by decide : (0 : Int) < (3 : Nat))⟩
  | 3, _ => exact ⟨⟨(by decide : (0 : Int) ≤ 2), (by decide : (2 : Int) < (3 : Nat))⟩, (by decide : (0 : Int) ≤ 0), (by decide : (0 : Int) < (3 : Nat))⟩
theorem bal_ex {cs : List Int} (h : Bal 3 (bookL 9) cs) : (10 ≤ rd cs 0 ∧ rd cs 0 ≤ 13) ∧ (6 ≤ rd cs 1 ∧ rd cs 1 ≤ 9) ∧ (2 ≤ rd cs 2 ∧ rd cs 2 ≤ 4) ∧ (6 ≤ rd cs 3 ∧ rd cs 3 ≤ 9) := by
  obtain ⟨⟨_, h1⟩, h2⟩ := h
  have a0 : 10 ≤ rd cs 0 ∧ rd cs 0 ≤ 20 := h1 0 (by decide)
  have a1 : 5 ≤ rd cs 1 ∧ rd cs 1 ≤ 12 := h1 1 (by decide)
  have a2 : 2 ≤ rd cs 2 ∧ rd cs 2 ≤ 4 := h1 2 (by decide)
  have a3 : 0 ≤ rd cs 3 ∧ rd cs 3 ≤ 9 := h1 3 (by decide)
  have b1 : ((((0 + rd cs 0 - 0) + 0 - rd cs 1) + 0 - rd cs 2) + 0 - 0 : Int) = 0 := h2 1 (by decide)
  have b2 : ((((0 + 0 - 0) + rd cs 1 - 0) + 0 - 0) + 0 - rd cs 3 : Int) = 0 := h2 2 (by decide)
  omega
theorem bal_ex1 : Bal 3 (bookL 9) [10, 6, 4, 6] := ⟨⟨rfl, by decide⟩, by decide⟩
theorem bal_ex2 : Bal 3 (bookL 9) [13, 9, 4, 9] := ⟨⟨rfl, by decide⟩, by decide⟩
theorem bal_ex3 : Bal 3 (bookL 9) [10, 8, 2, 8] := ⟨⟨rfl, by decide⟩, by decide⟩
def spansL : List S68 := [⟨10, 13⟩, ⟨6, 9⟩, ⟨2, 4⟩, ⟨6, 9⟩]
theorem balance_ex {e : Ending} {w' : World} (h : BalRes 3 (bookL 9) e w') : ∃ A', k68.C w' A' 4 spansL ∧ e = .returned (.tuple #[.slice A' 4 4, .int .i64 0]) := by
  rcases h with ⟨h, _⟩ | ⟨_, N, hN, ⟨⟨cs, met, h1, h2⟩, _⟩ | ⟨cs, A', out, hb, hl, hf, hC, _, rfl⟩⟩
  · rw [book_ok 9 (.inl rfl)] at h; cases h
  · obtain rfl : N = 3 := by omega
    have h3 := stuck_cut (book_hm 9) h1 h2
    have h4 := bal_no (book_hm 9) bal_ex1 (fun v => !met v)
    omega
  · obtain rfl : N = 3 := by omega
    have hm := book_hm 9
    have key : ∀ (k : Nat) (hk : k < 4) (lo hi : Int), (∃ cs, Bal 3 (bookL 9) cs ∧ rd cs k = lo) → (∃ cs, Bal 3 (bookL 9) cs ∧ rd cs k = hi) → (∀ cs, Bal 3 (bookL 9) cs → lo ≤ rd cs k ∧ rd cs k ≤ hi) → rd_T68 out k = ⟨lo, hi⟩ := fun k hk lo hi h1 h2 h3 => by
      have h4 := hf k hk
      have h5 := Mn.uniq (far_mn hm hk h4.1) ⟨h1, fun cs h => (h3 cs h).1⟩
      have h6 := Mx.uniq (far_mx hm hk h4.2) ⟨h2, fun cs h => (h3 cs h).2⟩
      generalize rd_T68 out k = x at *
      obtain ⟨x0, x1⟩ := x
      have h5 : x0 = lo := h5
      have h6 : x1 = hi := h6
      rw [h5, h6]
    have hl' : out.length = 4 := hl
    have e : out = spansL := by
      refine List.ext_getElem (by rw [hl']; rfl) fun k h1 h2 => ?_
      have hg : out[k] = rd_T68 out k := by simp [rd_T68, List.getD_eq_getElem?_getD, h1]
      rw [hg]
      match k, h1 with
      | 0, _ => exact key 0 (by decide) 10 13 ⟨_, bal_ex1, rfl⟩ ⟨_, bal_ex2, rfl⟩ (fun cs h => (bal_ex h).1)
      | 1, _ => exact key 1 (by decide) 6 9 ⟨_, bal_ex1, rfl⟩ ⟨_, bal_ex2, rfl⟩ (fun cs h => (bal_ex h).2.1)
      | 2, _ => exact key 2 (by decide) 2 4 ⟨_, bal_ex3, rfl⟩ ⟨_, bal_ex1, rfl⟩ (fun cs h => (bal_ex h).2.2.1)
      | 3, _ => exact key 3 (by decide) 6 9 ⟨_, bal_ex1, rfl⟩ ⟨_, bal_ex2, rfl⟩ (fun cs h => (bal_ex h).2.2.2)
      | k + 4, h => omega
    subst e
    exact ⟨A', hC, rfl⟩
theorem bs52_4 (w : World) (a b a1 b1 a2 b2 a3 b3 : Int) : (Instr.buildSlice 52 4 #[(0, .agg #[.int .i64 a, .int .i64 b]), (1, .agg #[.int .i64 a1, .int .i64 b1]), (2, .agg #[.int .i64 a2, .int .i64 b2]), (3, .agg #[.int .i64 a3, .int .i64 b3])]).run Try.prog w = .ok (.slice (some ⟨w.heap.size, 0, none⟩) 4 4) (w.alloc (.cells #[.int .i64 a, .int .i64 b, .int .i64 a1, .int .i64 b1, .int .i64 a2, .int .i64 b2, .int .i64 a3, .int .i64 b3] 68)) := by kernel_rfl
/-! ### The calls of the examples -/
theorem are_ex (A B : Option Addr) (c d : Nat) (w : World) (hw : (Kd.int .i64).C w A 7 pileL) (hs : kRow.C w B 2 [[1, 2], [3, 5]]) : Calls Try.prog 16 #[.agg #[.slice A 7 c, .int .i64 100, .int .i64 10], .slice B 2 d] w fun e w' => e = .returned (.tuple #[.bool true, .int .i64 0]) ∧ Bel w w' :=
  (areBarrels_c A B c d pileL 100 10 [[1, 2], [3, 5]] w hw hs).mono (fun e w' h => ⟨by rw [h.1, if_pos pile_ok, show areBarrels pileL 100 10 [[1, 2], [3, 5]] = true by decide], h.2⟩)
theorem set_ex (A : Option Addr) (c : Nat) (w : World) (hw : (Kd.int .i64).C w A 7 pileL) : Calls Try.prog 20 #[.agg #[.slice A 7 c, .int .i64 100, .int .i64 10]] w fun e w' => (∃ A', e = .returned (.tuple #[.slice A' 3 3, .int .i64 0])) ∧ Bel w w' :=
  (set_c A c pileL 100 10 w hw).mono (fun e w' h => ⟨by
    rcases h.1 with ⟨h, _⟩ | ⟨_, h, _⟩ | ⟨_, ls, A', _, hb, _, he⟩
    · exact absurd pile_ok h
    · have := pile_best h; simp at this
    · rw [pile_best hb] at he; exact ⟨A', he⟩, h.2⟩)
theorem runEx_c (A A1 A2 : Option Addr) (c c1 c2 : Nat) (w : World) (hs : k70.C w A 2 yardL) (hp : (Kd.int .i64).C w A1 2 [1, 0]) (hl : kRow.C w A2 2 [[10, 8], [5, 2]]) :
    Calls Try.prog 23 #[.slice A 2 c, .slice A1 2 c1, .slice A2 2 c2] w fun e w' => ∃ A' c', e = .returned (.tuple #[.slice A' 2 c', .int .i64 (-1), .int .i64 0]) ∧ (Kd.int .i64).C w' A' 2 [60, 58] ∧ Bel w w' :=
  (run_c A A1 A2 c c1 c2 yardL [1, 0] [[10, 8], [5, 2]] w hs hp hl).mono (fun e w' h => by
    obtain ⟨v, rfl, hR, hb⟩ := h
    rw [run_ex] at hR ⊢
    obtain ⟨A35, c35, rfl, _, hC35⟩ := Kd.R_reads hR
    exact ⟨A35, c35, rfl, hC35, hb⟩)
theorem firstEx_c (A : Option Addr) (c : Nat) (w : World) (hs : k70.C w A 2 yardL) : Calls Try.prog 28 #[.slice A 2 c, .int .i64 12] w fun e w' => e = .returned (.tuple #[.int .i64 1, .int .i64 1, .int .i64 0]) ∧ Bel w w' :=
  (first_c A c yardL 12 w hs).mono (fun e w' h => ⟨by rw [h.1, first_ex], h.2⟩)
theorem keepEx_c (A : Option Addr) (c : Nat) (w : World) (hs : k70.C w A 2 yardL) : Calls Try.prog 30 #[.slice A 2 c, .int .i64 4] w fun e w' => (∃ A' c', e = .returned (.tuple #[.slice A' 4 c', .int .i64 0])) ∧ Bel w w' :=
  (keep_c A c yardL 4 w hs).mono (fun e w' h => by
    obtain ⟨v, code, plan, rfl, ⟨A47, c47, rfl, _, _⟩, hk47, hb47⟩ := h
    obtain ⟨rfl, hpl⟩ := keep_ex hk47
    rw [hpl]
    exact ⟨⟨_, _, rfl⟩, hb47⟩)
theorem balEx_c (A : Option Addr) (c : Nat) (w : World) (hs : k76.C w A 4 (bookL 9)) : Calls Try.prog 37 #[.agg #[.int .i64 3, .slice A 4 c]] w fun e w' => ∃ A', e = .returned (.tuple #[.slice A' 4 4, .int .i64 0]) ∧ k68.C w' A' 4 spansL ∧ Bel w w' :=
  (balance_c 3 (bookL 9) A c w hs).mono (fun e w' h => by
    obtain ⟨A', h1, h2⟩ := balance_ex h.1
    exact ⟨A', h2, h1, h.2⟩)
theorem provesEx_c (A : Option Addr) (c : Nat) (w : World) (hs : k76.C w A 4 (bookL 4)) : Calls Try.prog 52 #[.agg #[.int .i64 3, .slice A 4 c], .int .i64 3] w fun e w' => e = .returned (.tuple #[.bool true, .int .i64 0]) ∧ Bel w w' :=
  (proves_c A c 3 (bookL 4) 3 w hs).mono (fun e w' h => ⟨by rw [h.1, proves_ex], h.2⟩)
theorem countsEx_c (A B : Option Addr) (c d : Nat) (w : World) (hs : k76.C w A 4 (bookL 9)) (hc : (Kd.int .i64).C w B 4 [11, 8, 3, 8]) : Calls Try.prog 33 #[.agg #[.int .i64 3, .slice A 4 c], .slice B 4 d] w fun e w' => e = .returned (.tuple #[.bool true, .int .i64 0]) ∧ Bel w w' :=
  (areCounts_c A B c d 3 (bookL 9) [11, 8, 3, 8] w hs hc).mono (fun e w' h => ⟨by rw [h.1, counts_ex], h.2⟩)
theorem sameEx_c (A B : Option Addr) (c d : Nat) (n : Nat) (xs : List Int) (w : World) (hn : xs.length = n) (hx : (Kd.int .i64).C w A n xs) (hy : (Kd.int .i64).C w B n xs) : Calls Try.prog 25 #[.slice A n c, .slice B n d] w fun e w' => e = .returned (.bool true) ∧ Bel w w' := by
  subst hn
  exact (same_c A B c d xs xs w hx hy).mono (fun e w' h => ⟨by rw [h.1]; simp, h.2⟩)
theorem spansEx_c (A B : Option Addr) (c d : Nat) (n : Nat) (xs : List S68) (w : World) (hn : xs.length = n) (hx : k68.C w A n xs) (hy : k68.C w B n xs) : Calls Try.prog 39 #[.slice A n c, .slice B n d] w fun e w' => e = .returned (.bool true) ∧ Bel w w' := by
  subst hn
  exact (sameSpans_c A B c d xs xs w hx hy).mono (fun e w' h => ⟨by rw [h.1]; simp, h.2⟩)
theorem spansC {w w' : World} {g : Nat} (N : New w w' g (.cells #[.int .i64 10, .int .i64 13, .int .i64 6, .int .i64 9, .int .i64 2, .int .i64 4, .int .i64 6, .int .i64 9] 68)) : k68.C w' (some ⟨g, 0, none⟩) 4 spansL := by
  refine ⟨rfl, by decide, fun _ => ⟨_, rfl, fun j p hj => ?_⟩⟩
  have key : ∀ (x : S68) (k : Nat), (∀ i u, [Value.int .i64 x.f0, Value.int .i64 x.f1][i]? = some u → (#[Value.int .i64 10, .int .i64 13, .int .i64 6, .int .i64 9, .int .i64 2, .int .i64 4, .int .i64 6, .int .i64 9] : Array Value)[k * 2 + i]? = some u) → ∃ c, c.length = k68.sz ∧ k68.K w' x c ∧ ∀ i u, c[i]? = some u → w'.cell? ((⟨g, 0, none⟩ : Addr).add (k * k68.sz + i)) = some u := fun x k h => ⟨_, rfl, k68_mk w' x, fun i u hu => by rw [add_lit, Nat.zero_add]; exact cellAt N.at_ (h i u hu)⟩
  have two : ∀ {a b : Value} {i : Nat} {u : Value}, [a, b][i]? = some u → (i = 0 ∧ u = a) ∨ (i = 1 ∧ u = b) := fun {a b i u} h => by
    match i, h with
    | 0, h => injection h with h; exact .inl ⟨rfl, h.symm⟩
    | 1, h => injection h with h; exact .inr ⟨rfl, h.symm⟩
    | i + 2, h => simp at h
  match j, hj with
  | 0, hj => injection hj with hj; subst hj; exact key _ 0 (fun i u hu => by rcases two hu with ⟨rfl, rfl⟩ | ⟨rfl, rfl⟩ <;> rfl)
  | 1, hj => injection hj with hj; subst hj; exact key _ 1 (fun i u hu => by rcases two hu with ⟨rfl, rfl⟩ | ⟨rfl, rfl⟩ <;> rfl)
  | 2, hj => injection hj with hj; subst hj; exact key _ 2 (fun i u hu => by rcases two hu with ⟨rfl, rfl⟩ | ⟨rfl, rfl⟩ <;> rfl)
  | 3, hj => injection hj with hj; subst hj; exact key _ 3 (fun i u hu => by rcases two hu with ⟨rfl, rfl⟩ | ⟨rfl, rfl⟩ <;> rfl)
  | j + 4, hj => simp [spansL] at hj
end Go.Proofs.B
