/- barrel: what the calls of BarrelKnown answer. -/
import Derived.Test.YtpfoleggapngoaaB50
import Derived.Test.YtpfoleggapngoaaB39
set_option linter.unusedVariables false
set_option linter.unusedSimpArgs false
set_option maxRecDepth 10000
namespace Go.Proofs.B
open Go Go.RowKit Go.Proofs Go.Proofs.G Go.Proofs.F Go.Proofs.T Go.Proofs.YtpfoleggapngoaaW.PrintWords
/-! ### What is not right -/
theorem areBad_c (A : Option Addr) (c : Nat) (ws : List Int) (girth play : Int) (w : World) (hw : (Kd.int .i64).C w A ws.length ws) (hno : ¬ PileOk ws girth play) :
    Calls Try.prog 16 #[.agg #[.slice A ws.length c, .int .i64 girth, .int .i64 play], .slice none 0 0] w fun e w' => e = .returned (.tuple #[.bool false, .int .i64 60]) ∧ Bel w w' :=
  (areBarrels_c A none c 0 ws girth play [] w hw (Kd.C_nil _ _)).mono fun e w' ⟨h1, h2⟩ => ⟨by rw [h1, if_neg hno], h2⟩
theorem setBad_c (A : Option Addr) (c : Nat) (ws : List Int) (girth play : Int) (w : World) (hw : (Kd.int .i64).C w A ws.length ws) (hno : ¬ PileOk ws girth play) :
    Calls Try.prog 20 #[.agg #[.slice A ws.length c, .int .i64 girth, .int .i64 play]] w fun e w' => e = .returned (.tuple #[.slice none 0 0, .int .i64 60]) ∧ Bel w w' :=
  (set_c A c ws girth play w hw).mono fun e w' ⟨h1, h2⟩ => ⟨by
    rcases h1 with ⟨_, h⟩ | ⟨h, _⟩ | ⟨h, _⟩
    · exact h
    · exact absurd h hno
    · exact absurd h hno, h2⟩
theorem pileBad_c (A : Option Addr) (c : Nat) (ws : List Int) (girth play : Int) (w : World) (hw : (Kd.int .i64).C w A ws.length ws) (hno : ¬ PileOk ws girth play) :
    Calls Try.prog 18 #[.agg #[.slice A ws.length c, .int .i64 girth, .int .i64 play]] w fun e w' => e = .returned (.int .i64 60) ∧ Bel w w' :=
  (checkPile_c A c ws girth play w hw).mono fun e w' ⟨h1, h2⟩ => ⟨by rw [h1, cp_no hno], h2⟩
theorem runBad_c (A B : Option Addr) (c d : Nat) (y : List S70) (plan : List Int) (w : World) (hs : k70.C w A y.length y) (hp : (Kd.int .i64).C w B plan.length plan) (hno : yardOk y = false) :
    Calls Try.prog 23 #[.slice A y.length c, .slice B plan.length d, .slice none 0 0] w fun e w' => ∃ v a, e = .returned (.tuple #[v, .int .i64 a, .int .i64 61]) ∧ Bel w w' :=
  (run_c A B none c d 0 y plan [] w hs hp (Kd.C_nil _ _)).mono fun e w' ⟨v, h1, _, h2⟩ => ⟨v, (runL y plan []).2.1, by rw [h1, show (runL y plan []).2.2 = 61 by unfold runL; rw [if_neg (by rw [hno]; decide)]], h2⟩
theorem firstBad_c (A : Option Addr) (c : Nat) (y : List S70) (mo : Int) (w : World) (hs : k70.C w A y.length y) (hno : yardOk y = false) :
    Calls Try.prog 28 #[.slice A y.length c, .int .i64 mo] w fun e w' => ∃ a b, e = .returned (.tuple #[.int .i64 a, .int .i64 b, .int .i64 61]) ∧ Bel w w' :=
  (first_c A c y mo w hs).mono fun e w' ⟨h1, h2⟩ => ⟨(firstL y mo).1, (firstL y mo).2.1, by rw [h1, show (firstL y mo).2.2 = 61 by unfold firstL; rw [if_neg (by rw [hno]; decide)]], h2⟩
theorem keepBad_c (A : Option Addr) (c : Nat) (y : List S70) (mo : Int) (w : World) (hs : k70.C w A y.length y) (hno : yardOk y = false) :
    Calls Try.prog 30 #[.slice A y.length c, .int .i64 mo] w fun e w' => ∃ v, e = .returned (.tuple #[v, .int .i64 61]) ∧ Bel w w' :=
  (keep_c A c y mo w hs).mono fun e w' ⟨v, code, plan, h1, _, h3, h2⟩ => ⟨v, by
    rcases h3 with ⟨h, _⟩ | ⟨h, _⟩ | ⟨_, h, _⟩
    · exact absurd h (by rw [hno]; decide)
    · exact absurd h (by rw [hno]; decide)
    · rw [h1, h], h2⟩
theorem yardBad_c (A : Option Addr) (c : Nat) (y : List S70) (w : World) (hs : k70.C w A y.length y) (hno : yardOk y = false) :
    Calls Try.prog 26 #[.slice A y.length c] w fun e w' => e = .returned (.int .i64 61) ∧ Bel w w' :=
  (checkYard_c A c y w hs).mono fun e w' ⟨h1, h2⟩ => ⟨by rw [h1, if_neg (by rw [hno]; decide)], h2⟩
theorem countsBad_c (A : Option Addr) (c : Nat) (n : Int) (l : List S76) (w : World) (hs : k76.C w A l.length l) (hno : bookOk n l = false) :
    Calls Try.prog 33 #[.agg #[.int .i64 n, .slice A l.length c], .slice none 0 0] w fun e w' => e = .returned (.tuple #[.bool false, .int .i64 63]) ∧ Bel w w' :=
  (areCounts_c A none c 0 n l [] w hs (Kd.C_nil _ _)).mono fun e w' ⟨h1, h2⟩ => ⟨by rw [h1]; unfold areCounts; rw [if_neg (by rw [hno]; decide)], h2⟩
theorem balBad_c (A : Option Addr) (c : Nat) (n : Int) (l : List S76) (w : World) (hs : k76.C w A l.length l) (hno : bookOk n l = false) :
    Calls Try.prog 37 #[.agg #[.int .i64 n, .slice A l.length c]] w fun e w' => ∃ v, e = .returned (.tuple #[v, .int .i64 63]) ∧ Bel w w' :=
  (balanceA_c n l A c w hs).mono fun e w' ⟨A', out, code, h1, _, h3, h2⟩ => ⟨.slice A' out.length out.length, by
    rcases h3 with ⟨_, h, _⟩ | ⟨h, _⟩ | ⟨h, _⟩
    · rw [h1, h]
    · exact absurd h (by rw [hno]; decide)
    · exact absurd h (by rw [hno]; decide), h2⟩
theorem provBad_c (A : Option Addr) (c : Nat) (n : Int) (l : List S76) (set : Int) (w : World) (hs : k76.C w A l.length l) (hno : bookOk n l = false) :
    Calls Try.prog 52 #[.agg #[.int .i64 n, .slice A l.length c], .int .i64 set] w fun e w' => e = .returned (.tuple #[.bool false, .int .i64 63]) ∧ Bel w w' :=
  (proves_c A c n l set w hs).mono fun e w' ⟨h1, h2⟩ => ⟨by rw [h1]; unfold provesL; rw [if_neg (by rw [hno]; decide)], h2⟩
theorem proofBad_c (A : Option Addr) (c : Nat) (n : Int) (l : List S76) (w : World) (hs : k76.C w A l.length l) (hno : bookOk n l = false) :
    Calls Try.prog 54 #[.agg #[.int .i64 n, .slice A l.length c]] w fun e w' => e = .returned (.tuple #[.int .i64 0, .int .i64 63]) ∧ Bel w w' :=
  (proofA_c n l A c w hs).mono fun e w' ⟨set, code, h1, h3, h2⟩ => ⟨by
    rcases h3 with ⟨_, h, h4⟩ | ⟨h, _⟩ | ⟨h, _⟩
    · rw [h1, h, h4]
    · exact absurd h (by rw [hno]; decide)
    · exact absurd h (by rw [hno]; decide), h2⟩
theorem bookBad_c (A : Option Addr) (c : Nat) (n : Int) (l : List S76) (w : World) (hs : k76.C w A l.length l) (hno : bookOk n l = false) :
    Calls Try.prog 35 #[.agg #[.int .i64 n, .slice A l.length c]] w fun e w' => e = .returned (.int .i64 63) ∧ Bel w w' :=
  (checkBook_c A c n l w hs).mono fun e w' ⟨h1, h2⟩ => ⟨by rw [h1, if_neg (by rw [hno]; decide)], h2⟩
/-! ### Piles -/
theorem areP_c (A B : Option Addr) (c d n : Nat) (l : List (List Int)) (b : Bool) (w : World) (hw : (Kd.int .i64).C w A 7 pileL) (hs : kRow.C w B n l) (hn : l.length = n) (h : areBarrels pileL 100 10 l = b) :
    Calls Try.prog 16 #[.agg #[.slice A 7 c, .int .i64 100, .int .i64 10], .slice B n d] w fun e w' => e = .returned (.tuple #[.bool b, .int .i64 0]) ∧ Bel w w' := by
  subst hn
  exact (areBarrels_c A B c d pileL 100 10 l w hw hs).mono fun e w' ⟨h1, h2⟩ => ⟨by rw [h1, if_pos pile_ok, h], h2⟩
theorem short_best {ls : List (List Int)} (h : Best 2 (isBarrelL [30, 40] 100 10) g0 ls) : ls.length = 0 := by
  have h3 := pk_wid 2 (isBarrelL [30, 40] 100 10) [30, 40] 90 (by decide) (fun k => by
    match k with
    | 0 => decide
    | 1 => decide
    | k + 2 =>
      have : ((k + 2 : Nat) : Int).toNat = k + 2 := Int.toNat_natCast _
      unfold rd; rw [this]; simp [List.getD_eq_getElem?_getD]) (fun s hs => by
    unfold isBarrelL at hs
    have := (Bool.and_eq_true _ _ ▸ hs : _ ∧ _).2
    have := of_decide_eq_true this
    omega) ls g0 (by decide) h.1
  have h4 : wid 2 [30, 40] g0 = 70 := by decide
  rw [h4] at h3
  omega
theorem short_c (A : Option Addr) (c : Nat) (w : World) (hw : (Kd.int .i64).C w A 2 [30, 40]) :
    Calls Try.prog 20 #[.agg #[.slice A 2 c, .int .i64 100, .int .i64 10]] w fun e w' => ∃ v, e = .returned (.tuple #[v, .int .i64 4]) ∧ Bel w w' :=
  (setA_c A c [30, 40] 100 10 w hw).mono fun e w' ⟨ls, A', code, h1, h3, _, h2⟩ => ⟨.slice A' ls.length ls.length, by
    rcases h3 with ⟨h, _⟩ | ⟨_, h4, h5⟩
    · exact absurd (by unfold PileOk; decide) h
    · rw [h1, h5, if_pos (short_best h4)], h2⟩
/-! ### Yards -/
def lowL : List S70 := [⟨50, 60, 20, ⟨5, 10⟩⟩, ⟨37, 60, 30, ⟨2, 8⟩⟩]
theorem runK_c (A B D : Option Addr) (c d f n m : Nat) (plan : List Int) (leaks : List (List Int)) (code : Int) (w : World) (hs : k70.C w A 2 yardL) (hp : (Kd.int .i64).C w B n plan) (hl : kRow.C w D m leaks) (hn : plan.length = n) (hm : leaks.length = m) (h : (runL yardL plan leaks).2.2 = code) :
    Calls Try.prog 23 #[.slice A 2 c, .slice B n d, .slice D m f] w fun e w' => ∃ v a, e = .returned (.tuple #[v, .int .i64 a, .int .i64 code]) ∧ Bel w w' := by
  subst hn; subst hm
  exact (run_c A B D c d f yardL plan leaks w hs hp hl).mono fun e w' ⟨v, h1, _, h2⟩ => ⟨v, (runL yardL plan leaks).2.1, by rw [h1, h], h2⟩
theorem run_no1 : (runL yardL [2] [[5, 2]]).2.2 = 62 := by
  unfold runL
  rw [if_pos yard_ok, if_neg (by unfold PlanOk RowOk CellOk; decide)]
theorem run_no2 : (runL yardL [1] [[5, 9]]).2.2 = 62 := by
  unfold runL
  rw [if_pos yard_ok, if_neg (by unfold PlanOk RowOk CellOk; decide)]
theorem run_no3 : (runL yardL [1] []).2.2 = 62 := by
  unfold runL
  rw [if_pos yard_ok, if_neg (by unfold PlanOk RowOk CellOk; decide)]
theorem run_dry : runL yardL [-1, -1] [[10, 8], [10, 8]] = ([30, 24], 1, 0) := by
  unfold runL
  rw [if_pos yard_ok, if_pos (by unfold PlanOk RowOk CellOk; decide)]
  decide
theorem runDry_c (A B D : Option Addr) (c d f : Nat) (w : World) (hs : k70.C w A 2 yardL) (hp : (Kd.int .i64).C w B 2 [-1, -1]) (hl : kRow.C w D 2 [[10, 8], [10, 8]]) :
    Calls Try.prog 23 #[.slice A 2 c, .slice B 2 d, .slice D 2 f] w fun e w' => ∃ A' c', e = .returned (.tuple #[.slice A' 2 c', .int .i64 1, .int .i64 0]) ∧ (Kd.int .i64).C w' A' 2 [30, 24] ∧ Bel w w' :=
  (run_c A B D c d f yardL [-1, -1] [[10, 8], [10, 8]] w hs hp hl).mono (fun e w' h => by
    obtain ⟨v, rfl, hR, hb⟩ := h
    rw [run_dry] at hR ⊢
    obtain ⟨A35, c35, rfl, _, hC35⟩ := Kd.R_reads hR
    exact ⟨A35, c35, rfl, hC35, hb⟩)
theorem firstK_c' (A : Option Addr) (c : Nat) (mo code : Int) (w : World) (hs : k70.C w A 2 yardL) (h : (firstL yardL mo).2.2 = code) :
    Calls Try.prog 28 #[.slice A 2 c, .int .i64 mo] w fun e w' => ∃ a b, e = .returned (.tuple #[.int .i64 a, .int .i64 b, .int .i64 code]) ∧ Bel w w' :=
  (first_c A c yardL mo w hs).mono fun e w' ⟨h1, h2⟩ => ⟨(firstL yardL mo).1, (firstL yardL mo).2.1, by rw [h1, h], h2⟩
theorem first13 : (firstL yardL 13).2.2 = 62 := by decide
theorem first1 : (firstL yardL 1).2.2 = 4 := by decide
theorem keepNo_c (A : Option Addr) (c : Nat) (w : World) (hs : k70.C w A 2 yardL) :
    Calls Try.prog 30 #[.slice A 2 c, .int .i64 (-1)] w fun e w' => ∃ v, e = .returned (.tuple #[v, .int .i64 62]) ∧ Bel w w' :=
  (keep_c A c yardL (-1) w hs).mono fun e w' ⟨v, code, plan, h1, _, h3, h2⟩ => ⟨v, by
    rcases h3 with ⟨_, h, _⟩ | ⟨_, _, h, _⟩ | ⟨h, _⟩
    · exact absurd h (by decide)
    · rw [h1, h]
    · exact absurd yard_ok h, h2⟩
theorem low_ok : yardOk lowL = true := by decide
theorem keepLow_c (A : Option Addr) (c : Nat) (w : World) (hs : k70.C w A 2 lowL) :
    Calls Try.prog 30 #[.slice A 2 c, .int .i64 4] w fun e w' => ∃ v, e = .returned (.tuple #[v, .int .i64 4]) ∧ Bel w w' :=
  (keep_c A c lowL 4 w hs).mono fun e w' ⟨v, code, plan, h1, _, h3, h2⟩ => ⟨v, by
    rcases h3 with ⟨_, _, ⟨_, h4, h5⟩ | ⟨h, _⟩⟩ | ⟨_, h, _⟩ | ⟨h, _⟩
    · match plan, h4, h5 with
      | t :: ts, _, h5 => exact absurd h5.1 (by decide)
    · rw [h1, h]
    · exact absurd (by decide) h
    · exact absurd low_ok h, h2⟩
theorem keepZero_c (A : Option Addr) (c : Nat) (w : World) (hs : k70.C w A 2 lowL) :
    Calls Try.prog 30 #[.slice A 2 c, .int .i64 0] w fun e w' => ∃ A' c', e = .returned (.tuple #[.slice A' 0 c', .int .i64 0]) ∧ Bel w w' :=
  (keep_c A c lowL 0 w hs).mono fun e w' ⟨v, code, plan, h1, ⟨A', c', hv, _, _⟩, h3, h2⟩ => ⟨A', c', by
    rcases h3 with ⟨_, _, ⟨h, h4, h5⟩ | ⟨_, _, h⟩⟩ | ⟨_, h, _⟩ | ⟨h, _⟩
    · have hl : plan.length = 0 := h4
      rw [hl] at hv
      rw [h1, h, hv]
    · exact absurd trivial (h [] rfl)
    · exact absurd (by decide) h
    · exact absurd low_ok h, h2⟩
/-! ### Books -/
theorem countsK_c (A B : Option Addr) (c d n : Nat) (cs : List Int) (b : Bool) (code : Int) (w : World) (hs : k76.C w A 4 (bookL 9)) (hc : (Kd.int .i64).C w B n cs) (hn : cs.length = n) (h : areCounts 3 (bookL 9) cs = (b, code)) :
    Calls Try.prog 33 #[.agg #[.int .i64 3, .slice A 4 c], .slice B n d] w fun e w' => e = .returned (.tuple #[.bool b, .int .i64 code]) ∧ Bel w w' := by
  subst hn
  exact (areCounts_c A B c d 3 (bookL 9) cs w hs hc).mono fun e w' ⟨h1, h2⟩ => ⟨by rw [h1, h], h2⟩
theorem counts1 : areCounts 3 (bookL 9) [11, 8, 3, 9] = (false, 0) := by decide
theorem counts2 : areCounts 3 (bookL 9) [9, 6, 3, 6] = (false, 0) := by decide
theorem counts3 : areCounts 3 (bookL 9) [11, 8, 3] = (false, 64) := by decide
theorem provesK_c (A : Option Addr) (c : Nat) (last set : Int) (b : Bool) (code : Int) (w : World) (hs : k76.C w A 4 (bookL last)) (h : provesL 3 (bookL last) set = (b, code)) :
    Calls Try.prog 52 #[.agg #[.int .i64 3, .slice A 4 c], .int .i64 set] w fun e w' => e = .returned (.tuple #[.bool b, .int .i64 code]) ∧ Bel w w' :=
  (proves_c A c 3 (bookL last) set w hs).mono fun e w' ⟨h1, h2⟩ => ⟨by rw [h1, h], h2⟩
theorem proves1 : provesL 3 (bookL 9) 8 = (false, 64) := by decide
theorem proves2 : provesL 3 (bookL 9) (-1) = (false, 64) := by decide
theorem proves3 : provesL 3 (bookL 4) 0 = (false, 0) := by decide
theorem bal4_c (A : Option Addr) (c : Nat) (w : World) (hs : k76.C w A 4 (bookL 4)) :
    Calls Try.prog 37 #[.agg #[.int .i64 3, .slice A 4 c]] w fun e w' => ∃ v, e = .returned (.tuple #[v, .int .i64 65]) ∧ Bel w w' :=
  (balanceA_c 3 (bookL 4) A c w hs).mono fun e w' ⟨A', out, code, h1, _, h3, h2⟩ => ⟨.slice A' out.length out.length, by
    rcases h3 with ⟨h, _⟩ | ⟨_, _, h, _⟩ | ⟨h4, ⟨cs, hb⟩, _⟩
    · exact absurd h (by rw [book_ok 4 (.inr rfl)]; decide)
    · rw [h1, h]
    · have := prov_no h4 hb 3
      exact absurd this (by decide), h2⟩
theorem proof9_c (A : Option Addr) (c : Nat) (w : World) (hs : k76.C w A 4 (bookL 9)) :
    Calls Try.prog 54 #[.agg #[.int .i64 3, .slice A 4 c]] w fun e w' => e = .returned (.tuple #[.int .i64 0, .int .i64 4]) ∧ Bel w w' :=
  (proofA_c 3 (bookL 9) A c w hs).mono fun e w' ⟨set, code, h1, h3, h2⟩ => ⟨by
    rcases h3 with ⟨h, _⟩ | ⟨_, _, h, h4⟩ | ⟨h4, _, S, _, _, h5⟩
    · rw [book_ok 9 (.inl rfl)] at h; cases h
    · rw [h1, h, h4]
    · have := prov_no h4 bal_ex1 S
      omega, h2⟩
theorem proof4_c (A : Option Addr) (c : Nat) (w : World) (hs : k76.C w A 4 (bookL 4)) :
    Calls Try.prog 54 #[.agg #[.int .i64 3, .slice A 4 c]] w fun e w' => ∃ set, 0 < set ∧ e = .returned (.tuple #[.int .i64 set, .int .i64 0]) ∧ Bel w w' :=
  (proofA_c 3 (bookL 4) A c w hs).mono fun e w' ⟨set, code, h1, h3, h2⟩ => by
    rcases h3 with ⟨h, _⟩ | ⟨h4, ⟨cs, hb⟩, _⟩ | ⟨_, h, S, h5, _, h6⟩
    · rw [book_ok 4 (.inr rfl)] at h; cases h
    · have := prov_no h4 hb 3
      exact absurd this (by decide)
    · refine ⟨set, ?_, by rw [h1, h], h2⟩
      have : S ≠ 0 := fun e => by subst e; exact absurd h6 (by decide)
      omega
end Go.Proofs.B
