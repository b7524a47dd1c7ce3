/- barrel: the chapter's examples, made. -/
import Derived.Test.YtpfoleggapngoaaB24
set_option linter.unusedVariables false
set_option linter.unusedSimpArgs false
set_option maxRecDepth 10000
namespace Go.Proofs.B
open Go Go.RowKit Go.Proofs Go.Proofs.G Go.Proofs.F Go.Proofs.YtpfoleggapngoaaW.PrintWords
section
variable {r : Option Nat} {N : Nat} {ds : List Deferred} {Q : Exit → Act → World → Prop} {σ : Nat → Value} {w : World}
variable {ops : Array Oper} {rest : List Oper} {ty : TypeId} {pos : String} {after : Array Edge} {gd : Option (Nat × Bool)} {d : Nat} {x y z : Operand} {a b c : Int} {ts : Array TypeId}
theorem g_inT (hx : ev σ x = .int .i64 a) (hy : ev σ y = .int .i64 b) (hz : ev σ z = .int .i64 c) (hc : b ≤ a ∧ a ≤ c)
    (hw : Region.wanted ⟨some d, .call { callee := .value (.func 43), args := #[x, y, z], argTypes := ts }, ty, pos, after, gd⟩ (yl ops σ) = true := by rfl) (hd : Nat.blt d N = true := by rfl)
    (h : GL r Try.prog N ds ops Q rest (upd σ d (.bool true)) w) :
    GL r Try.prog N ds ops Q (⟨some d, .call { callee := .value (.func 43), args := #[x, y, z], argTypes := ts }, ty, pos, after, gd⟩ :: rest) σ w :=
  g_inN hx hy hz hw hd (by rw [decide_eq_true hc]; exact h)
theorem g_inF (hx : ev σ x = .int .i64 a) (hy : ev σ y = .int .i64 b) (hz : ev σ z = .int .i64 c) (hc : ¬ (b ≤ a ∧ a ≤ c))
    (hw : Region.wanted ⟨some d, .call { callee := .value (.func 43), args := #[x, y, z], argTypes := ts }, ty, pos, after, gd⟩ (yl ops σ) = true := by rfl) (hd : Nat.blt d N = true := by rfl)
    (h : GL r Try.prog N ds ops Q rest (upd σ d (.bool false)) w) :
    GL r Try.prog N ds ops Q (⟨some d, .call { callee := .value (.func 43), args := #[x, y, z], argTypes := ts }, ty, pos, after, gd⟩ :: rest) σ w :=
  g_inN hx hy hz hw hd (by rw [decide_eq_false hc]; exact h)
end
theorem litC {w : World} {xs : List Int} {g : Nat} {t : TypeId} {f : Nat × Nat} (K : w.heap[g]? = some (.cells (xs.map (Value.int .i64)).toArray t f)) (hl : xs.length ≤ 1000) : (Kd.int .i64).C w (some ⟨g, 0, none⟩) xs.length xs := by
  refine ⟨rfl, by omega, fun _ => ⟨_, rfl, fun j p hj => ⟨[.int .i64 p], rfl, rfl, fun i u hu => ?_⟩⟩⟩
  cases i with
  | zero =>
    injection hu with hu
    subst hu
    rw [add_lit]
    exact cellAt K (by
      show (xs.map (Value.int .i64)).toArray[0 + (j * 1 + 0)]? = _
      rw [show 0 + (j * 1 + 0) = j by omega]
      simp [hj])
  | succ i => simp at hu
theorem litC2 {w : World} {x y : List Int} {A1 A2 : Option Addr} {c1 c2 g : Nat} {t : TypeId} {f : Nat × Nat} (h1 : (Kd.int .i64).C w A1 x.length x) (h2 : (Kd.int .i64).C w A2 y.length y) (l1 : x.length ≤ c1) (l2 : y.length ≤ c2)
    (K : w.heap[g]? = some (.cells #[.slice A1 x.length c1, .slice A2 y.length c2] t f)) : kRow.C w (some ⟨g, 0, none⟩) 2 [x, y] := by
  refine ⟨rfl, by decide, fun _ => ⟨_, rfl, fun j p hj => ?_⟩⟩
  match j, hj with
  | 0, hj =>
    obtain rfl : x = p := by simpa using hj
    refine ⟨[.slice A1 x.length c1], rfl, ⟨_, _, rfl, l1, h1⟩, fun i u hu => ?_⟩
    cases i with
    | zero => injection hu with hu; subst hu; rw [add_lit]; exact cellAt K rfl
    | succ i => simp at hu
  | 1, hj =>
    obtain rfl : y = p := by simpa using hj
    refine ⟨[.slice A2 y.length c2], rfl, ⟨_, _, rfl, l2, h2⟩, fun i u hu => ?_⟩
    cases i with
    | zero => injection hu with hu; subst hu; rw [add_lit]; exact cellAt K rfl
    | succ i => simp at hu
  | j + 2, hj => simp at hj
/-- A row of whole numbers that has just been laid. -/
theorem litR {w w' : World} {xs : List Int} {g : Nat} (N : New w w' g (.cells (xs.map (Value.int .i64)).toArray 3)) (hl : xs.length ≤ 1000) (base : Nat) (hb : base ≤ g) : (Kd.int .i64).R 3 w' base (fun _ => True) (.slice (some ⟨g, 0, none⟩) xs.length xs.length) xs :=
  Kd.R_of_own ⟨by simp [encs], .inr ⟨g, xs.length, _, rfl, hb, N.at_, Nat.le_refl _, by simp [maxLen]; omega, by simp, by simp only [encs, Nat.mul_one]; exact List.take_of_length_le (by simp)⟩⟩ (fun _ _ => trivial)
theorem bs22_2 (w : World) (a b : Int) : (Instr.buildSlice 22 2 #[(0, .int .i64 a), (1, .int .i64 b)]).run Try.prog w = .ok (.slice (some ⟨w.heap.size, 0, none⟩) 2 2) (w.alloc (.cells #[.int .i64 a, .int .i64 b] 3)) := by kernel_rfl
theorem bs22_4 (w : World) (a b c d : Int) : (Instr.buildSlice 22 4 #[(0, .int .i64 a), (1, .int .i64 b), (2, .int .i64 c), (3, .int .i64 d)]).run Try.prog w = .ok (.slice (some ⟨w.heap.size, 0, none⟩) 4 4) (w.alloc (.cells #[.int .i64 a, .int .i64 b, .int .i64 c, .int .i64 d] 3)) := by kernel_rfl
theorem bs22_7 (w : World) (a b c d e f g : Int) : (Instr.buildSlice 22 7 #[(0, .int .i64 a), (1, .int .i64 b), (2, .int .i64 c), (3, .int .i64 d), (4, .int .i64 e), (5, .int .i64 f), (6, .int .i64 g)]).run Try.prog w = .ok (.slice (some ⟨w.heap.size, 0, none⟩) 7 7) (w.alloc (.cells #[.int .i64 a, .int .i64 b, .int .i64 c, .int .i64 d, .int .i64 e, .int .i64 f, .int .i64 g] 3)) := by kernel_rfl
theorem bs25_2 (w : World) (A B : Option Addr) (n m c d : Nat) : (Instr.buildSlice 25 2 #[(0, .slice A n c), (1, .slice B m d)]).run Try.prog w = .ok (.slice (some ⟨w.heap.size, 0, none⟩) 2 2) (w.alloc (.cells #[.slice A n c, .slice B m d] 22)) := by kernel_rfl
theorem build24 (w : World) (a : Value) (b c : Int) : (Instr.build 24 #[(0, a), (1, .int .i64 b), (2, .int .i64 c)]).run Try.prog w = (Instr.build 24 #[(0, a), (1, .int .i64 b), (2, .int .i64 c)]).run Try.prog w := rfl
theorem build24s (w : World) (A : Option Addr) (n d : Nat) (b c : Int) : (Instr.build 24 #[(0, .slice A n d), (1, .int .i64 b), (2, .int .i64 c)]).run Try.prog w = .ok (.agg #[.slice A n d, .int .i64 b, .int .i64 c]) w := by kernel_rfl
def pileL : List Int := [30, 40, 50, 35, 45, 60, 25]
theorem pile_c (w : World) : Calls Try.prog 59 #[] w fun e w' => ∃ g, e = .returned (.agg #[.slice (some ⟨g, 0, none⟩) 7 7, .int .i64 100, .int .i64 10]) ∧ (Kd.int .i64).R 3 w' w.heap.size (fun _ => True) (.slice (some ⟨g, 0, none⟩) 7 7) pileL ∧ Bel w w' := by
  refine G_enter (l := []) Try.func59 rfl rfl ?_
  refine Sq (Rg ?_)
  refine g_alloc (z := .agg #[.slice none 0 0, .int .i64 0, .int .i64 0]) (by kernel_rfl) (h := fun g0 w0 N0 => ?_)
  have K0 := N0.at_
  have hB0 := Bel.of_new N0
  refine Nl (Tn (Sq (Rg ?_)))
  refine g_lits (bs22_7 _ _ _ _ _ _ _ _) rfl (h := fun g1 w1 N1 => ?_)
  have hB1 := hB0.new N1
  have HR := litR (xs := pileL) N1 (by decide) w.heap.size (Nat.le_trans hB0.size N1.ge)
  refine g_bld (build24s _ _ _ _ _ _) rfl (h := ?_)
  refine g_storeA rfl rfl info24 (kN K0 N1) rfl (by simp [Value.oneCell']) (h := fun w2 P2 => ?_)
  have hne : ∀ k, (fun _ : Nat => True) k → k ≠ g0 ∨ True := fun _ _ => .inr trivial
  have HR2 : (Kd.int .i64).R 3 w2 w.heap.size (fun _ => True) (.slice (some ⟨g1, 0, none⟩) 7 7) pileL := Kd.R_of_own (own_move (Kd.own_of_R HR) (fun k hk => by
    have : g1 = k := by simpa [Value.ownBlock] using hk
    subst this
    exact P2.ch.blk _ (blt N1.at_) (fun e => N1.ne K0 e.symm))) (fun _ _ => trivial)
  refine Nl (Tn (Rt ?_))
  exact retcell rfl ⟨g0, 0, none⟩ rfl (loadVarA Try.underlying24 (l := [.slice (some ⟨g1, 0, none⟩) 7 7, .int .i64 100, .int .i64 10]) info24 (cellsAt P2.at_)) ⟨g1, rfl, HR2, hB1.put P2 N0.ge⟩
theorem build68' (w : World) (a b : Int) : (Instr.build 68 #[(0, .int .i64 a), (1, .int .i64 b)]).run Try.prog w = .ok (.agg #[.int .i64 a, .int .i64 b]) w := by kernel_rfl
theorem to_c (a b : Int) (w : World) : Calls Try.prog 51 #[.int .i64 a, .int .i64 b] w fun e w' => e = .returned (.agg #[.int .i64 a, .int .i64 b]) ∧ Bel w w' := by
  refine G_enter (l := [.int .i64 a, .int .i64 b]) Try.func51 rfl rfl ?_
  refine Sq (Rg ?_)
  refine g_alloc (z := .agg #[.int .i64 0, .int .i64 0]) (by kernel_rfl) (h := fun g4 w4 N4 => ?_)
  have K4 := N4.at_
  refine Nl (Tn (Sq (Rg (Mv (Mv ?_)))))
  refine g_bld (build68' _ _ _) rfl (h := ?_)
  refine g_storeA rfl rfl info68 K4 rfl (by simp [Value.oneCell']) (h := fun w2 P2 => ?_)
  refine Nl (Tn (Rt ?_))
  exact retcell rfl ⟨g4, 0, none⟩ rfl (loadVarA Try.underlying68 (l := [.int .i64 a, .int .i64 b]) info68 (cellsAt P2.at_)) ⟨rfl, (Bel.of_new N4).put P2 N4.ge⟩
def yardL : List S70 := [⟨50, 60, 20, ⟨5, 10⟩⟩, ⟨40, 60, 30, ⟨2, 8⟩⟩]
theorem build70 (w : World) (a b c d e : Int) : (Instr.build 70 #[(0, .int .i64 a), (1, .int .i64 b), (2, .int .i64 c), (3, .agg #[.int .i64 d, .int .i64 e])]).run Try.prog w = .ok (.agg #[.int .i64 a, .int .i64 b, .int .i64 c, .int .i64 d, .int .i64 e]) w := by kernel_rfl
theorem bs35_2 (w : World) (a b c d e a' b' c' d' e' : Int) : (Instr.buildSlice 35 2 #[(0, .agg #[.int .i64 a, .int .i64 b, .int .i64 c, .int .i64 d, .int .i64 e]), (1, .agg #[.int .i64 a', .int .i64 b', .int .i64 c', .int .i64 d', .int .i64 e'])]).run Try.prog w = .ok (.slice (some ⟨w.heap.size, 0, none⟩) 2 2) (w.alloc (.cells #[.int .i64 a, .int .i64 b, .int .i64 c, .int .i64 d, .int .i64 e, .int .i64 a', .int .i64 b', .int .i64 c', .int .i64 d', .int .i64 e'] 70)) := by kernel_rfl
theorem yard_c (w : World) : Calls Try.prog 60 #[] w fun e w' => ∃ g, e = .returned (.slice (some ⟨g, 0, none⟩) 2 2) ∧ k70.R 70 w' w.heap.size (fun _ => True) (.slice (some ⟨g, 0, none⟩) 2 2) yardL ∧ Bel w w' := by
  refine G_enter (l := []) Try.func60 rfl rfl ?_
  refine Sq (Rg (As (Nl (Tn (Sq (Rg ?_))))))
  refine g_call he51 rfl (to_c 5 10 _) (h := ?_)
  rintro e w1 ⟨rfl, hb1⟩
  refine ⟨_, rfl, ?_⟩
  refine g_bld (build70 _ _ _ _ _ _) rfl (h := ?_)
  refine g_call he51 rfl (to_c 2 8 _) (h := ?_)
  rintro e w3 ⟨rfl, hb3⟩
  refine ⟨_, rfl, ?_⟩
  refine g_bld (build70 _ _ _ _ _ _) rfl (h := ?_)
  refine g_litsR k70 (xs := yardL) (inner := [.int .i64 50, .int .i64 60, .int .i64 20, .int .i64 5, .int .i64 10, .int .i64 40, .int .i64 60, .int .i64 30, .int .i64 2, .int .i64 8]) (okp := fun _ => True) (bs35_2 _ _ _ _ _ _ _ _ _ _ _) rfl rfl (by decide) (((Reps.none _ _).snoc (k70_mkM _ _ _ ⟨50, 60, 20, ⟨5, 10⟩⟩) rfl).snoc (k70_mkM _ _ _ ⟨40, 60, 30, ⟨2, 8⟩⟩) rfl) (h := fun g5 w5 HR5 hg5 => ?_)
  have hB3 : Bel w w3 := hb1.bel hb3
  refine As (Nl (Tn (Rt ?_)))
  exact ret1 rfl ⟨g5, rfl, Kd.R_lower HR5 hB3.size, hB3.grown hg5 (by intro q hq; cases hq)⟩
def bookL (last : Int) : List S76 := [⟨0, 1, ⟨10, 20⟩⟩, ⟨1, 2, ⟨5, 12⟩⟩, ⟨1, 0, ⟨2, 4⟩⟩, ⟨2, 0, ⟨0, last⟩⟩]
theorem build76a (w : World) (b d e : Int) : (Instr.build 76 #[(1, .int .i64 b), (2, .agg #[.int .i64 d, .int .i64 e])]).run Try.prog w = .ok (.agg #[.int .i64 0, .int .i64 b, .int .i64 d, .int .i64 e]) w := by kernel_rfl
theorem build76b (w : World) (a b d e : Int) : (Instr.build 76 #[(0, .int .i64 a), (1, .int .i64 b), (2, .agg #[.int .i64 d, .int .i64 e])]).run Try.prog w = .ok (.agg #[.int .i64 a, .int .i64 b, .int .i64 d, .int .i64 e]) w := by kernel_rfl
theorem build76c (w : World) (a d e : Int) : (Instr.build 76 #[(0, .int .i64 a), (2, .agg #[.int .i64 d, .int .i64 e])]).run Try.prog w = .ok (.agg #[.int .i64 a, .int .i64 0, .int .i64 d, .int .i64 e]) w := by kernel_rfl
theorem bs47_4 (w : World) (a b c d a' b' c' d' a2 b2 c2 d2 a3 b3 c3 d3 : Int) : (Instr.buildSlice 47 4 #[(0, .agg #[.int .i64 a, .int .i64 b, .int .i64 c, .int .i64 d]), (1, .agg #[.int .i64 a', .int .i64 b', .int .i64 c', .int .i64 d']), (2, .agg #[.int .i64 a2, .int .i64 b2, .int .i64 c2, .int .i64 d2]), (3, .agg #[.int .i64 a3, .int .i64 b3, .int .i64 c3, .int .i64 d3])]).run Try.prog w =
    .ok (.slice (some ⟨w.heap.size, 0, none⟩) 4 4) (w.alloc (.cells #[.int .i64 a, .int .i64 b, .int .i64 c, .int .i64 d, .int .i64 a', .int .i64 b', .int .i64 c', .int .i64 d', .int .i64 a2, .int .i64 b2, .int .i64 c2, .int .i64 d2, .int .i64 a3, .int .i64 b3, .int .i64 c3, .int .i64 d3] 76)) := by kernel_rfl
theorem build49 (w : World) (n : Int) (A : Option Addr) (m c : Nat) : (Instr.build 49 #[(0, .int .i64 n), (1, .slice A m c)]).run Try.prog w = .ok (.agg #[.int .i64 n, .slice A m c]) w := by kernel_rfl
/-- A row laid keeps where another block turns. -/
theorem R_put {α : Type} {d : Kd α} {e base : Nat} {w w' : World} {v : Value} {xs : List α} (h : d.R e w base (fun _ => True) v xs) {g : Nat} {o : Obj} (hp : Put w w' g o) (hg : g < base) : d.R e w' base (fun _ => True) v xs := by
  obtain ⟨h0, inner, hown, hr⟩ := h
  refine ⟨h0, inner, own_move hown (fun k hk => hp.ch.blk k (Kd.R_lt ⟨h0, inner, hown, hr⟩ k hk) (fun e => ?_)), hr.imp_ (fun p c hq => ?_)⟩
  · have := Kd.R_base ⟨h0, inner, hown, hr⟩ k hk; omega
  · have := d.M_move (w1 := w') (fun k hk => hp.ch.blk k hk.2.2.1 (fun e => by have := hk.2.1; omega)) (d.M_bound hq)
    exact d.M_mono (fun k hk => hk.1) this
theorem book_c (last : Int) (w : World) : Calls Try.prog 61 #[.int .i64 last] w fun e w' => ∃ g, e = .returned (.agg #[.int .i64 3, .slice (some ⟨g, 0, none⟩) 4 4]) ∧ k76.R 76 w' w.heap.size (fun _ => True) (.slice (some ⟨g, 0, none⟩) 4 4) (bookL last) ∧ Bel w w' := by
  refine G_enter (l := [.int .i64 last]) Try.func61 rfl rfl ?_
  refine Sq (Rg ?_)
  refine g_alloc (z := .agg #[.int .i64 0, .slice none 0 0]) (by kernel_rfl) (h := fun g2 w2 N2 => ?_)
  have K2 := N2.at_
  have hB2 := Bel.of_new N2
  refine Nl (Tn (Sq (Rg ?_)))
  refine g_call he51 rfl (to_c 10 20 _) (h := ?_)
  rintro e w3 ⟨rfl, hb3⟩
  refine ⟨_, rfl, ?_⟩
  refine g_bld (build76a _ _ _ _) rfl (h := ?_)
  refine g_call he51 rfl (to_c 5 12 _) (h := ?_)
  rintro e w5 ⟨rfl, hb5⟩
  refine ⟨_, rfl, ?_⟩
  refine g_bld (build76b _ _ _ _ _) rfl (h := ?_)
  refine g_call he51 rfl (to_c 2 4 _) (h := ?_)
  rintro e w7 ⟨rfl, hb7⟩
  refine ⟨_, rfl, ?_⟩
  refine g_bld (build76c _ _ _ _) rfl (h := ?_)
  refine Mv ?_
  refine g_call he51 rfl (to_c 0 last _) (h := ?_)
  rintro e w10 ⟨rfl, hb10⟩
  refine ⟨_, rfl, ?_⟩
  refine g_bld (build76c _ _ _ _) rfl (h := ?_)
  refine g_litsR k76 (xs := bookL last) (inner := [.int .i64 0, .int .i64 1, .int .i64 10, .int .i64 20, .int .i64 1, .int .i64 2, .int .i64 5, .int .i64 12, .int .i64 1, .int .i64 0, .int .i64 2, .int .i64 4, .int .i64 2, .int .i64 0, .int .i64 0, .int .i64 last]) (okp := fun _ => True) (bs47_4 _ _ _ _ _ _ _ _ _ _ _ _ _ _ _ _ _) rfl rfl (by decide) (((((Reps.none _ _).snoc (k76_mkM _ _ _ ⟨0, 1, ⟨10, 20⟩⟩) rfl).snoc (k76_mkM _ _ _ ⟨1, 2, ⟨5, 12⟩⟩) rfl).snoc (k76_mkM _ _ _ ⟨1, 0, ⟨2, 4⟩⟩) rfl).snoc (k76_mkM _ _ _ ⟨2, 0, ⟨0, last⟩⟩) rfl) (h := fun g12 w12 HR12 hg12 => ?_)
  have hB10 : Bel w2 w10 := ((hb3.bel hb5).bel hb7).bel hb10
  have hBt : Bel w w12 := (hB2.bel hB10).grown hg12 (by intro q hq; cases hq)
  have K2b := kG (kB K2 hB10) hg12 (by intro h; cases h)
  refine g_bld (build49 _ _ _ _ _) rfl (h := ?_)
  refine g_storeA rfl rfl info49 K2b rfl (by simp [Value.oneCell']) (h := fun w13 P13 => ?_)
  have hlt := Nat.lt_of_lt_of_le (blt K2) hB10.size
  refine Nl (Tn (Rt ?_))
  exact retcell rfl ⟨g2, 0, none⟩ rfl (loadVarA Try.underlying49 (l := [.int .i64 3, .slice (some ⟨g12, 0, none⟩) 4 4]) info49 (cellsAt P13.at_)) ⟨g12, rfl, Kd.R_lower (R_put HR12 P13 hlt) (hB2.bel hB10).size, hBt.put P13 N2.ge⟩
end Go.Proofs.B
