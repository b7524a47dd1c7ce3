/- barrel: Set. -/
import Derived.Test.YtpfoleggapngoaaB22
set_option linter.unusedVariables false
set_option linter.unusedSimpArgs false
set_option maxRecDepth 10000
namespace Go.Proofs.B
open Go Go.RowKit Go.Proofs Go.Proofs.G Go.Proofs.F Go.Proofs.YtpfoleggapngoaaW.PrintWords
def g0 : List Bool := List.replicate 10 false
theorem g0_get (k : Nat) : g0.getD k false = false := by
  show (allG 0).getD k false = false
  rw [allG_get 0 k (by omega)]; simp
/-- What Set answers. -/
def SetRes (ws : List Int) (girth play : Int) (e : Ending) (w' : World) : Prop :=
  (¬ PileOk ws girth play ∧ e = .returned (.tuple #[.slice none 0 0, .int .i64 60])) ∨
  (PileOk ws girth play ∧ Best ws.length (isBarrelL ws girth play) g0 [] ∧ e = .returned (.tuple #[.slice none 0 0, .int .i64 4])) ∨
  (PileOk ws girth play ∧ ∃ ls A', ls ≠ [] ∧ Best ws.length (isBarrelL ws girth play) g0 ls ∧ kRow.C w' A' ls.length ls ∧ e = .returned (.tuple #[.slice A' ls.length ls.length, .int .i64 0]))
theorem ret2i' (v : Value) {x y : Int} (h2 : x = y) : Ending.returned (.tuple #[v, .int .i64 x]) = .returned (.tuple #[v, .int .i64 y]) := by rw [h2]
set_option maxHeartbeats 2000000 in
theorem set_c (A : Option Addr) (c : Nat) (ws : List Int) (girth play : Int) (w : World) (hw : (Kd.int .i64).C w A ws.length ws) :
    Calls Try.prog 20 #[.agg #[.slice A ws.length c, .int .i64 girth, .int .i64 play]] w fun e w' => SetRes ws girth play e w' ∧ Bel w w' := by
  refine G_enter (l := [.agg #[.slice A ws.length c, .int .i64 girth, .int .i64 play]]) Try.func20 rfl rfl ?_
  refine Sq (Rg ?_)
  refine g_box rfl (h := fun g1 w1 N1 => ?_)
  have K1 := N1.at_
  have hB1 := Bel.of_new N1
  have K1a : w1.heap[g1]? = some (.cells #[.slice A ws.length c, .int .i64 girth, .int .i64 play] 24 (0, 0)) := K1
  refine As (As (Nl (Tn (Sq (Sq (Rg ?_))))))
  refine g_loadA rfl Try.underlying24 info24 (l := [.slice A ws.length c, .int .i64 girth, .int .i64 play]) (cellsAt K1a) (h := ?_)
  refine g_call he18 rfl (checkPile_c A c ws girth play _ (Kd.C_below hw hB1)) (h := ?_)
  rintro e w10 ⟨rfl, hb10⟩
  refine ⟨_, rfl, ?_⟩
  have hB10 := hB1.bel hb10
  have K1b := kB K1a hb10
  refine As (Nl (Tn (Sq (Rg (Mv ?_)))))
  have hp : checkPile ws girth play = if PileOk ws girth play then 0 else 60 := rfl
  refine g_neq rfl rfl (h1 := fun c12 => ?_) (h2 := fun c12 => ?_)
  · skip
    refine Nl (Tn (Ct rfl (Sq (Rg (Mv (As (As (Nl (Tn (Rt (Tr ?_)))))))))))
    have hn : ¬ PileOk ws girth play := fun h => by rw [if_pos h] at hp; exact c12 hp
    rw [if_neg hn] at hp
    exact ret2 rfl ⟨.inl ⟨hn, ret2i' _ hp⟩, hB10⟩
  · skip
    have hok : PileOk ws girth play := by by_cases h : PileOk ws girth play; exact h; rw [if_neg h] at hp; rw [hp] at c12; exact absurd c12 (by decide)
    have hok' := hok
    obtain ⟨⟨hn1, hn2⟩, hg, hpl, hwide⟩ := hok'
    have hws : ∀ x ∈ ws, 0 ≤ x ∧ x ≤ 1000 := fun x hx => by have := List.all_eq_true.1 hwide x hx; simp [wideB] at this; omega
    refine Nl (Tn (Cf rfl (Sk (Tn (Sq (Rg ?_))))))
    refine g_loadA rfl Try.underlying24 info24 (l := [.slice A ws.length c, .int .i64 girth, .int .i64 play]) (cellsAt K1b) (h := ?_)
    refine g_bld (build101 _ _ _ _) rfl (h := ?_)
    refine g_alloc (z := .agg #[.slice none 0 0, .int .i64 0, .int .i64 0]) (by kernel_rfl) (h := fun g5 w5 N5 => ?_)
    have K5 := N5.at_
    refine g_storeA rfl rfl info101 K5 rfl (by simp [Value.oneCell']) (h := fun w5s P5 => ?_)
    have K5a : w5s.heap[g5]? = some (.cells #[.slice A ws.length c, .int .i64 girth, .int .i64 play] 101 (0, 0)) := P5.at_
    have hB5 := (hB10.new N5).put P5 (Nat.le_trans hB10.size N5.ge)
    refine Nl (Tn (Sq (Rg ?_)))
    refine g_makeMap (h := fun gM w16 N16 => ?_)
    have K5b := kN K5a N16
    have hB16 := hB5.new N16
    refine g_alloc (z := .map none) (by kernel_rfl) (h := fun g6 w6 N6 => ?_)
    have K6 := N6.at_
    have K6a : w6.heap[g6]? = some (.cells #[.map none] 106 (0, 0)) := K6
    refine g_store1 rfl rfl info106 K6a (by decide) (h := fun w6s P7 => ?_)
    have hB7 := (hB16.new N6).put P7 (Nat.le_trans hB16.size N6.ge)
    have K5c := kP (kN K5b N6) P7 (N6.ne K5b)
    have K6b : w6s.heap[g6]? = some (.cells #[.map (some gM)] 106 (0, 0)) := P7.at_
    have KM7 := kP (kN N16.at_ N6) P7 (N6.ne N16.at_)
    refine Nl (Tn (Sq (Rg ?_)))
    refine g_alloc (z := .nilFunc) (by kernel_rfl) (h := fun g7 w7 N7 => ?_)
    have K7 := N7.at_
    have K7a : w7.heap[g7]? = some (.cells #[.nilFunc] 107 (0, 0)) := K7
    refine Nl (Tn (Sq (Rg (Mf ?_))))
    refine g_store1 rfl rfl info107 K7a (by decide) (h := fun w8 P8 => ?_)
    have hB8 := (hB7.new N7).put P8 (Nat.le_trans hB7.size N7.ge)
    have hse : SE A c ws.length girth play g6 g5 g7 gM w8 := ⟨kP (kN K6b N7) P8 (N7.ne K6b), kP (kN K5c N7) P8 (N7.ne K5c), P8.at_⟩
    have KM8 := kP (kN KM7 N7) P8 (N7.ne KM7)
    have hgMw : w.heap.size ≤ gM := Nat.le_trans hB5.size N16.ge
    refine Nl (Tn (Sq (Rg (L1 Try.underlying107 (cellAt hse.KSf rfl) rfl ?_))))
    refine g_bld (build99 _) rfl (h := ?_)
    refine g_callv he68 rfl rfl (setOn_c A c ws girth play hws (by omega) (by omega) (by omega) g6 g5 g7 gM (left ws.length g0 + 1) g0 w8 (Nat.lt_succ_self _) rfl (fun k _ => g0_get k) hse ⟨_, _, KM8, fun x hx => by simp at hx⟩ (Kd.C_below hw hB8)) (h := ?_)
    rintro e w20 ⟨v20, ls, rfl, hL20, hbest, hch20, _⟩
    refine ⟨_, rfl, ?_⟩
    have hB20 : Bel w w20 := hch20.step hB8 hB8.size (fun i hi h => by omega)
    obtain ⟨A20, c20, rfl, hle20, hC20⟩ := hL20.C
    refine As (Nl (Tn (Sq (Sq (Rg (Mv (Ln Try.underlying25 rfl ?_)))))))
    refine g_eql rfl rfl (h1 := fun c23 => ?_) (h2 := fun c23 => ?_)
    · skip
      refine Nl (Tn (Ct rfl (Sq (Rg (As (As (Nl (Tn (Rt (Tr ?_))))))))))
      have hl0 : ls = [] := List.length_eq_zero_iff.1 (by omega)
      subst hl0
      exact ret2 rfl ⟨.inr (.inl ⟨hok, hbest, rfl⟩), hB20⟩
    · skip
      refine Nl (Tn (Cf rfl (Sk (Tn (Sq (Rg (Mv (Mv (Ln Try.underlying25 rfl (Mv (Ln Try.underlying25 rfl ?_)))))))))))
      refine g_v (r_slice3 Try.underlying25 inf22 rfl rfl rfl rfl rfl (Nat.le_refl _) hle20) (h := ?_)
      refine As (As (Nl (Tn (Rt ?_))))
      exact ret2 rfl ⟨.inr (.inr ⟨hok, ls, A20, fun h => by subst h; exact c23 rfl, hbest, hC20, rfl⟩), hB20⟩
end Go.Proofs.B
