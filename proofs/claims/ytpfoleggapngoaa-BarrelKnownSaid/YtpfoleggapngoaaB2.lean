/- barrel: sum, isBarrel, AreBarrels. -/
import Derived.Test.YtpfoleggapngoaaG9
import Derived.Test.YtpfoleggapngoaaB1
set_option linter.unusedVariables false
set_option linter.unusedSimpArgs false
set_option maxRecDepth 10000
namespace Go.Proofs.B
open Go Go.RowKit Go.Proofs Go.Proofs.G Go.Proofs.F Go.Proofs.YtpfoleggapngoaaW.PrintWords

theorem rd_nat (xs : List Int) (k : Nat) (h : k < xs.length) : rd xs k = xs[k] := by simp [rd, List.getD_eq_getElem?_getD, h]
theorem rd_mem {xs : List Int} {i : Int} (h0 : 0 ≤ i) (h1 : i < xs.length) : rd xs i ∈ xs := by
  obtain ⟨k, rfl⟩ := Int.eq_ofNat_of_zero_le h0
  rw [rd_nat xs k (by omega)]
  exact List.getElem_mem _
theorem sum_take (xs : List Int) (k : Nat) (h : k < xs.length) : (xs.take (k + 1)).sum = (xs.take k).sum + rd xs k := by
  rw [List.take_succ_eq_append_getElem h, List.sum_append, rd_nat xs k h]; simp
theorem sum_bound (xs : List Int) (b : Int) (h : ∀ x ∈ xs, 0 ≤ x ∧ x ≤ b) : 0 ≤ xs.sum ∧ xs.sum ≤ b * xs.length := by
  induction xs with
  | nil => simp
  | cons x xs ih =>
    have h1 := h x (by simp)
    have h2 := ih (fun y hy => h y (by simp [hy]))
    simp only [List.sum_cons, List.length_cons, Int.natCast_add, Int.mul_add]
    omega
theorem bs22 (w : World) (v : Value) (hv : v.oneCell' = true) : (Instr.buildSlice 22 1 #[(0, v)]).run Try.prog w = .ok (.slice (some ⟨w.heap.size, 0, none⟩) 1 1) (w.alloc (.cells #[v] 3)) := by
  obtain ⟨i, hi, h2⟩ := Option.map_eq_some_iff.1 zi3
  simp only [Prod.mk.injEq] at h2
  exact run_buildSlice1 Try.underlying22 hi h2.1 h2.2.1 rfl hv

theorem sum_c (A : Option Addr) (c : Nat) (xs : List Int) (w : World) (hr : (Kd.int .i64).C w A xs.length xs) (hb : ∀ x ∈ xs, 0 ≤ x ∧ x ≤ 1000) (hl : xs.length ≤ 1000000) :
    Calls Try.prog 90 #[.slice A xs.length c] w fun e w' => e = .returned (.int .i64 xs.sum) ∧ w' = w := by
  have hsum : ∀ k, k ≤ xs.length → 0 ≤ (xs.take k).sum ∧ (xs.take k).sum ≤ 1000 * 1000000 := fun k hk => by
    have := sum_bound (xs.take k) 1000 (fun x hx => hb x (List.mem_of_mem_take hx))
    have h2 : (xs.take k).length ≤ 1000000 := by simp; omega
    omega
  refine G_enter (l := [.slice A xs.length c]) Try.func90 rfl rfl ?_
  refine Sq (Rg (As (Nl (Tn (Sq (Sq (Rg (Mv (Ln Try.underlying22 rfl (Mv (Nl (Tn (Bk ?_)))))))))))))
  refine GC_loop (fun m σ w' => ∃ (k : Nat) (τ : Nat → Value), σ = upd (upd (upd (upd τ 2 (.int .i64 (xs.take k).sum)) 5 (.slice A xs.length c)) 6 (.int .i64 xs.length)) 7 (.int .i64 k) ∧ k ≤ xs.length ∧ m = xs.length - k ∧ w' = w) (xs.length) ⟨0, _, has rfl (has rfl (has rfl (has rfl rfl))), Nat.zero_le _, rfl, rfl⟩ ?_
  rintro m _ w1 ⟨k, τ, rfl, hk, rfl, rfl⟩
  refine Sq (Rg ?_)
  refine g_lss rfl rfl (h1 := fun c8 => ?_) (h2 := fun c8 => ?_)
  · skip
    refine Nl (Tn (Sq (Ct rfl (Sk (Tn (Sq (Bk (Sq (Rg ?_)))))))))
    have hkl : k < xs.length := by omega
    obtain ⟨ad, rfl, h10⟩ := Kd.at_int hr k (by omega) (by omega)
    have hs := sum_take xs k hkl
    have h1 := hsum k hk
    have h2 := hsum (k + 1) hkl
    refine g_indexS Try.underlying22 info3 rfl rfl (by omega) (by omega) (Nat.mul_one _) (h := ?_)
    refine L1 Try.underlying3 (h10) rfl (As (Nl (Tn (Rg (Mv (Mv ?_))))))
    refine g_add rfl rfl (by omega) (h := ?_)
    refine As (Nl (Bn (Tn (Rg ?_))))
    refine g_add rfl rfl (by omega) (h := ?_)
    refine Mv (Nl ?_)
    exact round_end (xs.length - (k + 1)) (by omega) ⟨k + 1, _, by rw [hs]; exact has rfl (has rfl (has rfl (has rfl rfl))), hkl, rfl, rfl⟩
  · skip
    refine Nl (Tn (Sq (Cf rfl (Xi (Tx (Tx (Bs (Tn (Sq (Rg (Mv (As (Nl (Tn (Rt ?_)))))))))))))))
    have : k = xs.length := by omega
    subst this
    exact ret1 rfl ⟨reti (by rw [List.take_length]), rfl⟩

def isBarrelL (ws : List Int) (girth play : Int) (st : List Int) : Bool := decide (0 < st.length) && decide (girth - play ≤ (st.map (rd ws)).sum ∧ (st.map (rd ws)).sum ≤ girth)

theorem isBarrel_c (A B : Option Addr) (c d : Nat) (ws st : List Int) (girth play : Int) (w : World) (hw : (Kd.int .i64).C w A ws.length ws) (hs : (Kd.int .i64).C w B st.length st) (hb : ∀ x ∈ ws, 0 ≤ x ∧ x ≤ 1000) (hl : st.length ≤ 100000)
    (hst : ∀ k ∈ st, 0 ≤ k ∧ k < ws.length) (hg : 0 ≤ girth ∧ girth ≤ 100000) (hp : 0 ≤ play ∧ play ≤ 100000) :
    Calls Try.prog 63 #[.agg #[.slice A ws.length c, .int .i64 girth, .int .i64 play], .slice B st.length d] w fun e w' => e = .returned (.bool (isBarrelL ws girth play st)) ∧ Bel w w' := by
  refine G_enter (l := [.agg #[.slice A ws.length c, .int .i64 girth, .int .i64 play], .slice B st.length d]) Try.func63 rfl rfl ?_
  refine Sq (Rg ?_)
  refine g_box rfl (h := fun g2 w2 N2 => ?_)
  have K2 := N2.at_
  have hB2 := Bel.of_new N2
  refine As (Nl (Tn (Sq (Rg (As (Nl (Tn (Sq (Sq (Rg (Mv (Ln Try.underlying22 rfl (Mv (Nl (Tn (Bk ?_))))))))))))))))
  refine GC_loop (fun m σ w' => ∃ (k : Nat) (v : Value) (τ : Nat → Value), σ = upd (upd (upd (upd (upd τ 2 (.pointer (some ⟨g2, 0, none⟩))) 5 v) 8 (.slice B st.length d)) 9 (.int .i64 st.length)) 10 (.int .i64 k) ∧ k ≤ st.length ∧ m = st.length - k ∧ (Kd.int .i64).R 3 w' w.heap.size (fun _ => True) v ((st.take k).map (rd ws)) ∧ w'.heap[g2]? = some (.cells #[.slice A ws.length c, .int .i64 girth, .int .i64 play] 101) ∧ Bel w w') (st.length) ⟨0, _, _, has rfl (has rfl (has rfl (has rfl (has rfl rfl)))), Nat.zero_le _, rfl, Kd.R_nil _ _ _ _ _, K2, hB2⟩ ?_
  rintro m _ w1 ⟨k, v, τ, rfl, hk, rfl, HR, K, hB⟩
  refine Sq (Rg ?_)
  refine g_lss rfl rfl (h1 := fun c11 => ?_) (h2 := fun c11 => ?_)
  · skip
    refine Nl (Tn (Sq (Ct rfl (Sk (Tn (Sq (Bk (Sq (Rg ?_)))))))))
    have hkl : k < st.length := by omega
    obtain ⟨ad, rfl, h13⟩ := Kd.at_int (Kd.C_below hs hB) k (by omega) (by omega)
    refine g_indexS Try.underlying22 info3 rfl rfl (by omega) (by omega) (Nat.mul_one _) (h := ?_)
    refine L1 Try.underlying3 (h13) rfl (As (Nl (Tn (Rg (Mv ?_)))))
    have hkk := hst _ (rd_mem (xs := st) (i := k) (by omega) (by omega))
    obtain ⟨ad2, rfl, h20⟩ := Kd.at_int (Kd.C_below hw hB) (rd st k) (by omega) (by omega)
    refine Fb f101_0 rfl (Fb f24_0 rfl (L1 Try.underlying22 (cellAt K rfl) rfl (Mv ?_)))
    refine g_indexS Try.underlying22 info3 rfl rfl (by omega) (by omega) (Nat.mul_one _) (h := ?_)
    refine L1 Try.underlying3 (h20) rfl ?_
    refine g_lit1 bs22 rfl rfl (h := fun g21 w21 N21 => ?_)
    have HR1 := rN HR N21
    have hlen : ((st.take k).map (rd ws)).length = k := by simp; omega
    refine g_appendR (Kd.int .i64) Try.underlying22 zi3 rfl (by decide) HR1 N21.at_ (p := rd ws (rd st k)) (okp := fun _ => False) rfl (fun _ h => h.elim) (fun _ _ => trivial) (Nat.le_trans hB.size N21.ch.size) (by omega) (by simp [maxLen]; omega) rfl rfl (h := fun v' w22 HR' hg22 hv22 => ?_)
    have hB22 := (hB.new N21).grown hg22 (Kd.R_base HR1)
    have K22 := kG (kN K N21) hg22 (ne_own HR1 (kN K N21) (by decide))
    refine As (Nl (Bn (Tn (Rg ?_))))
    refine g_add rfl rfl (by omega) (h := ?_)
    refine Mv (Nl ?_)
    exact round_end (st.length - (k + 1)) (by omega) ⟨k + 1, _, _, has rfl (has rfl (has rfl (has rfl (has rfl rfl)))), hkl, rfl, by rw [take_snoc' st k hkl, List.map_append]; rw [rd_nat st k hkl] at HR'; exact HR', K22, hB22⟩
  · skip
    refine Nl (Tn (Sq (Cf rfl (Xi (Tx (Tx (Bs (Tn (Sq ?_)))))))))
    have hkl : k = st.length := by omega
    subst hkl
    rw [List.take_length] at HR
    have hL : ((st.map (rd ws)).length : Int) = st.length := by simp
    have hmem : ∀ x ∈ st.map (rd ws), 0 ≤ x ∧ x ≤ 1000 := fun x hx => by
      obtain ⟨y, hy, rfl⟩ := List.mem_map.1 hx
      exact hb _ (rd_mem (hst y hy).1 (hst y hy).2)
    obtain ⟨A5, c5, rfl, _, hC5⟩ := Kd.R_reads HR
    refine GD_start 19 [] (fun w' => w' = w1.drewN 1) (by kernel_rfl) rfl ?_
    refine GD_pure 0 rfl (by kernel_rfl) (by kernel_rfl) (by kernel_rfl) (by kernel_rfl) rfl rfl rfl (qv fun wq hC => by exact r_move) ?_
    refine GD_pure 1 rfl (by kernel_rfl) (by kernel_rfl) (by kernel_rfl) (by kernel_rfl) rfl rfl rfl (qv fun wq hC => by exact r_len Try.underlying22 rfl) ?_
    rcases Decidable.em ((0 : Int) < ((st.map (rd ws)).length : Nat)) with c26 | c26
    · skip
      refine GD_pure 2 rfl (by kernel_rfl) (by kernel_rfl) (by kernel_rfl) (by kernel_rfl) rfl rfl rfl (qv fun wq hC => by exact r_gtrT rfl rfl c26) ?_
      refine GD_pure 3 rfl (by kernel_rfl) (by kernel_rfl) (by kernel_rfl) (by kernel_rfl) rfl rfl rfl (qv fun wq hC => by exact r_move) ?_
      refine GD_pure 4 rfl (by kernel_rfl) (by kernel_rfl) (by kernel_rfl) (by kernel_rfl) rfl rfl rfl (qv fun wq hC => by exact r_move) ?_
      refine GD_take 5 rfl (by kernel_rfl) (by kernel_rfl) (by kernel_rfl) (by kernel_rfl) rfl rfl rfl (qc (fun wq hC => by exact r_call he90 rfl) (fun wq hC => by exact (by subst hC; exact sum_c A5 c5 (st.map (rd ws)) _ hC5 hmem (by simp; omega)))) ?_
      refine GD_pure 6 rfl (by kernel_rfl) (by kernel_rfl) (by kernel_rfl) (by kernel_rfl) rfl rfl rfl (qv fun wq hC => by exact r_fieldAddrB f101_0 rfl) ?_
      refine GD_pure 7 rfl (by kernel_rfl) (by kernel_rfl) (by kernel_rfl) (by kernel_rfl) rfl rfl rfl (qv fun wq hC => by exact r_fieldAddrB f24_1 rfl) ?_
      refine GD_take 8 rfl (by kernel_rfl) (by kernel_rfl) (by kernel_rfl) (by kernel_rfl) rfl rfl rfl (qv fun wq hC => by exact r_load1 rfl Try.underlying3 (by subst hC; exact cellAt K rfl)) ?_
      refine GD_pure 9 rfl (by kernel_rfl) (by kernel_rfl) (by kernel_rfl) (by kernel_rfl) rfl rfl rfl (qv fun wq hC => by exact r_fieldAddrB f101_0 rfl) ?_
      refine GD_pure 10 rfl (by kernel_rfl) (by kernel_rfl) (by kernel_rfl) (by kernel_rfl) rfl rfl rfl (qv fun wq hC => by exact r_fieldAddrB f24_2 rfl) ?_
      refine GD_take 11 rfl (by kernel_rfl) (by kernel_rfl) (by kernel_rfl) (by kernel_rfl) rfl rfl rfl (qv fun wq hC => by exact r_load1 rfl Try.underlying3 (by subst hC; exact cellAt K rfl)) ?_
      refine GD_pure 12 rfl (by kernel_rfl) (by kernel_rfl) (by kernel_rfl) (by kernel_rfl) rfl rfl rfl (qv fun wq hC => by exact r_sub rfl rfl (by omega)) ?_
      refine GD_pure 13 rfl (by kernel_rfl) (by kernel_rfl) (by kernel_rfl) (by kernel_rfl) rfl rfl rfl (qv fun wq hC => by exact r_fieldAddrB f101_0 rfl) ?_
      refine GD_pure 14 rfl (by kernel_rfl) (by kernel_rfl) (by kernel_rfl) (by kernel_rfl) rfl rfl rfl (qv fun wq hC => by exact r_fieldAddrB f24_1 rfl) ?_
      refine GD_take 15 rfl (by kernel_rfl) (by kernel_rfl) (by kernel_rfl) (by kernel_rfl) rfl rfl rfl (qv fun wq hC => by exact r_load1 rfl Try.underlying3 (by subst hC; exact cellAt K rfl)) ?_
      refine GD_take 16 rfl (by kernel_rfl) (by kernel_rfl) (by kernel_rfl) (by kernel_rfl) rfl rfl rfl (qc (fun wq hC => by exact r_call he62 rfl) (fun wq hC => by exact within_c _ _ _ _)) ?_
      refine GD_pure 17 rfl (by kernel_rfl) (by kernel_rfl) (by kernel_rfl) (by kernel_rfl) rfl rfl rfl (qv fun wq hC => by exact r_pickT rfl) ?_
      refine GD_pure 18 rfl (by kernel_rfl) (by kernel_rfl) (by kernel_rfl) (by kernel_rfl) rfl rfl rfl (qv fun wq hC => by exact r_assign) ?_
      refine GD_end (by kernel_rfl) (fun _ => rfl) ?_
      refine Tn (Rt ?_)
      exact ret1 rfl ⟨retb (by rw [hL] at c26; simp [isBarrelL]; intro _ _; omega), hB.drew⟩
    · skip
      refine GD_pure 2 rfl (by kernel_rfl) (by kernel_rfl) (by kernel_rfl) (by kernel_rfl) rfl rfl rfl (qv fun wq hC => by exact r_gtrF rfl rfl c26) ?_
      refine GD_pure 3 rfl (by kernel_rfl) (by kernel_rfl) (by kernel_rfl) (by kernel_rfl) rfl rfl rfl (qv fun wq hC => by exact r_move) ?_
      refine GD_off 4 rfl (by kernel_rfl) (by kernel_rfl) (by kernel_rfl) (by kernel_rfl) rfl rfl ?_
      refine GD_off 5 rfl (by kernel_rfl) (by kernel_rfl) (by kernel_rfl) (by kernel_rfl) rfl rfl ?_
      refine GD_off 6 rfl (by kernel_rfl) (by kernel_rfl) (by kernel_rfl) (by kernel_rfl) rfl rfl ?_
      refine GD_off 7 rfl (by kernel_rfl) (by kernel_rfl) (by kernel_rfl) (by kernel_rfl) rfl rfl ?_
      refine GD_off 8 rfl (by kernel_rfl) (by kernel_rfl) (by kernel_rfl) (by kernel_rfl) rfl rfl ?_
      refine GD_off 9 rfl (by kernel_rfl) (by kernel_rfl) (by kernel_rfl) (by kernel_rfl) rfl rfl ?_
      refine GD_off 10 rfl (by kernel_rfl) (by kernel_rfl) (by kernel_rfl) (by kernel_rfl) rfl rfl ?_
      refine GD_off 11 rfl (by kernel_rfl) (by kernel_rfl) (by kernel_rfl) (by kernel_rfl) rfl rfl ?_
      refine GD_off 12 rfl (by kernel_rfl) (by kernel_rfl) (by kernel_rfl) (by kernel_rfl) rfl rfl ?_
      refine GD_off 13 rfl (by kernel_rfl) (by kernel_rfl) (by kernel_rfl) (by kernel_rfl) rfl rfl ?_
      refine GD_off 14 rfl (by kernel_rfl) (by kernel_rfl) (by kernel_rfl) (by kernel_rfl) rfl rfl ?_
      refine GD_off 15 rfl (by kernel_rfl) (by kernel_rfl) (by kernel_rfl) (by kernel_rfl) rfl rfl ?_
      refine GD_off 16 rfl (by kernel_rfl) (by kernel_rfl) (by kernel_rfl) (by kernel_rfl) rfl rfl ?_
      refine GD_pure 17 rfl (by kernel_rfl) (by kernel_rfl) (by kernel_rfl) (by kernel_rfl) rfl rfl rfl (qv fun wq hC => by exact r_pickF rfl) ?_
      refine GD_pure 18 rfl (by kernel_rfl) (by kernel_rfl) (by kernel_rfl) (by kernel_rfl) rfl rfl rfl (qv fun wq hC => by exact r_assign) ?_
      refine GD_end (by kernel_rfl) (fun _ => rfl) ?_
      refine Tn (Rt ?_)
      exact ret1 rfl ⟨retb (by rw [hL] at c26; simp [isBarrelL]; omega), hB.drew⟩

/-! ### AreBarrels -/
def stavesGo (n : Nat) : List Int → Int → List Bool → Option (List Bool)
  | [], _, g => some g
  | k :: ks, last, g => if (last + 1 ≤ k ∧ k ≤ (n : Int) - 1) ∧ g.getD k.toNat false = false then stavesGo n ks k (g.set k.toNat true) else none
def areGo (n : Nat) (isB : List Int → Bool) : List (List Int) → List Bool → Bool
  | [], _ => true
  | s :: ss, g => match stavesGo n s (-1) g with
    | none => false
    | some g' => if isB s then areGo n isB ss g' else false
def areBarrels (ws : List Int) (girth play : Int) (l : List (List Int)) : Bool := areGo ws.length (isBarrelL ws girth play) l (List.replicate 10 false)
theorem stavesGo_len (n : Nat) : ∀ (s : List Int) (last : Int) (g g' : List Bool), stavesGo n s last g = some g' → g'.length = g.length
  | [], last, g, g', h => by simp [stavesGo] at h; rw [h]
  | k :: ks, last, g, g', h => by
    unfold stavesGo at h
    split at h
    · have := stavesGo_len n ks k _ g' h; simpa using this
    · cases h
/-- Staves that rise: each within, and not many. -/
theorem stavesGo_in (n : Nat) : ∀ (s : List Int) (last : Int) (g g' : List Bool), -1 ≤ last → stavesGo n s last g = some g' → (∀ k ∈ s, last < k ∧ k < n) ∧ (s.length : Int) ≤ max 0 (n - 1 - last)
  | [], last, g, g', hl, h => by simp; omega
  | k :: ks, last, g, g', hl, h => by
    unfold stavesGo at h
    split at h
    · rename_i hc
      obtain ⟨h1, h2⟩ := stavesGo_in n ks k _ g' (by omega) h
      refine ⟨fun x hx => ?_, ?_⟩
      · rcases List.mem_cons.1 hx with rfl | hx
        · omega
        · have := h1 x hx; omega
      · simp only [List.length_cons]; omega
    · cases h
theorem bad2 {a b : Bool} {c d : Int} (h : a = b) (h2 : c = d) : Ending.returned (.tuple #[.bool a, .int .i64 c]) = .returned (.tuple #[.bool b, .int .i64 d]) := by rw [h, h2]
def bs (g : List Bool) : Array Value := (g.map Value.bool).toArray
theorem bs_set (g : List Bool) (k : Nat) (b : Bool) : (bs g).setIfInBounds k (.bool b) = bs (g.set k b) := by simp [bs]
theorem bs_get {g : List Bool} {k : Nat} (h : k < g.length) : (bs g)[k]? = some (.bool (g.getD k false)) := by simp [bs, h, List.getD_eq_getElem?_getD]
theorem bs_size (g : List Bool) : (bs g).size = g.length := by simp [bs]
abbrev kRow : Kd (List Int) := Kd.slice 3 (Kd.int .i64)
theorem rdL_mem {xs : List (List Int)} {k : Nat} (h : k < xs.length) : rd_L1 xs k = xs[k] := by simp [rd_L1, List.getD_eq_getElem?_getD, h]
theorem build101 (w : World) (a b c : Value) : (Instr.build 101 #[(0, .agg #[a, b, c])]).run Try.prog w = .ok (.agg #[a, b, c]) w := by kernel_rfl
theorem areBarrels_c (A B : Option Addr) (c d : Nat) (ws : List Int) (girth play : Int) (l : List (List Int)) (w : World) (hw : (Kd.int .i64).C w A ws.length ws) (hs : kRow.C w B l.length l) :
    Calls Try.prog 16 #[.agg #[.slice A ws.length c, .int .i64 girth, .int .i64 play], .slice B l.length d] w fun e w' => e = .returned (.tuple (if PileOk ws girth play then #[.bool (areBarrels ws girth play l), .int .i64 0] else #[.bool false, .int .i64 60])) ∧ Bel w w' := by
  refine G_enter (l := [.agg #[.slice A ws.length c, .int .i64 girth, .int .i64 play], .slice B l.length d]) Try.func16 rfl rfl ?_
  refine Sq (Rg ?_)
  refine g_box rfl (h := fun g2 w2 N2 => ?_)
  have K2 := N2.at_
  have hB2 := Bel.of_new N2
  refine As (As (Nl (Tn (Sq (Sq (Rg ?_))))))
  refine g_loadA rfl Try.underlying24 info24 (l := [.slice A ws.length c, .int .i64 girth, .int .i64 play]) (cellsAt K2) (h := ?_)
  refine g_call he18 rfl (checkPile_c A c ws girth play _ (Kd.C_below hw hB2)) (h := ?_)
  rintro e w14 ⟨rfl, hb14⟩
  refine ⟨_, rfl, ?_⟩
  have hB14 := hB2.bel hb14
  refine As (Nl (Tn (Sq (Rg (Mv ?_)))))
  have hp : checkPile ws girth play = if PileOk ws girth play then 0 else 60 := rfl
  refine g_neq rfl rfl (h1 := fun c16 => ?_) (h2 := fun c16 => ?_)
  · skip
    refine Nl (Tn (Ct rfl (Sq (Rg (Mv (As (As (Nl (Tn (Rt (Tr ?_)))))))))))
    have hn : ¬ PileOk ws girth play := fun h => by rw [if_pos h] at hp; exact c16 hp
    rw [if_neg hn] at hp ⊢
    exact ret2 rfl ⟨bad2 rfl hp, hB14⟩
  · skip
    refine Nl (Tn (Cf rfl (Sk (Tn (Sq (Rg ?_))))))
    have hok : PileOk ws girth play := by by_cases h : PileOk ws girth play; exact h; rw [if_neg h] at hp; rw [hp] at c16; exact absurd c16 (by decide)
    rw [if_pos hok]
    obtain ⟨⟨hn1, hn2⟩, hg, hpl, hwide⟩ := hok
    have hws : ∀ x ∈ ws, 0 ≤ x ∧ x ≤ 1000 := fun x hx => by have := List.all_eq_true.1 hwide x hx; simp [wideB] at this; omega
    refine g_alloc (z := .agg (bs (List.replicate 10 false))) (by kernel_rfl) (h := fun g7 w7 N7 => ?_)
    have K7 := N7.at_
    have hB7 := hB14.new N7
    have K2' := kN (kB K2 hb14) N7
    refine Nl (Tn (Sq (Sq (Rg (Mv (Ln Try.underlying25 rfl (Mv (Nl (Tn (Bk ?_))))))))))
    refine GC_loop (fun m σ w' => ∃ (k : Nat) (g : List Bool) (τ : Nat → Value), σ = upd (upd (upd (upd (upd τ 2 (.pointer (some ⟨g2, 0, none⟩))) 7 (.pointer (some ⟨g7, 0, none⟩))) 18 (.slice B l.length d)) 19 (.int .i64 l.length)) 20 (.int .i64 k) ∧ k ≤ l.length ∧ m = l.length - k ∧ g.length = 10 ∧ w'.heap[g7]? = some (.cells (bs g) 99 (0, 0)) ∧ w'.heap[g2]? = some (.cells #[.slice A ws.length c, .int .i64 girth, .int .i64 play] 24) ∧ Bel w w' ∧ areGo ws.length (isBarrelL ws girth play) (l.drop k) g = areBarrels ws girth play l) (l.length) ⟨0, _, _, has rfl (has rfl (has rfl (has rfl (has rfl rfl)))), Nat.zero_le _, rfl, rfl, K7, K2', hB7, rfl⟩ ?_
    rintro m _ w1 ⟨k, g, τ, rfl, hk, rfl, hgl, K7a, K2a, hB, hgo⟩
    refine Sq (Rg ?_)
    refine g_lss rfl rfl (h1 := fun c21 => ?_) (h2 := fun c21 => ?_)
    · skip
      refine Nl (Tn (Sq (Ct rfl (Sk (Tn (Sq (Bk (Sq (Rg ?_)))))))))
      have hkl : k < l.length := by omega
      obtain ⟨ad, A1, c1, rfl, h23, hle, hC1⟩ := at_L1 hs k (by omega) (by omega)
      have hdr : l.drop k = rd_L1 l k :: l.drop (k + 1) := by rw [rdL_mem hkl]; exact List.drop_eq_getElem_cons hkl
      generalize rd_L1 l k = st at *
      rw [hdr, areGo] at hgo
      have hl1 : st.length ≤ 9223372036854775807 := hC1.2.1
      have hl0 : l.length ≤ 9223372036854775807 := hs.2.1
      refine g_indexS Try.underlying25 info22 rfl rfl (by omega) (by omega) (Nat.mul_one _) (h := ?_)
      refine L1 Try.underlying22 (hB.cellk h23) rfl (As (Nl (Tn (Sq (Rg (As (Nl (Tn (Sq (Sq (Rg (Mv (Ln Try.underlying22 rfl (Mv (Nl (Tn (Bk ?_)))))))))))))))))
      refine GC_loop (fun m σ w' => ∃ (j : Nat) (last : Int) (g' : List Bool) (τ' : Nat → Value), σ = upd (upd (upd (upd (upd (upd (upd (upd (upd (upd τ' 2 (.pointer (some ⟨g2, 0, none⟩))) 7 (.pointer (some ⟨g7, 0, none⟩))) 18 (.slice (some ad) l.length d)) 19 (.int .i64 l.length)) 20 (.int .i64 k)) 9 (.slice A1 st.length c1)) 10 (.int .i64 last)) 24 (.slice A1 st.length c1)) 25 (.int .i64 st.length)) 26 (.int .i64 j) ∧ j ≤ st.length ∧ m = st.length - j ∧ g'.length = 10 ∧ -1 ≤ last ∧ last ≤ 10 ∧ w'.heap[g7]? = some (.cells (bs g') 99 (0, 0)) ∧ w'.heap[g2]? = some (.cells #[.slice A ws.length c, .int .i64 girth, .int .i64 play] 24) ∧ Bel w w' ∧ stavesGo ws.length (st.drop j) last g' = stavesGo ws.length st (-1) g) (st.length) ⟨0, _, _, _, has rfl (has rfl (has rfl (has rfl (has rfl (has rfl (has rfl (has rfl (has rfl (has rfl rfl))))))))), Nat.zero_le _, rfl, hgl, by decide, by decide, K7a, K2a, hB, rfl⟩ ?_
      rintro m _ w3 ⟨j, last, g', τ', rfl, hj, rfl, hgl', hl1, hl2, K7', K2', hB3, hst⟩
      refine Sq (Rg ?_)
      refine g_lss rfl rfl (h1 := fun c27 => ?_) (h2 := fun c27 => ?_)
      · skip
        refine Nl (Tn (Sq (Ct rfl (Sk (Tn (Sq (Bk (Sq (Rg ?_)))))))))
        have hjl : j < st.length := by omega
        obtain ⟨ad2, rfl, h29⟩ := Kd.at_int hC1 j (by omega) (by omega)
        have hd2 : st.drop j = rd st j :: st.drop (j + 1) := by rw [rd_nat st j hjl]; exact List.drop_eq_getElem_cons hjl
        rw [hd2, stavesGo] at hst
        generalize rd st j = x at *
        refine g_indexS Try.underlying22 info3 rfl rfl (by omega) (by omega) (Nat.mul_one _) (h := ?_)
        refine L1 Try.underlying3 (hB3.cellk h29) rfl (As (Nl (Tn (Sq (Sq (Rg (Mv (Mv ?_))))))))
        refine g_add rfl rfl (by omega) (h := ?_)
        refine Fb f24_0 rfl (L1 Try.underlying22 (cellAt K2' rfl) rfl (Ln Try.underlying22 rfl ?_))
        refine g_sub rfl rfl (by omega) (h := ?_)
        refine g_within rfl rfl rfl (h1 := fun c37 => ?_) (h2 := fun c37 => ?_)
        · skip
          refine Nt rfl (Mv (Mv ?_))
          refine g_indexA Try.underlying99 info4 rfl rfl (by omega) (by omega) (add0 _ _) (h := ?_)
          refine L1 Try.underlying4 (cellAt K7' (bs_get (by omega))) rfl (Pf rfl (Nl (Tn ?_)))
          cases q43 : g'.getD x.toNat false with
          | true =>
            rw [if_neg (fun h => by rw [h.2] at q43; cases q43)] at hst
            rw [← hst] at hgo
            simp only at hgo
            refine Ct rfl (Sq (Rg (As (As (Nl (Tn (Rt (Tr (Br (Tr (Tr (Br (Tr (Br (Tr (Tr (Br (Tr ?_))))))))))))))))))
            exact ret2 rfl ⟨bad2 hgo rfl, hB3⟩
          | false =>
            rw [if_pos ⟨c37, q43⟩] at hst
            refine Cf rfl (Sk (Tn (Sq (Rg (Mv ?_)))))
            refine g_indexA Try.underlying99 info4 rfl rfl (by omega) (by omega) (add0 _ _) (h := ?_)
            refine g_store1 rfl rfl info4 K7' (by rw [bs_size]; omega) (h := fun w4 hP => ?_)
            have K7'' : w4.heap[g7]? = some (.cells (bs (g'.set x.toNat true)) 99 (0, 0)) := by rw [← bs_set]; exact hP.at_
            have K2'' := kP K2' hP (ne_ty K2' K7' (by decide))
            have hB4 := hB3.put hP (Nat.le_trans hB14.size N7.ge)
            refine Nl (Tn (Rg (Mv (As (Nl (Bn (Tn (Rg ?_))))))))
            refine g_add rfl rfl (by omega) (h := ?_)
            refine Mv (Nl ?_)
            exact round_end (st.length - (j + 1)) (by omega) ⟨j + 1, x, g'.set x.toNat true, _, has rfl (has rfl (has rfl (has rfl (has rfl (has rfl (has rfl (has rfl (has rfl (has rfl rfl))))))))), hjl, rfl, by simpa using hgl', by omega, by omega, K7'', K2'', hB4, hst⟩
        · skip
          rw [if_neg (fun h => c37 h.1)] at hst
          rw [← hst] at hgo
          simp only at hgo
          refine Nt rfl (Mv (Of (Of (Of (Pt rfl (Nl (Tn (Ct rfl (Sq (Rg (As (As (Nl (Tn (Rt (Tr (Br (Tr (Tr (Br (Tr (Br (Tr (Tr ?_))))))))))))))))))))))))
          refine Br (Tr ?_)
          exact ret2 rfl ⟨bad2 hgo rfl, hB3⟩
      · skip
        refine Nl (Tn (Sq (Cf rfl (Xi (Tx (Tx (Bs (Tn (Sq (Rg ?_))))))))))
        have hje : j = st.length := by omega
        rw [hje, List.drop_length, stavesGo] at hst
        rw [← hst] at hgo
        simp only at hgo
        obtain ⟨hin, hlen⟩ := stavesGo_in _ _ _ _ _ (by decide) hst.symm
        refine g_loadA rfl Try.underlying24 info24 (l := [.slice A ws.length c, .int .i64 girth, .int .i64 play]) (cellsAt K2') (h := ?_)
        refine g_bld (build101 _ _ _ _) rfl (h := ?_)
        refine Mv ?_
        refine g_call he63 rfl (isBarrel_c A A1 c c1 ws st girth play _ (Kd.C_below hw hB3) (Kd.C_below hC1 hB3) hws (by omega) (fun k hk => ⟨by have := (hin k hk).1; omega, (hin k hk).2⟩) (by omega) (by omega)) (h := ?_)
        rintro e w51 ⟨rfl, hb51⟩
        refine ⟨_, rfl, ?_⟩
        cases q51 : isBarrelL ws girth play st with
        | true =>
          rw [q51, if_pos rfl] at hgo
          refine Nt rfl (Nl (Tn (Cf rfl (Sk (Bn (Tn (Rg ?_)))))))
          refine g_add rfl rfl (by omega) (h := ?_)
          refine Mv (Nl ?_)
          exact round_end (l.length - (k + 1)) (by omega) ⟨k + 1, g', _, has rfl (has rfl (has rfl (has rfl (has rfl rfl)))), hkl, rfl, hgl', kB K7' hb51, kB K2' hb51, hB3.bel hb51, hgo⟩
        | false =>
          rw [q51] at hgo
          refine Nt rfl (Nl (Tn (Ct rfl (Sq (Rg (As (As (Nl (Tn (Rt (Br (Tr (Tr (Br (Tr ?_)))))))))))))))
          exact ret2 rfl ⟨bad2 hgo rfl, hB3.bel hb51⟩
    · skip
      refine Nl (Tn (Sq (Cf rfl (Xi (Tx (Tx (Bs (Tn (Sq (Rg (As (As (Nl (Tn (Rt ?_)))))))))))))))
      have hke : k = l.length := by omega
      rw [hke, List.drop_length, areGo] at hgo
      exact ret2 rfl ⟨bad2 hgo rfl, hB⟩
end Go.Proofs.B
