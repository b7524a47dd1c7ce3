/- barrel: the law BarrelMost, walked. -/
import Derived.Test.YtpfoleggapngoaaL3
set_option linter.unusedVariables false
set_option linter.unusedSimpArgs false
set_option maxRecDepth 10000
namespace Go.Proofs.B
open Go Go.RowKit Go.Proofs Go.Proofs.G Go.Proofs.F Go.Proofs.T Go.Proofs.YtpfoleggapngoaaW.PrintWords
section
variable {P : Program} {N : Nat} {ds : List Deferred} {Q : Exit → Act → World → Prop} {σ : Nat → Value} {w : World} {E : List Nat} {C : World → Prop} {ops : Array Oper} {k : Nat} {L : Array Bool} {d : Nat} {t e ty : TypeId} {pos : String} {after : Array Edge} {gd : Option (Nat × Bool)} {x y : Operand}
theorem GO_appendRows {α : Type} (kd : Kd α) {base bytes i : Nat} {z : Value} (hi : ops[i]? = some ⟨some d, .call { callee := .builtin .append, args := #[x, y], argTypes := #[t, t] }, ty, pos, after, gd⟩)
    (hw : Region.wanted ⟨some d, .call { callee := .builtin .append, args := #[x, y], argTypes := #[t, t] }, ty, pos, after, gd⟩ (yl ops σ) = true) (hd : Nat.blt d N = true)
    (ht : P.underlying t = some (.slice e)) (hinfo : (P.info? e).map (fun i => (i.zero, i.size, i.bytes)) = some (some z, kd.sz, bytes)) (hz : z.cells.size = kd.sz) (hs0 : 0 < kd.sz) (hb0 : 0 < bytes)
    {v : Value} {xs ys : List α} {A : Option Addr} {m c : Nat} {ok okp : Nat → Prop} (HO : kd.R e w base ok v xs) (HR : kd.C w A m ys) (hKM : ∀ x cs, kd.K w x cs → kd.M w base okp x cs) (hokp : ∀ i, okp i → ok i ∧ some i ≠ v.ownBlock) (hfresh : ∀ i, w.heap.size ≤ i → ok i)
    (hbase : base ≤ w.heap.size) (hl : (xs.length + m) * bytes ≤ 140737488355328) (hx : ev σ x = v) (hy : ev σ y = .slice A m c)
    (h : ∀ v1 w1, kd.R e w1 base ok v1 (xs ++ ys) → w.grownBy w1 v.ownBlock → (v1.ownBlock = v.ownBlock ∨ ∃ b, v1.ownBlock = some b ∧ w.heap.size ≤ b) → GD P N ds ops Q E C k (L.setIfInBounds i true) (upd σ d v1) w1) : GO P N ds ops Q E C k L i σ w := by
  obtain ⟨v1, w1, hr, h1, h2, h3⟩ := run_appendRows (σ := σ) (P := P) (dst := some d) (ty := ty) (pos := pos) (after := after) (gd := gd) (x := x) (y := y) kd ht hinfo hz hs0 hb0 HO HR hKM hokp hfresh hbase hl hx hy
  exact GO_val hi hw rfl hd hr (h v1 w1 h1 h2 h3)
theorem r_eqlD {dst : Option Nat} {t' : TypeId} {a b : Int} (hx : ev σ x = .int .i64 a) (hy : ev σ y = .int .i64 b) : (execOp (ev σ) ⟨dst, .binOp .eql t x y t', ty, pos, after, gd⟩).run P w = .ok (.value (.bool (decide (a = b)))) w := by
  by_cases h : a = b
  · rw [decide_eq_true h]; exact r_eqlT hx hy h
  · rw [decide_eq_false h]; exact r_eqlF hx hy h
end
theorem wood_c (A : Option Addr) (c : Nat) (ws : List Int) (girth play : Int) (w : World) (hw : (Kd.int .i64).C w A ws.length ws) :
    Calls Try.prog 40 #[.agg #[.slice A ws.length c, .int .i64 girth, .int .i64 play]] w fun e w' => e = .returned (.bool (decide (PileOk ws girth play))) ∧ Bel w w' := by
  refine G_enter (l := [.agg #[.slice A ws.length c, .int .i64 girth, .int .i64 play]]) Try.func40 rfl rfl ?_
  refine Sq (Rg ?_)
  refine g_box rfl (h := fun g1 w1 N1 => ?_)
  have K1 := N1.at_
  have hB1 := Bel.of_new N1
  have K1a : w1.heap[g1]? = some (.cells #[.slice A ws.length c, .int .i64 girth, .int .i64 play] 24 (0, 0)) := K1
  refine As (Nl (Tn (Sq (Rg ?_))))
  refine g_loadA rfl Try.underlying24 info24 (l := [.slice A ws.length c, .int .i64 girth, .int .i64 play]) (cellsAt K1a) (h := ?_)
  refine g_call he18 rfl (checkPile_c A c ws girth play _ (Kd.C_below hw hB1)) (h := ?_)
  rintro e w4 ⟨rfl, hb4⟩
  refine ⟨_, rfl, ?_⟩
  have hB4 := hB1.bel hb4
  have K1b := kB K1a hb4
  refine g_eql rfl rfl (h1 := fun c5 => ?_) (h2 := fun c5 => ?_)
  · skip
    have hpo : PileOk ws girth play := by by_cases h : PileOk ws girth play; exact h; rw [cp_no h] at c5; exact absurd c5 (by decide)
    refine Mv (Fb f24_0 rfl (L1 Try.underlying22 (cellAt K1b rfl) rfl (Ln Try.underlying22 rfl ?_)))
    refine g_inT rfl rfl rfl (by have := hpo.1; omega) (h := ?_)
    refine Pt rfl (As (Nl (Tn (Rt ?_))))
    exact ret1 rfl ⟨retb (decide_eq_true hpo).symm, hB4⟩
  · skip
    have hpo : ¬ PileOk ws girth play := fun h => c5 (cp_ok h)
    refine Mv (Of (Of (Of (Of (Pf rfl (As (Nl (Tn (Rt ?_)))))))))
    exact ret1 rfl ⟨retb (decide_eq_false hpo).symm, hB4⟩
/-! ### Groups of staves -/
def sG (ws : List Int) (gr : Nat → Nat) (i g : Nat) : Int := sumN (fun j => if gr j = g then rd ws j else 0) i
theorem sG_bd {ws : List Int} (hb : ∀ x ∈ ws, 0 ≤ x ∧ x ≤ 1000) (gr : Nat → Nat) (g : Nat) : ∀ i, i ≤ ws.length → 0 ≤ sG ws gr i g ∧ sG ws gr i g ≤ 1000 * (i : Int)
  | 0, _ => by simp [sG, sumN]
  | i + 1, h => by
    have h1 := sG_bd hb gr g i (by omega)
    have h2 := hb _ (rd_mem (xs := ws) (i := (i : Nat)) (by omega) (by omega))
    unfold sG at h1 ⊢
    unfold sumN
    split <;> omega
def stG (gr : Nat → Nat) (n g : Nat) : List Int := ((List.range n).filter (fun i : Nat => decide (gr i = g))).map (fun i : Nat => (i : Int))
theorem stG_mem (gr : Nat → Nat) (n g : Nat) (k : Int) : k ∈ stG gr n g ↔ ∃ i : Nat, i < n ∧ gr i = g ∧ k = i := by
  simp only [stG, List.mem_map, List.mem_filter, List.mem_range, decide_eq_true_eq]
  constructor
  · rintro ⟨i, ⟨h1, h2⟩, rfl⟩; exact ⟨i, h1, h2, rfl⟩
  · rintro ⟨i, h1, h2, rfl⟩; exact ⟨i, ⟨h1, h2⟩, rfl⟩
theorem stG_rising (gr : Nat → Nat) (n g : Nat) : (stG gr n g).Pairwise (· < ·) := by
  unfold stG
  rw [List.pairwise_map]
  exact (List.Pairwise.filter _ List.pairwise_lt_range).imp fun h => by omega
theorem stG_rng (gr : Nat → Nat) (n g : Nat) : ∀ k ∈ stG gr n g, 0 ≤ k ∧ k < n := fun k hk => by
  obtain ⟨i, h1, _, rfl⟩ := (stG_mem gr n g k).1 hk
  omega
theorem stG_sum (ws : List Int) (gr : Nat → Nat) (g : Nat) : ((stG gr ws.length g).map (rd ws)).sum = sG ws gr ws.length g := by
  have h := sum_mem (fun i => rd ws (i : Nat)) ws.length (stG gr ws.length g) (rising_nodup (stG_rising _ _ _)) (stG_rng _ _ _)
  have e : (stG gr ws.length g).map (rd ws) = (stG gr ws.length g).map (fun k => rd ws ((k.toNat : Nat) : Int)) := List.map_congr_left fun k hk => by rw [Int.toNat_of_nonneg (stG_rng _ _ _ k hk).1]
  rw [e, h]
  refine sumN_congr _ fun i hi => ?_
  by_cases h1 : gr i = g
  · rw [if_pos h1, if_pos ((stG_mem _ _ _ _).2 ⟨i, hi, h1, rfl⟩)]
  · rw [if_neg h1, if_neg (fun h => by obtain ⟨j, _, h2, h3⟩ := (stG_mem _ _ _ _).1 h; have : i = j := by omega
                                       subst this; exact h1 h2)]
def goodG (ws : List Int) (girth play : Int) (gr : Nat → Nat) (g : Nat) : Bool := decide (0 < sG ws gr ws.length g) && decide (girth - play ≤ sG ws gr ws.length g ∧ sG ws gr ws.length g ≤ girth)
theorem groups_pk (ws : List Int) (girth play : Int) (gr : Nat → Nat) (k : Nat) : Pk ws.length (isBarrelL ws girth play) g0 (((List.range k).filter (goodG ws girth play gr)).map (stG gr ws.length)) := by
  refine ⟨fun s hs => ?_, ?_⟩
  · obtain ⟨g, hg, rfl⟩ := List.mem_map.1 hs
    have hgood := (List.mem_filter.1 hg).2
    unfold goodG at hgood
    rw [Bool.and_eq_true, decide_eq_true_eq, decide_eq_true_eq] at hgood
    refine ⟨⟨stG_rising _ _ _, fun k hk => ⟨stG_rng _ _ _ k hk, g0_get _⟩⟩, ?_⟩
    unfold isBarrelL
    rw [stG_sum, decide_eq_true hgood.2, Bool.and_true, decide_eq_true_eq]
    refine List.length_pos_iff.2 fun e => ?_
    have := stG_sum ws gr g
    rw [e] at this
    simp at this
    omega
  · rw [List.pairwise_map]
    refine (List.Pairwise.filter _ List.pairwise_lt_range).imp ?_
    intro a b hab k hka hkb
    obtain ⟨i, _, h1, rfl⟩ := (stG_mem _ _ _ _).1 hka
    obtain ⟨j, _, h2, h3⟩ := (stG_mem _ _ _ _).1 hkb
    have : i = j := by omega
    subst this; omega
def manyG (ws : List Int) (girth play : Int) (gr : Nat → Nat) (k : Nat) : Nat := ((List.range k).filter (goodG ws girth play gr)).length
theorem manyG_succ (ws : List Int) (girth play : Int) (gr : Nat → Nat) (k : Nat) : manyG ws girth play gr (k + 1) = manyG ws girth play gr k + if goodG ws girth play gr k = true then 1 else 0 := by
  unfold manyG
  rw [List.range_succ, List.filter_append]
  cases h : goodG ws girth play gr k <;> simp [List.filter, h]
theorem manyG_le (ws : List Int) (girth play : Int) (gr : Nat → Nat) (k : Nat) : manyG ws girth play gr k ≤ k := Nat.le_trans (List.length_filter_le _ _) (by simp)
theorem many_best {ws : List Int} {girth play : Int} {ls : List (List Int)} (h : Best ws.length (isBarrelL ws girth play) g0 ls) (gr : Nat → Nat) (k : Nat) : manyG ws girth play gr k ≤ ls.length := by
  have := h.2 _ (groups_pk ws girth play gr k)
  rw [List.length_map] at this; exact this
/-! ### More wood, more play -/
def Wider (ws ws' : List Int) : Prop := (1 ≤ ws'.length ∧ ws'.length ≤ 10) ∧ ws'.all wideB = true ∧ ws.length ≤ ws'.length ∧ ∀ k : Nat, k < ws.length → rd ws' k = rd ws k
theorem wider_pk {ws ws' : List Int} {girth play play' : Int} (h : Wider ws ws') (hp : play ≤ play') {l : List (List Int)} (hl : Pk ws.length (isBarrelL ws girth play) g0 l) : Pk ws'.length (isBarrelL ws' girth play') g0 l := by
  refine ⟨fun s hs => ?_, hl.2⟩
  obtain ⟨⟨h1, h2⟩, h3⟩ := hl.1 s hs
  have hle := h.2.2.1
  refine ⟨⟨h1, fun k hk => ⟨⟨(h2 k hk).1.1, by have := (h2 k hk).1.2; omega⟩, (h2 k hk).2⟩⟩, ?_⟩
  have e : s.map (rd ws') = s.map (rd ws) := List.map_congr_left fun k hk => by
    have := h.2.2.2 k.toNat (by have := (h2 k hk).1; omega)
    rwa [Int.toNat_of_nonneg (h2 k hk).1.1] at this
  unfold isBarrelL at h3 ⊢
  rw [Bool.and_eq_true, decide_eq_true_eq, decide_eq_true_eq] at h3 ⊢
  rw [e]
  exact ⟨h3.1, by omega, by omega⟩
theorem wider_best {ws ws' : List Int} {girth play play' : Int} (h : Wider ws ws') (hp : play ≤ play') {l l' : List (List Int)} (h1 : Best ws.length (isBarrelL ws girth play) g0 l) (h2 : Best ws'.length (isBarrelL ws' girth play') g0 l') : l.length ≤ l'.length := h2.2 _ (wider_pk h hp h1.1)
theorem wider_one {ws : List Int} {v : Int} (hl : 1 ≤ ws.length ∧ ws.length < 10) (hw : ws.all wideB = true) (hv : 1 ≤ v ∧ v ≤ 500) : Wider ws (ws ++ [v]) := by
  refine ⟨by simp; omega, ?_, by simp, fun k hk => ?_⟩
  · rw [List.all_append, hw]; simp [wideB, hv]
  · rw [rd_nat _ k (by simp; omega), rd_nat _ k hk, List.getElem_append_left hk]
theorem sG_zero (ws : List Int) (gr : Nat → Nat) : List.replicate 5 (0 : Int) = (List.range 5).map (sG ws gr 0) := rfl
theorem pickMod (bits : List Int) : ∃ gr : Nat → Nat, ∀ j : Nat, pickL bits j % 5 = (gr j : Int) ∧ gr j < 5 := by
  refine ⟨fun j => (pickL bits j % 5).toNat, fun j => ?_⟩
  show pickL bits j % 5 = (((pickL bits j % 5).toNat : Nat) : Int) ∧ (pickL bits j % 5).toNat < 5
  have h1 := Int.emod_nonneg (pickL bits j) (show (5 : Int) ≠ 0 by decide)
  have h2 := Int.emod_lt_of_pos (pickL bits j) (show (0 : Int) < 5 by decide)
  omega
theorem modk_c (n m r : Int) (h : n % m = r) (hm : 0 < m) (hm2 : m ≤ 9223372036854775807) (w : World) : Calls Try.prog 41 #[.int .i64 n, .int .i64 m] w fun e w' => e = .returned (.int .i64 r) ∧ w' = w := by
  subst h; exact mod_c n m hm hm2 w
set_option maxHeartbeats 16000000 in
theorem barrelMost_c (A : Option Addr) (c : Nat) (ws : List Int) (girth play : Int) (B : Option Addr) (d : Nat) (bits : List Int) (n0 n1 : Int) (w : World) (hw : (Kd.int .i64).C w A ws.length ws) (hc : (Kd.int .i64).C w B bits.length bits) (_ : bits.length * 8 ≤ 140737488351232) :
    Calls Try.prog 7 #[.agg #[.slice A ws.length c, .int .i64 girth, .int .i64 play], .slice B bits.length d, .agg #[.int .i64 n0, .int .i64 n1]] w fun e w' => e = .returned (.bool true) ∧ Bel w w' := by
  obtain ⟨gr, hgr⟩ := pickMod bits
  refine G_enter (l := [.agg #[.slice A ws.length c, .int .i64 girth, .int .i64 play], .slice B bits.length d, .agg #[.int .i64 n0, .int .i64 n1]]) Try.func7 rfl rfl ?_
  refine Sq (Rg ?_)
  refine g_box rfl (h := fun g3 w3 N3 => ?_)
  have K3 := N3.at_
  have hB := Bel.of_new N3
  have K3 : w3.heap[g3]? = some (.cells #[.slice A ws.length c, .int .i64 girth, .int .i64 play] 24 (0, 0)) := K3
  refine g_box rfl (h := fun g5 w5 N5 => ?_)
  have K5 := N5.at_
  have hB := hB.new N5
  have K3 := kN K3 N5
  have K5 : w5.heap[g5]? = some (.cells #[.int .i64 n0, .int .i64 n1] 57 (0, 0)) := K5
  refine As (Nl (Tn (Sq (Sq (Rg ?_)))))
  refine g_loadA rfl Try.underlying24 info24 (l := [.slice A ws.length c, .int .i64 girth, .int .i64 play]) (cellsAt K3) (h := ?_)
  refine g_call he40 rfl (wood_c A c ws girth play _ (Kd.C_below hw hB)) (h := ?_)
  rintro e w18 ⟨rfl, hb18⟩
  refine ⟨_, rfl, ?_⟩
  have hB := hB.bel hb18
  have K3 := kB K3 hb18
  have K5 := kB K5 hb18
  cases q18 : decide (PileOk ws girth play) with
  | true =>
    have hpo : PileOk ws girth play := of_decide_eq_true q18
    have hn : 1 ≤ ws.length ∧ ws.length ≤ 10 := by have := hpo.1; omega
    have hwb : ∀ x ∈ ws, 0 ≤ x ∧ x ≤ 1000 := fun x hx => by have := of_decide_eq_true (List.all_eq_true.1 hpo.2.2.2 x hx); omega
    have hgi := hpo.2.1
    have hpl := hpo.2.2.1
    refine Nt rfl (Nl (Tn (Cf rfl (Sk (Tn (Sq (Rg ?_)))))))
    refine g_loadA rfl Try.underlying24 info24 (l := [.slice A ws.length c, .int .i64 girth, .int .i64 play]) (cellsAt K3) (h := ?_)
    refine g_call he20 rfl (setA_c A c ws girth play _ (Kd.C_below hw hB)) (h := ?_)
    rintro e w23 ⟨ls, A23, code, rfl, hset, hC23, hb23⟩
    refine ⟨_, rfl, ?_⟩
    have hB := hB.bel hb23
    have K3 := kB K3 hb23
    have K5 := kB K5 hb23
    have hs2 : Best ws.length (isBarrelL ws girth play) g0 ls ∧ code = if ls.length = 0 then 4 else 0 := by
      rcases hset with ⟨h, _⟩ | ⟨_, h⟩
      · exact absurd hpo h
      · exact h
    have hcode : (code = 4 ∧ ls.length = 0) ∨ (code = 0 ∧ ls.length ≠ 0) := by
      by_cases h : ls.length = 0
      · exact .inl ⟨by rw [hs2.2, if_pos h], h⟩
      · exact .inr ⟨by rw [hs2.2, if_neg h], h⟩
    have hdec : decide (code = 4) = decide ((ls.length : Int) = 0) := by rcases hcode with ⟨h1, h2⟩ | ⟨h1, h2⟩ <;> simp [h1, h2]
    refine Mv (Xt rfl rfl (Xt rfl rfl (As (As (Nl (Tn (Sq (Rg ?_))))))))
    refine g_loadA rfl Try.underlying24 info24 (l := [.slice A ws.length c, .int .i64 girth, .int .i64 play]) (cellsAt K3) (h := ?_)
    refine Mv ?_
    have hR := are_cT A A23 c ls.length ws girth play ls w23 (Kd.C_below hw hB) hC23
    rw [pk_are hpo hs2.1.1, cp_ok hpo] at hR
    refine g_call he16 rfl (hR) (h := ?_)
    rintro e w29 ⟨rfl, hb29⟩
    refine ⟨_, rfl, ?_⟩
    have hB := hB.bel hb29
    have K3 := kB K3 hb29
    have K5 := kB K5 hb29
    refine Mv (Xt rfl rfl (Xt rfl rfl (As (As (Nl (Tn ?_))))))
    refine GC_join (fun σ w' => ∃ (τ : Nat → Value), σ = upd (upd (upd (upd τ 1 (.slice B bits.length d)) 3 (.pointer (some ⟨g3, 0, none⟩))) 5 (.pointer (some ⟨g5, 0, none⟩))) 7 (.slice A23 ls.length ls.length) ∧ w' = w29) ?_ ?_
    · skip
      refine Sq (Rg (Mv ?_))
      refine g_v (r_neqF rfl rfl (by decide)) (h := ?_)
      refine Mv (Mv (Nt rfl (Pf rfl (Mv (Mv ?_)))))
      refine g_v (r_eqlD rfl rfl) (h := ?_)
      refine Mv (Ln Try.underlying25 rfl ?_)
      refine g_v (r_eqlD rfl rfl) (h := ?_)
      refine g_v (r_neqBs Try.underlying4 rfl rfl hdec) (h := ?_)
      refine Pf rfl (Mv (Mv ?_))
      refine g_neq rfl rfl (h1 := fun c48 => ?_) (h2 := fun c48 => ?_)
      · skip
        refine Mv (Mv ?_)
        refine g_v (r_neqF rfl rfl (by rcases hcode with ⟨h1, h2⟩ | ⟨h1, h2⟩ <;> omega)) (h := ?_)
        refine Pt rfl (Pf rfl (Nl (Tn (Cf rfl (Sk ?_)))))
        exact join_end ⟨_, has rfl (has rfl (has rfl (has rfl rfl))), rfl⟩
      · skip
        refine Mv (Of (Of (Pf rfl (Pf rfl (Nl (Tn (Cf rfl (Sk ?_))))))))
        exact join_end ⟨_, has rfl (has rfl (has rfl (has rfl rfl))), rfl⟩
    · rintro _ w30 ⟨τ0, rfl, rfl⟩
      refine Sq (Rg ?_)
      refine g_makeR (Kd.int .i64) (n := 5) (z := .int .i64 0) (z0 := 0) (bytes := 8) (okp := fun _ => True) Try.underlying22 zi3 rfl (by decide) (by decide) rfl rfl rfl (by omega) (h := fun gs w54 HR hg54 => ?_)
      have HR := Kd.R_lower HR hB.size
      have hB := hB.grown hg54 (fun k hk => by cases hk)
      have K3 := kG K3 hg54 (by simp)
      have K5 := kG K5 hg54 (by simp)
      rw [sG_zero ws gr] at HR
      refine As (Nl (Tn (Sq (Sq (Rg (As (Nl (Tn (Bk ?_)))))))))
      refine GC_loop (fun m σ w' => ∃ (i : Nat) (τ : Nat → Value), σ = upd (upd (upd (upd (upd (upd τ 1 (.slice B bits.length d)) 3 (.pointer (some ⟨g3, 0, none⟩))) 5 (.pointer (some ⟨g5, 0, none⟩))) 7 (.slice A23 ls.length ls.length)) 11 (.slice (some ⟨gs, 0, none⟩) 5 5)) 12 (.int .i64 i) ∧ i ≤ ws.length ∧ m = ws.length - i ∧ w'.heap[g3]? = some (.cells #[.slice A ws.length c, .int .i64 girth, .int .i64 play] 24 (0, 0)) ∧ w'.heap[g5]? = some (.cells #[.int .i64 n0, .int .i64 n1] 57 (0, 0)) ∧ (Kd.int .i64).R 3 w' w.heap.size (fun _ => True) (.slice (some ⟨gs, 0, none⟩) 5 5) ((List.range 5).map (sG ws gr i)) ∧ Bel w w') (ws.length) ⟨0, _, has rfl (has rfl (has rfl (has rfl (has rfl (has rfl rfl))))), Nat.zero_le _, rfl, K3, K5, HR, hB⟩ ?_
      rintro m _ w6 ⟨i, τ, rfl, hi, rfl, K3, K5, HR, hB⟩
      refine Sq (Sq (Rg (Mv (Fb f24_0 rfl (L1 Try.underlying22 (cellAt K3 rfl) rfl (Ln Try.underlying22 rfl ?_))))))
      refine g_lss rfl rfl (h1 := fun c59 => ?_) (h2 := fun c59 => ?_)
      · skip
        refine Nl (Tn (Ct rfl (Sk (Tn (Sq (Bk ?_))))))
        have hil : i < ws.length := by omega
        have HRd := rB HR (Bel.drew (w1 := w6) (Below.refl _ _))
        have h68 := (Kd.R_celln (0 : Int) HRd (gr i : Nat) (by omega) (by have := (hgr i).2; omega)).1
        rw [rdO_range 5 (gr i) _ (hgr i).2] at h68
        have hBd : Bel w (w6.drewN 1) := hB.drew
        have hob  := Kd.at_int (Kd.C_below hw hBd) i (by omega) (by omega)
        obtain ⟨ad, hA, h73⟩ := hob
        have hbd := sG_bd hwb gr (gr i) i (by omega)
        have hri := hwb _ (rd_mem (xs := ws) (i := (i : Nat)) (by omega) (by omega))
        have hg5 := (hgr i).2
        refine GD_start 15 [14] (fun w' => w' = w6.drewN 1) (by kernel_rfl) rfl ?_
        refine GD_pure 0 rfl (by kernel_rfl) (by kernel_rfl) (by kernel_rfl) (by kernel_rfl) rfl rfl rfl (qv fun wq hC => by exact r_move) ?_
        refine GD_pure 1 rfl (by kernel_rfl) (by kernel_rfl) (by kernel_rfl) (by kernel_rfl) rfl rfl rfl (qv fun wq hC => by exact r_move) ?_
        refine GD_pure 2 rfl (by kernel_rfl) (by kernel_rfl) (by kernel_rfl) (by kernel_rfl) rfl rfl rfl (qv fun wq hC => by exact r_move) ?_
        refine GD_take 3 rfl (by kernel_rfl) (by kernel_rfl) (by kernel_rfl) (by kernel_rfl) rfl rfl rfl (qc (fun wq hC => by exact r_call he42 rfl) (fun wq hC => by exact by subst hC; exact pick_c B d bits (i : Nat) _ (Kd.C_below hc hBd))) ?_
        refine GD_take 4 rfl (by kernel_rfl) (by kernel_rfl) (by kernel_rfl) (by kernel_rfl) rfl rfl rfl (qc (fun wq hC => by exact r_call he41 rfl) (fun wq hC => by exact modk_c _ 5 (gr i : Nat) (hgr i).1 (by decide) (by decide) _)) ?_
        refine GD_pure 5 rfl (by kernel_rfl) (by kernel_rfl) (by kernel_rfl) (by kernel_rfl) rfl rfl rfl (qv fun wq hC => by exact r_indexO Try.underlying22 info3 rfl rfl  (by omega) (by omega) (Nat.mul_one _)) ?_
        refine GD_take 6 rfl (by kernel_rfl) (by kernel_rfl) (by kernel_rfl) (by kernel_rfl) rfl rfl rfl (qv fun wq hC => by exact r_load1 rfl Try.underlying3 (by subst hC; exact h68)) ?_
        refine GD_pure 7 rfl (by kernel_rfl) (by kernel_rfl) (by kernel_rfl) (by kernel_rfl) rfl rfl rfl (qv fun wq hC => by exact r_fieldAddrB f24_0 rfl) ?_
        refine GD_take 8 rfl (by kernel_rfl) (by kernel_rfl) (by kernel_rfl) (by kernel_rfl) rfl rfl rfl (qv fun wq hC => by exact r_load1 rfl Try.underlying22 (by subst hC; exact cellAt K3 rfl)) ?_
        refine GD_pure 9 rfl (by kernel_rfl) (by kernel_rfl) (by kernel_rfl) (by kernel_rfl) rfl rfl rfl (qv fun wq hC => by exact r_move) ?_
        refine GD_pure 10 rfl (by kernel_rfl) (by kernel_rfl) (by kernel_rfl) (by kernel_rfl) rfl rfl rfl (qv fun wq hC => by exact r_indexH Try.underlying22 info3 hA rfl rfl (by omega) (by omega) (Nat.mul_one _)) ?_
        refine GD_take 11 rfl (by kernel_rfl) (by kernel_rfl) (by kernel_rfl) (by kernel_rfl) rfl rfl rfl (qv fun wq hC => by exact r_load1 rfl Try.underlying3 (by subst hC; exact h73)) ?_
        refine GD_pure 12 rfl (by kernel_rfl) (by kernel_rfl) (by kernel_rfl) (by kernel_rfl) rfl rfl rfl (qv fun wq hC => by exact r_add rfl rfl (by omega)) ?_
        refine GD_pure 13 rfl (by kernel_rfl) (by kernel_rfl) (by kernel_rfl) (by kernel_rfl) rfl rfl rfl (qv fun wq hC => by exact r_indexO Try.underlying22 info3 rfl rfl  (by omega) (by omega) (Nat.mul_one _)) ?_
        refine GD_one 14 (by kernel_rfl) (fun _ => rfl) ?_
        refine GO_storeR (enc := Value.int .i64) rfl rfl rfl rfl info3 HRd (by omega) (by omega) (fun w7 HR7 hg7 => ?_)
        have K3 := kG (w1 := w6.drewN 1) K3 hg7 (ne_own HRd K3 (by decide))
        have K5 := kG (w1 := w6.drewN 1) K5 hg7 (ne_own HRd K5 (by decide))
        have hB8 := hBd.grown hg7 (fun q hq => Kd.R_base HRd q hq)
        rw [Int.toNat_natCast, range_set 5 (gr i) _ _ hg5] at HR7
        refine GD_end (by kernel_rfl) (dead 14 rfl (by kernel_rfl)) ?_
        refine Bn (Tn (Rg (Mv ?_)))
        refine g_add rfl rfl (by omega) (h := ?_)
        refine As (Nl ?_)
        exact round_end (ws.length - (i + 1)) (by omega) ⟨i + 1, _, has rfl (has rfl (has rfl (has rfl (has rfl (has rfl rfl))))), hil, rfl, K3, K5, by
          refine Eq.mp (congrArg (fun z => (Kd.int .i64).R 3 w7 w.heap.size (fun _ => True) (.slice (some ⟨gs, 0, none⟩) 5 5) z) (range_congr fun s hs => ?_)) HR7
          show _ = sG ws gr i s + (if gr i = s then rd ws i else 0)
          by_cases h : s = gr i
          · rw [if_pos h, if_pos h.symm, h]
          · rw [if_neg h, if_neg (fun e => h e.symm)]; omega, hB8⟩
      · skip
        refine Nl (Tn (Cf rfl (Xi (Tx (Tx (Bs (Tn (Sq (Rg (As (Nl (Tn (Sq (Sq (Rg (As (Nl (Tn (Bk ?_)))))))))))))))))))
        obtain rfl : i = ws.length := by omega
        refine GC_loop (fun m σ w' => ∃ (k : Nat) (τ : Nat → Value), σ = upd (upd (upd (upd (upd (upd (upd τ 1 (.slice B bits.length d)) 3 (.pointer (some ⟨g3, 0, none⟩))) 5 (.pointer (some ⟨g5, 0, none⟩))) 7 (.slice A23 ls.length ls.length)) 11 (.slice (some ⟨gs, 0, none⟩) 5 5)) 13 (.int .i64 (manyG ws girth play gr k))) 14 (.int .i64 k) ∧ k ≤ 5 ∧ m = 5 - k ∧ w'.heap[g3]? = some (.cells #[.slice A ws.length c, .int .i64 girth, .int .i64 play] 24 (0, 0)) ∧ w'.heap[g5]? = some (.cells #[.int .i64 n0, .int .i64 n1] 57 (0, 0)) ∧ (Kd.int .i64).R 3 w' w.heap.size (fun _ => True) (.slice (some ⟨gs, 0, none⟩) 5 5) ((List.range 5).map (sG ws gr ws.length)) ∧ Bel w w') (5) ⟨0, _, has rfl (has rfl (has rfl (has rfl (has rfl (has rfl (has rfl rfl)))))), Nat.zero_le _, rfl, K3, K5, HR, hB⟩ ?_
        rintro m _ w8 ⟨k, τ2, rfl, hk, rfl, K3, K5, HR, hB⟩
        refine Sq (Sq (Rg (Mv (Mv (Ln Try.underlying22 rfl ?_)))))
        refine g_lss rfl rfl (h1 := fun c79 => ?_) (h2 := fun c79 => ?_)
        · skip
          refine Nl (Tn (Ct rfl (Sk (Tn ?_))))
          refine GC_join (fun σ w' => ∃ (τ : Nat → Value), σ = upd (upd (upd (upd (upd (upd (upd τ 1 (.slice B bits.length d)) 3 (.pointer (some ⟨g3, 0, none⟩))) 5 (.pointer (some ⟨g5, 0, none⟩))) 7 (.slice A23 ls.length ls.length)) 11 (.slice (some ⟨gs, 0, none⟩) 5 5)) 13 (.int .i64 (manyG ws girth play gr (k + 1)))) 14 (.int .i64 k) ∧ w' = w8.drewN 1) ?_ ?_
          · skip
            refine Bk (Sq ?_)
            have hk5 : k < 5 := by omega
            have HRd := rB HR (Bel.drew (w1 := w8) (Below.refl _ _))
            have h85 := (Kd.R_celln (0 : Int) HRd (k : Nat) (by omega) (by omega)).1
            rw [rdO_range 5 k _ hk5] at h85
            have hsc := manyG_succ ws girth play gr k
            have hml := manyG_le ws girth play gr k
            refine GD_start 19 [] (fun w' => w' = w8.drewN 1) (by kernel_rfl) rfl ?_
            refine GD_pure 0 rfl (by kernel_rfl) (by kernel_rfl) (by kernel_rfl) (by kernel_rfl) rfl rfl rfl (qv fun wq hC => by exact r_move) ?_
            refine GD_pure 1 rfl (by kernel_rfl) (by kernel_rfl) (by kernel_rfl) (by kernel_rfl) rfl rfl rfl (qv fun wq hC => by exact r_move) ?_
            refine GD_pure 2 rfl (by kernel_rfl) (by kernel_rfl) (by kernel_rfl) (by kernel_rfl) rfl rfl rfl (qv fun wq hC => by exact r_indexO Try.underlying22 info3 rfl rfl  (by omega) (by omega) (Nat.mul_one _)) ?_
            refine GD_take 3 rfl (by kernel_rfl) (by kernel_rfl) (by kernel_rfl) (by kernel_rfl) rfl rfl rfl (qv fun wq hC => by exact r_load1 rfl Try.underlying3 (by subst hC; exact h85)) ?_
            rcases Decidable.em (sG ws gr ws.length k > 0) with c86 | c86
            · skip
              refine GD_pure 4 rfl (by kernel_rfl) (by kernel_rfl) (by kernel_rfl) (by kernel_rfl) rfl rfl rfl (qv fun wq hC => by exact r_gtrT rfl rfl c86) ?_
              refine GD_pure 5 rfl (by kernel_rfl) (by kernel_rfl) (by kernel_rfl) (by kernel_rfl) rfl rfl rfl (qv fun wq hC => by exact r_move) ?_
              refine GD_pure 6 rfl (by kernel_rfl) (by kernel_rfl) (by kernel_rfl) (by kernel_rfl) rfl rfl rfl (qv fun wq hC => by exact r_move) ?_
              refine GD_pure 7 rfl (by kernel_rfl) (by kernel_rfl) (by kernel_rfl) (by kernel_rfl) rfl rfl rfl (qv fun wq hC => by exact r_move) ?_
              refine GD_pure 8 rfl (by kernel_rfl) (by kernel_rfl) (by kernel_rfl) (by kernel_rfl) rfl rfl rfl (qv fun wq hC => by exact r_indexO Try.underlying22 info3 rfl rfl  (by omega) (by omega) (Nat.mul_one _)) ?_
              refine GD_take 9 rfl (by kernel_rfl) (by kernel_rfl) (by kernel_rfl) (by kernel_rfl) rfl rfl rfl (qv fun wq hC => by exact r_load1 rfl Try.underlying3 (by subst hC; exact h85)) ?_
              refine GD_pure 10 rfl (by kernel_rfl) (by kernel_rfl) (by kernel_rfl) (by kernel_rfl) rfl rfl rfl (qv fun wq hC => by exact r_fieldAddrB f24_1 rfl) ?_
              refine GD_take 11 rfl (by kernel_rfl) (by kernel_rfl) (by kernel_rfl) (by kernel_rfl) rfl rfl rfl (qv fun wq hC => by exact r_load1 rfl Try.underlying3 (by subst hC; exact cellAt K3 rfl)) ?_
              refine GD_pure 12 rfl (by kernel_rfl) (by kernel_rfl) (by kernel_rfl) (by kernel_rfl) rfl rfl rfl (qv fun wq hC => by exact r_fieldAddrB f24_2 rfl) ?_
              refine GD_take 13 rfl (by kernel_rfl) (by kernel_rfl) (by kernel_rfl) (by kernel_rfl) rfl rfl rfl (qv fun wq hC => by exact r_load1 rfl Try.underlying3 (by subst hC; exact cellAt K3 rfl)) ?_
              refine GD_pure 14 rfl (by kernel_rfl) (by kernel_rfl) (by kernel_rfl) (by kernel_rfl) rfl rfl rfl (qv fun wq hC => by exact r_sub rfl rfl (by omega)) ?_
              refine GD_pure 15 rfl (by kernel_rfl) (by kernel_rfl) (by kernel_rfl) (by kernel_rfl) rfl rfl rfl (qv fun wq hC => by exact r_fieldAddrB f24_1 rfl) ?_
              refine GD_take 16 rfl (by kernel_rfl) (by kernel_rfl) (by kernel_rfl) (by kernel_rfl) rfl rfl rfl (qv fun wq hC => by exact r_load1 rfl Try.underlying3 (by subst hC; exact cellAt K3 rfl)) ?_
              refine GD_take 17 rfl (by kernel_rfl) (by kernel_rfl) (by kernel_rfl) (by kernel_rfl) rfl rfl rfl (qc (fun wq hC => by exact r_call he43 rfl) (fun wq hC => by exact in_c _ _ _ _)) ?_
              refine GD_pure 18 rfl (by kernel_rfl) (by kernel_rfl) (by kernel_rfl) (by kernel_rfl) rfl rfl rfl (qv fun wq hC => by exact r_pickT rfl) ?_
              refine GD_end (by kernel_rfl) (fun _ => rfl) ?_
              refine Tn ?_
              cases q100 : decide (girth - play ≤ sG ws gr ws.length k ∧ sG ws gr ws.length k ≤ girth) with
              | true =>
                refine Ct rfl (Rg (Mv ?_))
                refine g_add rfl rfl (by omega) (h := ?_)
                refine As (Nl (Bn ?_))
                exact join_end ⟨_, has rfl (has (congrArg (Value.int .i64) (by rw [hsc, if_pos (by unfold goodG; rw [decide_eq_true c86, q100]; rfl)]; rfl)) (has rfl (has rfl (has rfl (has rfl (has rfl rfl)))))), rfl⟩
              | false =>
                refine Cf rfl (Sk (Bn ?_))
                exact join_end ⟨_, has rfl (has (congrArg (Value.int .i64) (by rw [hsc, if_neg (by unfold goodG; rw [q100]; simp)]; rfl)) (has rfl (has rfl (has rfl (has rfl (has rfl rfl)))))), rfl⟩
            · skip
              refine GD_pure 4 rfl (by kernel_rfl) (by kernel_rfl) (by kernel_rfl) (by kernel_rfl) rfl rfl rfl (qv fun wq hC => by exact r_gtrF rfl rfl c86) ?_
              refine GD_pure 5 rfl (by kernel_rfl) (by kernel_rfl) (by kernel_rfl) (by kernel_rfl) rfl rfl rfl (qv fun wq hC => by exact r_move) ?_
              refine GD_off 6 rfl (by kernel_rfl) (by kernel_rfl) (by kernel_rfl) (by kernel_rfl) rfl rfl ?_
              refine GD_off 7 rfl (by kernel_rfl) (by kernel_rfl) (by kernel_rfl) (by kernel_rfl) rfl rfl ?_
              refine GD_off 8 rfl (by kernel_rfl) (by kernel_rfl) (by kernel_rfl) (by kernel_rfl) rfl rfl ?_
              refine GD_off 9 rfl (by kernel_rfl) (by kernel_rfl) (by kernel_rfl) (by kernel_rfl) rfl rfl ?_
              refine GD_off 10 rfl (by kernel_rfl) (by kernel_rfl) (by kernel_rfl) (by kernel_rfl) rfl rfl ?_
              refine GD_off 11 rfl (by kernel_rfl) (by kernel_rfl) (by kernel_rfl) (by kernel_rfl) rfl rfl ?_
              refine GD_off 12 rfl (by kernel_rfl) (by kernel_rfl) (by kernel_rfl) (by kernel_rfl) rfl rfl ?_
              refine GD_off 13 rfl (by kernel_rfl) (by kernel_rfl) (by kernel_rfl) (by kernel_rfl) rfl rfl ?_
              refine GD_off 14 rfl (by kernel_rfl) (by kernel_rfl) (by kernel_rfl) (by kernel_rfl) rfl rfl ?_
              refine GD_off 15 rfl (by kernel_rfl) (by kernel_rfl) (by kernel_rfl) (by kernel_rfl) rfl rfl ?_
              refine GD_off 16 rfl (by kernel_rfl) (by kernel_rfl) (by kernel_rfl) (by kernel_rfl) rfl rfl ?_
              refine GD_off 17 rfl (by kernel_rfl) (by kernel_rfl) (by kernel_rfl) (by kernel_rfl) rfl rfl ?_
              refine GD_pure 18 rfl (by kernel_rfl) (by kernel_rfl) (by kernel_rfl) (by kernel_rfl) rfl rfl rfl (qv fun wq hC => by exact r_pickF rfl) ?_
              refine GD_end (by kernel_rfl) (fun _ => rfl) ?_
              refine Tn (Cf rfl (Sk (Bn ?_)))
              exact join_end ⟨_, has rfl (has (congrArg (Value.int .i64) (by rw [hsc, if_neg (by unfold goodG; rw [decide_eq_false c86]; simp)]; rfl)) (has rfl (has rfl (has rfl (has rfl (has rfl rfl)))))), rfl⟩
          · rintro _ w2 ⟨τ3, rfl, rfl⟩
            refine Rg (Mv ?_)
            refine g_add rfl rfl (by omega) (h := ?_)
            refine As (Nl ?_)
            exact round_end (5 - (k + 1)) (by omega) ⟨k + 1, _, has rfl (has rfl (has rfl (has rfl (has rfl (has rfl (has rfl rfl)))))), by omega, rfl, K3, K5, rB HR (Bel.drew (w1 := w8) (Below.refl _ _)), hB.drew⟩
        · skip
          refine Nl (Tn (Cf rfl (Xi (Tx (Tx (Bs (Tn (Sq (Sq (Rg (Mv (Mv (Ln Try.underlying25 rfl ?_)))))))))))))
          obtain rfl : k = 5 := by omega
          have hmb := many_best hs2.1 gr 5
          refine g_v (r_gtrF rfl rfl (by omega)) (h := ?_)
          refine Nl (Tn (Cf rfl (Sk (Tn (Sq (Rg ?_))))))
          refine g_loadA rfl Try.underlying24 info24 (l := [.slice A ws.length c, .int .i64 girth, .int .i64 play]) (cellsAt K3) (h := ?_)
          refine g_alloc (z := .agg #[.slice none 0 0, .int .i64 0, .int .i64 0]) (by kernel_rfl) (h := fun g15 w15 N15 => ?_)
          have K15 := N15.at_
          have hne3 := N15.ne K3
          have hne5 := N15.ne K5
          have hg15 : w.heap.size ≤ g15 := Nat.le_trans hB.size N15.ge
          have K3 := kN K3 N15
          have K5 := kN K5 N15
          have hB := hB.new N15
          refine g_storeA rfl rfl info24 K15 rfl (by simp [Value.oneCell']) (h := fun w20 P20 => ?_)
          have K15 : w20.heap[g15]? = some (.cells #[.slice A ws.length c, .int .i64 girth, .int .i64 play] 24 (0, 0)) := P20.at_
          have K3 := kP K3 P20 hne3
          have K5 := kP K5 P20 hne5
          have hB := hB.put P20 hg15
          refine Nl (Tn (Sq (Rg (Fb f24_2 rfl (L1 Try.underlying3 (cellAt K3 rfl) rfl (Fb f24_2 rfl (L1 Try.underlying3 (cellAt K3 rfl) rfl ?_)))))))
          refine g_v (r_max rfl rfl rfl) (h := ?_)
          refine g_indexA Try.underlying57 info3 rfl rfl (by omega) (by omega) (add0 _ _) (h := ?_)
          refine L1 Try.underlying3 (cellAt K5 rfl) rfl ?_
          refine g_call he44 rfl (chosen_c play (max play 100) n0 (by omega) (by omega) _) (h := ?_)
          rintro e w115 ⟨rfl, hw115⟩
          have hw115 := hw115.symm
          subst hw115
          refine ⟨_, rfl, ?_⟩
          refine Fb f24_2 rfl ?_
          refine g_store1 rfl rfl info3 K15 (by simp) rfl (h := fun w21 P21 => ?_)
          have K15 : w21.heap[g15]? = some (.cells #[.slice A ws.length c, .int .i64 girth, .int .i64 (chosen play (max play 100) n0)] 24 (0, 0)) := P21.at_
          have hob : ∃ pl, chosen play (max play 100) n0 = pl := ⟨_, rfl⟩
          obtain ⟨pl, hpl2⟩ := hob
          have hpr := chosen_rg (low := play) (high := max play 100) (by omega) n0
          rw [hpl2] at hpr K15
          have K3 := kP K3 P21 hne3
          have K5 := kP K5 P21 hne5
          have hB := hB.put P21 hg15
          refine Nl (Tn ?_)
          refine GC_join (fun σ w' => ∃ (ws' : List Int) (A' : Option Addr) (c' : Nat) (τ : Nat → Value), σ = upd (upd τ 7 (.slice A23 ls.length ls.length)) 15 (.pointer (some ⟨g15, 0, none⟩)) ∧ w'.heap[g15]? = some (.cells #[.slice A' ws'.length c', .int .i64 girth, .int .i64 pl] 24 (0, 0)) ∧ (Kd.int .i64).C w' A' ws'.length ws' ∧ Wider ws ws' ∧ Bel w w') ?_ ?_
          · skip
            refine Sq (Rg (Fb f24_0 rfl (L1 Try.underlying22 (cellAt K3 rfl) rfl (Ln Try.underlying22 rfl ?_))))
            refine g_lss rfl rfl (h1 := fun c120 => ?_) (h2 := fun c120 => ?_)
            · skip
              refine Nl (Tn (Ct rfl ?_))
              have hBd : Bel w (w21.drewN 1) := hB.drew
              have hob : ∃ v, n1 % 500 = v ∧ (0 ≤ v ∧ v < 500) := ⟨_, rfl, Int.emod_nonneg n1 (by decide), Int.emod_lt_of_pos n1 (by decide)⟩
              obtain ⟨v5, hv5, hv5r⟩ := hob
              have K3 : (w21.drewN 1).heap[g3]? = some (.cells #[.slice A ws.length c, .int .i64 girth, .int .i64 play] 24 (0, 0)) := K3
              have K5 : (w21.drewN 1).heap[g5]? = some (.cells #[.int .i64 n0, .int .i64 n1] 57 (0, 0)) := K5
              have K15 : (w21.drewN 1).heap[g15]? = some (.cells #[.slice A ws.length c, .int .i64 girth, .int .i64 pl] 24 (0, 0)) := K15
              refine GD_start 12 [] (fun w' => w'.heap[g3]? = some (.cells #[.slice A ws.length c, .int .i64 girth, .int .i64 play] 24 (0, 0)) ∧ w'.heap[g5]? = some (.cells #[.int .i64 n0, .int .i64 n1] 57 (0, 0))) (by kernel_rfl) rfl ?_
              refine GD_pure 1 rfl (by kernel_rfl) (by kernel_rfl) (by kernel_rfl) (by kernel_rfl) rfl rfl rfl (qv fun wq hC => by exact r_fieldAddrB f24_0 rfl) ?_
              refine GD_take 2 rfl (by kernel_rfl) (by kernel_rfl) (by kernel_rfl) (by kernel_rfl) rfl rfl rfl (qv fun wq hC => by exact r_load1 rfl Try.underlying22 (cellAt hC.1 rfl)) ?_
              refine GD_pure 4 rfl (by kernel_rfl) (by kernel_rfl) (by kernel_rfl) (by kernel_rfl) rfl rfl rfl (qv fun wq hC => by exact r_indexA Try.underlying57 info3 rfl rfl (by omega) (by omega) (add0 _ _)) ?_
              refine GD_take 5 rfl (by kernel_rfl) (by kernel_rfl) (by kernel_rfl) (by kernel_rfl) rfl rfl rfl (qv fun wq hC => by exact r_load1 rfl Try.underlying3 (cellAt hC.2 rfl)) ?_
              refine GD_one 0 (by kernel_rfl) (fun _ => ⟨K3, K5⟩) ?_
              refine GO_lits rfl rfl rfl (lit22_0 _) rfl (fun g121 w121 N121 => ?_)
              have HR121 := litR (xs := []) N121 (by decide) w.heap.size (Nat.le_trans hBd.size N121.ge)
              have K3 := kN K3 N121
              have K5 := kN K5 N121
              have K15 := kN K15 N121
              have hBd := hBd.new N121
              refine GD_one 3 (by kernel_rfl) (fun _ => ⟨K3, K5⟩) ?_
              refine GO_appendRows (Kd.int .i64) rfl rfl rfl Try.underlying22 zi3 rfl (by decide) (by decide) (okp := fun _ => False) HR121 (Kd.C_below hw hBd) (fun x cs h => h) (fun _ h => h.elim) (fun _ _ => trivial) hBd.size (by simp only [List.length_nil]; omega) rfl rfl (fun v124 w124 HR124 hg124 _ => ?_)
              have K3 := kG K3 hg124 (ne_own HR121 K3 (by decide))
              have K5 := kG K5 hg124 (ne_own HR121 K5 (by decide))
              have K15 := kG K15 hg124 (ne_own HR121 K15 (by decide))
              have hBd := hBd.grown hg124 (Kd.R_base HR121)
              rw [List.nil_append] at HR124
              refine GD_take 6 rfl (by kernel_rfl) (by kernel_rfl) (by kernel_rfl) (by kernel_rfl) rfl rfl rfl (qc (fun wq hC => by exact r_call he41 rfl) (fun wq hC => by exact modk_c n1 500 v5 hv5 (by decide) (by decide) _)) ?_
              refine GD_pure 7 rfl (by kernel_rfl) (by kernel_rfl) (by kernel_rfl) (by kernel_rfl) rfl rfl rfl (qv fun wq hC => by exact r_add rfl rfl (by omega)) ?_
              refine GD_one 8 (by kernel_rfl) (fun _ => ⟨K3, K5⟩) ?_
              refine GO_lit1 rfl rfl rfl bs22 rfl rfl (fun g129 w129 N129 => ?_)
              have HR129 := rN HR124 N129
              have K3 := kN K3 N129
              have K5 := kN K5 N129
              have K15 := kN K15 N129
              have hBd := hBd.new N129
              refine GD_one 9 (by kernel_rfl) (fun _ => ⟨K3, K5⟩) ?_
              refine GO_appendR (Kd.int .i64) rfl rfl rfl Try.underlying22 zi3 rfl (by decide) HR129 (cs := [.int .i64 (1 + v5)]) N129.at_ (p := 1 + v5) (okp := fun _ => False) rfl (fun _ h => h.elim) (fun _ _ => trivial) hBd.size (by omega) (by simp [maxLen]; omega) rfl rfl (fun v130 w130 HR130 hg130 _ => ?_)
              have K3 := kG K3 hg130 (ne_own HR129 K3 (by decide))
              have K5 := kG K5 hg130 (ne_own HR129 K5 (by decide))
              have K15 := kG K15 hg130 (ne_own HR129 K15 (by decide))
              have hBd := hBd.grown hg130 (Kd.R_base HR129)
              have hob  := Kd.R_reads HR130
              obtain ⟨A', c', rfl, _, _⟩ := hob
              refine GD_pure 10 rfl (by kernel_rfl) (by kernel_rfl) (by kernel_rfl) (by kernel_rfl) rfl rfl rfl (qv fun wq hC => by exact r_fieldAddrB f24_0 rfl) ?_
              refine GD_one 11 (by kernel_rfl) (fun _ => ⟨K3, K5⟩) ?_
              refine GO_store1 rfl rfl rfl rfl info22 K15 (by simp) rfl (fun w24 P24 => ?_)
              have HR24 := R_apartP flatInt HR130 P24 K15 (by decide)
              have K3 := kP K3 P24 hne3
              have K5 := kP K5 P24 hne5
              have K15 : w24.heap[g15]? = some (.cells #[.slice A' (ws ++ [1 + v5]).length c', .int .i64 girth, .int .i64 pl] 24 (0, 0)) := P24.at_
              have hBd := hBd.put P24 hg15
              refine GD_end (by kernel_rfl) (fun _ => ⟨K3, K5⟩) ?_
              exact join_end ⟨ws ++ [1 + v5], A', c', _, has rfl (has rfl rfl), K15, (Kd.R_reads' HR24).2.2, wider_one (by omega) hpo.2.2.2 (by omega), hBd⟩
            · skip
              refine Nl (Tn (Cf rfl (Sk ?_)))
              exact join_end ⟨ws, A, c, _, has rfl (has rfl rfl), K15, Kd.C_below hw hB, ⟨hn, hpo.2.2.2, Nat.le_refl _, fun _ _ => rfl⟩, hB⟩
          · rintro _ w9 ⟨ws', A', c', τ4, rfl, K15, hw', hwd, hB⟩
            refine Sq (Rg ?_)
            refine g_loadA rfl Try.underlying24 info24 (l := [.slice A' ws'.length c', .int .i64 girth, .int .i64 pl]) (cellsAt K15) (h := ?_)
            refine g_call he20 rfl (setA_c A' c' ws' girth pl _ hw') (h := ?_)
            rintro e w134 ⟨ls2, A134, code2, rfl, hset2, _, hb134⟩
            refine ⟨_, rfl, ?_⟩
            have hB134 := hB.bel hb134
            have hpo2 : PileOk ws' girth pl := ⟨by have := hwd.1; omega, hgi, by omega, hwd.2.1⟩
            have hs3 : Best ws'.length (isBarrelL ws' girth pl) g0 ls2 ∧ (code2 = 4 ∨ code2 = 0) := by
              rcases hset2 with ⟨h, _⟩ | ⟨_, h1, h2⟩
              · exact absurd hpo2 h
              · exact ⟨h1, by rw [h2]; split <;> simp⟩
            have hle := wider_best hwd (by omega) hs2.1 hs3.1
            refine Mv (Xt rfl rfl (Xt rfl rfl (As (As (Nl (Tn (Sq (Rg (Mv ?_)))))))))
            refine g_eql rfl rfl (h1 := fun c138 => ?_) (h2 := fun c138 => ?_)
            · skip
              refine Mv (Of (Of (Pt rfl (Mv (Mv (Ln Try.underlying25 rfl (Mv (Ln Try.underlying25 rfl ?_))))))))
              refine g_v (r_geqT rfl rfl (by omega)) (h := ?_)
              refine Pt rfl (Mv ?_)
              refine g_call he21 rfl (works_c _) (h := ?_)
              rintro e w151 ⟨rfl, hb151⟩
              refine ⟨_, rfl, ?_⟩
              refine Pt rfl (As (Nl (Tn (Rt ?_))))
              exact ret1 rfl ⟨rfl, hB134.bel hb151⟩
            · skip
              refine Mv (Mv ?_)
              refine g_v (r_eqlT rfl rfl (by omega)) (h := ?_)
              refine Pf rfl (Mv (Mv (Ln Try.underlying25 rfl (Mv (Ln Try.underlying25 rfl ?_)))))
              refine g_v (r_geqT rfl rfl (by omega)) (h := ?_)
              refine Pt rfl (Mv ?_)
              refine g_call he21 rfl (works_c _) (h := ?_)
              rintro e w151 ⟨rfl, hb151⟩
              refine ⟨_, rfl, ?_⟩
              refine Pt rfl (As (Nl (Tn (Rt ?_))))
              exact ret1 rfl ⟨rfl, hB134.bel hb151⟩
  | false =>
    skip
    refine Nt rfl (Nl (Tn (Ct rfl (Sq (Rg ?_)))))
    refine g_call he21 rfl (works_c _) (h := ?_)
    rintro e w20 ⟨rfl, hb20⟩
    refine ⟨_, rfl, ?_⟩
    refine As (Nl (Tn (Rt (Tr ?_))))
    exact ret1 rfl ⟨rfl, hB.bel hb20⟩
end Go.Proofs.B
