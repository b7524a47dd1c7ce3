/- barrel: the law BarrelReached, walked. -/
import Derived.Test.YtpfoleggapngoaaB28
import Derived.Test.YtpfoleggapngoaaB45
set_option linter.unusedVariables false
set_option linter.unusedSimpArgs false
set_option maxRecDepth 10000
namespace Go.Proofs.B
open Go Go.RowKit Go.Proofs Go.Proofs.G Go.Proofs.F Go.Proofs.YtpfoleggapngoaaW.PrintWords
theorem modq (n : Int) (m : Nat) (hm : 0 < m) : ∃ q : Nat, n % (m : Int) = q ∧ q < m := by
  have h1 := Int.emod_nonneg n (show (m : Int) ≠ 0 by omega)
  have h2 := Int.emod_lt_of_pos n (show 0 < (m : Int) by omega)
  exact ⟨(n % m).toNat, by omega, by omega⟩
theorem modq_c (n m r : Int) (h : n % m = r) (hm : 0 < m) (hm2 : m ≤ 9223372036854775807) (w : World) : Calls Try.prog 41 #[.int .i64 n, .int .i64 m] w fun e w' => e = .returned (.int .i64 r) ∧ w' = w := by
  subst h; exact mod_c n m hm hm2 w
theorem wholeT_c (n : Int) (A : Option Addr) (c : Nat) (l : List S76) (w : World) (hs : k76.C w A l.length l) (h : bookOk n l = true) :
    Calls Try.prog 49 #[.agg #[.int .i64 n, .slice A l.length c]] w fun e w' => e = .returned (.bool true) ∧ Bel w w' := by
  have := whole_c n A c l w hs
  rw [h] at this; exact this
theorem BAns.nz {n : Int} {l : List S76} {code : Int} {out : List S68} (h : BAns n l code out) (h0 : code ≠ 0) : out = [] := by
  rcases h with ⟨_, _, h⟩ | ⟨_, _, _, h⟩ | ⟨_, _, h, _⟩
  · exact h
  · exact h
  · exact absurd h h0
theorem BAns.z {n : Int} {l : List S76} {code : Int} {out : List S68} (h : BAns n l code out) (h0 : code = 0) : bookOk n l = true ∧ (∃ cs, Bal n.toNat l cs) := by
  rcases h with ⟨_, h, _⟩ | ⟨_, _, h, _⟩ | ⟨h1, h2, _⟩
  · omega
  · omega
  · exact ⟨h1, h2⟩
theorem r_neq68s {σ : Nat → Value} {w : World} {dst : Option Nat} {ty t' : TypeId} {pos : String} {after : Array Edge} {gd : Option (Nat × Bool)} {x y : Operand} {a b : S68} (hx : ev σ x = .agg #[.int .i64 a.f0, .int .i64 a.f1]) (hy : ev σ y = .agg #[.int .i64 b.f0, .int .i64 b.f1]) (h : a.f0 = b.f0 ∧ a.f1 = b.f1) :
    (execOp (ev σ) ⟨dst, .binOp .neq 68 x y t', ty, pos, after, gd⟩).run Try.prog w = .ok (.value (.bool false)) w := by
  have := r_neq68 (w := w) (dst := dst) (ty := ty) (t' := t') (pos := pos) (after := after) (gd := gd) hx hy
  rw [decide_eq_true h] at this
  exact this
/-- The number of a move fixed within its ends: what the others' ends are. -/
theorem fix_ends {n : Int} {l : List S76} {k : Nat} (hk : k < l.length) {v : Int} (hv : (mv l k).f2.f0 ≤ v ∧ v ≤ (mv l k).f2.f1) {i : Nat} {a b a' b' : Int} (h1 : Mn n.toNat l i a) (h2 : Mx n.toNat l i b) (h3 : Mn n.toNat (setM l k ⟨v, v⟩) i a') (h4 : Mx n.toNat (setM l k ⟨v, v⟩) i b') : a ≤ a' ∧ b' ≤ b ∧ (i = k → a' = v ∧ b' = v) := by
  obtain ⟨⟨cs, c1, c2⟩, _⟩ := h3
  obtain ⟨⟨ds, d1, d2⟩, _⟩ := h4
  have e1 := fix_of hk hv c1
  have e2 := fix_of hk hv d1
  have := h1.2 cs e1.1
  have := h2.2 ds e2.1
  refine ⟨by omega, by omega, fun e => ?_⟩
  subst e
  exact ⟨by rw [← c2, e1.2], by rw [← d2, e2.2]⟩
theorem spanAt76 {w w' : World} {ad : Addr} {o : Nat} {z : S76} (h : ∀ j u, (enc76 z)[j]? = some u → w.cell? ((ad.add o).add j) = some u) (hB : Bel w w') : ∀ i u, [Value.int .i64 z.f2.f0, Value.int .i64 z.f2.f1][i]? = some u → w'.cell? (((ad.add o).add 2).add i) = some u := by
  intro i u hu
  rw [add_add' _ 2 i]
  match i, hu with
  | 0, hu => exact hB.cellk (h 2 u hu)
  | 1, hu => exact hB.cellk (h 3 u hu)
  | i + 2, hu => simp at hu
theorem spanAtB {w w' : World} {ad : Addr} {x : S68} (h : ∀ j v, [Value.int .i64 x.f0, Value.int .i64 x.f1][j]? = some v → w.cell? (ad.add j) = some v) (hB : Bel w w') : ∀ j v, [Value.int .i64 x.f0, Value.int .i64 x.f1][j]? = some v → w'.cell? (ad.add j) = some v := fun j v hv => hB.cellk (h j v hv)
set_option maxHeartbeats 40000000 in
theorem barrelReached_c (n : Int) (A : Option Addr) (c : Nat) (l : List S76) (move : Int) (w : World) (hs : k76.C w A l.length l) (_ : (Lit.int IntKind.i64 move).wf = true) :
    Calls Try.prog 11 #[.agg #[.int .i64 n, .slice A l.length c], .int .i64 move] w fun e w' => e = .returned (.bool true) ∧ Bel w w' := by
  refine G_enter (l := [.agg #[.int .i64 n, .slice A l.length c], .int .i64 move]) Try.func11 rfl rfl ?_
  refine Sq (Rg ?_)
  refine g_box rfl (h := fun g2 w2 N2 => ?_)
  have K2 := N2.at_
  have hB := Bel.of_new N2
  have K2 : w2.heap[g2]? = some (.cells #[.int .i64 n, .slice A l.length c] 49 (0, 0)) := K2
  refine As (Nl (Tn (Sq (Rg ?_))))
  refine g_loadA rfl Try.underlying49 info49 (l := [.int .i64 n, .slice A l.length c]) (cellsAt K2) (h := ?_)
  refine g_call he37 rfl (balanceA_c n l A c _ (Kd.C_below hs hB)) (h := ?_)
  rintro e w20 ⟨A20, out, code, rfl, hC20, hans, hb20⟩
  refine ⟨_, rfl, ?_⟩
  have hB := hB.bel hb20
  have K2 := kB K2 hb20
  have hhz := hans.z
  have hnz := hans.nz
  refine Mv (Xt rfl rfl (Xt rfl rfl (As (As (Nl (Tn (Sq (Sq (Rg (Mv ?_))))))))))
  refine g_neq rfl rfl (h1 := fun c24 => ?_) (h2 := fun c24 => ?_)
  · skip
    have hem := hnz c24
    refine Mv (Of (Of (Of (Pt rfl (Mv (Of (Of (Of (Of (Of (Of (Pt rfl (Nl (Tn (Ct rfl (Sq (Rg (Mv ?_))))))))))))))))))
    refine g_v (r_neqT rfl rfl (c24)) (h := ?_)
    refine Mv (Mv (Ln Try.underlying52 rfl ?_))
    refine g_v (r_eqlT rfl rfl (by rw [hem]; rfl)) (h := ?_)
    refine Pt rfl (Mv ?_)
    refine g_call he21 rfl (works_c _) (h := ?_)
    rintro e w46 ⟨rfl, hb46⟩
    refine ⟨_, rfl, ?_⟩
    have hB := hB.bel hb46
    refine Pt rfl (As (Nl (Tn (Rt (Tr ?_)))))
    exact ret1 rfl ⟨rfl, hB⟩
  · skip
    have hz := hhz c24
    have hbo := hz.1
    have hok := hans.ok hz.1 hz.2
    have hol := hok.2.1
    have hnl := book_n hbo
    refine Mv ?_
    refine g_loadA rfl Try.underlying49 info49 (l := [.int .i64 n, .slice A l.length c]) (cellsAt K2) (h := ?_)
    refine g_call he49 rfl (wholeT_c n A c l _ (Kd.C_below hs hB) hbo) (h := ?_)
    rintro e w27 ⟨rfl, hb27⟩
    refine ⟨_, rfl, ?_⟩
    have hB := hB.bel hb27
    have K2 := kB K2 hb27
    have hC27 := Kd.C_below hC20 hb27
    refine Nt rfl (Pf rfl (Mv (Mv (Ln Try.underlying52 rfl (Fb f49_1 rfl (L1 Try.underlying47 (cellAt K2 rfl) rfl (Ln Try.underlying47 rfl ?_)))))))
    refine g_v (r_neqF rfl rfl (by omega)) (h := ?_)
    refine Pf rfl (Nl (Tn (Cf rfl (Sk (Tn (Sq (Rg (Mv (Mv (Ln Try.underlying52 rfl ?_))))))))))
    have hob  := modq move out.length (by omega)
    obtain ⟨k, hk, hkl⟩ := hob
    refine g_call he41 rfl (modq_c move out.length k hk (by omega) (by omega) _) (h := ?_)
    rintro e w51 ⟨rfl, rfl⟩
    refine ⟨_, rfl, ?_⟩
    have hkl' : k < l.length := by omega
    have hmk := book_move hbo k hkl'
    have hmn := (hok.2.2 k hkl').1
    have hmx := (hok.2.2 k hkl').2
    have hob : ∃ lo, (rd_T68 out (k : Nat)).f0 = lo := ⟨_, rfl⟩
    obtain ⟨lo, hlo⟩ := hob
    have hob : ∃ hi, (rd_T68 out (k : Nat)).f1 = hi := ⟨_, rfl⟩
    obtain ⟨hi, hhi⟩ := hob
    rw [hlo] at hmn
    rw [hhi] at hmx
    have hlb := mn_bd hbo hkl' hmn
    have hhb := mx_bd hbo hkl' hmx
    have hlh : lo ≤ hi := by obtain ⟨⟨cs, c1, c2⟩, _⟩ := hmn; have := hmx.2 cs c1; omega
    refine As (Nl (Tn ?_))
    refine GC_join (fun σ w' => ∃ (g8 g9 : Nat) (τ : Nat → Value), σ = upd (upd (upd (upd (upd (upd τ 2 (.pointer (some ⟨g2, 0, none⟩))) 5 (.slice A20 out.length out.length)) 6 (.int .i64 code)) 7 (.int .i64 k)) 8 (.pointer (some ⟨g8, 0, none⟩))) 9 (.pointer (some ⟨g9, 0, none⟩)) ∧ w'.heap[g8]? = some (.cells #[.int .i64 lo, .int .i64 hi] 68 (0, 0)) ∧ w'.heap[g9]? = some (.cells #[.int .i64 (mv l k).f2.f0, .int .i64 (mv l k).f2.f1] 68 (0, 0)) ∧ Bel w51 w') ?_ ?_
    · skip
      have hBd : Bel w51 (w51.drewN 1) := Bel.drew (Below.refl _ _)
      have K2d := kB K2 hBd
      have hob  := at76 hs hB k hkl'
      obtain ⟨ad, hA, h61⟩ := hob
      rw [← mv_get l k hkl'] at h61
      have hob  := at68 hC27 (Below.refl _ _) k (by omega)
      obtain ⟨ad2, hA2, h55⟩ := hob
      have e55 : sp68 out k = ⟨lo, hi⟩ := by rw [← hlo, ← hhi]; rfl
      rw [e55] at h55
      refine GD_start 14 [] (fun w' => Bel w51 w') (by kernel_rfl) rfl ?_
      refine GD_pure 0 rfl (by kernel_rfl) (by kernel_rfl) (by kernel_rfl) (by kernel_rfl) rfl rfl rfl (qv fun wq hC => by exact r_move) ?_
      refine GD_pure 1 rfl (by kernel_rfl) (by kernel_rfl) (by kernel_rfl) (by kernel_rfl) rfl rfl rfl (qv fun wq hC => by exact r_move) ?_
      refine GD_pure 2 rfl (by kernel_rfl) (by kernel_rfl) (by kernel_rfl) (by kernel_rfl) rfl rfl rfl (qv fun wq hC => by exact r_indexH Try.underlying52 info68 hA2 rfl rfl (by omega) (by omega) rfl) ?_
      refine GD_take 3 rfl (by kernel_rfl) (by kernel_rfl) (by kernel_rfl) (by kernel_rfl) rfl rfl rfl (qv fun wq hC => by exact r_loadA rfl Try.underlying68 info68 (l := [.int .i64 lo, .int .i64 hi]) (spanAtB h55 hC)) ?_
      refine GD_pure 4 rfl (by kernel_rfl) (by kernel_rfl) (by kernel_rfl) (by kernel_rfl) rfl rfl rfl (qv fun wq hC => by exact r_fieldAddrB f49_1 rfl) ?_
      refine GD_take 5 rfl (by kernel_rfl) (by kernel_rfl) (by kernel_rfl) (by kernel_rfl) rfl rfl rfl (qv fun wq hC => by exact r_load1 rfl Try.underlying47 (cellAt (kB K2 hC) rfl)) ?_
      refine GD_pure 6 rfl (by kernel_rfl) (by kernel_rfl) (by kernel_rfl) (by kernel_rfl) rfl rfl rfl (qv fun wq hC => by exact r_move) ?_
      refine GD_pure 7 rfl (by kernel_rfl) (by kernel_rfl) (by kernel_rfl) (by kernel_rfl) rfl rfl rfl (qv fun wq hC => by exact r_indexH Try.underlying47 info76 hA rfl rfl (by omega) (by omega) rfl) ?_
      refine GD_pure 8 rfl (by kernel_rfl) (by kernel_rfl) (by kernel_rfl) (by kernel_rfl) rfl rfl rfl (qv fun wq hC => by exact r_fieldAddr f76_2 rfl rfl) ?_
      refine GD_take 9 rfl (by kernel_rfl) (by kernel_rfl) (by kernel_rfl) (by kernel_rfl) rfl rfl rfl (qv fun wq hC => by exact r_loadA rfl Try.underlying68 info68 (l := [.int .i64 (mv l k).f2.f0, .int .i64 (mv l k).f2.f1]) (spanAt76 h61 hC)) ?_
      refine GD_two 10 11 (by kernel_rfl) (fun _ => hBd) ?_ ?_
      · skip
        refine GO_alloc (z := .agg #[.int .i64 0, .int .i64 0]) rfl rfl rfl (by kernel_rfl) (fun g8 w8 N8 => ?_)
        try have h89 : g8 ≠ g9 := N8.ne' K9
        try have K9 := kN K9 N8
        have hg8 := Nat.le_trans hBd.size N8.ge
        have hBd := Bel.new hBd N8
        have K8 := N8.at_
        refine GD_one 11 (by kernel_rfl) (fun _ => hBd) ?_
        refine GO_alloc (z := .agg #[.int .i64 0, .int .i64 0]) rfl rfl rfl (by kernel_rfl) (fun g9 w9 N9 => ?_)
        try have h89 : g8 ≠ g9 := N9.ne K8
        try have K8 := kN K8 N9
        have hg9 := Nat.le_trans hBd.size N9.ge
        have hBd := Bel.new hBd N9
        have K9 := N9.at_
        refine GD_one 12 (by kernel_rfl) (fun _ => hBd) ?_
        refine GO_storeA rfl rfl rfl rfl info68 K8 rfl (by simp [Value.oneCell']) (fun w12 P12 => ?_)
        try have K9 := kP K9 P12 (Ne.symm h89)
        have K8 : w12.heap[g8]? = some (.cells #[.int .i64 lo, .int .i64 hi] 68 (0, 0)) := P12.at_
        have hBd := Bel.put hBd P12 hg8
        refine GD_one 13 (by kernel_rfl) (fun _ => hBd) ?_
        refine GO_storeA rfl rfl rfl rfl info68 K9 rfl (by simp [Value.oneCell']) (fun w13 P13 => ?_)
        have K8 := kP K8 P13 h89
        have K9 : w13.heap[g9]? = some (.cells #[.int .i64 (mv l k).f2.f0, .int .i64 (mv l k).f2.f1] 68 (0, 0)) := P13.at_
        have hBd := Bel.put hBd P13 hg9
        refine GD_end (by kernel_rfl) (fun _ => hBd) ?_
        exact join_end ⟨g8, g9, _, has rfl (has rfl (has rfl (has rfl (has rfl (has rfl rfl))))), K8, K9, hBd⟩
      · skip
        refine GO_alloc (z := .agg #[.int .i64 0, .int .i64 0]) rfl rfl rfl (by kernel_rfl) (fun g9 w9 N9 => ?_)
        try have h89 : g8 ≠ g9 := N9.ne K8
        try have K8 := kN K8 N9
        have hg9 := Nat.le_trans hBd.size N9.ge
        have hBd := Bel.new hBd N9
        have K9 := N9.at_
        refine GD_one 10 (by kernel_rfl) (fun _ => hBd) ?_
        refine GO_alloc (z := .agg #[.int .i64 0, .int .i64 0]) rfl rfl rfl (by kernel_rfl) (fun g8 w8 N8 => ?_)
        try have h89 : g8 ≠ g9 := N8.ne' K9
        try have K9 := kN K9 N8
        have hg8 := Nat.le_trans hBd.size N8.ge
        have hBd := Bel.new hBd N8
        have K8 := N8.at_
        refine GD_one 12 (by kernel_rfl) (fun _ => hBd) ?_
        refine GO_storeA rfl rfl rfl rfl info68 K8 rfl (by simp [Value.oneCell']) (fun w12 P12 => ?_)
        try have K9 := kP K9 P12 (Ne.symm h89)
        have K8 : w12.heap[g8]? = some (.cells #[.int .i64 lo, .int .i64 hi] 68 (0, 0)) := P12.at_
        have hBd := Bel.put hBd P12 hg8
        refine GD_one 13 (by kernel_rfl) (fun _ => hBd) ?_
        refine GO_storeA rfl rfl rfl rfl info68 K9 rfl (by simp [Value.oneCell']) (fun w13 P13 => ?_)
        have K8 := kP K8 P13 h89
        have K9 : w13.heap[g9]? = some (.cells #[.int .i64 (mv l k).f2.f0, .int .i64 (mv l k).f2.f1] 68 (0, 0)) := P13.at_
        have hBd := Bel.put hBd P13 hg9
        refine GD_end (by kernel_rfl) (fun _ => hBd) ?_
        exact join_end ⟨g8, g9, _, has rfl (has rfl (has rfl (has rfl (has rfl (has rfl rfl))))), K8, K9, hBd⟩
    · rintro _ wj ⟨g8, g9, τ, rfl, K8, K9, hBj⟩
      have hB := hB.bel hBj
      have K2 := kB K2 hBj
      have hCj := Kd.C_below hC27 hBj
      refine Sq (Sq (Rg (Fb f68_0 rfl (L1 Try.underlying3 (cellAt K8 rfl) rfl (Fb f68_1 rfl (L1 Try.underlying3 (cellAt K8 rfl) rfl ?_))))))
      refine g_v (r_gtrF rfl rfl (by omega)) (h := ?_)
      refine Mv (Fb f68_0 rfl (L1 Try.underlying3 (cellAt K8 rfl) rfl (Fb f68_0 rfl (L1 Try.underlying3 (cellAt K9 rfl) rfl ?_))))
      refine g_v (r_lssF rfl rfl (by omega)) (h := ?_)
      refine Pf rfl (Mv (Fb f68_1 rfl (L1 Try.underlying3 (cellAt K8 rfl) rfl (Fb f68_1 rfl (L1 Try.underlying3 (cellAt K9 rfl) rfl ?_)))))
      refine g_v (r_gtrF rfl rfl (by omega)) (h := ?_)
      refine Pf rfl (Nl (Tn (Cf rfl (Sk (Tn (Sq (Rg ?_)))))))
      refine g_loadA rfl Try.underlying49 info49 (l := [.int .i64 n, .slice A l.length c]) (cellsAt K2) (h := ?_)
      refine Mv (Fb f68_0 rfl (L1 Try.underlying3 (cellAt K8 rfl) rfl ?_))
      refine g_call he50 rfl (fixed_c n A c l k lo _ (Kd.C_below hs hB) hkl' (by omega)) (h := ?_)
      rintro e w86 ⟨A86, c86, rfl, hC86, hb86⟩
      refine ⟨_, rfl, ?_⟩
      have hB := hB.bel hb86
      have K2 := kB K2 hb86
      have K8 := kB K8 hb86
      have K9 := kB K9 hb86
      have hCj := Kd.C_below hCj hb86
      have hbo1 : bookOk n (setM l k ⟨lo, lo⟩) = true := book_setM hbo hkl' ⟨by simp only; omega, Int.le_refl _, by simp only; omega⟩
      refine g_call he37 rfl (balanceA_c n (setM l k ⟨lo, lo⟩) A86 c86 _ hC86) (h := ?_)
      rintro e w87 ⟨A87, out1, code1, rfl, hC87, hans1, hb87⟩
      refine ⟨_, rfl, ?_⟩
      have hB := hB.bel hb87
      have K2 := kB K2 hb87
      have K8 := kB K8 hb87
      have K9 := kB K9 hb87
      have hCj := Kd.C_below hCj hb87
      have hok1 := hans1.ok hbo1 (fix_ex hkl' hmn.1)
      rw [setM_len] at hok1
      refine Mv (Xt rfl rfl (Xt rfl rfl (As (As (Nl (Tn (Sq (Rg ?_))))))))
      refine g_loadA rfl Try.underlying49 info49 (l := [.int .i64 n, .slice A l.length c]) (cellsAt K2) (h := ?_)
      refine Mv (Fb f68_1 rfl (L1 Try.underlying3 (cellAt K8 rfl) rfl ?_))
      refine g_call he50 rfl (fixed_c n A c l k hi _ (Kd.C_below hs hB) hkl' (by omega)) (h := ?_)
      rintro e w95 ⟨A95, c95, rfl, hC95, hb95⟩
      refine ⟨_, rfl, ?_⟩
      have hB := hB.bel hb95
      have K2 := kB K2 hb95
      have K8 := kB K8 hb95
      have K9 := kB K9 hb95
      have hCj := Kd.C_below hCj hb95
      have hC87 := Kd.C_below hC87 hb95
      have hbo2 : bookOk n (setM l k ⟨hi, hi⟩) = true := book_setM hbo hkl' ⟨by simp only; omega, Int.le_refl _, by simp only; omega⟩
      refine g_call he37 rfl (balanceA_c n (setM l k ⟨hi, hi⟩) A95 c95 _ hC95) (h := ?_)
      rintro e w96 ⟨A96, out2, code2, rfl, hC96, hans2, hb96⟩
      refine ⟨_, rfl, ?_⟩
      have hB := hB.bel hb96
      have K2 := kB K2 hb96
      have K8 := kB K8 hb96
      have K9 := kB K9 hb96
      have hCj := Kd.C_below hCj hb96
      have hC87 := Kd.C_below hC87 hb96
      have hok2 := hans2.ok hbo2 (fix_ex hkl' hmx.1)
      rw [setM_len] at hok2
      refine Mv (Xt rfl rfl (Xt rfl rfl (As (As (Nl (Tn (Sq (Sq ?_))))))))
      have hBd : Bel w96 (w96.drewN 1) := Bel.drew (Below.refl _ _)
      have hk1 := fix_ends hkl' hlb (hok.2.2 k hkl').1 (hok.2.2 k hkl').2 (hok1.2.2 k hkl').1 (hok1.2.2 k hkl').2
      have hk2 := fix_ends hkl' hhb (hok.2.2 k hkl').1 (hok.2.2 k hkl').2 (hok2.2.2 k hkl').1 (hok2.2.2 k hkl').2
      have hob  := at68 hC87 (Below.refl _ _) k (by omega)
      obtain ⟨ad3, hA3, h123⟩ := hob
      have hob  := at68 hC96 (Below.refl _ _) k (by omega)
      obtain ⟨ad4, hA4, h135⟩ := hob
      refine GD_start 44 [] (fun w' => Bel w96 w') (by kernel_rfl) rfl ?_
      refine GD_pure 0 rfl (by kernel_rfl) (by kernel_rfl) (by kernel_rfl) (by kernel_rfl) rfl rfl rfl (qv fun wq hC => by exact r_move) ?_
      refine GD_pure 1 rfl (by kernel_rfl) (by kernel_rfl) (by kernel_rfl) (by kernel_rfl) rfl rfl rfl (qv fun wq hC => by exact r_neqF rfl rfl (by omega)) ?_
      refine GD_pure 2 rfl (by kernel_rfl) (by kernel_rfl) (by kernel_rfl) (by kernel_rfl) rfl rfl rfl (qv fun wq hC => by exact r_move) ?_
      refine GD_pure 3 rfl (by kernel_rfl) (by kernel_rfl) (by kernel_rfl) (by kernel_rfl) rfl rfl rfl (qv fun wq hC => by exact r_move) ?_
      refine GD_pure 4 rfl (by kernel_rfl) (by kernel_rfl) (by kernel_rfl) (by kernel_rfl) rfl rfl rfl (qv fun wq hC => by exact r_neqF rfl rfl (by omega)) ?_
      refine GD_pure 5 rfl (by kernel_rfl) (by kernel_rfl) (by kernel_rfl) (by kernel_rfl) rfl rfl rfl (qv fun wq hC => by exact r_pickF rfl) ?_
      refine GD_pure 6 rfl (by kernel_rfl) (by kernel_rfl) (by kernel_rfl) (by kernel_rfl) rfl rfl rfl (qv fun wq hC => by exact r_move) ?_
      refine GD_pure 7 rfl (by kernel_rfl) (by kernel_rfl) (by kernel_rfl) (by kernel_rfl) rfl rfl rfl (qv fun wq hC => by exact r_move) ?_
      refine GD_pure 8 rfl (by kernel_rfl) (by kernel_rfl) (by kernel_rfl) (by kernel_rfl) rfl rfl rfl (qv fun wq hC => by exact r_len Try.underlying52 rfl) ?_
      refine GD_pure 9 rfl (by kernel_rfl) (by kernel_rfl) (by kernel_rfl) (by kernel_rfl) rfl rfl rfl (qv fun wq hC => by exact r_move) ?_
      refine GD_pure 10 rfl (by kernel_rfl) (by kernel_rfl) (by kernel_rfl) (by kernel_rfl) rfl rfl rfl (qv fun wq hC => by exact r_len Try.underlying52 rfl) ?_
      refine GD_pure 11 rfl (by kernel_rfl) (by kernel_rfl) (by kernel_rfl) (by kernel_rfl) rfl rfl rfl (qv fun wq hC => by exact r_neqF rfl rfl (by omega)) ?_
      refine GD_pure 12 rfl (by kernel_rfl) (by kernel_rfl) (by kernel_rfl) (by kernel_rfl) rfl rfl rfl (qv fun wq hC => by exact r_pickF rfl) ?_
      refine GD_pure 13 rfl (by kernel_rfl) (by kernel_rfl) (by kernel_rfl) (by kernel_rfl) rfl rfl rfl (qv fun wq hC => by exact r_move) ?_
      refine GD_pure 14 rfl (by kernel_rfl) (by kernel_rfl) (by kernel_rfl) (by kernel_rfl) rfl rfl rfl (qv fun wq hC => by exact r_move) ?_
      refine GD_pure 15 rfl (by kernel_rfl) (by kernel_rfl) (by kernel_rfl) (by kernel_rfl) rfl rfl rfl (qv fun wq hC => by exact r_len Try.underlying52 rfl) ?_
      refine GD_pure 16 rfl (by kernel_rfl) (by kernel_rfl) (by kernel_rfl) (by kernel_rfl) rfl rfl rfl (qv fun wq hC => by exact r_move) ?_
      refine GD_pure 17 rfl (by kernel_rfl) (by kernel_rfl) (by kernel_rfl) (by kernel_rfl) rfl rfl rfl (qv fun wq hC => by exact r_len Try.underlying52 rfl) ?_
      refine GD_pure 18 rfl (by kernel_rfl) (by kernel_rfl) (by kernel_rfl) (by kernel_rfl) rfl rfl rfl (qv fun wq hC => by exact r_neqF rfl rfl (by omega)) ?_
      refine GD_pure 19 rfl (by kernel_rfl) (by kernel_rfl) (by kernel_rfl) (by kernel_rfl) rfl rfl rfl (qv fun wq hC => by exact r_pickF rfl) ?_
      refine GD_pure 20 rfl (by kernel_rfl) (by kernel_rfl) (by kernel_rfl) (by kernel_rfl) rfl rfl rfl (qv fun wq hC => by exact r_move) ?_
      refine GD_pure 21 rfl (by kernel_rfl) (by kernel_rfl) (by kernel_rfl) (by kernel_rfl) rfl rfl rfl (qv fun wq hC => by exact r_move) ?_
      refine GD_pure 22 rfl (by kernel_rfl) (by kernel_rfl) (by kernel_rfl) (by kernel_rfl) rfl rfl rfl (qv fun wq hC => by exact r_move) ?_
      refine GD_pure 23 rfl (by kernel_rfl) (by kernel_rfl) (by kernel_rfl) (by kernel_rfl) rfl rfl rfl (qv fun wq hC => by exact r_indexH Try.underlying52 info68 hA3 rfl rfl (by omega) (by omega) rfl) ?_
      refine GD_take 24 rfl (by kernel_rfl) (by kernel_rfl) (by kernel_rfl) (by kernel_rfl) rfl rfl rfl (qv fun wq hC => by exact r_loadA rfl Try.underlying68 info68 (l := [.int .i64 (sp68 out1 k).f0, .int .i64 (sp68 out1 k).f1]) (spanAtB h123 hC)) ?_
      refine GD_pure 25 rfl (by kernel_rfl) (by kernel_rfl) (by kernel_rfl) (by kernel_rfl) rfl rfl rfl (qv fun wq hC => by exact r_fieldAddrB f68_0 rfl) ?_
      refine GD_take 26 rfl (by kernel_rfl) (by kernel_rfl) (by kernel_rfl) (by kernel_rfl) rfl rfl rfl (qv fun wq hC => by exact r_load1 rfl Try.underlying3 (cellAt (kB K8 hC) rfl)) ?_
      refine GD_pure 27 rfl (by kernel_rfl) (by kernel_rfl) (by kernel_rfl) (by kernel_rfl) rfl rfl rfl (qv fun wq hC => by exact r_fieldAddrB f68_0 rfl) ?_
      refine GD_take 28 rfl (by kernel_rfl) (by kernel_rfl) (by kernel_rfl) (by kernel_rfl) rfl rfl rfl (qv fun wq hC => by exact r_load1 rfl Try.underlying3 (cellAt (kB K8 hC) rfl)) ?_
      refine GD_one 29 (by kernel_rfl) (fun _ => hBd) ?_
      refine GO_call rfl rfl rfl he51 rfl (to_c lo lo _) (fun e w128 he => ?_)
      obtain ⟨rfl, hb128⟩ := he
      refine ⟨_, rfl, ?_⟩
      have hBd := hBd.bel hb128
      refine GD_pure 30 rfl (by kernel_rfl) (by kernel_rfl) (by kernel_rfl) (by kernel_rfl) rfl rfl rfl (qv fun wq hC => by exact r_neq68s (a := sp68 out1 k) (b := ⟨lo, lo⟩) rfl rfl (hk1.2.2 rfl)) ?_
      refine GD_pure 31 rfl (by kernel_rfl) (by kernel_rfl) (by kernel_rfl) (by kernel_rfl) rfl rfl rfl (qv fun wq hC => by exact r_pickF rfl) ?_
      refine GD_pure 32 rfl (by kernel_rfl) (by kernel_rfl) (by kernel_rfl) (by kernel_rfl) rfl rfl rfl (qv fun wq hC => by exact r_move) ?_
      refine GD_pure 33 rfl (by kernel_rfl) (by kernel_rfl) (by kernel_rfl) (by kernel_rfl) rfl rfl rfl (qv fun wq hC => by exact r_move) ?_
      refine GD_pure 34 rfl (by kernel_rfl) (by kernel_rfl) (by kernel_rfl) (by kernel_rfl) rfl rfl rfl (qv fun wq hC => by exact r_move) ?_
      refine GD_pure 35 rfl (by kernel_rfl) (by kernel_rfl) (by kernel_rfl) (by kernel_rfl) rfl rfl rfl (qv fun wq hC => by exact r_indexH Try.underlying52 info68 hA4 rfl rfl (by omega) (by omega) rfl) ?_
      refine GD_take 36 rfl (by kernel_rfl) (by kernel_rfl) (by kernel_rfl) (by kernel_rfl) rfl rfl rfl (qv fun wq hC => by exact r_loadA rfl Try.underlying68 info68 (l := [.int .i64 (sp68 out2 k).f0, .int .i64 (sp68 out2 k).f1]) (spanAtB h135 hC)) ?_
      refine GD_pure 37 rfl (by kernel_rfl) (by kernel_rfl) (by kernel_rfl) (by kernel_rfl) rfl rfl rfl (qv fun wq hC => by exact r_fieldAddrB f68_1 rfl) ?_
      refine GD_take 38 rfl (by kernel_rfl) (by kernel_rfl) (by kernel_rfl) (by kernel_rfl) rfl rfl rfl (qv fun wq hC => by exact r_load1 rfl Try.underlying3 (cellAt (kB K8 hC) rfl)) ?_
      refine GD_pure 39 rfl (by kernel_rfl) (by kernel_rfl) (by kernel_rfl) (by kernel_rfl) rfl rfl rfl (qv fun wq hC => by exact r_fieldAddrB f68_1 rfl) ?_
      refine GD_take 40 rfl (by kernel_rfl) (by kernel_rfl) (by kernel_rfl) (by kernel_rfl) rfl rfl rfl (qv fun wq hC => by exact r_load1 rfl Try.underlying3 (cellAt (kB K8 hC) rfl)) ?_
      refine GD_one 41 (by kernel_rfl) (fun _ => hBd) ?_
      refine GO_call rfl rfl rfl he51 rfl (to_c hi hi _) (fun e w140 he => ?_)
      obtain ⟨rfl, hb140⟩ := he
      refine ⟨_, rfl, ?_⟩
      have hBd := hBd.bel hb140
      refine GD_pure 42 rfl (by kernel_rfl) (by kernel_rfl) (by kernel_rfl) (by kernel_rfl) rfl rfl rfl (qv fun wq hC => by exact r_neq68s (a := sp68 out2 k) (b := ⟨hi, hi⟩) rfl rfl (hk2.2.2 rfl)) ?_
      refine GD_pure 43 rfl (by kernel_rfl) (by kernel_rfl) (by kernel_rfl) (by kernel_rfl) rfl rfl rfl (qv fun wq hC => by exact r_pickF rfl) ?_
      refine GD_end (by kernel_rfl) (fun _ => hBd) ?_
      refine Tn (Cf rfl (Sk (Tn (Sq (Sq (Rg (As (Nl (Tn (Bk ?_))))))))))
      have hB := hB.bel hBd
      have K2 := kB K2 hBd
      have K8 := kB K8 hBd
      have K9 := kB K9 hBd
      have hCj := Kd.C_below hCj hBd
      have hC87 := Kd.C_below hC87 hBd
      refine GC_loop (fun m σ w' => ∃ (i : Nat) (τ : Nat → Value), σ = upd (upd (upd (upd (upd (upd (upd (upd τ 2 (.pointer (some ⟨g2, 0, none⟩))) 5 (.slice A20 out.length out.length)) 6 (.int .i64 code1)) 7 (.int .i64 k)) 8 (.pointer (some ⟨g8, 0, none⟩))) 9 (.pointer (some ⟨g9, 0, none⟩))) 10 (.slice A87 out1.length out1.length)) 13 (.int .i64 i) ∧ i ≤ out.length ∧ m = out.length - i ∧ Bel w140 w') (out.length) ⟨0, _, has rfl (has rfl (has rfl (has rfl (has rfl (has rfl (has rfl (has rfl rfl))))))), Nat.zero_le _, rfl, Below.refl _ _⟩ ?_
      rintro m _ w5 ⟨i, τ5, rfl, hi1, rfl, hBl⟩
      refine Sq (Sq (Rg (Mv (Mv (Ln Try.underlying52 rfl ?_)))))
      refine g_lss rfl rfl (h1 := fun c146 => ?_) (h2 := fun c146 => ?_)
      · skip
        refine Nl (Tn (Ct rfl (Sk (Tn (Sq (Bk (Sq ?_)))))))
        have hil : i < out.length := by omega
        have hBe : Bel w140 (w5.drewN 1) := hBl.drew
        have hki := fix_ends hkl' hlb (hok.2.2 i (by omega)).1 (hok.2.2 i (by omega)).2 (hok1.2.2 i (by omega)).1 (hok1.2.2 i (by omega)).2
        have hob  := at68 hC87 (Below.refl _ _) i (by omega)
        obtain ⟨ad6, hA6, h153⟩ := hob
        have hob  := at68 hCj (Below.refl _ _) i (by omega)
        obtain ⟨ad7, hA7, h158⟩ := hob
        have e6 : (sp68 out1 i).f0 = (rd_T68 out1 (i : Nat)).f0 ∧ (sp68 out1 i).f1 = (rd_T68 out1 (i : Nat)).f1 := ⟨rfl, rfl⟩
        have e7 : (sp68 out i).f0 = (rd_T68 out (i : Nat)).f0 ∧ (sp68 out i).f1 = (rd_T68 out (i : Nat)).f1 := ⟨rfl, rfl⟩
        rw [← e6.1, ← e6.2, ← e7.1, ← e7.2] at hki
        refine GD_start 24 [] (fun w' => Bel w140 w') (by kernel_rfl) rfl ?_
        refine GD_pure 0 rfl (by kernel_rfl) (by kernel_rfl) (by kernel_rfl) (by kernel_rfl) rfl rfl rfl (qv fun wq hC => by exact r_move) ?_
        refine GD_pure 1 rfl (by kernel_rfl) (by kernel_rfl) (by kernel_rfl) (by kernel_rfl) rfl rfl rfl (qv fun wq hC => by exact r_move) ?_
        refine GD_pure 2 rfl (by kernel_rfl) (by kernel_rfl) (by kernel_rfl) (by kernel_rfl) rfl rfl rfl (qv fun wq hC => by exact r_indexH Try.underlying52 info68 hA6 rfl rfl (by omega) (by omega) rfl) ?_
        refine GD_pure 3 rfl (by kernel_rfl) (by kernel_rfl) (by kernel_rfl) (by kernel_rfl) rfl rfl rfl (qv fun wq hC => by exact r_fieldAddr f68_0 rfl rfl) ?_
        refine GD_take 4 rfl (by kernel_rfl) (by kernel_rfl) (by kernel_rfl) (by kernel_rfl) rfl rfl rfl (qv fun wq hC => by exact r_load1 rfl Try.underlying3 (spanAtB h153 hC 0 _ rfl)) ?_
        refine GD_pure 5 rfl (by kernel_rfl) (by kernel_rfl) (by kernel_rfl) (by kernel_rfl) rfl rfl rfl (qv fun wq hC => by exact r_move) ?_
        refine GD_pure 6 rfl (by kernel_rfl) (by kernel_rfl) (by kernel_rfl) (by kernel_rfl) rfl rfl rfl (qv fun wq hC => by exact r_move) ?_
        refine GD_pure 7 rfl (by kernel_rfl) (by kernel_rfl) (by kernel_rfl) (by kernel_rfl) rfl rfl rfl (qv fun wq hC => by exact r_indexH Try.underlying52 info68 hA7 rfl rfl (by omega) (by omega) rfl) ?_
        refine GD_pure 8 rfl (by kernel_rfl) (by kernel_rfl) (by kernel_rfl) (by kernel_rfl) rfl rfl rfl (qv fun wq hC => by exact r_fieldAddr f68_0 rfl rfl) ?_
        refine GD_take 9 rfl (by kernel_rfl) (by kernel_rfl) (by kernel_rfl) (by kernel_rfl) rfl rfl rfl (qv fun wq hC => by exact r_load1 rfl Try.underlying3 (spanAtB h158 hC 0 _ rfl)) ?_
        refine GD_pure 10 rfl (by kernel_rfl) (by kernel_rfl) (by kernel_rfl) (by kernel_rfl) rfl rfl rfl (qv fun wq hC => by exact r_lssF rfl rfl (by omega)) ?_
        refine GD_pure 11 rfl (by kernel_rfl) (by kernel_rfl) (by kernel_rfl) (by kernel_rfl) rfl rfl rfl (qv fun wq hC => by exact r_move) ?_
        refine GD_pure 12 rfl (by kernel_rfl) (by kernel_rfl) (by kernel_rfl) (by kernel_rfl) rfl rfl rfl (qv fun wq hC => by exact r_move) ?_
        refine GD_pure 13 rfl (by kernel_rfl) (by kernel_rfl) (by kernel_rfl) (by kernel_rfl) rfl rfl rfl (qv fun wq hC => by exact r_move) ?_
        refine GD_pure 14 rfl (by kernel_rfl) (by kernel_rfl) (by kernel_rfl) (by kernel_rfl) rfl rfl rfl (qv fun wq hC => by exact r_indexH Try.underlying52 info68 hA6 rfl rfl (by omega) (by omega) rfl) ?_
        refine GD_pure 15 rfl (by kernel_rfl) (by kernel_rfl) (by kernel_rfl) (by kernel_rfl) rfl rfl rfl (qv fun wq hC => by exact r_fieldAddr f68_1 rfl rfl) ?_
        refine GD_take 16 rfl (by kernel_rfl) (by kernel_rfl) (by kernel_rfl) (by kernel_rfl) rfl rfl rfl (qv fun wq hC => by exact r_load1 rfl Try.underlying3 (spanAtB h153 hC 1 _ rfl)) ?_
        refine GD_pure 17 rfl (by kernel_rfl) (by kernel_rfl) (by kernel_rfl) (by kernel_rfl) rfl rfl rfl (qv fun wq hC => by exact r_move) ?_
        refine GD_pure 18 rfl (by kernel_rfl) (by kernel_rfl) (by kernel_rfl) (by kernel_rfl) rfl rfl rfl (qv fun wq hC => by exact r_move) ?_
        refine GD_pure 19 rfl (by kernel_rfl) (by kernel_rfl) (by kernel_rfl) (by kernel_rfl) rfl rfl rfl (qv fun wq hC => by exact r_indexH Try.underlying52 info68 hA7 rfl rfl (by omega) (by omega) rfl) ?_
        refine GD_pure 20 rfl (by kernel_rfl) (by kernel_rfl) (by kernel_rfl) (by kernel_rfl) rfl rfl rfl (qv fun wq hC => by exact r_fieldAddr f68_1 rfl rfl) ?_
        refine GD_take 21 rfl (by kernel_rfl) (by kernel_rfl) (by kernel_rfl) (by kernel_rfl) rfl rfl rfl (qv fun wq hC => by exact r_load1 rfl Try.underlying3 (spanAtB h158 hC 1 _ rfl)) ?_
        refine GD_pure 22 rfl (by kernel_rfl) (by kernel_rfl) (by kernel_rfl) (by kernel_rfl) rfl rfl rfl (qv fun wq hC => by exact r_gtrF rfl rfl (by omega)) ?_
        refine GD_pure 23 rfl (by kernel_rfl) (by kernel_rfl) (by kernel_rfl) (by kernel_rfl) rfl rfl rfl (qv fun wq hC => by exact r_pickF rfl) ?_
        refine GD_end (by kernel_rfl) (fun _ => hBe) ?_
        refine Tn (Cf rfl (Sk (Bn (Tn (Rg (Mv ?_))))))
        refine g_add rfl rfl (by omega) (h := ?_)
        refine As (Nl ?_)
        exact round_end (out.length - (i + 1)) (by omega) ⟨i + 1, _, has rfl (has rfl (has rfl (has rfl (has rfl (has rfl (has rfl (has rfl rfl))))))), hil, rfl, hBe⟩
      · skip
        refine Nl (Tn (Cf rfl (Xi (Tx (Tx (Bs (Tn (Sq (Sq (Rg ?_))))))))))
        have hB := hB.bel hBl
        have K2 := kB K2 hBl
        have K8 := kB K8 hBl
        have K9 := kB K9 hBl
        have hBl : Bel w5 w5 := Below.refl _ _
        refine Fb f68_0 rfl (L1 Try.underlying3 (cellAt (kB K8 hBl) rfl) rfl (Fb f68_0 rfl (L1 Try.underlying3 (cellAt (kB K9 hBl) rfl) rfl ?_)))
        refine g_gtr rfl rfl (h1 := fun c177 => ?_) (h2 := fun c177 => ?_)
        · skip
          refine Nl (Tn (Ct rfl (Sq (Rg ?_))))
          refine g_loadA rfl Try.underlying49 info49 (l := [.int .i64 n, .slice A l.length c]) (cellsAt K2) (h := ?_)
          refine Mv (Fb f68_0 rfl (L1 Try.underlying3 (cellAt K8 rfl) rfl ?_))
          refine g_sub rfl rfl (by omega) (h := ?_)
          refine g_call he50 rfl (fixed_c n A c l k (lo - 1) _ (Kd.C_below hs hB) hkl' (by omega)) (h := ?_)
          rintro e w184 ⟨A184, c184, rfl, hC184, hb184⟩
          refine ⟨_, rfl, ?_⟩
          have hB := hB.bel hb184
          have K2 := kB K2 hb184
          have K8 := kB K8 hb184
          have K9 := kB K9 hb184
          have hbo3 : bookOk n (setM l k ⟨lo - 1, lo - 1⟩) = true := book_setM hbo hkl' ⟨by simp only; omega, Int.le_refl _, by simp only; omega⟩
          refine g_call he37 rfl (balanceA_c n (setM l k ⟨lo - 1, lo - 1⟩) A184 c184 _ hC184) (h := ?_)
          rintro e w185 ⟨A185, out3, code3, rfl, hC185, hans3, hb185⟩
          refine ⟨_, rfl, ?_⟩
          have hB := hB.bel hb185
          have K2 := kB K2 hb185
          have K8 := kB K8 hb185
          have K9 := kB K9 hb185
          have hno3 := hans3.no hbo3 (fun cs hcs => by have h := fix_of hkl' (by omega) hcs; have := hmn.2 cs h.1; omega)
          refine Mv (Xt rfl rfl (Xt rfl rfl (As (As (Nl (Tn (Sq (Rg (Mv ?_)))))))))
          refine g_v (r_neqF rfl rfl (by omega)) (h := ?_)
          refine Nl (Tn (Cf rfl (Sk (Tn (Sq (Sq (Rg (Fb f68_1 rfl (L1 Try.underlying3 (cellAt K8 rfl) rfl (Fb f68_1 rfl (L1 Try.underlying3 (cellAt K9 rfl) rfl ?_)))))))))))
          refine g_lss rfl rfl (h1 := fun c194 => ?_) (h2 := fun c194 => ?_)
          · skip
            refine Nl (Tn (Ct rfl (Sq (Rg ?_))))
            refine g_loadA rfl Try.underlying49 info49 (l := [.int .i64 n, .slice A l.length c]) (cellsAt K2) (h := ?_)
            refine Mv (Fb f68_1 rfl (L1 Try.underlying3 (cellAt K8 rfl) rfl ?_))
            refine g_add rfl rfl (by omega) (h := ?_)
            refine g_call he50 rfl (fixed_c n A c l k (hi + 1) _ (Kd.C_below hs hB) hkl' (by omega)) (h := ?_)
            rintro e w201 ⟨A201, c201, rfl, hC201, hb201⟩
            refine ⟨_, rfl, ?_⟩
            have hB := hB.bel hb201
            have hbo4 : bookOk n (setM l k ⟨hi + 1, hi + 1⟩) = true := book_setM hbo hkl' ⟨by simp only; omega, Int.le_refl _, by simp only; omega⟩
            refine g_call he37 rfl (balanceA_c n (setM l k ⟨hi + 1, hi + 1⟩) A201 c201 _ hC201) (h := ?_)
            rintro e w202 ⟨A202, out4, code4, rfl, hC202, hans4, hb202⟩
            refine ⟨_, rfl, ?_⟩
            have hB := hB.bel hb202
            have hno4 := hans4.no hbo4 (fun cs hcs => by have h := fix_of hkl' (by omega) hcs; have := hmx.2 cs h.1; omega)
            refine Mv (Xt rfl rfl (Xt rfl rfl (As (As (Nl (Tn (Sq (Rg (Mv ?_)))))))))
            refine g_v (r_neqF rfl rfl (by omega)) (h := ?_)
            refine Nl (Tn (Cf rfl (Sk (Tn (Sq (Rg ?_))))))
            refine g_call he21 rfl (works_c _) (h := ?_)
            rintro e w207 ⟨rfl, hb207⟩
            refine ⟨_, rfl, ?_⟩
            have hB := hB.bel hb207
            refine As (Nl (Tn (Rt ?_)))
            exact ret1 rfl ⟨rfl, hB⟩
          · skip
            refine Nl (Tn (Cf rfl (Sk (Tn (Sq (Rg ?_))))))
            refine g_call he21 rfl (works_c _) (h := ?_)
            rintro e w207 ⟨rfl, hb207⟩
            refine ⟨_, rfl, ?_⟩
            have hB := hB.bel hb207
            refine As (Nl (Tn (Rt ?_)))
            exact ret1 rfl ⟨rfl, hB⟩
        · skip
          refine Nl (Tn (Cf rfl (Sk (Tn (Sq (Sq (Rg (Fb f68_1 rfl (L1 Try.underlying3 (cellAt K8 rfl) rfl (Fb f68_1 rfl (L1 Try.underlying3 (cellAt K9 rfl) rfl ?_)))))))))))
          refine g_lss rfl rfl (h1 := fun c194 => ?_) (h2 := fun c194 => ?_)
          · skip
            refine Nl (Tn (Ct rfl (Sq (Rg ?_))))
            refine g_loadA rfl Try.underlying49 info49 (l := [.int .i64 n, .slice A l.length c]) (cellsAt K2) (h := ?_)
            refine Mv (Fb f68_1 rfl (L1 Try.underlying3 (cellAt K8 rfl) rfl ?_))
            refine g_add rfl rfl (by omega) (h := ?_)
            refine g_call he50 rfl (fixed_c n A c l k (hi + 1) _ (Kd.C_below hs hB) hkl' (by omega)) (h := ?_)
            rintro e w201 ⟨A201, c201, rfl, hC201, hb201⟩
            refine ⟨_, rfl, ?_⟩
            have hB := hB.bel hb201
            have hbo4 : bookOk n (setM l k ⟨hi + 1, hi + 1⟩) = true := book_setM hbo hkl' ⟨by simp only; omega, Int.le_refl _, by simp only; omega⟩
            refine g_call he37 rfl (balanceA_c n (setM l k ⟨hi + 1, hi + 1⟩) A201 c201 _ hC201) (h := ?_)
            rintro e w202 ⟨A202, out4, code4, rfl, hC202, hans4, hb202⟩
            refine ⟨_, rfl, ?_⟩
            have hB := hB.bel hb202
            have hno4 := hans4.no hbo4 (fun cs hcs => by have h := fix_of hkl' (by omega) hcs; have := hmx.2 cs h.1; omega)
            refine Mv (Xt rfl rfl (Xt rfl rfl (As (As (Nl (Tn (Sq (Rg (Mv ?_)))))))))
            refine g_v (r_neqF rfl rfl (by omega)) (h := ?_)
            refine Nl (Tn (Cf rfl (Sk (Tn (Sq (Rg ?_))))))
            refine g_call he21 rfl (works_c _) (h := ?_)
            rintro e w207 ⟨rfl, hb207⟩
            refine ⟨_, rfl, ?_⟩
            have hB := hB.bel hb207
            refine As (Nl (Tn (Rt ?_)))
            exact ret1 rfl ⟨rfl, hB⟩
          · skip
            refine Nl (Tn (Cf rfl (Sk (Tn (Sq (Rg ?_))))))
            refine g_call he21 rfl (works_c _) (h := ?_)
            rintro e w207 ⟨rfl, hb207⟩
            refine ⟨_, rfl, ?_⟩
            have hB := hB.bel hb207
            refine As (Nl (Tn (Rt ?_)))
            exact ret1 rfl ⟨rfl, hB⟩
end Go.Proofs.B
