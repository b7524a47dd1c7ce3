/- barrel: the law BarrelEither, walked. -/
import Derived.Test.YtpfoleggapngoaaB28
import Derived.Test.YtpfoleggapngoaaB45
set_option linter.unusedVariables false
set_option linter.unusedSimpArgs false
set_option maxRecDepth 10000
namespace Go.Proofs.B
open Go Go.RowKit Go.Proofs Go.Proofs.G Go.Proofs.F Go.Proofs.YtpfoleggapngoaaW.PrintWords
theorem setM2 (l : List S76) (k : Nat) (a b : S68) (hk : k < l.length) : (setM l k a).set k { mv (setM l k a) k with f2 := b } = setM l k b := by
  rw [mv_setM l k a hk, if_pos rfl]
  unfold setM
  rw [List.set_set]
theorem seg76g (m : S76) (a b : Int) : (enc76 m).take 2 ++ [Value.int .i64 a, .int .i64 b] ++ (enc76 m).drop (2 + [Value.int .i64 a, Value.int .i64 b].length) = [.int .i64 m.f0, .int .i64 m.f1, .int .i64 a, .int .i64 b] := rfl
/-- All moves fixed up to i, at numbers that balance. -/
structure FixI (n : Int) (l lx : List S76) (cs : List Int) : Prop where
  len : lx.length = l.length
  ok : bookOk n lx = true
  ex : ∃ ds, Bal n.toNat lx ds
  sub : ∀ ds, Bal n.toNat lx ds → Bal n.toNat l ds
  fx : ∀ j, j < cs.length → (mv lx j).f2 = ⟨rd cs j, rd cs j⟩
theorem FixI.start {n : Int} {l : List S76} (h : bookOk n l = true) (hb : ∃ ds, Bal n.toNat l ds) : FixI n l l [] := ⟨rfl, h, hb, fun _ h => h, fun j hj => by simp at hj⟩
theorem rd_snocL (cs : List Int) (v : Int) (j : Nat) (h : j < cs.length) : rd (cs ++ [v]) j = rd cs j := by simp [rd, List.getD_eq_getElem?_getD, List.getElem?_append_left h]
theorem rd_snocE (cs : List Int) (v : Int) : rd (cs ++ [v]) cs.length = v := by simp [rd, List.getD_eq_getElem?_getD]
theorem FixI.step {n : Int} {l lx : List S76} {cs : List Int} (h : FixI n l lx cs) (hk : cs.length < l.length) {v : Int} (hv : Mn n.toNat lx cs.length v) : FixI n l (setM lx cs.length ⟨v, v⟩) (cs ++ [v]) := by
  have hk' : cs.length < lx.length := by rw [h.len]; exact hk
  have hb := mn_bd h.ok hk' hv
  have hm := book_move h.ok _ hk'
  refine ⟨by rw [setM_len, h.len], book_setM h.ok hk' ⟨by simp only; omega, Int.le_refl _, by simp only; omega⟩, fix_ex hk' hv.1, fun ds hds => h.sub ds (fix_of hk' hb hds).1, fun j hj => ?_⟩
  rw [mv_setM lx _ _ hk']
  by_cases e : j = cs.length
  · subst e; rw [if_pos rfl, rd_snocE]
  · have hj' : j < cs.length := by simp at hj; omega
    rw [if_neg e, rd_snocL cs v j hj']
    exact h.fx j hj'
theorem FixI.end_ {n : Int} {l lx : List S76} {cs : List Int} (h : FixI n l lx cs) (hl : cs.length = l.length) : Bal n.toNat l cs := by
  obtain ⟨ds, hd⟩ := h.ex
  have e : ds = cs := by
    refine rd_ext (by rw [hd.1.1, h.len, hl]) fun k hk => ?_
    have h1 := hd.1.2 k (by rw [← hd.1.1]; exact hk)
    rw [h.fx k (by rw [hl, ← h.len, ← hd.1.1]; exact hk)] at h1
    simp only at h1
    omega
  rw [← e]; exact h.sub ds hd
theorem all_range {p : Nat → Bool} {n : Nat} (h : ∀ i, i < n → p i = true) : (List.range n).all p = true := List.all_eq_true.2 fun i hi => h i (List.mem_range.1 hi)
theorem bal_are {n : Int} {l : List S76} {cs : List Int} (h : bookOk n l = true) (hb : Bal n.toNat l cs) : areCounts n l cs = (true, 0) := by
  rw [areCounts, if_pos h, if_pos hb.1.1, areCountsB, all_range (p := withinB l cs) (fun k hk => decide_eq_true (hb.1.2 k hk)), all_range (fun s hs => decide_eq_true (hb.2 s hs))]; rfl
/-- A wider span lets all balance that did. -/
theorem wide_ends {n : Int} {l : List S76} {k : Nat} (hk : k < l.length) {sp : S68} (hs : sp.f0 ≤ (mv l k).f2.f0 ∧ (mv l k).f2.f1 ≤ sp.f1) {i : Nat} {a b a' b' : Int} (h1 : Mn n.toNat l i a) (h2 : Mx n.toNat l i b) (h3 : Mn n.toNat (setM l k sp) i a') (h4 : Mx n.toNat (setM l k sp) i b') : a' ≤ a ∧ b ≤ b' := by
  obtain ⟨⟨cs, c1, c2⟩, _⟩ := h1
  obtain ⟨⟨ds, d1, d2⟩, _⟩ := h2
  have e1 := c1.1.2 k hk
  have e2 := d1.1.2 k hk
  have := h3.2 cs (bal_in_set hk c1 ⟨by omega, by omega⟩)
  have := h4.2 ds (bal_in_set hk d1 ⟨by omega, by omega⟩)
  omega
theorem wide_ex {n : Int} {l : List S76} {k : Nat} (hk : k < l.length) {sp : S68} (hs : sp.f0 ≤ (mv l k).f2.f0 ∧ (mv l k).f2.f1 ≤ sp.f1) (h : ∃ cs, Bal n.toNat l cs) : ∃ cs, Bal n.toNat (setM l k sp) cs := by
  obtain ⟨cs, c1⟩ := h
  have e1 := c1.1.2 k hk
  exact ⟨cs, bal_in_set hk c1 ⟨by omega, by omega⟩⟩
theorem ethA {n : Int} {l : List S76} {c1 c2 set : Int} {out : List S68} (h1 : BAns n l c1 out) (h2 : PAns n l set c2) :
    (bookOk n l = false → c1 = 63 ∧ c2 = 63 ∧ out = [] ∧ set = 0) ∧ (bookOk n l = true → c2 = 0 → c1 = 65 ∧ ∃ S : Nat, set = S ∧ S < 2 ^ n.toNat ∧ 0 < provF l S l.length) ∧ (bookOk n l = true → c2 ≠ 0 → c2 = 4 ∧ c1 = 0 ∧ ∃ cs, Bal n.toNat l cs) := by
  rcases h2 with ⟨h3, rfl, rfl⟩ | ⟨h3, ⟨cs, hb⟩, rfl, rfl⟩ | ⟨h3, rfl, T, rfl, hT, hq⟩
  · rcases h1 with ⟨_, rfl, rfl⟩ | ⟨h4, _⟩ | ⟨h4, _⟩
    · exact ⟨fun _ => ⟨rfl, rfl, rfl, rfl⟩, fun h => (by rw [h3] at h; cases h), fun h => (by rw [h3] at h; cases h)⟩
    · rw [h3] at h4; cases h4
    · rw [h3] at h4; cases h4
  · rcases h1 with ⟨h4, _⟩ | ⟨_, ⟨S, _, hp⟩, _⟩ | ⟨_, _, rfl, _⟩
    · rw [h3] at h4; cases h4
    · have := prov_no h3 hb S; omega
    · exact ⟨fun h => (by rw [h3] at h; cases h), fun _ h => (by omega), fun _ _ => ⟨rfl, rfl, cs, hb⟩⟩
  · rcases h1 with ⟨h4, _⟩ | ⟨_, _, rfl, _⟩ | ⟨_, ⟨cs, hb⟩, _⟩
    · rw [h3] at h4; cases h4
    · exact ⟨fun h => (by rw [h3] at h; cases h), fun _ _ => ⟨rfl, T, rfl, hT, hq⟩, fun _ h => absurd rfl h⟩
    · have := prov_no h3 hb T; omega
theorem provesT_c (A : Option Addr) (c : Nat) (n : Int) (l : List S76) (set : Int) (b : Bool) (w : World) (hs : k76.C w A l.length l) (h : provesL n l set = (b, 0)) :
    Calls Try.prog 52 #[.agg #[.int .i64 n, .slice A l.length c], .int .i64 set] w fun e w' => e = .returned (.tuple #[.bool b, .int .i64 0]) ∧ Bel w w' := by
  have := proves_c A c n l set w hs
  rw [h] at this; exact this
theorem proves_none {n : Int} {l : List S76} {S : Nat} (h : bookOk n l = true) (hS : S < 2 ^ n.toNat) (hp : provF l S l.length ≤ 0) : provesL n l S = (false, 0) := by
  have hpc := pow_cast n.toNat
  rw [provesL, if_pos h, if_pos (by omega), Int.toNat_natCast, decide_eq_false (by omega)]
theorem proves_some {n : Int} {l : List S76} {S : Nat} (h : bookOk n l = true) (hS : S < 2 ^ n.toNat) (hp : 0 < provF l S l.length) : provesL n l S = (true, 0) := by
  have hpc := pow_cast n.toNat
  rw [provesL, if_pos h, if_pos (by omega), Int.toNat_natCast, decide_eq_true hp]
theorem rd_len1 (cs : List Int) (v : Int) : (cs ++ [v]).length = cs.length + 1 := by simp
theorem areT_c (A B : Option Addr) (c d : Nat) (n : Int) (l : List S76) (cs : List Int) (w : World) (hs : k76.C w A l.length l) (hc : (Kd.int .i64).C w B cs.length cs) (h : areCounts n l cs = (true, 0)) :
    Calls Try.prog 33 #[.agg #[.int .i64 n, .slice A l.length c], .slice B cs.length d] w fun e w' => e = .returned (.tuple #[.bool true, .int .i64 0]) ∧ Bel w w' := by
  have := areCounts_c A B c d n l cs w hs hc
  rw [h] at this; exact this
theorem balanceB_c (n : Int) (l : List S76) (m : Nat) (A : Option Addr) (c : Nat) (w : World) (hm : l.length = m) (hs : k76.C w A m l) :
    Calls Try.prog 37 #[.agg #[.int .i64 n, .slice A m c]] w fun e w' => ∃ A' out code, e = .returned (.tuple #[.slice A' out.length out.length, .int .i64 code]) ∧ k68.C w' A' out.length out ∧ BAns n l code out ∧ Ty 68 w' A' ∧ Bel w w' := by
  subst hm; exact balanceT_c n l A c w hs
theorem flat76 : ∀ (w1 w2 : World) x cs, k76.K w1 x cs → k76.K w2 x cs := fun w1 w2 x cs h => by rw [k76_open h]; exact k76_mk w2 x
theorem own_lt {α : Type} {d : Kd α} {e base : Nat} {ok : Nat → Prop} {w : World} {v : Value} {xs : List α} (h : d.R e w base ok v xs) {k : Nat} (hk : v.ownBlock = some k) : k < w.heap.size := Kd.R_lt h k hk
theorem modq (n : Int) (m : Nat) (hm : 0 < m) : ∃ q : Nat, n % (m : Int) = q ∧ q < m := by
  have h1 := Int.emod_nonneg n (show (m : Int) ≠ 0 by omega)
  have h2 := Int.emod_lt_of_pos n (show 0 < (m : Int) by omega)
  exact ⟨(n % m).toNat, by omega, by omega⟩
theorem modq_c (n m r : Int) (h : n % m = r) (hm : 0 < m) (hm2 : m ≤ 9223372036854775807) (w : World) : Calls Try.prog 41 #[.int .i64 n, .int .i64 m] w fun e w' => e = .returned (.int .i64 r) ∧ w' = w := by
  subst h; exact mod_c n m hm hm2 w
theorem spanAtB {w w' : World} {ad : Addr} {x : S68} (h : ∀ j v, [Value.int .i64 x.f0, Value.int .i64 x.f1][j]? = some v → w.cell? (ad.add j) = some v) (hB : Bel w w') : ∀ j v, [Value.int .i64 x.f0, Value.int .i64 x.f1][j]? = some v → w'.cell? (ad.add j) = some v := fun j v hv => hB.cellk (h j v hv)
set_option maxHeartbeats 40000000 in
theorem barrelEither_c (n : Int) (A : Option Addr) (c : Nat) (l : List S76) (n0 n1 n2 : Int) (w : World) (hs : k76.C w A l.length l) :
    Calls Try.prog 14 #[.agg #[.int .i64 n, .slice A l.length c], .agg #[.int .i64 n0, .int .i64 n1, .int .i64 n2]] w fun e w' => e = .returned (.bool true) ∧ Bel w w' := by
  refine G_enter (l := [.agg #[.int .i64 n, .slice A l.length c], .agg #[.int .i64 n0, .int .i64 n1, .int .i64 n2]]) Try.func14 rfl rfl ?_
  refine Sq (Rg ?_)
  refine g_box rfl (h := fun g2 w2 N2 => ?_)
  have K2 := N2.at_
  have hB := Bel.of_new N2
  have K2 : w2.heap[g2]? = some (.cells #[.int .i64 n, .slice A l.length c] 49 (0, 0)) := K2
  refine g_box rfl (h := fun g3 w3 N3 => ?_)
  have K3 := N3.at_
  have hB := hB.new N3
  have K2 := kN K2 N3
  have K3 : w3.heap[g3]? = some (.cells #[.int .i64 n0, .int .i64 n1, .int .i64 n2] 88 (0, 0)) := K3
  refine As (Nl (Tn (Sq (Rg ?_))))
  refine g_loadA rfl Try.underlying49 info49 (l := [.int .i64 n, .slice A l.length c]) (cellsAt K2) (h := ?_)
  refine g_call he37 rfl (balanceA_c n l A c _ (Kd.C_below hs hB)) (h := ?_)
  rintro e w27 ⟨A27, out, code, rfl, hC27, hans, hb27⟩
  refine ⟨_, rfl, ?_⟩
  have hB := hB.bel hb27
  have K2 := kB K2 hb27
  have K3 := kB K3 hb27
  refine Mv (Xt rfl rfl (Xt rfl rfl (As (As (Nl (Tn (Sq (Rg ?_))))))))
  refine g_loadA rfl Try.underlying49 info49 (l := [.int .i64 n, .slice A l.length c]) (cellsAt K2) (h := ?_)
  refine g_call he54 rfl (proofA_c n l A c _ (Kd.C_below hs hB)) (h := ?_)
  rintro e w32 ⟨set, code2, rfl, hpa, hb32⟩
  refine ⟨_, rfl, ?_⟩
  have hB := hB.bel hb32
  have K2 := kB K2 hb32
  have K3 := kB K3 hb32
  have hC32 := Kd.C_below hC27 hb32
  have heth := ethA hans hpa
  refine Mv (Xt rfl rfl (Xt rfl rfl (As (As (Nl (Tn (Sq (Sq (Rg ?_)))))))))
  refine g_loadA rfl Try.underlying49 info49 (l := [.int .i64 n, .slice A l.length c]) (cellsAt K2) (h := ?_)
  refine g_call he49 rfl (whole_c n A c l _ (Kd.C_below hs hB)) (h := ?_)
  rintro e w36 ⟨rfl, hb36⟩
  refine ⟨_, rfl, ?_⟩
  have hB := hB.bel hb36
  have K2 := kB K2 hb36
  have K3 := kB K3 hb36
  have hC36 := Kd.C_below hC32 hb36
  cases q36 : bookOk n l with
  | true =>
    have hbo := q36
    have hnl := book_n hbo
    have hp6 := pow6n (N := n.toNat) (by omega)
    have hpc := pow_cast n.toNat
    refine Nt rfl (Nl (Tn (Cf rfl (Sk (Tn (Sq (Sq (Rg (Mv ?_)))))))))
    refine g_eql rfl rfl (h1 := fun c58 => ?_) (h2 := fun c58 => ?_)
    · skip
      have hf := heth.2.1 hbo c58
      obtain ⟨hc65, S, hS, hS2, hpr⟩ := hf
      have hpl : provesL n l set = (true, 0) := by rw [hS]; exact proves_some hbo hS2 hpr
      refine Nl (Tn (Ct rfl (Sq (Rg ?_))))
      refine g_loadA rfl Try.underlying49 info49 (l := [.int .i64 n, .slice A l.length c]) (cellsAt K2) (h := ?_)
      refine Mv ?_
      refine g_call he52 rfl (provesT_c A c n l set true _ (Kd.C_below hs hB) hpl) (h := ?_)
      rintro e w62 ⟨rfl, hb62⟩
      refine ⟨_, rfl, ?_⟩
      have hB := hB.bel hb62
      have K2 := kB K2 hb62
      refine Mv (Xt rfl rfl (Xt rfl rfl (As (As (Nl (Tn (Sq (Rg (Mv ?_)))))))))
      refine g_v (r_eqlT rfl rfl (hc65)) (h := ?_)
      refine Mv (Mv ?_)
      refine g_v (r_eqlT rfl rfl (rfl)) (h := ?_)
      refine Pt rfl (Mv (Mv (Pt rfl (Mv (Mv (Fb f49_0 rfl (L1 Try.underlying3 (cellAt K2 rfl) rfl ?_)))))))
      refine g_v (r_shl rfl rfl (n := n.toNat) (by omega) (by omega) (by omega)) (h := ?_)
      refine g_sub rfl rfl (by omega) (h := ?_)
      refine g_inT rfl rfl rfl (by omega) (h := ?_)
      refine Pt rfl (Mv ?_)
      refine g_loadA rfl Try.underlying49 info49 (l := [.int .i64 n, .slice A l.length c]) (cellsAt K2) (h := ?_)
      refine Mv ?_
      refine g_call he58 rfl ((by have h := outR_c A c n l S _ (Kd.C_below hs hB) hbo (by omega); rw [← hS] at h; exact h)) (h := ?_)
      rintro e w85 ⟨rfl, hb85⟩
      refine ⟨_, rfl, ?_⟩
      have hB := hB.bel hb85
      rw [provF_cut] at hpr
      refine g_v (r_gtrT rfl rfl (by omega)) (h := ?_)
      refine Pt rfl (Mv ?_)
      refine g_call he21 rfl (works_c _) (h := ?_)
      rintro e w89 ⟨rfl, hb89⟩
      refine ⟨_, rfl, ?_⟩
      have hB := hB.bel hb89
      refine Pt rfl (As (Nl (Tn (Rt (Tr ?_)))))
      exact ret1 rfl ⟨rfl, hB⟩
    · skip
      have hf := heth.2.2 hbo c58
      have hok := hans.ok hbo hf.2.2
      have hol := hok.2.1
      obtain ⟨cs0, hbal⟩ := hf.2.2
      have hob  := modq n0 (2 ^ n.toNat) (by omega)
      obtain ⟨S, hS, hS2⟩ := hob
      have hpno := prov_no hbo hbal S
      have hpl := proves_none hbo hS2 hpno
      rw [provF_cut] at hpno
      refine Nl (Tn (Cf rfl (Sk (Tn (Sq ?_)))))
      refine GD_start 7 [] (fun w' => w' = w36.drewN 1) (by kernel_rfl) rfl ?_
      refine GD_pure 0 rfl (by kernel_rfl) (by kernel_rfl) (by kernel_rfl) (by kernel_rfl) rfl rfl rfl (qv fun wq hC => by exact r_indexA Try.underlying88 info3 rfl rfl (by omega) (by omega) (add0 _ _)) ?_
      refine GD_take 1 rfl (by kernel_rfl) (by kernel_rfl) (by kernel_rfl) (by kernel_rfl) rfl rfl rfl (qv fun wq hC => by exact r_load1 rfl Try.underlying3 (by subst hC; exact cellAt K3 rfl)) ?_
      refine GD_pure 2 rfl (by kernel_rfl) (by kernel_rfl) (by kernel_rfl) (by kernel_rfl) rfl rfl rfl (qv fun wq hC => by exact r_fieldAddrB f49_0 rfl) ?_
      refine GD_take 3 rfl (by kernel_rfl) (by kernel_rfl) (by kernel_rfl) (by kernel_rfl) rfl rfl rfl (qv fun wq hC => by exact r_load1 rfl Try.underlying3 (by subst hC; exact cellAt K2 rfl)) ?_
      refine GD_pure 4 rfl (by kernel_rfl) (by kernel_rfl) (by kernel_rfl) (by kernel_rfl) rfl rfl rfl (qv fun wq hC => by exact r_shl (n := n.toNat) rfl rfl (by omega) (by omega) (by omega)) ?_
      refine GD_take 5 rfl (by kernel_rfl) (by kernel_rfl) (by kernel_rfl) (by kernel_rfl) rfl rfl rfl (qc (fun wq hC => by exact r_call he41 rfl) (fun wq hC => by exact modq_c n0 (1 * 2 ^ n.toNat) S (by rw [← hS, hpc, Int.one_mul]) (by omega) (by omega) _)) ?_
      have hB := hB.drew
      refine GD_pure 6 rfl (by kernel_rfl) (by kernel_rfl) (by kernel_rfl) (by kernel_rfl) rfl rfl rfl (qv fun wq hC => by exact r_assign) ?_
      refine GD_end (by kernel_rfl) (fun _ => rfl) ?_
      refine Tn (Sq (Rg ?_))
      refine g_loadA rfl Try.underlying49 info49 (l := [.int .i64 n, .slice A l.length c]) (cellsAt K2) (h := ?_)
      refine Mv ?_
      refine g_call he52 rfl (provesT_c A c n l S false _ (Kd.C_below hs hB) hpl) (h := ?_)
      rintro e w100 ⟨rfl, hb100⟩
      refine ⟨_, rfl, ?_⟩
      have hB := hB.bel hb100
      have K2 := kB (w1 := w36.drewN 1) K2 hb100
      have K3 := kB (w1 := w36.drewN 1) K3 hb100
      have hC100 := Kd.C_below (Kd.C_below hC36 (Bel.drew (Below.refl _ _))) hb100
      refine Mv (Xt rfl rfl (Xt rfl rfl (As (As (Nl (Tn (Sq (Sq (Rg (Mv ?_))))))))))
      refine g_v (r_neqF rfl rfl (by omega)) (h := ?_)
      refine Mv (Mv ?_)
      refine g_v (r_neqF rfl rfl (by omega)) (h := ?_)
      refine Pf rfl (Mv (Mv ?_))
      refine g_v (r_neqF rfl rfl (fun h => h rfl)) (h := ?_)
      refine Pf rfl (Mv (Mv (Pf rfl (Mv ?_))))
      refine g_loadA rfl Try.underlying49 info49 (l := [.int .i64 n, .slice A l.length c]) (cellsAt K2) (h := ?_)
      refine Mv ?_
      refine g_call he58 rfl (outR_c A c n l S _ (Kd.C_below hs hB) hbo (by omega)) (h := ?_)
      rintro e w119 ⟨rfl, hb119⟩
      refine ⟨_, rfl, ?_⟩
      have hB := hB.bel hb119
      have K2 := kB K2 hb119
      have K3 := kB K3 hb119
      have hC119 := Kd.C_below hC100 hb119
      have hB119 := hB
      have K2w := K2
      have K3w := K3
      refine g_v (r_gtrF rfl rfl (by omega)) (h := ?_)
      refine Pf rfl (Mv (Mv (Ln Try.underlying52 rfl (Fb f49_1 rfl (L1 Try.underlying47 (cellAt K2 rfl) rfl (Ln Try.underlying47 rfl ?_))))))
      refine g_v (r_neqF rfl rfl (by omega)) (h := ?_)
      refine Pf rfl (Nl (Tn (Cf rfl (Sk (Tn (Sq (Rg ?_)))))))
      refine g_loadA rfl Try.underlying49 info49 (l := [.int .i64 n, .slice A l.length c]) (cellsAt K2) (h := ?_)
      refine g_alloc (z := .agg #[.int .i64 0, .slice none 0 0]) (by kernel_rfl) (h := fun g14 w14 N14 => ?_)
      have K14 := N14.at_
      have hB14 := hB.new N14
      have K2 := kN K2 N14
      have K3 := kN K3 N14
      have hg14 : w119.heap.size ≤ g14 := N14.ge
      refine g_storeA rfl rfl info49 K14 rfl (by simp [Value.oneCell']) (h := fun w13 P13 => ?_)
      have K2 := kP K2 P13 (N14.ne K2w)
      have K3 := kP K3 P13 (N14.ne K3w)
      have K14a : w13.heap[g14]? = some (.cells #[.int .i64 n, .slice A l.length c] 49 (0, 0)) := P13.at_
      have hB13 : Bel w119 w13 := (Bel.of_new N14).put P13 hg14
      have hB := hB.bel hB13
      have hC13 := Kd.C_below hC119 hB13
      have hs13 := Kd.C_below hs hB
      refine Nl (Tn (Sq (Rg (As (Nl (Tn (Sq (Sq (Rg (As (Nl (Tn (Bk ?_)))))))))))))
      refine GC_loop (fun m σ w' => ∃ (cs : List Int) (lx : List S76) (Ax : Option Addr) (nx cx : Nat) (v : Value) (τ : Nat → Value), σ = upd (upd (upd (upd (upd (upd (upd τ 2 (.pointer (some ⟨g2, 0, none⟩))) 3 (.pointer (some ⟨g3, 0, none⟩))) 5 (.slice A27 out.length out.length)) 6 (.int .i64 code)) 14 (.pointer (some ⟨g14, 0, none⟩))) 15 v) 16 (.int .i64 cs.length) ∧ cs.length ≤ l.length ∧ m = l.length - cs.length ∧ FixI n l lx cs ∧ (Kd.int .i64).R 3 w' w119.heap.size (fun _ => True) v cs ∧ w'.heap[g14]? = some (.cells #[.int .i64 n, .slice Ax nx cx] 49 (0, 0)) ∧ lx.length = nx ∧ k76.C w' Ax nx lx ∧ (∀ ad, Ax = some ad → some ad.block ≠ v.ownBlock) ∧ w'.heap[g2]? = some (.cells #[.int .i64 n, .slice A l.length c] 49 (0, 0)) ∧ w'.heap[g3]? = some (.cells #[.int .i64 n0, .int .i64 n1, .int .i64 n2] 88 (0, 0)) ∧ Bel w119 w') (l.length) ⟨[], l, A, _, c, .slice none 0 0, _, has rfl (has rfl (has rfl (has rfl (has rfl (has rfl (has rfl rfl)))))), Nat.zero_le _, rfl, FixI.start hbo ⟨cs0, hbal⟩, Kd.R_nil _ _ _ _ _, K14a, rfl, hs13, fun ad _ h => (by simp [Value.ownBlock] at h), K2, K3, hB13⟩ ?_
      rintro m _ w5 ⟨cs, lx, Ax, nx, cx, v15, τ5, rfl, hcl, rfl, hfx, HR, K14, hnx, hCx, hdis, K2, K3, hBl⟩
      refine Sq (Sq (Rg (Mv (Fb f49_1 rfl (L1 Try.underlying47 (cellAt K2 rfl) rfl (Ln Try.underlying47 rfl ?_))))))
      refine g_lss rfl rfl (h1 := fun c135 => ?_) (h2 := fun c135 => ?_)
      · skip
        refine Nl (Tn (Ct rfl (Sk (Tn (Sq (Bk (Sq (Rg ?_))))))))
        have hkl : cs.length < l.length := by omega
        have hlx := hfx.len
        refine g_loadA rfl Try.underlying49 info49 (l := [.int .i64 n, .slice Ax nx cx]) (cellsAt K14) (h := ?_)
        refine g_call he37 rfl (balanceB_c n lx nx Ax cx _ hnx hCx) (h := ?_)
        rintro e w140 ⟨A140, outx, codex, rfl, hC140, hansx, hty, hb140⟩
        refine ⟨_, rfl, ?_⟩
        have hokx := hansx.ok hfx.ok hfx.ex
        have K2 := kB K2 hb140
        have K3 := kB K3 hb140
        have K14 := kB K14 hb140
        have hCx := Kd.C_below hCx hb140
        have HR := rB HR hb140
        have hBl := hBl.bel hb140
        have hmnx := (hokx.2.2 cs.length (by omega)).1
        have hmbx := mn_bd hfx.ok (by omega) hmnx
        have hob  := at68 hC140 (Below.refl _ _) cs.length (by omega)
        obtain ⟨ad, hA, h158⟩ := hob
        have h158 := h158 0 _ rfl
        have e158 : (sp68 outx cs.length).f0 = (rd_T68 outx (cs.length : Nat)).f0 := rfl
        rw [e158] at h158
        generalize (rd_T68 outx (cs.length : Nat)).f0 = vx at *
        have hob  := hty ad hA
        obtain ⟨cty, hcty⟩ := hob
        refine Mv (Xt rfl rfl (Xt rfl rfl (As (As (Nl (Tn (Sq (Sq (Rg (Mv ?_))))))))))
        refine g_v (r_neqF rfl rfl (by omega)) (h := ?_)
        refine Mv (Mv (Ln Try.underlying52 rfl (Fb f49_1 rfl (L1 Try.underlying47 (cellAt K2 rfl) rfl (Ln Try.underlying47 rfl ?_)))))
        refine g_v (r_neqF rfl rfl (by omega)) (h := ?_)
        refine Pf rfl (Nl (Tn (Cf rfl (Sk (Tn (Sq (Rg (Mv (Mv (Mv ?_))))))))))
        refine g_indexH Try.underlying52 info68 hA rfl rfl (by omega) (by omega) rfl (h := ?_)
        refine Fa f68_0 rfl (L1 Try.underlying3 (h158) rfl ?_)
        refine g_lit1 bs22 rfl rfl (h := fun g159 w159 N159 => ?_)
        have hBn : Bel w140 w159 := Bel.of_new N159
        have HR159 := rN HR N159
        refine g_appendR (Kd.int .i64) Try.underlying22 zi3 rfl (by decide) HR159 (cs := [.int .i64 vx]) N159.at_ (p := vx) (okp := fun _ => False) rfl (fun _ h => h.elim) (fun _ _ => trivial) (hBl.bel hBn).size (by omega) (by simp [maxLen]; omega) rfl rfl (h := fun v160 w160 HR160 hg160 hat160 => ?_)
        have K2 := kG (kB K2 hBn) hg160 (ne_own HR159 (kB K2 hBn) (by decide))
        have K3 := kG (kB K3 hBn) hg160 (ne_own HR159 (kB K3 hBn) (by decide))
        have K14 := kG (kB K14 hBn) hg160 (ne_own HR159 (kB K14 hBn) (by decide))
        have hne68 := ne_own HR159 (kB hcty hBn) (by decide)
        have hCx := C_flat flat76 (Kd.C_below hCx hBn) hg160 hdis
        have h158 := (Ch.of_grown hg160).cell (hBn.cellk h158) (by rw [add_blk, add_blk]; exact hne68)
        have hBl := (hBl.bel hBn).grown hg160 (Kd.R_base HR159)
        have hg14s := blt K14
        refine As (Nl (Tn ?_))
        have hBd : Bel w160 (w160.drewN 1) := Bel.drew (Below.refl _ _)
        refine GD_start 9 [8] (fun w' => Bel w160 w') (by kernel_rfl) rfl ?_
        refine GD_take 0 rfl (by kernel_rfl) (by kernel_rfl) (by kernel_rfl) (by kernel_rfl) rfl rfl rfl (qv fun wq hC => by exact r_loadA rfl Try.underlying49 info49 (l := [.int .i64 n, .slice Ax nx cx]) (cellsAt (kB K14 hC))) ?_
        refine GD_pure 1 rfl (by kernel_rfl) (by kernel_rfl) (by kernel_rfl) (by kernel_rfl) rfl rfl rfl (qv fun wq hC => by exact r_move) ?_
        refine GD_pure 2 rfl (by kernel_rfl) (by kernel_rfl) (by kernel_rfl) (by kernel_rfl) rfl rfl rfl (qv fun wq hC => by exact r_move) ?_
        refine GD_pure 3 rfl (by kernel_rfl) (by kernel_rfl) (by kernel_rfl) (by kernel_rfl) rfl rfl rfl (qv fun wq hC => by exact r_move) ?_
        refine GD_pure 4 rfl (by kernel_rfl) (by kernel_rfl) (by kernel_rfl) (by kernel_rfl) rfl rfl rfl (qv fun wq hC => by exact r_indexH Try.underlying52 info68 hA rfl rfl (by omega) (by omega) rfl) ?_
        refine GD_pure 5 rfl (by kernel_rfl) (by kernel_rfl) (by kernel_rfl) (by kernel_rfl) rfl rfl rfl (qv fun wq hC => by exact r_fieldAddr f68_0 rfl rfl) ?_
        refine GD_take 6 rfl (by kernel_rfl) (by kernel_rfl) (by kernel_rfl) (by kernel_rfl) rfl rfl rfl (qv fun wq hC => by exact r_load1 rfl Try.underlying3 (hC.cellk h158)) ?_
        refine GD_one 7 (by kernel_rfl) (fun _ => hBd) ?_
        refine GO_call rfl rfl rfl he50 rfl (by subst hnx; exact fixedR_c n Ax cx lx cs.length vx _ (Kd.C_below hCx hBd) (by omega) (by omega)) (fun e w168 he => ?_)
        obtain ⟨gx, cx2, rfl, HR168, hb168⟩ := he
        refine ⟨_, rfl, ?_⟩
        have hBd := hBd.bel hb168
        have hgx := Kd.R_base HR168 gx rfl
        have hBs := (Bel.drew (Below.refl w160.heap.size w160)).size
        have K14 := kB K14 hBd
        refine GD_one 8 (by kernel_rfl) (fun _ => hBd) ?_
        refine GO_storeA rfl rfl rfl rfl info49 K14 rfl (by simp [Value.oneCell']) (fun w8 P8 => ?_)
        have K2n := kP (kB K2 hBd) P8 (Nat.ne_of_lt (Nat.lt_of_lt_of_le (blt K2w) hg14))
        have K3n := kP (kB K3 hBd) P8 (Nat.ne_of_lt (Nat.lt_of_lt_of_le (blt K3w) hg14))
        have K14n : w8.heap[g14]? = some (.cells #[.int .i64 n, .slice (some ⟨gx, 0, none⟩) nx cx2] 49 (0, 0)) := by rw [← hnx]; exact P8.at_
        have HRx := rP (R_above HR168) P8 (fun q hq => by have := hq.2; omega)
        have hCn := (Kd.R_reads' HRx).2.2
        have HRv := R_okT (rP (R_okS2 (ok' := fun q => q ≠ g14) (rB HR160 hBd) (fun q hq e => ne_own (rB HR160 hBd) K14 (by decide) (by rw [hq, e]))) P8 (fun q hq => hq))
        have hfn := hfx.step hkl hmnx
        have hovl : ∀ q, v160.ownBlock = some q → q < w160.heap.size := fun q hq => own_lt HR160 hq
        refine GD_end (by kernel_rfl) (dead 8 rfl (by kernel_rfl)) ?_
        refine Bn (Tn (Rg (Mv ?_)))
        refine g_add rfl rfl (by omega) (h := ?_)
        refine As (Nl ?_)
        exact round_end (l.length - (cs.length + 1)) (by omega) ⟨cs ++ [vx], setM lx cs.length ⟨vx, vx⟩, some ⟨gx, 0, none⟩, nx, cx2, v160, _, has (congrArg (Value.int .i64) (by rw [rd_len1]; rfl)) (has rfl (has rfl (has rfl (has rfl (has rfl (has rfl rfl)))))), by rw [rd_len1]; omega, by rw [rd_len1], hfn, HRv, K14n, by rw [setM_len, hnx], by rw [setM_len, hnx] at hCn; exact hCn, fun ad e => by
          injection e with e
          subst e
          intro h
          have := hovl gx h.symm
          omega, K2n, K3n, (hBl.bel hBd).put P8 hg14⟩
      · skip
        refine Nl (Tn (Cf rfl (Xi (Tx (Tx (Bs (Tn (Sq (Sq (Rg ?_))))))))))
        have hce : cs.length = l.length := by omega
        have hbcs := hfx.end_ hce
        have hare := bal_are hbo hbcs
        have h15 := Kd.R_reads HR
        obtain ⟨A15, c15, rfl, _, hC15⟩ := h15
        have hB := hB119.bel hBl
        refine g_loadA rfl Try.underlying49 info49 (l := [.int .i64 n, .slice A l.length c]) (cellsAt K2) (h := ?_)
        refine Mv ?_
        refine g_call he33 rfl (areT_c A A15 c c15 n l cs _ (Kd.C_below hs hB) hC15 hare) (h := ?_)
        rintro e w172 ⟨rfl, hb172⟩
        refine ⟨_, rfl, ?_⟩
        have hB := hB.bel hb172
        have K2 := kB K2 hb172
        have K3 := kB K3 hb172
        have hBl := hBl.bel hb172
        refine Mv (Xt rfl rfl (Xt rfl rfl (As (As (Nl (Tn (Sq (Rg (Mv ?_)))))))))
        refine g_v (r_neqF rfl rfl (fun h => h rfl)) (h := ?_)
        refine Mv (Mv (Nt rfl (Pf rfl (Nl (Tn (Cf rfl (Sk (Tn (Sq (Rg ?_))))))))))
        refine g_indexA Try.underlying88 info3 rfl rfl (by omega) (by omega) (add0 _ _) (h := ?_)
        refine L1 Try.underlying3 (cellAt K3 rfl) rfl (Fb f49_1 rfl (L1 Try.underlying47 (cellAt K2 rfl) rfl (Ln Try.underlying47 rfl ?_)))
        have hob  := modq n1 l.length (by omega)
        obtain ⟨k, hk, hkl⟩ := hob
        have hob  := modq n2 40 (by omega)
        obtain ⟨q40, hq40, hl40⟩ := hob
        have hob  := modq n2 30 (by omega)
        obtain ⟨q30, hq30, hl30⟩ := hob
        have hmk := book_move hbo k hkl
        refine g_call he41 rfl (modq_c n1 l.length k hk (by omega) (by omega) _) (h := ?_)
        rintro e w186 ⟨rfl, rfl⟩
        refine ⟨_, rfl, ?_⟩
        refine As (Nl (Tn (Sq (Rg ?_))))
        refine g_loadA rfl Try.underlying49 info49 (l := [.int .i64 n, .slice A l.length c]) (cellsAt K2) (h := ?_)
        refine Mv ?_
        refine g_call he50 rfl (fixedR_c n A c l k 0 _ (Kd.C_below hs hB) hkl (by omega)) (h := ?_)
        rintro e w189 ⟨gy, cy, rfl, HRy, hb189⟩
        refine ⟨_, rfl, ?_⟩
        have hgy := Kd.R_base HRy gy rfl
        have hgyl : gy < w189.heap.size := own_lt HRy rfl
        have hgy119 : w119.heap.size ≤ gy := Nat.le_trans hBl.size hgy
        have hB := hB.bel hb189
        have K2 := kB K2 hb189
        have K3 := kB K3 hb189
        have hBl := hBl.bel hb189
        refine g_alloc (z := .agg #[.int .i64 0, .slice none 0 0]) (by kernel_rfl) (h := fun g22 w22 N22 => ?_)
        have K22 := N22.at_
        refine g_storeA rfl rfl info49 K22 rfl (by simp [Value.oneCell']) (h := fun w26 P26 => ?_)
        have K22a : w26.heap[g22]? = some (.cells #[.int .i64 n, .slice (some ⟨gy, 0, none⟩) l.length cy] 49 (0, 0)) := P26.at_
        have hB26 : Bel w189 w26 := (Bel.of_new N22).put P26 N22.ge
        have hB := hB.bel hB26
        have hBl := hBl.bel hB26
        have K2 := kB K2 hB26
        have K3 := kB K3 hB26
        have HRy := rB HRy hB26
        refine Nl (Tn (Sq ?_))
        have hBd : Bel w26 (w26.drewN 1) := Bel.drew (Below.refl _ _)
        have hob  := at76 hs hB k hkl
        obtain ⟨ad, hA, h76⟩ := hob
        rw [← mv_get l k hkl] at h76
        refine GD_start 31 [30] (fun w' => Bel w26 w') (by kernel_rfl) rfl ?_
        refine GD_pure 0 rfl (by kernel_rfl) (by kernel_rfl) (by kernel_rfl) (by kernel_rfl) rfl rfl rfl (qv fun wq hC => by exact r_fieldAddrB f49_1 rfl) ?_
        refine GD_take 1 rfl (by kernel_rfl) (by kernel_rfl) (by kernel_rfl) (by kernel_rfl) rfl rfl rfl (qv fun wq hC => by exact r_load1 rfl Try.underlying47 (cellAt (kB K22a hC) rfl)) ?_
        refine GD_pure 2 rfl (by kernel_rfl) (by kernel_rfl) (by kernel_rfl) (by kernel_rfl) rfl rfl rfl (qv fun wq hC => by exact r_move) ?_
        refine GD_pure 3 rfl (by kernel_rfl) (by kernel_rfl) (by kernel_rfl) (by kernel_rfl) rfl rfl rfl (qv fun wq hC => by exact r_fieldAddrB f49_1 rfl) ?_
        refine GD_take 4 rfl (by kernel_rfl) (by kernel_rfl) (by kernel_rfl) (by kernel_rfl) rfl rfl rfl (qv fun wq hC => by exact r_load1 rfl Try.underlying47 (cellAt (kB K2 hC) rfl)) ?_
        refine GD_pure 5 rfl (by kernel_rfl) (by kernel_rfl) (by kernel_rfl) (by kernel_rfl) rfl rfl rfl (qv fun wq hC => by exact r_move) ?_
        refine GD_pure 6 rfl (by kernel_rfl) (by kernel_rfl) (by kernel_rfl) (by kernel_rfl) rfl rfl rfl (qv fun wq hC => by exact r_indexH Try.underlying47 info76 hA rfl rfl (by omega) (by omega) rfl) ?_
        refine GD_pure 7 rfl (by kernel_rfl) (by kernel_rfl) (by kernel_rfl) (by kernel_rfl) rfl rfl rfl (qv fun wq hC => by exact r_fieldAddr f76_2 rfl rfl) ?_
        refine GD_pure 8 rfl (by kernel_rfl) (by kernel_rfl) (by kernel_rfl) (by kernel_rfl) rfl rfl rfl (qv fun wq hC => by exact r_fieldAddr f68_0 rfl rfl) ?_
        refine GD_take 9 rfl (by kernel_rfl) (by kernel_rfl) (by kernel_rfl) (by kernel_rfl) rfl rfl rfl (qv fun wq hC => by exact r_load1 rfl Try.underlying3 (by rw [add_add' _ 2 0]; exact hC.cellk (h76 2 _ rfl))) ?_
        refine GD_pure 10 rfl (by kernel_rfl) (by kernel_rfl) (by kernel_rfl) (by kernel_rfl) rfl rfl rfl (qv fun wq hC => by exact r_indexA Try.underlying88 info3 rfl rfl (by omega) (by omega) (add0 _ _)) ?_
        refine GD_take 11 rfl (by kernel_rfl) (by kernel_rfl) (by kernel_rfl) (by kernel_rfl) rfl rfl rfl (qv fun wq hC => by exact r_load1 rfl Try.underlying3 (cellAt (kB K3 hC) rfl)) ?_
        refine GD_take 12 rfl (by kernel_rfl) (by kernel_rfl) (by kernel_rfl) (by kernel_rfl) rfl rfl rfl (qc (fun wq hC => by exact r_call he41 rfl) (fun wq hC => by exact modq_c n2 40 q40 hq40 (by omega) (by omega) _)) ?_
        refine GD_pure 13 rfl (by kernel_rfl) (by kernel_rfl) (by kernel_rfl) (by kernel_rfl) rfl rfl rfl (qv fun wq hC => by exact r_sub rfl rfl (by omega)) ?_
        refine GD_pure 14 rfl (by kernel_rfl) (by kernel_rfl) (by kernel_rfl) (by kernel_rfl) rfl rfl rfl (qv fun wq hC => by exact r_max rfl rfl rfl) ?_
        refine GD_pure 15 rfl (by kernel_rfl) (by kernel_rfl) (by kernel_rfl) (by kernel_rfl) rfl rfl rfl (qv fun wq hC => by exact r_fieldAddrB f49_1 rfl) ?_
        refine GD_take 16 rfl (by kernel_rfl) (by kernel_rfl) (by kernel_rfl) (by kernel_rfl) rfl rfl rfl (qv fun wq hC => by exact r_load1 rfl Try.underlying47 (cellAt (kB K2 hC) rfl)) ?_
        refine GD_pure 17 rfl (by kernel_rfl) (by kernel_rfl) (by kernel_rfl) (by kernel_rfl) rfl rfl rfl (qv fun wq hC => by exact r_move) ?_
        refine GD_pure 18 rfl (by kernel_rfl) (by kernel_rfl) (by kernel_rfl) (by kernel_rfl) rfl rfl rfl (qv fun wq hC => by exact r_indexH Try.underlying47 info76 hA rfl rfl (by omega) (by omega) rfl) ?_
        refine GD_pure 19 rfl (by kernel_rfl) (by kernel_rfl) (by kernel_rfl) (by kernel_rfl) rfl rfl rfl (qv fun wq hC => by exact r_fieldAddr f76_2 rfl rfl) ?_
        refine GD_pure 20 rfl (by kernel_rfl) (by kernel_rfl) (by kernel_rfl) (by kernel_rfl) rfl rfl rfl (qv fun wq hC => by exact r_fieldAddr f68_1 rfl rfl) ?_
        refine GD_take 21 rfl (by kernel_rfl) (by kernel_rfl) (by kernel_rfl) (by kernel_rfl) rfl rfl rfl (qv fun wq hC => by exact r_load1 rfl Try.underlying3 (by rw [add_add' _ 2 1]; exact hC.cellk (h76 3 _ rfl))) ?_
        refine GD_pure 22 rfl (by kernel_rfl) (by kernel_rfl) (by kernel_rfl) (by kernel_rfl) rfl rfl rfl (qv fun wq hC => by exact r_indexA Try.underlying88 info3 rfl rfl (by omega) (by omega) (add0 _ _)) ?_
        refine GD_take 23 rfl (by kernel_rfl) (by kernel_rfl) (by kernel_rfl) (by kernel_rfl) rfl rfl rfl (qv fun wq hC => by exact r_load1 rfl Try.underlying3 (cellAt (kB K3 hC) rfl)) ?_
        refine GD_take 24 rfl (by kernel_rfl) (by kernel_rfl) (by kernel_rfl) (by kernel_rfl) rfl rfl rfl (qc (fun wq hC => by exact r_call he41 rfl) (fun wq hC => by exact modq_c n2 30 q30 hq30 (by omega) (by omega) _)) ?_
        refine GD_pure 25 rfl (by kernel_rfl) (by kernel_rfl) (by kernel_rfl) (by kernel_rfl) rfl rfl rfl (qv fun wq hC => by exact r_add rfl rfl (by omega)) ?_
        refine GD_pure 26 rfl (by kernel_rfl) (by kernel_rfl) (by kernel_rfl) (by kernel_rfl) rfl rfl rfl (qv fun wq hC => by exact r_min rfl rfl rfl) ?_
        refine GD_one 27 (by kernel_rfl) (fun _ => hBd) ?_
        refine GO_call rfl rfl rfl he51 rfl (to_c (max 0 ((mv l k).f2.f0 - q40)) (min 1000 ((mv l k).f2.f1 + q30)) _) (fun e w217 he => ?_)
        obtain ⟨rfl, hb217⟩ := he
        refine ⟨_, rfl, ?_⟩
        have hBd := hBd.bel hb217
        have HRy := rB HRy hBd
        refine GD_pure 28 rfl (by kernel_rfl) (by kernel_rfl) (by kernel_rfl) (by kernel_rfl) rfl rfl rfl (qv fun wq hC => by exact r_indexO Try.underlying47 info76 rfl rfl  (by omega) (by omega) rfl) ?_
        refine GD_pure 29 rfl (by kernel_rfl) (by kernel_rfl) (by kernel_rfl) (by kernel_rfl) rfl rfl rfl (qv fun wq hC => by exact r_fieldAddrB f76_2 rfl) ?_
        refine GD_one 30 (by kernel_rfl) (fun _ => hBd) ?_
        refine GO_storeSeg k76 rfl rfl HRy hkl rfl (c := enc76 (mv (setM l k ⟨0, 0⟩) k)) (j := 2) (seg := [.int .i64 (max 0 ((mv l k).f2.f0 - q40)), .int .i64 (min 1000 ((mv l k).f2.f1 + q30))]) (x' := { mv (setM l k ⟨0, 0⟩) k with f2 := ⟨max 0 ((mv l k).f2.f0 - q40), min 1000 ((mv l k).f2.f1 + q30)⟩ }) (okp := fun _ => False) rfl info68 (by simp [Value.oneCell']) rfl (elem76 HRy hkl) (by show 2 + 2 ≤ 4; decide) (by rw [seg76g]; exact k76_mkM _ _ (fun _ => False) _) (fun _ h => h.elim) rfl rfl (fun w30 HR30 hg30 => ?_)
        rw [setM2 l k _ _ hkl] at HR30
        have hg22 := N22.ge
        have hBz : Bel w119 w30 := (hBl.bel hBd).grown hg30 (fun q hq => by injection hq with hq; omega)
        have hBw : Bel w w30 := hB119.bel hBz
        have K22z := kG (kB K22a hBd) hg30 (by intro h; injection h with h; omega)
        refine GD_end (by kernel_rfl) (dead 30 rfl (by kernel_rfl)) ?_
        refine Tn (Sq (Rg ?_))
        refine g_loadA rfl Try.underlying49 info49 (l := [.int .i64 n, .slice (some ⟨gy, 0, none⟩) l.length cy]) (cellsAt K22z) (h := ?_)
        refine g_call he37 rfl (balanceB_c n (setM l k ⟨max 0 ((mv l k).f2.f0 - q40), min 1000 ((mv l k).f2.f1 + q30)⟩) l.length (some ⟨gy, 0, none⟩) cy _ (setM_len _ _ _) (by have := (Kd.R_reads' HR30).2.2; rw [setM_len] at this; exact this)) (h := ?_)
        rintro e w222 ⟨A222, outy, codey, rfl, hC222, hansy, _, hb222⟩
        refine ⟨_, rfl, ?_⟩
        have hwide : (max 0 ((mv l k).f2.f0 - q40)) ≤ (mv l k).f2.f0 ∧ (mv l k).f2.f1 ≤ min 1000 ((mv l k).f2.f1 + q30) := by omega
        have hboy : bookOk n (setM l k ⟨max 0 ((mv l k).f2.f0 - q40), min 1000 ((mv l k).f2.f1 + q30)⟩) = true := book_setM hbo hkl ⟨by simp only; omega, by simp only; omega, by simp only; omega⟩
        have hoky := hansy.ok hboy (wide_ex hkl hwide ⟨cs0, hbal⟩)
        rw [setM_len] at hoky
        have hBz := hBz.bel hb222
        have hBw := hBw.bel hb222
        have hCz := Kd.C_below hC119 hBz
        refine Mv (Xt rfl rfl (Xt rfl rfl (As (As (Nl (Tn (Sq (Sq (Rg (Mv ?_))))))))))
        refine g_v (r_neqF rfl rfl (by omega)) (h := ?_)
        refine Mv (Mv (Ln Try.underlying52 rfl (Mv (Ln Try.underlying52 rfl ?_))))
        refine g_v (r_neqF rfl rfl (by omega)) (h := ?_)
        refine Pf rfl (Nl (Tn (Cf rfl (Sk (Tn (Sq (Sq (Rg (As (Nl (Tn (Bk ?_))))))))))))
        refine GC_loop (fun m σ w' => ∃ (i : Nat) (τ : Nat → Value), σ = upd (upd (upd τ 5 (.slice A27 out.length out.length)) 23 (.slice A222 outy.length outy.length)) 24 (.int .i64 i) ∧ i ≤ out.length ∧ m = out.length - i ∧ Bel w222 w') (out.length) ⟨0, _, has rfl (has rfl (has rfl rfl)), Nat.zero_le _, rfl, Below.refl _ _⟩ ?_
        rintro m _ w6 ⟨i, τ6, rfl, hi1, rfl, hBq⟩
        refine Sq (Sq (Rg (Mv (Mv (Ln Try.underlying52 rfl ?_)))))
        refine g_lss rfl rfl (h1 := fun c237 => ?_) (h2 := fun c237 => ?_)
        · skip
          refine Nl (Tn (Ct rfl (Sk (Tn (Sq (Bk (Sq ?_)))))))
          have hil : i < out.length := by omega
          have hBe : Bel w222 (w6.drewN 1) := hBq.drew
          have hki := wide_ends hkl hwide (hok.2.2 i (by omega)).1 (hok.2.2 i (by omega)).2 (hoky.2.2 i (by omega)).1 (hoky.2.2 i (by omega)).2
          have hob  := at68 hC222 (Below.refl _ _) i (by omega)
          obtain ⟨ad6, hA6, h244⟩ := hob
          have hob  := at68 hCz (Below.refl _ _) i (by omega)
          obtain ⟨ad7, hA7, h249⟩ := hob
          have e6 : (sp68 outy i).f0 = (rd_T68 outy (i : Nat)).f0 ∧ (sp68 outy i).f1 = (rd_T68 outy (i : Nat)).f1 := ⟨rfl, rfl⟩
          have e7 : (sp68 out i).f0 = (rd_T68 out (i : Nat)).f0 ∧ (sp68 out i).f1 = (rd_T68 out (i : Nat)).f1 := ⟨rfl, rfl⟩
          rw [← e6.1, ← e6.2, ← e7.1, ← e7.2] at hki
          refine GD_start 24 [] (fun w' => Bel w222 w') (by kernel_rfl) rfl ?_
          refine GD_pure 0 rfl (by kernel_rfl) (by kernel_rfl) (by kernel_rfl) (by kernel_rfl) rfl rfl rfl (qv fun wq hC => by exact r_move) ?_
          refine GD_pure 1 rfl (by kernel_rfl) (by kernel_rfl) (by kernel_rfl) (by kernel_rfl) rfl rfl rfl (qv fun wq hC => by exact r_move) ?_
          refine GD_pure 2 rfl (by kernel_rfl) (by kernel_rfl) (by kernel_rfl) (by kernel_rfl) rfl rfl rfl (qv fun wq hC => by exact r_indexH Try.underlying52 info68 hA6 rfl rfl (by omega) (by omega) rfl) ?_
          refine GD_pure 3 rfl (by kernel_rfl) (by kernel_rfl) (by kernel_rfl) (by kernel_rfl) rfl rfl rfl (qv fun wq hC => by exact r_fieldAddr f68_0 rfl rfl) ?_
          refine GD_take 4 rfl (by kernel_rfl) (by kernel_rfl) (by kernel_rfl) (by kernel_rfl) rfl rfl rfl (qv fun wq hC => by exact r_load1 rfl Try.underlying3 (spanAtB h244 hC 0 _ rfl)) ?_
          refine GD_pure 5 rfl (by kernel_rfl) (by kernel_rfl) (by kernel_rfl) (by kernel_rfl) rfl rfl rfl (qv fun wq hC => by exact r_move) ?_
          refine GD_pure 6 rfl (by kernel_rfl) (by kernel_rfl) (by kernel_rfl) (by kernel_rfl) rfl rfl rfl (qv fun wq hC => by exact r_move) ?_
          refine GD_pure 7 rfl (by kernel_rfl) (by kernel_rfl) (by kernel_rfl) (by kernel_rfl) rfl rfl rfl (qv fun wq hC => by exact r_indexH Try.underlying52 info68 hA7 rfl rfl (by omega) (by omega) rfl) ?_
          refine GD_pure 8 rfl (by kernel_rfl) (by kernel_rfl) (by kernel_rfl) (by kernel_rfl) rfl rfl rfl (qv fun wq hC => by exact r_fieldAddr f68_0 rfl rfl) ?_
          refine GD_take 9 rfl (by kernel_rfl) (by kernel_rfl) (by kernel_rfl) (by kernel_rfl) rfl rfl rfl (qv fun wq hC => by exact r_load1 rfl Try.underlying3 (spanAtB h249 hC 0 _ rfl)) ?_
          refine GD_pure 10 rfl (by kernel_rfl) (by kernel_rfl) (by kernel_rfl) (by kernel_rfl) rfl rfl rfl (qv fun wq hC => by exact r_gtrF rfl rfl (by omega)) ?_
          refine GD_pure 11 rfl (by kernel_rfl) (by kernel_rfl) (by kernel_rfl) (by kernel_rfl) rfl rfl rfl (qv fun wq hC => by exact r_move) ?_
          refine GD_pure 12 rfl (by kernel_rfl) (by kernel_rfl) (by kernel_rfl) (by kernel_rfl) rfl rfl rfl (qv fun wq hC => by exact r_move) ?_
          refine GD_pure 13 rfl (by kernel_rfl) (by kernel_rfl) (by kernel_rfl) (by kernel_rfl) rfl rfl rfl (qv fun wq hC => by exact r_move) ?_
          refine GD_pure 14 rfl (by kernel_rfl) (by kernel_rfl) (by kernel_rfl) (by kernel_rfl) rfl rfl rfl (qv fun wq hC => by exact r_indexH Try.underlying52 info68 hA6 rfl rfl (by omega) (by omega) rfl) ?_
          refine GD_pure 15 rfl (by kernel_rfl) (by kernel_rfl) (by kernel_rfl) (by kernel_rfl) rfl rfl rfl (qv fun wq hC => by exact r_fieldAddr f68_1 rfl rfl) ?_
          refine GD_take 16 rfl (by kernel_rfl) (by kernel_rfl) (by kernel_rfl) (by kernel_rfl) rfl rfl rfl (qv fun wq hC => by exact r_load1 rfl Try.underlying3 (spanAtB h244 hC 1 _ rfl)) ?_
          refine GD_pure 17 rfl (by kernel_rfl) (by kernel_rfl) (by kernel_rfl) (by kernel_rfl) rfl rfl rfl (qv fun wq hC => by exact r_move) ?_
          refine GD_pure 18 rfl (by kernel_rfl) (by kernel_rfl) (by kernel_rfl) (by kernel_rfl) rfl rfl rfl (qv fun wq hC => by exact r_move) ?_
          refine GD_pure 19 rfl (by kernel_rfl) (by kernel_rfl) (by kernel_rfl) (by kernel_rfl) rfl rfl rfl (qv fun wq hC => by exact r_indexH Try.underlying52 info68 hA7 rfl rfl (by omega) (by omega) rfl) ?_
          refine GD_pure 20 rfl (by kernel_rfl) (by kernel_rfl) (by kernel_rfl) (by kernel_rfl) rfl rfl rfl (qv fun wq hC => by exact r_fieldAddr f68_1 rfl rfl) ?_
          refine GD_take 21 rfl (by kernel_rfl) (by kernel_rfl) (by kernel_rfl) (by kernel_rfl) rfl rfl rfl (qv fun wq hC => by exact r_load1 rfl Try.underlying3 (spanAtB h249 hC 1 _ rfl)) ?_
          refine GD_pure 22 rfl (by kernel_rfl) (by kernel_rfl) (by kernel_rfl) (by kernel_rfl) rfl rfl rfl (qv fun wq hC => by exact r_lssF rfl rfl (by omega)) ?_
          refine GD_pure 23 rfl (by kernel_rfl) (by kernel_rfl) (by kernel_rfl) (by kernel_rfl) rfl rfl rfl (qv fun wq hC => by exact r_pickF rfl) ?_
          refine GD_end (by kernel_rfl) (fun _ => hBe) ?_
          refine Tn (Cf rfl (Sk (Bn (Tn (Rg (Mv ?_))))))
          refine g_add rfl rfl (by omega) (h := ?_)
          refine As (Nl ?_)
          exact round_end (out.length - (i + 1)) (by omega) ⟨i + 1, _, has rfl (has rfl (has rfl rfl)), hil, rfl, hBe⟩
        · skip
          refine Nl (Tn (Cf rfl (Xi (Tx (Tx (Bs (Tn (Sq (Rg ?_)))))))))
          refine g_call he21 rfl (works_c _) (h := ?_)
          rintro e w264 ⟨rfl, hb264⟩
          refine ⟨_, rfl, ?_⟩
          have hB := hBw.bel (hBq.bel hb264)
          refine As (Nl (Tn (Rt ?_)))
          exact ret1 rfl ⟨rfl, hB⟩
  | false =>
    have hf := heth.1 q36
    refine Nt rfl (Nl (Tn (Ct rfl (Sq (Rg (Mv ?_))))))
    refine g_v (r_neqT rfl rfl (by omega)) (h := ?_)
    refine Mv (Mv (Mv ?_))
    refine g_v (r_eqlT rfl rfl (by omega)) (h := ?_)
    refine Pt rfl (Mv (Mv (Ln Try.underlying52 rfl ?_)))
    refine g_v (r_eqlT rfl rfl (by rw [hf.2.2.1]; rfl)) (h := ?_)
    refine Pt rfl (Mv (Mv ?_))
    refine g_v (r_eqlT rfl rfl (hf.2.2.2)) (h := ?_)
    refine Pt rfl (Mv ?_)
    refine g_call he21 rfl (works_c _) (h := ?_)
    rintro e w55 ⟨rfl, hb55⟩
    refine ⟨_, rfl, ?_⟩
    have hB := hB.bel hb55
    refine Pt rfl (As (Nl (Tn (Rt (Tr ?_)))))
    exact ret1 rfl ⟨rfl, hB⟩
end Go.Proofs.B
