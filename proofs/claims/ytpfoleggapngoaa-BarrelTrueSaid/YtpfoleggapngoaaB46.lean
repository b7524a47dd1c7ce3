/- barrel: true6: counts that balance, and a book around them. -/
import Derived.Test.YtpfoleggapngoaaB45
set_option linter.unusedVariables false
set_option linter.unusedSimpArgs false
set_option maxRecDepth 10000
namespace Go.Proofs.B
open Go Go.RowKit Go.Proofs Go.Proofs.G Go.Proofs.F Go.Proofs.YtpfoleggapngoaaW.PrintWords
theorem flatM76 : ∀ (w1 w2 : World) (b1 b2 : Nat) (o1 o2 : Nat → Prop) x cs, k76.M w1 b1 o1 x cs → k76.M w2 b2 o2 x cs := fun _ _ _ _ _ _ x cs h => by rw [k76_openM h]; exact k76_mkM _ _ _ x
/-- Moves and counts, as far as they go: barrels come to a station from another one. -/
structure TrI (N : Nat) (l : List S76) (cs : List Int) (f : Nat → Int) : Prop where
  len : cs.length = l.length
  mv : ∀ k, k < l.length → ((0 ≤ (mv l k).f0 ∧ (mv l k).f0 < N) ∧ (0 ≤ (mv l k).f1 ∧ (mv l k).f1 < N) ∧ (mv l k).f0 ≠ (mv l k).f1) ∧ 0 ≤ (mv l k).f2.f0 ∧ (mv l k).f2.f0 ≤ rd cs k ∧ rd cs k ≤ (mv l k).f2.f1 ∧ (mv l k).f2.f1 ≤ 1000
  net : ∀ s : Nat, net l cs s = f s
theorem TrI.nil (N : Nat) : TrI N [] [] (fun _ => 0) := ⟨rfl, fun k hk => by simp at hk, fun s => rfl⟩
theorem mv_snL (l : List S76) (m : S76) (j : Nat) (h : j < l.length) : mv (l ++ [m]) j = mv l j := by simp [List.getD_eq_getElem?_getD, List.getElem?_append_left h]
theorem mv_snE (l : List S76) (m : S76) : mv (l ++ [m]) l.length = m := by simp [List.getD_eq_getElem?_getD]
theorem rd_snL (cs : List Int) (v : Int) (j : Nat) (h : j < cs.length) : rd (cs ++ [v]) j = rd cs j := by simp [rd, List.getD_eq_getElem?_getD, List.getElem?_append_left h]
theorem rd_snE (cs : List Int) (v : Int) : rd (cs ++ [v]) cs.length = v := by simp [rd, List.getD_eq_getElem?_getD]
theorem ovf_sn (l : List S76) (m : S76) (cs : List Int) (v : Int) (hl : cs.length = l.length) (s : Nat) : ∀ n, n ≤ l.length → ovf (l ++ [m]) (cs ++ [v]) n s = ovf l cs n s
  | 0, _ => rfl
  | n + 1, h => by
    unfold ovf
    rw [ovf_sn l m cs v hl s n (by omega), mv_snL l m n (by omega), rd_snL cs v n (by omega)]
theorem TrI.snoc {N : Nat} {l : List S76} {cs : List Int} {f : Nat → Int} (h : TrI N l cs f) {m : S76} {v : Int} (hm : ((0 ≤ m.f0 ∧ m.f0 < N) ∧ (0 ≤ m.f1 ∧ m.f1 < N) ∧ m.f0 ≠ m.f1) ∧ 0 ≤ m.f2.f0 ∧ m.f2.f0 ≤ v ∧ v ≤ m.f2.f1 ∧ m.f2.f1 ≤ 1000) {f' : Nat → Int} (hf : ∀ s : Nat, f' s = f s + (if m.f1 = s then v else 0) - (if m.f0 = s then v else 0)) : TrI N (l ++ [m]) (cs ++ [v]) f' := by
  refine ⟨by simp [h.len], fun k hk => ?_, fun s => ?_⟩
  · by_cases e : k < l.length
    · rw [mv_snL l m k e, rd_snL cs v k (by rw [h.len]; exact e)]; exact h.mv k e
    · have : k = l.length := by simp at hk; omega
      subst this
      rw [mv_snE, ← h.len, rd_snE]; exact hm
  · have e : (l ++ [m]).length = l.length + 1 := by simp
    show ovf (l ++ [m]) (cs ++ [v]) (l ++ [m]).length s = _
    rw [e]
    show ovf (l ++ [m]) (cs ++ [v]) l.length s + (if (B.mv (l ++ [m]) l.length).f1 = s then rd (cs ++ [v]) l.length else 0) - (if (B.mv (l ++ [m]) l.length).f0 = s then rd (cs ++ [v]) l.length else 0) = _
    rw [ovf_sn l m cs v h.len s _ (Nat.le_refl _), mv_snE, ← h.len, rd_snE, hf s]
    have e2 : ovf l cs l.length s = f s := h.net s
    rw [← h.len] at e2
    rw [e2]
theorem TrI.same {N : Nat} {l : List S76} {cs : List Int} {f f' : Nat → Int} (h : TrI N l cs f) (hf : ∀ s, f' s = f s) : TrI N l cs f' := ⟨h.len, h.mv, fun s => by rw [hf s]; exact h.net s⟩
/-- What true6 makes. -/
def Tru (n : Int) (l : List S76) (cs : List Int) : Prop := cs.length = l.length ∧ (l ≠ [] → bookOk n l = true ∧ Bal n.toNat l cs)
theorem TrI.fin {N : Nat} {l : List S76} {cs : List Int} (h : TrI N l cs (fun _ => 0)) (hN : 2 ≤ N ∧ N ≤ 6) (hl : l.length ≤ 9) : Tru N l cs := by
  refine ⟨h.len, fun hne => ?_⟩
  have h1 : 1 ≤ l.length := List.length_pos_iff.2 hne
  refine ⟨?_, ⟨h.len, fun k hk => ?_⟩, fun s _ => h.net s⟩
  · unfold bookOk
    rw [Bool.and_eq_true]
    refine ⟨decide_eq_true (by omega), List.all_eq_true.2 fun m hm => ?_⟩
    obtain ⟨j, hj, rfl⟩ := List.mem_iff_getElem.1 hm
    have h2 := h.mv j hj
    rw [mv_get _ j hj] at h2
    unfold moveOk spanOk
    simp only [decide_eq_true_eq]
    omega
  · have := h.mv k hk; omega
theorem build49a (w : World) (a : Int) : (Instr.build 49 #[(0, .int .i64 a)]).run Try.prog w = .ok (.agg #[.int .i64 a, .slice none 0 0]) w := by kernel_rfl
theorem build76 (w : World) (a b c d : Int) : (Instr.build 76 #[(0, .int .i64 a), (1, .int .i64 b), (2, .agg #[.int .i64 c, .int .i64 d])]).run Try.prog w = .ok (.agg #[.int .i64 a, .int .i64 b, .int .i64 c, .int .i64 d]) w := by kernel_rfl
theorem bs47_1 (w : World) (a b c d : Int) : (Instr.buildSlice 47 1 #[(0, .agg #[.int .i64 a, .int .i64 b, .int .i64 c, .int .i64 d])]).run Try.prog w = .ok (.slice (some ⟨w.heap.size, 0, none⟩) 1 1) (w.alloc (.cells #[.int .i64 a, .int .i64 b, .int .i64 c, .int .i64 d] 76)) := by kernel_rfl
theorem bs22_1 (w : World) (a : Int) : (Instr.buildSlice 22 1 #[(0, .int .i64 a)]).run Try.prog w = .ok (.slice (some ⟨w.heap.size, 0, none⟩) 1 1) (w.alloc (.cells #[.int .i64 a] 3)) := by kernel_rfl
theorem modT_c (n m r : Int) (h : n % m = r) (hm : 0 < m) (hm2 : m ≤ 9223372036854775807) (w : World) : Calls Try.prog 41 #[.int .i64 n, .int .i64 m] w fun e w' => e = .returned (.int .i64 r) ∧ w' = w := by
  subst h; exact mod_c n m hm hm2 w
theorem mod_rg (n m : Int) (hm : 0 < m) : 0 ≤ n % m ∧ n % m < m := ⟨Int.emod_nonneg n (by omega), Int.emod_lt_of_pos n hm⟩
/-- Many barrels at one station instead of another. -/
def goF (q a b : Int) (s : Nat) : Int := (if a = (s : Int) then q else 0) - (if b = (s : Int) then q else 0)
theorem goF_same (q a : Int) (s : Nat) : goF q a a s = 0 := by unfold goF; omega
set_option maxHeartbeats 40000000 in
theorem true6_c (B : Option Addr) (d : Nat) (bits : List Int) (w : World) (hbt : (Kd.int .i64).C w B bits.length bits) :
    Calls Try.prog 56 #[.slice B bits.length d] w fun e w' => ∃ (n : Int) (A : Option Addr) (c nl : Nat) (l : List S76) (v : Value) (cs : List Int), e = .returned (.tuple #[.agg #[.int .i64 n, .slice A nl c], v]) ∧ l.length = nl ∧ k76.C w' A nl l ∧ RowV w' v cs ∧ Tru n l cs ∧ Bel w w' := by
  refine G_enter (l := [.slice B bits.length d]) Try.func56 rfl rfl ?_
  refine Sq (Rg ?_)
  refine g_alloc (z := .agg #[.int .i64 0, .slice none 0 0]) (by kernel_rfl) (h := fun g2 w2 N2 => ?_)
  have K2 := N2.at_
  have hB2 := Bel.of_new N2
  have hg2 : w.heap.size ≤ g2 := N2.ge
  have hs2 := Kd.C_below hbt hB2
  refine As (Nl (Tn (Sq (Rg (Mv ?_)))))
  refine g_call he42 rfl (pick_c B d bits 0 _ hs2) (h := ?_)
  rintro e w13 ⟨rfl, rfl⟩
  refine ⟨_, rfl, ?_⟩
  have hm4 := mod_rg (pickL bits 0) 4 (by omega)
  have hob : ∃ sn : Nat, pickL bits 0 % 4 = sn := ⟨(pickL bits 0 % 4).toNat, by omega⟩
  obtain ⟨sn, hsn⟩ := hob
  refine g_call he41 rfl (modT_c (pickL bits 0) 4 sn hsn (by omega) (by omega) _) (h := ?_)
  rintro e w14 ⟨rfl, rfl⟩
  refine ⟨_, rfl, ?_⟩
  refine g_add rfl rfl (by omega) (h := ?_)
  refine As (Nl (Tn (Sq (Rg (Mv ?_)))))
  refine g_bld (build49a _ _) rfl (h := ?_)
  refine g_alloc (z := .agg #[.int .i64 0, .slice none 0 0]) (by kernel_rfl) (h := fun g5 w5 N5 => ?_)
  have K5 := N5.at_
  refine g_storeA rfl rfl info49 K5 rfl (by simp [Value.oneCell']) (h := fun w4 P4 => ?_)
  have K5 : w4.heap[g5]? = some (.cells #[.int .i64 (3 + sn), .slice none 0 0] 49 (0, 0)) := P4.at_
  have hB4 := (hB2.new N5).put P4 (Nat.le_trans hB2.size N5.ge)
  have h25 : g2 ≠ g5 := N5.ne K2
  have K2 := kP (kN K2 N5) P4 h25
  have hg5 : w.heap.size ≤ g5 := Nat.le_trans hB2.size N5.ge
  refine Nl (Tn (Sq (Rg (As (Nl (Tn (Sq (Sq (Rg (As (Nl (Tn (Bk ?_)))))))))))))
  refine GC_loop (fun m σ w' => ∃ (r : Nat) (l : List S76) (cs : List Int) (vm vc : Value) (τ : Nat → Value), σ = upd (upd (upd (upd (upd (upd τ 0 (.slice B bits.length d)) 2 (.pointer (some ⟨g2, 0, none⟩))) 4 (.int .i64 (3 + sn))) 5 (.pointer (some ⟨g5, 0, none⟩))) 6 vc) 7 (.int .i64 r) ∧ r ≤ 3 ∧ m = 3 - r ∧ TrI (3 + sn) l cs (fun _ => 0) ∧ l.length ≤ 3 * r ∧ k76.R 76 w' w.heap.size (fun _ => True) vm l ∧ (Kd.int .i64).R 3 w' w.heap.size (fun _ => True) vc cs ∧ w'.heap[g5]? = some (.cells #[.int .i64 (3 + sn), vm] 49 (0, 0)) ∧ w'.heap[g2]? = some (.cells #[.int .i64 0, .slice none 0 0] 49 (0, 0)) ∧ Bel w w') (3) ⟨0, [], [], .slice none 0 0, _, _, has rfl (has rfl (has rfl (has rfl (has rfl (has rfl rfl))))), by omega, rfl, TrI.nil _, Nat.zero_le _, Kd.R_nil _ _ _ _ _, Kd.R_nil _ _ _ _ _, K5, K2, hB4⟩ ?_
  rintro m _ w5 ⟨r, l, cs, vm, vc, τ, rfl, hr3, rfl, htr, hll, HRm, HRc, K5, K2, hB⟩
  refine Sq (Sq (Rg (Mv ?_)))
  refine g_lss rfl rfl (h1 := fun c19 => ?_) (h2 := fun c19 => ?_)
  · skip
    refine Nl (Tn (Ct rfl (Sk (Tn (Sq (Bk (Sq (Rg (Mv (Mv ?_))))))))))
    refine g_add rfl rfl (by omega) (h := ?_)
    have hob : ∃ q, pickL bits ((r : Int) + 1) % 200 = q := ⟨_, rfl⟩
    obtain ⟨q, hq⟩ := hob
    have hqr := mod_rg (pickL bits ((r : Int) + 1)) 200 (by omega)
    rw [hq] at hqr
    have hob : ∃ a, pickL bits ((r : Int) + 4) % (3 + sn) = a := ⟨_, rfl⟩
    obtain ⟨a0, ha0⟩ := hob
    have har := mod_rg (pickL bits ((r : Int) + 4)) (3 + sn) (by omega)
    rw [ha0] at har
    refine g_call he42 rfl (pick_c B d bits ((r : Int) + 1) _ (Kd.C_below hbt hB)) (h := ?_)
    rintro e w25 ⟨rfl, rfl⟩
    refine ⟨_, rfl, ?_⟩
    refine g_call he41 rfl (modT_c (pickL bits ((r : Int) + 1)) 200 q hq (by omega) (by omega) _) (h := ?_)
    rintro e w26 ⟨rfl, rfl⟩
    refine ⟨_, rfl, ?_⟩
    refine As (Nl (Tn (Sq (Rg (Mv (Mv ?_))))))
    refine g_add rfl rfl (by omega) (h := ?_)
    refine g_call he42 rfl (pick_c B d bits ((r : Int) + 4) _ (Kd.C_below hbt hB)) (h := ?_)
    rintro e w30 ⟨rfl, rfl⟩
    refine ⟨_, rfl, ?_⟩
    refine Mv ?_
    refine g_call he41 rfl (modT_c (pickL bits ((r : Int) + 4)) (3 + sn) a0 ha0 (by omega) (by omega) _) (h := ?_)
    rintro e w32 ⟨rfl, rfl⟩
    refine ⟨_, rfl, ?_⟩
    refine As (Nl (Tn (Sq (Rg (As (Nl (Tn (Bk ?_))))))))
    refine GC_loop (fun m σ w' => ∃ (k : Nat) (at' : Int) (l : List S76) (cs : List Int) (vm vc : Value) (τ : Nat → Value), σ = upd (upd (upd (upd (upd (upd (upd (upd (upd τ 0 (.slice B bits.length d)) 2 (.pointer (some ⟨g2, 0, none⟩))) 4 (.int .i64 (3 + sn))) 5 (.pointer (some ⟨g5, 0, none⟩))) 6 vc) 7 (.int .i64 r)) 8 (.int .i64 q)) 9 (.int .i64 at')) 10 (.int .i64 k) ∧ k ≤ 3 ∧ m = 3 - k ∧ (0 ≤ at' ∧ at' < 3 + sn) ∧ (k = 3 → at' = a0) ∧ TrI (3 + sn) l cs (goF q at' a0) ∧ l.length ≤ 3 * r + k ∧ k76.R 76 w' w.heap.size (fun _ => True) vm l ∧ (Kd.int .i64).R 3 w' w.heap.size (fun _ => True) vc cs ∧ w'.heap[g5]? = some (.cells #[.int .i64 (3 + sn), vm] 49 (0, 0)) ∧ w'.heap[g2]? = some (.cells #[.int .i64 0, .slice none 0 0] 49 (0, 0)) ∧ Bel w w') (3) ⟨0, a0, l, cs, vm, vc, _, has rfl (has rfl (has rfl (has rfl (has rfl (has rfl (has rfl (has rfl (has rfl rfl)))))))), by omega, rfl, har, fun h => by omega, htr.same (goF_same q a0), by omega, HRm, HRc, K5, K2, hB⟩ ?_
    rintro m _ w6 ⟨k, at', l, cs, vm, vc, τ, rfl, hk3, rfl, hat, hat3, htr, hll, HRm, HRc, K5, K2, hB⟩
    refine Sq (Sq (Rg (Mv ?_)))
    refine g_lss rfl rfl (h1 := fun c34 => ?_) (h2 := fun c34 => ?_)
    · skip
      refine Nl (Tn (Ct rfl (Sk (Tn (Sq (Bk (Sq (Rg (Mv ?_)))))))))
      refine g_add rfl rfl (by omega) (h := ?_)
      refine Mv (Mv ?_)
      have hob : ∃ z, pickL bits (r : Int) % 2 = z := ⟨_, rfl⟩
      obtain ⟨z, hz⟩ := hob
      have hzr := mod_rg (pickL bits (r : Int)) 2 (by omega)
      rw [hz] at hzr
      have hob : ∃ z, (k : Int) % 2 = z := ⟨_, rfl⟩
      obtain ⟨z2, hz2⟩ := hob
      have hzz : 0 ≤ z * z2 ∧ z * z2 ≤ 1 := by
        rcases (show z = 0 ∨ z = 1 by omega) with h | h
        · rw [h]; omega
        · rw [h]; omega
      have hob : ∃ z3, (at' + 1 + z * z2) % (3 + sn) = z3 := ⟨_, rfl⟩
      obtain ⟨nx, hnx⟩ := hob
      have hnr := mod_rg (at' + 1 + z * z2) (3 + sn) (by omega)
      rw [hnx] at hnr
      refine g_call he42 rfl (pick_c B d bits (r : Int) _ (Kd.C_below hbt hB)) (h := ?_)
      rintro e w41 ⟨rfl, hw41⟩
      have hw41 := hw41.symm
      subst hw41
      refine ⟨_, rfl, ?_⟩
      refine g_call he41 rfl (modT_c (pickL bits (r : Int)) 2 z hz (by omega) (by omega) _) (h := ?_)
      rintro e w42 ⟨rfl, hw42⟩
      have hw42 := hw42.symm
      subst hw42
      refine ⟨_, rfl, ?_⟩
      refine Mv ?_
      refine g_call he41 rfl (modT_c k 2 z2 hz2 (by omega) (by omega) _) (h := ?_)
      rintro e w44 ⟨rfl, hw44⟩
      have hw44 := hw44.symm
      subst hw44
      refine ⟨_, rfl, ?_⟩
      refine g_v (r_mul rfl rfl (by omega)) (h := ?_)
      refine g_add rfl rfl (by omega) (h := ?_)
      refine Mv ?_
      refine g_call he41 rfl (modT_c (at' + 1 + z * z2) (3 + sn) nx hnx (by omega) (by omega) _) (h := ?_)
      rintro e w48 ⟨rfl, hw48⟩
      have hw48 := hw48.symm
      subst hw48
      refine ⟨_, rfl, ?_⟩
      refine As (Nl (Tn (Sq (Sq (Rg (Mv ?_))))))
      refine g_eql rfl rfl (h1 := fun c50 => ?_) (h2 := fun c50 => ?_)
      · skip
        have hob : ∃ x, a0 = x := ⟨_, rfl⟩
        obtain ⟨ne, hne⟩ := hob
        have hner : (0 ≤ ne ∧ ne < 3 + sn) ∧ ((k + 1 = 3) → ne = a0) := by omega
        refine Nl (Tn (Ct rfl (Rg (Mv (Mv ?_)))))
        refine g_add rfl rfl (by omega) (h := ?_)
        refine g_call he42 rfl (pick_c B d bits ((r : Int) + 4) _ (Kd.C_below hbt hB)) (h := ?_)
        rintro e w54 ⟨rfl, hw54⟩
        have hw54 := hw54.symm
        subst hw54
        refine ⟨_, rfl, ?_⟩
        refine Mv ?_
        refine g_call he41 rfl (modT_c (pickL bits ((r : Int) + 4)) (3 + sn) ne (ha0.trans hne) (by omega) (by omega) _) (h := ?_)
        rintro e w56 ⟨rfl, hw56⟩
        have hw56 := hw56.symm
        subst hw56
        refine ⟨_, rfl, ?_⟩
        refine As (Nl (Tn (Sq (Sq (Rg (Mv (Mv ?_)))))))
        refine g_neq rfl rfl (h1 := fun c59 => ?_) (h2 := fun c59 => ?_)
        · skip
          refine Nl (Tn (Ct rfl ?_))
          have hBd : Bel w6 (w6.drewN 1) := Bel.drew (Below.refl _ _)
          have hob : ∃ z, pickL bits ((r : Int) + k + 5) % 30 = z := ⟨_, rfl⟩
          obtain ⟨z3, hz3⟩ := hob
          have hz3r := mod_rg (pickL bits ((r : Int) + k + 5)) 30 (by omega)
          rw [hz3] at hz3r
          have hob : ∃ z, pickL bits ((r : Int) + k + 2) % 30 = z := ⟨_, rfl⟩
          obtain ⟨z4, hz4⟩ := hob
          have hz4r := mod_rg (pickL bits ((r : Int) + k + 2)) 30 (by omega)
          rw [hz4] at hz4r
          have K50 := K5
          have HRm := rB HRm hBd
          have HRc := rB HRc hBd
          have K5 := kB K5 hBd
          have K2 := kB K2 hBd
          have hBq := hB.bel hBd
          have htrl := htr.len
          have hob : ∃ M : S76, M = ⟨at', ne, ⟨max 0 (q - z3), q + z4⟩⟩ := ⟨_, rfl⟩
          obtain ⟨M, hM⟩ := hob
          have hMe : enc76 M = [.int .i64 at', .int .i64 ne, .int .i64 (max 0 (q - z3)), .int .i64 (q + z4)] := by rw [hM]; rfl
          refine GD_start 34 [26] (fun w' => Bel w6 w') (by kernel_rfl) rfl ?_
          refine GD_pure 0 rfl (by kernel_rfl) (by kernel_rfl) (by kernel_rfl) (by kernel_rfl) rfl rfl rfl (qv fun wq hC => by exact r_fieldAddrB f49_1 rfl) ?_
          refine GD_take 1 rfl (by kernel_rfl) (by kernel_rfl) (by kernel_rfl) (by kernel_rfl) rfl rfl rfl (qv fun wq hC => by exact r_load1 rfl Try.underlying47 (cellAt (kB K50 hC) rfl)) ?_
          refine GD_pure 2 rfl (by kernel_rfl) (by kernel_rfl) (by kernel_rfl) (by kernel_rfl) rfl rfl rfl (qv fun wq hC => by exact r_move) ?_
          refine GD_pure 3 rfl (by kernel_rfl) (by kernel_rfl) (by kernel_rfl) (by kernel_rfl) rfl rfl rfl (qv fun wq hC => by exact r_move) ?_
          refine GD_pure 4 rfl (by kernel_rfl) (by kernel_rfl) (by kernel_rfl) (by kernel_rfl) rfl rfl rfl (qv fun wq hC => by exact r_move) ?_
          refine GD_pure 5 rfl (by kernel_rfl) (by kernel_rfl) (by kernel_rfl) (by kernel_rfl) rfl rfl rfl (qv fun wq hC => by exact r_move) ?_
          refine GD_pure 6 rfl (by kernel_rfl) (by kernel_rfl) (by kernel_rfl) (by kernel_rfl) rfl rfl rfl (qv fun wq hC => by exact r_move) ?_
          refine GD_pure 7 rfl (by kernel_rfl) (by kernel_rfl) (by kernel_rfl) (by kernel_rfl) rfl rfl rfl (qv fun wq hC => by exact r_move) ?_
          refine GD_pure 8 rfl (by kernel_rfl) (by kernel_rfl) (by kernel_rfl) (by kernel_rfl) rfl rfl rfl (qv fun wq hC => by exact r_add rfl rfl (by omega)) ?_
          refine GD_pure 9 rfl (by kernel_rfl) (by kernel_rfl) (by kernel_rfl) (by kernel_rfl) rfl rfl rfl (qv fun wq hC => by exact r_add rfl rfl (by omega)) ?_
          refine GD_take 10 rfl (by kernel_rfl) (by kernel_rfl) (by kernel_rfl) (by kernel_rfl) rfl rfl rfl (qc (fun wq hC => by exact r_call he42 rfl) (fun wq hC => by exact pick_c B d bits ((r : Int) + k + 5) _ (Kd.C_below hbt (hB.bel hC)))) ?_
          refine GD_take 11 rfl (by kernel_rfl) (by kernel_rfl) (by kernel_rfl) (by kernel_rfl) rfl rfl rfl (qc (fun wq hC => by exact r_call he41 rfl) (fun wq hC => by exact modT_c (pickL bits ((r : Int) + k + 5)) 30 z3 hz3 (by omega) (by omega) _)) ?_
          refine GD_pure 12 rfl (by kernel_rfl) (by kernel_rfl) (by kernel_rfl) (by kernel_rfl) rfl rfl rfl (qv fun wq hC => by exact r_sub rfl rfl (by omega)) ?_
          refine GD_pure 13 rfl (by kernel_rfl) (by kernel_rfl) (by kernel_rfl) (by kernel_rfl) rfl rfl rfl (qv fun wq hC => by exact r_max rfl rfl rfl) ?_
          refine GD_pure 14 rfl (by kernel_rfl) (by kernel_rfl) (by kernel_rfl) (by kernel_rfl) rfl rfl rfl (qv fun wq hC => by exact r_move) ?_
          refine GD_pure 15 rfl (by kernel_rfl) (by kernel_rfl) (by kernel_rfl) (by kernel_rfl) rfl rfl rfl (qv fun wq hC => by exact r_move) ?_
          refine GD_pure 16 rfl (by kernel_rfl) (by kernel_rfl) (by kernel_rfl) (by kernel_rfl) rfl rfl rfl (qv fun wq hC => by exact r_move) ?_
          refine GD_pure 17 rfl (by kernel_rfl) (by kernel_rfl) (by kernel_rfl) (by kernel_rfl) rfl rfl rfl (qv fun wq hC => by exact r_move) ?_
          refine GD_pure 18 rfl (by kernel_rfl) (by kernel_rfl) (by kernel_rfl) (by kernel_rfl) rfl rfl rfl (qv fun wq hC => by exact r_add rfl rfl (by omega)) ?_
          refine GD_pure 19 rfl (by kernel_rfl) (by kernel_rfl) (by kernel_rfl) (by kernel_rfl) rfl rfl rfl (qv fun wq hC => by exact r_add rfl rfl (by omega)) ?_
          refine GD_take 20 rfl (by kernel_rfl) (by kernel_rfl) (by kernel_rfl) (by kernel_rfl) rfl rfl rfl (qc (fun wq hC => by exact r_call he42 rfl) (fun wq hC => by exact pick_c B d bits ((r : Int) + k + 2) _ (Kd.C_below hbt (hB.bel hC)))) ?_
          refine GD_take 21 rfl (by kernel_rfl) (by kernel_rfl) (by kernel_rfl) (by kernel_rfl) rfl rfl rfl (qc (fun wq hC => by exact r_call he41 rfl) (fun wq hC => by exact modT_c (pickL bits ((r : Int) + k + 2)) 30 z4 hz4 (by omega) (by omega) _)) ?_
          refine GD_pure 22 rfl (by kernel_rfl) (by kernel_rfl) (by kernel_rfl) (by kernel_rfl) rfl rfl rfl (qv fun wq hC => by exact r_add rfl rfl (by omega)) ?_
          refine GD_pure 27 rfl (by kernel_rfl) (by kernel_rfl) (by kernel_rfl) (by kernel_rfl) rfl rfl rfl (qv fun wq hC => by exact r_move) ?_
          refine GD_pure 28 rfl (by kernel_rfl) (by kernel_rfl) (by kernel_rfl) (by kernel_rfl) rfl rfl rfl (qv fun wq hC => by exact r_move) ?_
          refine GD_two 23 29 (by kernel_rfl) (by first | exact fun _ => hBd | exact dead 26 rfl (by kernel_rfl)) ?_ ?_
          · skip
            refine GO_call rfl rfl rfl he51 rfl (to_c (max 0 (q - z3)) (q + z4) _) (fun e w83 he => ?_)
            obtain ⟨rfl, hb83⟩ := he
            refine ⟨_, rfl, ?_⟩
            have HRm := rB HRm hb83
            have HRc := rB HRc hb83
            have K5 := kB K5 hb83
            have K2 := kB K2 hb83
            try have K89 := kB K89 hb83
            have hBd := hBd.bel hb83
            have hBq := hBq.bel hb83
            refine GD_pure 24 rfl (by kernel_rfl) (by kernel_rfl) (by kernel_rfl) (by kernel_rfl) rfl rfl rfl (qv fun wq hC => by exact r_bld (build76 _ _ _ _ _) rfl) ?_
            refine GD_two 25 29 (by kernel_rfl) (by first | exact fun _ => hBd | exact dead 26 rfl (by kernel_rfl)) ?_ ?_
            · skip
              refine GO_lits rfl rfl rfl (bs47_1 _ _ _ _ _) rfl (fun g85 w85 N85 => ?_)
              have HRm := rN HRm N85
              have HRc := rN HRc N85
              have K5 := kN K5 N85
              have K2 := kN K2 N85
              try have K89 := kN K89 N85
              have K85 := N85.at_
              have hBd := hBd.new N85
              have hBq := hBq.new N85
              refine GD_two 26 29 (by kernel_rfl) (by first | exact fun _ => hBd | exact dead 26 rfl (by kernel_rfl)) ?_ ?_
              · skip
                refine GO_appendR k76 rfl rfl rfl Try.underlying47 zi76 rfl (by decide) HRm (cs := enc76 M) (by first | (rw [hMe]; exact K85) | (rw [hMe, ← hne]; exact K85)) (p := M) (okp := fun _ => False) (k76_mkM _ _ _ M) (fun _ h => h.elim) (fun _ _ => trivial) hBq.size (by omega) (by simp [maxLen]; omega) rfl rfl (fun vm2 w86 HRm2 hg86 _ => ?_)
                have HRc := R_apartG flatInt HRc HRm (by decide) hg86
                have K5 := kG K5 hg86 (ne_own HRm K5 (by decide))
                have K2 := kG K2 hg86 (ne_own HRm K2 (by decide))
                try have K89 := kG K89 hg86 (ne_own HRm K89 (by decide))
                have hBq := hBq.grown hg86 (Kd.R_base HRm)
                have HRm := HRm2
                refine GD_pure 31 rfl (by kernel_rfl) (by kernel_rfl) (by kernel_rfl) (by kernel_rfl) rfl rfl rfl (qv fun wq hC => by exact r_fieldAddrB f49_1 rfl) ?_
                refine GD_one 29 (by kernel_rfl) (by first | exact fun _ => hBd | exact dead 26 rfl (by kernel_rfl)) ?_
                refine GO_lits rfl rfl rfl (bs22_1 _ _) rfl (fun g89 w89 N89 => ?_)
                have HRm := rN HRm N89
                have HRc := rN HRc N89
                have K5 := kN K5 N89
                have K2 := kN K2 N89
                try have K85 := kN K85 N89
                have K89 := N89.at_
                try have hBd := hBd.new N89
                have hBq := hBq.new N89
                refine GD_one 30 (by kernel_rfl) (by first | exact fun _ => hBd | exact dead 26 rfl (by kernel_rfl)) ?_
                refine GO_appendR (Kd.int .i64) rfl rfl rfl Try.underlying22 zi3 rfl (by decide) HRc (cs := [.int .i64 q]) K89 (p := q) (okp := fun _ => False) rfl (fun _ h => h.elim) (fun _ _ => trivial) hBq.size (by omega) (by simp [maxLen]; omega) rfl rfl (fun vc2 w90 HRc2 hg90 _ => ?_)
                have HRm := R_apartG flatM76 HRm HRc (by decide) hg90
                have K5 := kG K5 hg90 (ne_own HRc K5 (by decide))
                have K2 := kG K2 hg90 (ne_own HRc K2 (by decide))
                have hBq := hBq.grown hg90 (Kd.R_base HRc)
                have HRc := HRc2
                have hform := Kd.R_form HRm (by simp)
                obtain ⟨gm, cm, hvm, _⟩ := hform
                refine GD_one 32 (by kernel_rfl) (by first | exact fun _ => hBd | exact dead 26 rfl (by kernel_rfl)) ?_
                refine GO_store1 rfl rfl rfl rfl info47 K5 (by simp) (by rw [hvm]; rfl) (fun w32 P32 => ?_)
                have HRm := R_apartP flatM76 HRm P32 K5 (by decide)
                have HRc := R_apartP flatInt HRc P32 K5 (by decide)
                have K2 := kP K2 P32 h25
                have K5 : w32.heap[g5]? = some (.cells #[.int .i64 (3 + sn), vm2] 49 (0, 0)) := P32.at_
                have hBq := hBq.put P32 hg5
                refine GD_pure 33 rfl (by kernel_rfl) (by kernel_rfl) (by kernel_rfl) (by kernel_rfl) rfl rfl rfl (qv fun wq hC => by exact r_assign) ?_
                refine GD_end (by kernel_rfl) (by first | exact fun _ => hBd | exact dead 26 rfl (by kernel_rfl)) ?_
                refine Tn (Rg (Mv (As (Nl (Bn (Tn (Rg (Mv ?_))))))))
                refine g_add rfl rfl (by omega) (h := ?_)
                refine As (Nl ?_)
                first
                | exact round_end (3 - (k + 1)) (by omega) ⟨k + 1, ne, _, _, vm2, vc2, _, has rfl (has (by first | rfl | (rw [← hne]; rfl)) (has rfl (has rfl (has rfl (has rfl (has rfl (has rfl (has rfl rfl)))))))), by omega, rfl, hner.1, hner.2, htr.snoc (m := M) (v := q) (by rw [hM]; simp only; omega) (fun s => by rw [hM]; simp only; unfold goF; omega), by simp only [List.length_append, List.length_singleton]; omega, HRm, HRc, K5, K2, hBq⟩
                | exact round_end (3 - (k + 1)) (by omega) ⟨k + 1, ne, _, _, vm, vc, _, has rfl (has (by first | rfl | (rw [← hne]; rfl)) (has rfl (has rfl (has rfl (has rfl (has rfl (has rfl (has rfl rfl)))))))), by omega, rfl, hner.1, hner.2, htr.same (fun s => by rw [show ne = at' by omega]), by omega, HRm, HRc, K5, K2, hB⟩
              · skip
                refine GO_lits rfl rfl rfl (bs22_1 _ _) rfl (fun g89 w89 N89 => ?_)
                have HRm := rN HRm N89
                have HRc := rN HRc N89
                have K5 := kN K5 N89
                have K2 := kN K2 N89
                try have K85 := kN K85 N89
                have K89 := N89.at_
                try have hBd := hBd.new N89
                have hBq := hBq.new N89
                refine GD_one 26 (by kernel_rfl) (by first | exact fun _ => hBd | exact dead 26 rfl (by kernel_rfl)) ?_
                refine GO_appendR k76 rfl rfl rfl Try.underlying47 zi76 rfl (by decide) HRm (cs := enc76 M) (by first | (rw [hMe]; exact K85) | (rw [hMe, ← hne]; exact K85)) (p := M) (okp := fun _ => False) (k76_mkM _ _ _ M) (fun _ h => h.elim) (fun _ _ => trivial) hBq.size (by omega) (by simp [maxLen]; omega) rfl rfl (fun vm2 w86 HRm2 hg86 _ => ?_)
                have HRc := R_apartG flatInt HRc HRm (by decide) hg86
                have K5 := kG K5 hg86 (ne_own HRm K5 (by decide))
                have K2 := kG K2 hg86 (ne_own HRm K2 (by decide))
                try have K89 := kG K89 hg86 (ne_own HRm K89 (by decide))
                have hBq := hBq.grown hg86 (Kd.R_base HRm)
                have HRm := HRm2
                refine GD_pure 31 rfl (by kernel_rfl) (by kernel_rfl) (by kernel_rfl) (by kernel_rfl) rfl rfl rfl (qv fun wq hC => by exact r_fieldAddrB f49_1 rfl) ?_
                refine GD_one 30 (by kernel_rfl) (by first | exact fun _ => hBd | exact dead 26 rfl (by kernel_rfl)) ?_
                refine GO_appendR (Kd.int .i64) rfl rfl rfl Try.underlying22 zi3 rfl (by decide) HRc (cs := [.int .i64 q]) K89 (p := q) (okp := fun _ => False) rfl (fun _ h => h.elim) (fun _ _ => trivial) hBq.size (by omega) (by simp [maxLen]; omega) rfl rfl (fun vc2 w90 HRc2 hg90 _ => ?_)
                have HRm := R_apartG flatM76 HRm HRc (by decide) hg90
                have K5 := kG K5 hg90 (ne_own HRc K5 (by decide))
                have K2 := kG K2 hg90 (ne_own HRc K2 (by decide))
                have hBq := hBq.grown hg90 (Kd.R_base HRc)
                have HRc := HRc2
                have hform := Kd.R_form HRm (by simp)
                obtain ⟨gm, cm, hvm, _⟩ := hform
                refine GD_one 32 (by kernel_rfl) (by first | exact fun _ => hBd | exact dead 26 rfl (by kernel_rfl)) ?_
                refine GO_store1 rfl rfl rfl rfl info47 K5 (by simp) (by rw [hvm]; rfl) (fun w32 P32 => ?_)
                have HRm := R_apartP flatM76 HRm P32 K5 (by decide)
                have HRc := R_apartP flatInt HRc P32 K5 (by decide)
                have K2 := kP K2 P32 h25
                have K5 : w32.heap[g5]? = some (.cells #[.int .i64 (3 + sn), vm2] 49 (0, 0)) := P32.at_
                have hBq := hBq.put P32 hg5
                refine GD_pure 33 rfl (by kernel_rfl) (by kernel_rfl) (by kernel_rfl) (by kernel_rfl) rfl rfl rfl (qv fun wq hC => by exact r_assign) ?_
                refine GD_end (by kernel_rfl) (by first | exact fun _ => hBd | exact dead 26 rfl (by kernel_rfl)) ?_
                refine Tn (Rg (Mv (As (Nl (Bn (Tn (Rg (Mv ?_))))))))
                refine g_add rfl rfl (by omega) (h := ?_)
                refine As (Nl ?_)
                first
                | exact round_end (3 - (k + 1)) (by omega) ⟨k + 1, ne, _, _, vm2, vc2, _, has rfl (has (by first | rfl | (rw [← hne]; rfl)) (has rfl (has rfl (has rfl (has rfl (has rfl (has rfl (has rfl rfl)))))))), by omega, rfl, hner.1, hner.2, htr.snoc (m := M) (v := q) (by rw [hM]; simp only; omega) (fun s => by rw [hM]; simp only; unfold goF; omega), by simp only [List.length_append, List.length_singleton]; omega, HRm, HRc, K5, K2, hBq⟩
                | exact round_end (3 - (k + 1)) (by omega) ⟨k + 1, ne, _, _, vm, vc, _, has rfl (has (by first | rfl | (rw [← hne]; rfl)) (has rfl (has rfl (has rfl (has rfl (has rfl (has rfl (has rfl rfl)))))))), by omega, rfl, hner.1, hner.2, htr.same (fun s => by rw [show ne = at' by omega]), by omega, HRm, HRc, K5, K2, hB⟩
            · skip
              refine GO_lits rfl rfl rfl (bs22_1 _ _) rfl (fun g89 w89 N89 => ?_)
              have HRm := rN HRm N89
              have HRc := rN HRc N89
              have K5 := kN K5 N89
              have K2 := kN K2 N89
              try have K85 := kN K85 N89
              have K89 := N89.at_
              try have hBd := hBd.new N89
              have hBq := hBq.new N89
              refine GD_one 25 (by kernel_rfl) (by first | exact fun _ => hBd | exact dead 26 rfl (by kernel_rfl)) ?_
              refine GO_lits rfl rfl rfl (bs47_1 _ _ _ _ _) rfl (fun g85 w85 N85 => ?_)
              have HRm := rN HRm N85
              have HRc := rN HRc N85
              have K5 := kN K5 N85
              have K2 := kN K2 N85
              try have K89 := kN K89 N85
              have K85 := N85.at_
              have hBd := hBd.new N85
              have hBq := hBq.new N85
              refine GD_one 26 (by kernel_rfl) (by first | exact fun _ => hBd | exact dead 26 rfl (by kernel_rfl)) ?_
              refine GO_appendR k76 rfl rfl rfl Try.underlying47 zi76 rfl (by decide) HRm (cs := enc76 M) (by first | (rw [hMe]; exact K85) | (rw [hMe, ← hne]; exact K85)) (p := M) (okp := fun _ => False) (k76_mkM _ _ _ M) (fun _ h => h.elim) (fun _ _ => trivial) hBq.size (by omega) (by simp [maxLen]; omega) rfl rfl (fun vm2 w86 HRm2 hg86 _ => ?_)
              have HRc := R_apartG flatInt HRc HRm (by decide) hg86
              have K5 := kG K5 hg86 (ne_own HRm K5 (by decide))
              have K2 := kG K2 hg86 (ne_own HRm K2 (by decide))
              try have K89 := kG K89 hg86 (ne_own HRm K89 (by decide))
              have hBq := hBq.grown hg86 (Kd.R_base HRm)
              have HRm := HRm2
              refine GD_pure 31 rfl (by kernel_rfl) (by kernel_rfl) (by kernel_rfl) (by kernel_rfl) rfl rfl rfl (qv fun wq hC => by exact r_fieldAddrB f49_1 rfl) ?_
              refine GD_one 30 (by kernel_rfl) (by first | exact fun _ => hBd | exact dead 26 rfl (by kernel_rfl)) ?_
              refine GO_appendR (Kd.int .i64) rfl rfl rfl Try.underlying22 zi3 rfl (by decide) HRc (cs := [.int .i64 q]) K89 (p := q) (okp := fun _ => False) rfl (fun _ h => h.elim) (fun _ _ => trivial) hBq.size (by omega) (by simp [maxLen]; omega) rfl rfl (fun vc2 w90 HRc2 hg90 _ => ?_)
              have HRm := R_apartG flatM76 HRm HRc (by decide) hg90
              have K5 := kG K5 hg90 (ne_own HRc K5 (by decide))
              have K2 := kG K2 hg90 (ne_own HRc K2 (by decide))
              have hBq := hBq.grown hg90 (Kd.R_base HRc)
              have HRc := HRc2
              have hform := Kd.R_form HRm (by simp)
              obtain ⟨gm, cm, hvm, _⟩ := hform
              refine GD_one 32 (by kernel_rfl) (by first | exact fun _ => hBd | exact dead 26 rfl (by kernel_rfl)) ?_
              refine GO_store1 rfl rfl rfl rfl info47 K5 (by simp) (by rw [hvm]; rfl) (fun w32 P32 => ?_)
              have HRm := R_apartP flatM76 HRm P32 K5 (by decide)
              have HRc := R_apartP flatInt HRc P32 K5 (by decide)
              have K2 := kP K2 P32 h25
              have K5 : w32.heap[g5]? = some (.cells #[.int .i64 (3 + sn), vm2] 49 (0, 0)) := P32.at_
              have hBq := hBq.put P32 hg5
              refine GD_pure 33 rfl (by kernel_rfl) (by kernel_rfl) (by kernel_rfl) (by kernel_rfl) rfl rfl rfl (qv fun wq hC => by exact r_assign) ?_
              refine GD_end (by kernel_rfl) (by first | exact fun _ => hBd | exact dead 26 rfl (by kernel_rfl)) ?_
              refine Tn (Rg (Mv (As (Nl (Bn (Tn (Rg (Mv ?_))))))))
              refine g_add rfl rfl (by omega) (h := ?_)
              refine As (Nl ?_)
              first
              | exact round_end (3 - (k + 1)) (by omega) ⟨k + 1, ne, _, _, vm2, vc2, _, has rfl (has (by first | rfl | (rw [← hne]; rfl)) (has rfl (has rfl (has rfl (has rfl (has rfl (has rfl (has rfl rfl)))))))), by omega, rfl, hner.1, hner.2, htr.snoc (m := M) (v := q) (by rw [hM]; simp only; omega) (fun s => by rw [hM]; simp only; unfold goF; omega), by simp only [List.length_append, List.length_singleton]; omega, HRm, HRc, K5, K2, hBq⟩
              | exact round_end (3 - (k + 1)) (by omega) ⟨k + 1, ne, _, _, vm, vc, _, has rfl (has (by first | rfl | (rw [← hne]; rfl)) (has rfl (has rfl (has rfl (has rfl (has rfl (has rfl (has rfl rfl)))))))), by omega, rfl, hner.1, hner.2, htr.same (fun s => by rw [show ne = at' by omega]), by omega, HRm, HRc, K5, K2, hB⟩
          · skip
            refine GO_lits rfl rfl rfl (bs22_1 _ _) rfl (fun g89 w89 N89 => ?_)
            have HRm := rN HRm N89
            have HRc := rN HRc N89
            have K5 := kN K5 N89
            have K2 := kN K2 N89
            try have K85 := kN K85 N89
            have K89 := N89.at_
            try have hBd := hBd.new N89
            have hBq := hBq.new N89
            refine GD_one 23 (by kernel_rfl) (by first | exact fun _ => hBd | exact dead 26 rfl (by kernel_rfl)) ?_
            refine GO_call rfl rfl rfl he51 rfl (to_c (max 0 (q - z3)) (q + z4) _) (fun e w83 he => ?_)
            obtain ⟨rfl, hb83⟩ := he
            refine ⟨_, rfl, ?_⟩
            have HRm := rB HRm hb83
            have HRc := rB HRc hb83
            have K5 := kB K5 hb83
            have K2 := kB K2 hb83
            try have K89 := kB K89 hb83
            have hBd := hBd.bel hb83
            have hBq := hBq.bel hb83
            refine GD_pure 24 rfl (by kernel_rfl) (by kernel_rfl) (by kernel_rfl) (by kernel_rfl) rfl rfl rfl (qv fun wq hC => by exact r_bld (build76 _ _ _ _ _) rfl) ?_
            refine GD_one 25 (by kernel_rfl) (by first | exact fun _ => hBd | exact dead 26 rfl (by kernel_rfl)) ?_
            refine GO_lits rfl rfl rfl (bs47_1 _ _ _ _ _) rfl (fun g85 w85 N85 => ?_)
            have HRm := rN HRm N85
            have HRc := rN HRc N85
            have K5 := kN K5 N85
            have K2 := kN K2 N85
            try have K89 := kN K89 N85
            have K85 := N85.at_
            have hBd := hBd.new N85
            have hBq := hBq.new N85
            refine GD_one 26 (by kernel_rfl) (by first | exact fun _ => hBd | exact dead 26 rfl (by kernel_rfl)) ?_
            refine GO_appendR k76 rfl rfl rfl Try.underlying47 zi76 rfl (by decide) HRm (cs := enc76 M) (by first | (rw [hMe]; exact K85) | (rw [hMe, ← hne]; exact K85)) (p := M) (okp := fun _ => False) (k76_mkM _ _ _ M) (fun _ h => h.elim) (fun _ _ => trivial) hBq.size (by omega) (by simp [maxLen]; omega) rfl rfl (fun vm2 w86 HRm2 hg86 _ => ?_)
            have HRc := R_apartG flatInt HRc HRm (by decide) hg86
            have K5 := kG K5 hg86 (ne_own HRm K5 (by decide))
            have K2 := kG K2 hg86 (ne_own HRm K2 (by decide))
            try have K89 := kG K89 hg86 (ne_own HRm K89 (by decide))
            have hBq := hBq.grown hg86 (Kd.R_base HRm)
            have HRm := HRm2
            refine GD_pure 31 rfl (by kernel_rfl) (by kernel_rfl) (by kernel_rfl) (by kernel_rfl) rfl rfl rfl (qv fun wq hC => by exact r_fieldAddrB f49_1 rfl) ?_
            refine GD_one 30 (by kernel_rfl) (by first | exact fun _ => hBd | exact dead 26 rfl (by kernel_rfl)) ?_
            refine GO_appendR (Kd.int .i64) rfl rfl rfl Try.underlying22 zi3 rfl (by decide) HRc (cs := [.int .i64 q]) K89 (p := q) (okp := fun _ => False) rfl (fun _ h => h.elim) (fun _ _ => trivial) hBq.size (by omega) (by simp [maxLen]; omega) rfl rfl (fun vc2 w90 HRc2 hg90 _ => ?_)
            have HRm := R_apartG flatM76 HRm HRc (by decide) hg90
            have K5 := kG K5 hg90 (ne_own HRc K5 (by decide))
            have K2 := kG K2 hg90 (ne_own HRc K2 (by decide))
            have hBq := hBq.grown hg90 (Kd.R_base HRc)
            have HRc := HRc2
            have hform := Kd.R_form HRm (by simp)
            obtain ⟨gm, cm, hvm, _⟩ := hform
            refine GD_one 32 (by kernel_rfl) (by first | exact fun _ => hBd | exact dead 26 rfl (by kernel_rfl)) ?_
            refine GO_store1 rfl rfl rfl rfl info47 K5 (by simp) (by rw [hvm]; rfl) (fun w32 P32 => ?_)
            have HRm := R_apartP flatM76 HRm P32 K5 (by decide)
            have HRc := R_apartP flatInt HRc P32 K5 (by decide)
            have K2 := kP K2 P32 h25
            have K5 : w32.heap[g5]? = some (.cells #[.int .i64 (3 + sn), vm2] 49 (0, 0)) := P32.at_
            have hBq := hBq.put P32 hg5
            refine GD_pure 33 rfl (by kernel_rfl) (by kernel_rfl) (by kernel_rfl) (by kernel_rfl) rfl rfl rfl (qv fun wq hC => by exact r_assign) ?_
            refine GD_end (by kernel_rfl) (by first | exact fun _ => hBd | exact dead 26 rfl (by kernel_rfl)) ?_
            refine Tn (Rg (Mv (As (Nl (Bn (Tn (Rg (Mv ?_))))))))
            refine g_add rfl rfl (by omega) (h := ?_)
            refine As (Nl ?_)
            first
            | exact round_end (3 - (k + 1)) (by omega) ⟨k + 1, ne, _, _, vm2, vc2, _, has rfl (has (by first | rfl | (rw [← hne]; rfl)) (has rfl (has rfl (has rfl (has rfl (has rfl (has rfl (has rfl rfl)))))))), by omega, rfl, hner.1, hner.2, htr.snoc (m := M) (v := q) (by rw [hM]; simp only; omega) (fun s => by rw [hM]; simp only; unfold goF; omega), by simp only [List.length_append, List.length_singleton]; omega, HRm, HRc, K5, K2, hBq⟩
            | exact round_end (3 - (k + 1)) (by omega) ⟨k + 1, ne, _, _, vm, vc, _, has rfl (has (by first | rfl | (rw [← hne]; rfl)) (has rfl (has rfl (has rfl (has rfl (has rfl (has rfl (has rfl rfl)))))))), by omega, rfl, hner.1, hner.2, htr.same (fun s => by rw [show ne = at' by omega]), by omega, HRm, HRc, K5, K2, hB⟩
        · skip
          refine Nl (Tn (Cf rfl (Sk (Tn (Rg (Mv (As (Nl (Bn (Tn (Rg (Mv ?_))))))))))))
          refine g_add rfl rfl (by omega) (h := ?_)
          refine As (Nl ?_)
          first
          | exact round_end (3 - (k + 1)) (by omega) ⟨k + 1, ne, _, _, vm2, vc2, _, has rfl (has (by first | rfl | (rw [← hne]; rfl)) (has rfl (has rfl (has rfl (has rfl (has rfl (has rfl (has rfl rfl)))))))), by omega, rfl, hner.1, hner.2, htr.snoc (m := M) (v := q) (by rw [hM]; simp only; omega) (fun s => by rw [hM]; simp only; unfold goF; omega), by simp only [List.length_append, List.length_singleton]; omega, HRm, HRc, K5, K2, hBq⟩
          | exact round_end (3 - (k + 1)) (by omega) ⟨k + 1, ne, _, _, vm, vc, _, has rfl (has (by first | rfl | (rw [← hne]; rfl)) (has rfl (has rfl (has rfl (has rfl (has rfl (has rfl (has rfl rfl)))))))), by omega, rfl, hner.1, hner.2, htr.same (fun s => by rw [show ne = at' by omega]), by omega, HRm, HRc, K5, K2, hB⟩
      · skip
        have hob : ∃ x, nx = x := ⟨_, rfl⟩
        obtain ⟨ne, hne⟩ := hob
        have hner : (0 ≤ ne ∧ ne < 3 + sn) ∧ ((k + 1 = 3) → ne = a0) := by omega
        refine Nl (Tn (Cf rfl (Sk (Tn (Sq (Sq (Rg (Mv (Mv ?_)))))))))
        refine g_neq rfl rfl (h1 := fun c59 => ?_) (h2 := fun c59 => ?_)
        · skip
          refine Nl (Tn (Ct rfl ?_))
          have hBd : Bel w6 (w6.drewN 1) := Bel.drew (Below.refl _ _)
          have hob : ∃ z, pickL bits ((r : Int) + k + 5) % 30 = z := ⟨_, rfl⟩
          obtain ⟨z3, hz3⟩ := hob
          have hz3r := mod_rg (pickL bits ((r : Int) + k + 5)) 30 (by omega)
          rw [hz3] at hz3r
          have hob : ∃ z, pickL bits ((r : Int) + k + 2) % 30 = z := ⟨_, rfl⟩
          obtain ⟨z4, hz4⟩ := hob
          have hz4r := mod_rg (pickL bits ((r : Int) + k + 2)) 30 (by omega)
          rw [hz4] at hz4r
          have K50 := K5
          have HRm := rB HRm hBd
          have HRc := rB HRc hBd
          have K5 := kB K5 hBd
          have K2 := kB K2 hBd
          have hBq := hB.bel hBd
          have htrl := htr.len
          have hob : ∃ M : S76, M = ⟨at', ne, ⟨max 0 (q - z3), q + z4⟩⟩ := ⟨_, rfl⟩
          obtain ⟨M, hM⟩ := hob
          have hMe : enc76 M = [.int .i64 at', .int .i64 ne, .int .i64 (max 0 (q - z3)), .int .i64 (q + z4)] := by rw [hM]; rfl
          refine GD_start 34 [26] (fun w' => Bel w6 w') (by kernel_rfl) rfl ?_
          refine GD_pure 0 rfl (by kernel_rfl) (by kernel_rfl) (by kernel_rfl) (by kernel_rfl) rfl rfl rfl (qv fun wq hC => by exact r_fieldAddrB f49_1 rfl) ?_
          refine GD_take 1 rfl (by kernel_rfl) (by kernel_rfl) (by kernel_rfl) (by kernel_rfl) rfl rfl rfl (qv fun wq hC => by exact r_load1 rfl Try.underlying47 (cellAt (kB K50 hC) rfl)) ?_
          refine GD_pure 2 rfl (by kernel_rfl) (by kernel_rfl) (by kernel_rfl) (by kernel_rfl) rfl rfl rfl (qv fun wq hC => by exact r_move) ?_
          refine GD_pure 3 rfl (by kernel_rfl) (by kernel_rfl) (by kernel_rfl) (by kernel_rfl) rfl rfl rfl (qv fun wq hC => by exact r_move) ?_
          refine GD_pure 4 rfl (by kernel_rfl) (by kernel_rfl) (by kernel_rfl) (by kernel_rfl) rfl rfl rfl (qv fun wq hC => by exact r_move) ?_
          refine GD_pure 5 rfl (by kernel_rfl) (by kernel_rfl) (by kernel_rfl) (by kernel_rfl) rfl rfl rfl (qv fun wq hC => by exact r_move) ?_
          refine GD_pure 6 rfl (by kernel_rfl) (by kernel_rfl) (by kernel_rfl) (by kernel_rfl) rfl rfl rfl (qv fun wq hC => by exact r_move) ?_
          refine GD_pure 7 rfl (by kernel_rfl) (by kernel_rfl) (by kernel_rfl) (by kernel_rfl) rfl rfl rfl (qv fun wq hC => by exact r_move) ?_
          refine GD_pure 8 rfl (by kernel_rfl) (by kernel_rfl) (by kernel_rfl) (by kernel_rfl) rfl rfl rfl (qv fun wq hC => by exact r_add rfl rfl (by omega)) ?_
          refine GD_pure 9 rfl (by kernel_rfl) (by kernel_rfl) (by kernel_rfl) (by kernel_rfl) rfl rfl rfl (qv fun wq hC => by exact r_add rfl rfl (by omega)) ?_
          refine GD_take 10 rfl (by kernel_rfl) (by kernel_rfl) (by kernel_rfl) (by kernel_rfl) rfl rfl rfl (qc (fun wq hC => by exact r_call he42 rfl) (fun wq hC => by exact pick_c B d bits ((r : Int) + k + 5) _ (Kd.C_below hbt (hB.bel hC)))) ?_
          refine GD_take 11 rfl (by kernel_rfl) (by kernel_rfl) (by kernel_rfl) (by kernel_rfl) rfl rfl rfl (qc (fun wq hC => by exact r_call he41 rfl) (fun wq hC => by exact modT_c (pickL bits ((r : Int) + k + 5)) 30 z3 hz3 (by omega) (by omega) _)) ?_
          refine GD_pure 12 rfl (by kernel_rfl) (by kernel_rfl) (by kernel_rfl) (by kernel_rfl) rfl rfl rfl (qv fun wq hC => by exact r_sub rfl rfl (by omega)) ?_
          refine GD_pure 13 rfl (by kernel_rfl) (by kernel_rfl) (by kernel_rfl) (by kernel_rfl) rfl rfl rfl (qv fun wq hC => by exact r_max rfl rfl rfl) ?_
          refine GD_pure 14 rfl (by kernel_rfl) (by kernel_rfl) (by kernel_rfl) (by kernel_rfl) rfl rfl rfl (qv fun wq hC => by exact r_move) ?_
          refine GD_pure 15 rfl (by kernel_rfl) (by kernel_rfl) (by kernel_rfl) (by kernel_rfl) rfl rfl rfl (qv fun wq hC => by exact r_move) ?_
          refine GD_pure 16 rfl (by kernel_rfl) (by kernel_rfl) (by kernel_rfl) (by kernel_rfl) rfl rfl rfl (qv fun wq hC => by exact r_move) ?_
          refine GD_pure 17 rfl (by kernel_rfl) (by kernel_rfl) (by kernel_rfl) (by kernel_rfl) rfl rfl rfl (qv fun wq hC => by exact r_move) ?_
          refine GD_pure 18 rfl (by kernel_rfl) (by kernel_rfl) (by kernel_rfl) (by kernel_rfl) rfl rfl rfl (qv fun wq hC => by exact r_add rfl rfl (by omega)) ?_
          refine GD_pure 19 rfl (by kernel_rfl) (by kernel_rfl) (by kernel_rfl) (by kernel_rfl) rfl rfl rfl (qv fun wq hC => by exact r_add rfl rfl (by omega)) ?_
          refine GD_take 20 rfl (by kernel_rfl) (by kernel_rfl) (by kernel_rfl) (by kernel_rfl) rfl rfl rfl (qc (fun wq hC => by exact r_call he42 rfl) (fun wq hC => by exact pick_c B d bits ((r : Int) + k + 2) _ (Kd.C_below hbt (hB.bel hC)))) ?_
          refine GD_take 21 rfl (by kernel_rfl) (by kernel_rfl) (by kernel_rfl) (by kernel_rfl) rfl rfl rfl (qc (fun wq hC => by exact r_call he41 rfl) (fun wq hC => by exact modT_c (pickL bits ((r : Int) + k + 2)) 30 z4 hz4 (by omega) (by omega) _)) ?_
          refine GD_pure 22 rfl (by kernel_rfl) (by kernel_rfl) (by kernel_rfl) (by kernel_rfl) rfl rfl rfl (qv fun wq hC => by exact r_add rfl rfl (by omega)) ?_
          refine GD_pure 27 rfl (by kernel_rfl) (by kernel_rfl) (by kernel_rfl) (by kernel_rfl) rfl rfl rfl (qv fun wq hC => by exact r_move) ?_
          refine GD_pure 28 rfl (by kernel_rfl) (by kernel_rfl) (by kernel_rfl) (by kernel_rfl) rfl rfl rfl (qv fun wq hC => by exact r_move) ?_
          refine GD_two 23 29 (by kernel_rfl) (by first | exact fun _ => hBd | exact dead 26 rfl (by kernel_rfl)) ?_ ?_
          · skip
            refine GO_call rfl rfl rfl he51 rfl (to_c (max 0 (q - z3)) (q + z4) _) (fun e w83 he => ?_)
            obtain ⟨rfl, hb83⟩ := he
            refine ⟨_, rfl, ?_⟩
            have HRm := rB HRm hb83
            have HRc := rB HRc hb83
            have K5 := kB K5 hb83
            have K2 := kB K2 hb83
            try have K89 := kB K89 hb83
            have hBd := hBd.bel hb83
            have hBq := hBq.bel hb83
            refine GD_pure 24 rfl (by kernel_rfl) (by kernel_rfl) (by kernel_rfl) (by kernel_rfl) rfl rfl rfl (qv fun wq hC => by exact r_bld (build76 _ _ _ _ _) rfl) ?_
            refine GD_two 25 29 (by kernel_rfl) (by first | exact fun _ => hBd | exact dead 26 rfl (by kernel_rfl)) ?_ ?_
            · skip
              refine GO_lits rfl rfl rfl (bs47_1 _ _ _ _ _) rfl (fun g85 w85 N85 => ?_)
              have HRm := rN HRm N85
              have HRc := rN HRc N85
              have K5 := kN K5 N85
              have K2 := kN K2 N85
              try have K89 := kN K89 N85
              have K85 := N85.at_
              have hBd := hBd.new N85
              have hBq := hBq.new N85
              refine GD_two 26 29 (by kernel_rfl) (by first | exact fun _ => hBd | exact dead 26 rfl (by kernel_rfl)) ?_ ?_
              · skip
                refine GO_appendR k76 rfl rfl rfl Try.underlying47 zi76 rfl (by decide) HRm (cs := enc76 M) (by first | (rw [hMe]; exact K85) | (rw [hMe, ← hne]; exact K85)) (p := M) (okp := fun _ => False) (k76_mkM _ _ _ M) (fun _ h => h.elim) (fun _ _ => trivial) hBq.size (by omega) (by simp [maxLen]; omega) rfl rfl (fun vm2 w86 HRm2 hg86 _ => ?_)
                have HRc := R_apartG flatInt HRc HRm (by decide) hg86
                have K5 := kG K5 hg86 (ne_own HRm K5 (by decide))
                have K2 := kG K2 hg86 (ne_own HRm K2 (by decide))
                try have K89 := kG K89 hg86 (ne_own HRm K89 (by decide))
                have hBq := hBq.grown hg86 (Kd.R_base HRm)
                have HRm := HRm2
                refine GD_pure 31 rfl (by kernel_rfl) (by kernel_rfl) (by kernel_rfl) (by kernel_rfl) rfl rfl rfl (qv fun wq hC => by exact r_fieldAddrB f49_1 rfl) ?_
                refine GD_one 29 (by kernel_rfl) (by first | exact fun _ => hBd | exact dead 26 rfl (by kernel_rfl)) ?_
                refine GO_lits rfl rfl rfl (bs22_1 _ _) rfl (fun g89 w89 N89 => ?_)
                have HRm := rN HRm N89
                have HRc := rN HRc N89
                have K5 := kN K5 N89
                have K2 := kN K2 N89
                try have K85 := kN K85 N89
                have K89 := N89.at_
                try have hBd := hBd.new N89
                have hBq := hBq.new N89
                refine GD_one 30 (by kernel_rfl) (by first | exact fun _ => hBd | exact dead 26 rfl (by kernel_rfl)) ?_
                refine GO_appendR (Kd.int .i64) rfl rfl rfl Try.underlying22 zi3 rfl (by decide) HRc (cs := [.int .i64 q]) K89 (p := q) (okp := fun _ => False) rfl (fun _ h => h.elim) (fun _ _ => trivial) hBq.size (by omega) (by simp [maxLen]; omega) rfl rfl (fun vc2 w90 HRc2 hg90 _ => ?_)
                have HRm := R_apartG flatM76 HRm HRc (by decide) hg90
                have K5 := kG K5 hg90 (ne_own HRc K5 (by decide))
                have K2 := kG K2 hg90 (ne_own HRc K2 (by decide))
                have hBq := hBq.grown hg90 (Kd.R_base HRc)
                have HRc := HRc2
                have hform := Kd.R_form HRm (by simp)
                obtain ⟨gm, cm, hvm, _⟩ := hform
                refine GD_one 32 (by kernel_rfl) (by first | exact fun _ => hBd | exact dead 26 rfl (by kernel_rfl)) ?_
                refine GO_store1 rfl rfl rfl rfl info47 K5 (by simp) (by rw [hvm]; rfl) (fun w32 P32 => ?_)
                have HRm := R_apartP flatM76 HRm P32 K5 (by decide)
                have HRc := R_apartP flatInt HRc P32 K5 (by decide)
                have K2 := kP K2 P32 h25
                have K5 : w32.heap[g5]? = some (.cells #[.int .i64 (3 + sn), vm2] 49 (0, 0)) := P32.at_
                have hBq := hBq.put P32 hg5
                refine GD_pure 33 rfl (by kernel_rfl) (by kernel_rfl) (by kernel_rfl) (by kernel_rfl) rfl rfl rfl (qv fun wq hC => by exact r_assign) ?_
                refine GD_end (by kernel_rfl) (by first | exact fun _ => hBd | exact dead 26 rfl (by kernel_rfl)) ?_
                refine Tn (Rg (Mv (As (Nl (Bn (Tn (Rg (Mv ?_))))))))
                refine g_add rfl rfl (by omega) (h := ?_)
                refine As (Nl ?_)
                first
                | exact round_end (3 - (k + 1)) (by omega) ⟨k + 1, ne, _, _, vm2, vc2, _, has rfl (has (by first | rfl | (rw [← hne]; rfl)) (has rfl (has rfl (has rfl (has rfl (has rfl (has rfl (has rfl rfl)))))))), by omega, rfl, hner.1, hner.2, htr.snoc (m := M) (v := q) (by rw [hM]; simp only; omega) (fun s => by rw [hM]; simp only; unfold goF; omega), by simp only [List.length_append, List.length_singleton]; omega, HRm, HRc, K5, K2, hBq⟩
                | exact round_end (3 - (k + 1)) (by omega) ⟨k + 1, ne, _, _, vm, vc, _, has rfl (has (by first | rfl | (rw [← hne]; rfl)) (has rfl (has rfl (has rfl (has rfl (has rfl (has rfl (has rfl rfl)))))))), by omega, rfl, hner.1, hner.2, htr.same (fun s => by rw [show ne = at' by omega]), by omega, HRm, HRc, K5, K2, hB⟩
              · skip
                refine GO_lits rfl rfl rfl (bs22_1 _ _) rfl (fun g89 w89 N89 => ?_)
                have HRm := rN HRm N89
                have HRc := rN HRc N89
                have K5 := kN K5 N89
                have K2 := kN K2 N89
                try have K85 := kN K85 N89
                have K89 := N89.at_
                try have hBd := hBd.new N89
                have hBq := hBq.new N89
                refine GD_one 26 (by kernel_rfl) (by first | exact fun _ => hBd | exact dead 26 rfl (by kernel_rfl)) ?_
                refine GO_appendR k76 rfl rfl rfl Try.underlying47 zi76 rfl (by decide) HRm (cs := enc76 M) (by first | (rw [hMe]; exact K85) | (rw [hMe, ← hne]; exact K85)) (p := M) (okp := fun _ => False) (k76_mkM _ _ _ M) (fun _ h => h.elim) (fun _ _ => trivial) hBq.size (by omega) (by simp [maxLen]; omega) rfl rfl (fun vm2 w86 HRm2 hg86 _ => ?_)
                have HRc := R_apartG flatInt HRc HRm (by decide) hg86
                have K5 := kG K5 hg86 (ne_own HRm K5 (by decide))
                have K2 := kG K2 hg86 (ne_own HRm K2 (by decide))
                try have K89 := kG K89 hg86 (ne_own HRm K89 (by decide))
                have hBq := hBq.grown hg86 (Kd.R_base HRm)
                have HRm := HRm2
                refine GD_pure 31 rfl (by kernel_rfl) (by kernel_rfl) (by kernel_rfl) (by kernel_rfl) rfl rfl rfl (qv fun wq hC => by exact r_fieldAddrB f49_1 rfl) ?_
                refine GD_one 30 (by kernel_rfl) (by first | exact fun _ => hBd | exact dead 26 rfl (by kernel_rfl)) ?_
                refine GO_appendR (Kd.int .i64) rfl rfl rfl Try.underlying22 zi3 rfl (by decide) HRc (cs := [.int .i64 q]) K89 (p := q) (okp := fun _ => False) rfl (fun _ h => h.elim) (fun _ _ => trivial) hBq.size (by omega) (by simp [maxLen]; omega) rfl rfl (fun vc2 w90 HRc2 hg90 _ => ?_)
                have HRm := R_apartG flatM76 HRm HRc (by decide) hg90
                have K5 := kG K5 hg90 (ne_own HRc K5 (by decide))
                have K2 := kG K2 hg90 (ne_own HRc K2 (by decide))
                have hBq := hBq.grown hg90 (Kd.R_base HRc)
                have HRc := HRc2
                have hform := Kd.R_form HRm (by simp)
                obtain ⟨gm, cm, hvm, _⟩ := hform
                refine GD_one 32 (by kernel_rfl) (by first | exact fun _ => hBd | exact dead 26 rfl (by kernel_rfl)) ?_
                refine GO_store1 rfl rfl rfl rfl info47 K5 (by simp) (by rw [hvm]; rfl) (fun w32 P32 => ?_)
                have HRm := R_apartP flatM76 HRm P32 K5 (by decide)
                have HRc := R_apartP flatInt HRc P32 K5 (by decide)
                have K2 := kP K2 P32 h25
                have K5 : w32.heap[g5]? = some (.cells #[.int .i64 (3 + sn), vm2] 49 (0, 0)) := P32.at_
                have hBq := hBq.put P32 hg5
                refine GD_pure 33 rfl (by kernel_rfl) (by kernel_rfl) (by kernel_rfl) (by kernel_rfl) rfl rfl rfl (qv fun wq hC => by exact r_assign) ?_
                refine GD_end (by kernel_rfl) (by first | exact fun _ => hBd | exact dead 26 rfl (by kernel_rfl)) ?_
                refine Tn (Rg (Mv (As (Nl (Bn (Tn (Rg (Mv ?_))))))))
                refine g_add rfl rfl (by omega) (h := ?_)
                refine As (Nl ?_)
                first
                | exact round_end (3 - (k + 1)) (by omega) ⟨k + 1, ne, _, _, vm2, vc2, _, has rfl (has (by first | rfl | (rw [← hne]; rfl)) (has rfl (has rfl (has rfl (has rfl (has rfl (has rfl (has rfl rfl)))))))), by omega, rfl, hner.1, hner.2, htr.snoc (m := M) (v := q) (by rw [hM]; simp only; omega) (fun s => by rw [hM]; simp only; unfold goF; omega), by simp only [List.length_append, List.length_singleton]; omega, HRm, HRc, K5, K2, hBq⟩
                | exact round_end (3 - (k + 1)) (by omega) ⟨k + 1, ne, _, _, vm, vc, _, has rfl (has (by first | rfl | (rw [← hne]; rfl)) (has rfl (has rfl (has rfl (has rfl (has rfl (has rfl (has rfl rfl)))))))), by omega, rfl, hner.1, hner.2, htr.same (fun s => by rw [show ne = at' by omega]), by omega, HRm, HRc, K5, K2, hB⟩
            · skip
              refine GO_lits rfl rfl rfl (bs22_1 _ _) rfl (fun g89 w89 N89 => ?_)
              have HRm := rN HRm N89
              have HRc := rN HRc N89
              have K5 := kN K5 N89
              have K2 := kN K2 N89
              try have K85 := kN K85 N89
              have K89 := N89.at_
              try have hBd := hBd.new N89
              have hBq := hBq.new N89
              refine GD_one 25 (by kernel_rfl) (by first | exact fun _ => hBd | exact dead 26 rfl (by kernel_rfl)) ?_
              refine GO_lits rfl rfl rfl (bs47_1 _ _ _ _ _) rfl (fun g85 w85 N85 => ?_)
              have HRm := rN HRm N85
              have HRc := rN HRc N85
              have K5 := kN K5 N85
              have K2 := kN K2 N85
              try have K89 := kN K89 N85
              have K85 := N85.at_
              have hBd := hBd.new N85
              have hBq := hBq.new N85
              refine GD_one 26 (by kernel_rfl) (by first | exact fun _ => hBd | exact dead 26 rfl (by kernel_rfl)) ?_
              refine GO_appendR k76 rfl rfl rfl Try.underlying47 zi76 rfl (by decide) HRm (cs := enc76 M) (by first | (rw [hMe]; exact K85) | (rw [hMe, ← hne]; exact K85)) (p := M) (okp := fun _ => False) (k76_mkM _ _ _ M) (fun _ h => h.elim) (fun _ _ => trivial) hBq.size (by omega) (by simp [maxLen]; omega) rfl rfl (fun vm2 w86 HRm2 hg86 _ => ?_)
              have HRc := R_apartG flatInt HRc HRm (by decide) hg86
              have K5 := kG K5 hg86 (ne_own HRm K5 (by decide))
              have K2 := kG K2 hg86 (ne_own HRm K2 (by decide))
              try have K89 := kG K89 hg86 (ne_own HRm K89 (by decide))
              have hBq := hBq.grown hg86 (Kd.R_base HRm)
              have HRm := HRm2
              refine GD_pure 31 rfl (by kernel_rfl) (by kernel_rfl) (by kernel_rfl) (by kernel_rfl) rfl rfl rfl (qv fun wq hC => by exact r_fieldAddrB f49_1 rfl) ?_
              refine GD_one 30 (by kernel_rfl) (by first | exact fun _ => hBd | exact dead 26 rfl (by kernel_rfl)) ?_
              refine GO_appendR (Kd.int .i64) rfl rfl rfl Try.underlying22 zi3 rfl (by decide) HRc (cs := [.int .i64 q]) K89 (p := q) (okp := fun _ => False) rfl (fun _ h => h.elim) (fun _ _ => trivial) hBq.size (by omega) (by simp [maxLen]; omega) rfl rfl (fun vc2 w90 HRc2 hg90 _ => ?_)
              have HRm := R_apartG flatM76 HRm HRc (by decide) hg90
              have K5 := kG K5 hg90 (ne_own HRc K5 (by decide))
              have K2 := kG K2 hg90 (ne_own HRc K2 (by decide))
              have hBq := hBq.grown hg90 (Kd.R_base HRc)
              have HRc := HRc2
              have hform := Kd.R_form HRm (by simp)
              obtain ⟨gm, cm, hvm, _⟩ := hform
              refine GD_one 32 (by kernel_rfl) (by first | exact fun _ => hBd | exact dead 26 rfl (by kernel_rfl)) ?_
              refine GO_store1 rfl rfl rfl rfl info47 K5 (by simp) (by rw [hvm]; rfl) (fun w32 P32 => ?_)
              have HRm := R_apartP flatM76 HRm P32 K5 (by decide)
              have HRc := R_apartP flatInt HRc P32 K5 (by decide)
              have K2 := kP K2 P32 h25
              have K5 : w32.heap[g5]? = some (.cells #[.int .i64 (3 + sn), vm2] 49 (0, 0)) := P32.at_
              have hBq := hBq.put P32 hg5
              refine GD_pure 33 rfl (by kernel_rfl) (by kernel_rfl) (by kernel_rfl) (by kernel_rfl) rfl rfl rfl (qv fun wq hC => by exact r_assign) ?_
              refine GD_end (by kernel_rfl) (by first | exact fun _ => hBd | exact dead 26 rfl (by kernel_rfl)) ?_
              refine Tn (Rg (Mv (As (Nl (Bn (Tn (Rg (Mv ?_))))))))
              refine g_add rfl rfl (by omega) (h := ?_)
              refine As (Nl ?_)
              first
              | exact round_end (3 - (k + 1)) (by omega) ⟨k + 1, ne, _, _, vm2, vc2, _, has rfl (has (by first | rfl | (rw [← hne]; rfl)) (has rfl (has rfl (has rfl (has rfl (has rfl (has rfl (has rfl rfl)))))))), by omega, rfl, hner.1, hner.2, htr.snoc (m := M) (v := q) (by rw [hM]; simp only; omega) (fun s => by rw [hM]; simp only; unfold goF; omega), by simp only [List.length_append, List.length_singleton]; omega, HRm, HRc, K5, K2, hBq⟩
              | exact round_end (3 - (k + 1)) (by omega) ⟨k + 1, ne, _, _, vm, vc, _, has rfl (has (by first | rfl | (rw [← hne]; rfl)) (has rfl (has rfl (has rfl (has rfl (has rfl (has rfl (has rfl rfl)))))))), by omega, rfl, hner.1, hner.2, htr.same (fun s => by rw [show ne = at' by omega]), by omega, HRm, HRc, K5, K2, hB⟩
          · skip
            refine GO_lits rfl rfl rfl (bs22_1 _ _) rfl (fun g89 w89 N89 => ?_)
            have HRm := rN HRm N89
            have HRc := rN HRc N89
            have K5 := kN K5 N89
            have K2 := kN K2 N89
            try have K85 := kN K85 N89
            have K89 := N89.at_
            try have hBd := hBd.new N89
            have hBq := hBq.new N89
            refine GD_one 23 (by kernel_rfl) (by first | exact fun _ => hBd | exact dead 26 rfl (by kernel_rfl)) ?_
            refine GO_call rfl rfl rfl he51 rfl (to_c (max 0 (q - z3)) (q + z4) _) (fun e w83 he => ?_)
            obtain ⟨rfl, hb83⟩ := he
            refine ⟨_, rfl, ?_⟩
            have HRm := rB HRm hb83
            have HRc := rB HRc hb83
            have K5 := kB K5 hb83
            have K2 := kB K2 hb83
            try have K89 := kB K89 hb83
            have hBd := hBd.bel hb83
            have hBq := hBq.bel hb83
            refine GD_pure 24 rfl (by kernel_rfl) (by kernel_rfl) (by kernel_rfl) (by kernel_rfl) rfl rfl rfl (qv fun wq hC => by exact r_bld (build76 _ _ _ _ _) rfl) ?_
            refine GD_one 25 (by kernel_rfl) (by first | exact fun _ => hBd | exact dead 26 rfl (by kernel_rfl)) ?_
            refine GO_lits rfl rfl rfl (bs47_1 _ _ _ _ _) rfl (fun g85 w85 N85 => ?_)
            have HRm := rN HRm N85
            have HRc := rN HRc N85
            have K5 := kN K5 N85
            have K2 := kN K2 N85
            try have K89 := kN K89 N85
            have K85 := N85.at_
            have hBd := hBd.new N85
            have hBq := hBq.new N85
            refine GD_one 26 (by kernel_rfl) (by first | exact fun _ => hBd | exact dead 26 rfl (by kernel_rfl)) ?_
            refine GO_appendR k76 rfl rfl rfl Try.underlying47 zi76 rfl (by decide) HRm (cs := enc76 M) (by first | (rw [hMe]; exact K85) | (rw [hMe, ← hne]; exact K85)) (p := M) (okp := fun _ => False) (k76_mkM _ _ _ M) (fun _ h => h.elim) (fun _ _ => trivial) hBq.size (by omega) (by simp [maxLen]; omega) rfl rfl (fun vm2 w86 HRm2 hg86 _ => ?_)
            have HRc := R_apartG flatInt HRc HRm (by decide) hg86
            have K5 := kG K5 hg86 (ne_own HRm K5 (by decide))
            have K2 := kG K2 hg86 (ne_own HRm K2 (by decide))
            try have K89 := kG K89 hg86 (ne_own HRm K89 (by decide))
            have hBq := hBq.grown hg86 (Kd.R_base HRm)
            have HRm := HRm2
            refine GD_pure 31 rfl (by kernel_rfl) (by kernel_rfl) (by kernel_rfl) (by kernel_rfl) rfl rfl rfl (qv fun wq hC => by exact r_fieldAddrB f49_1 rfl) ?_
            refine GD_one 30 (by kernel_rfl) (by first | exact fun _ => hBd | exact dead 26 rfl (by kernel_rfl)) ?_
            refine GO_appendR (Kd.int .i64) rfl rfl rfl Try.underlying22 zi3 rfl (by decide) HRc (cs := [.int .i64 q]) K89 (p := q) (okp := fun _ => False) rfl (fun _ h => h.elim) (fun _ _ => trivial) hBq.size (by omega) (by simp [maxLen]; omega) rfl rfl (fun vc2 w90 HRc2 hg90 _ => ?_)
            have HRm := R_apartG flatM76 HRm HRc (by decide) hg90
            have K5 := kG K5 hg90 (ne_own HRc K5 (by decide))
            have K2 := kG K2 hg90 (ne_own HRc K2 (by decide))
            have hBq := hBq.grown hg90 (Kd.R_base HRc)
            have HRc := HRc2
            have hform := Kd.R_form HRm (by simp)
            obtain ⟨gm, cm, hvm, _⟩ := hform
            refine GD_one 32 (by kernel_rfl) (by first | exact fun _ => hBd | exact dead 26 rfl (by kernel_rfl)) ?_
            refine GO_store1 rfl rfl rfl rfl info47 K5 (by simp) (by rw [hvm]; rfl) (fun w32 P32 => ?_)
            have HRm := R_apartP flatM76 HRm P32 K5 (by decide)
            have HRc := R_apartP flatInt HRc P32 K5 (by decide)
            have K2 := kP K2 P32 h25
            have K5 : w32.heap[g5]? = some (.cells #[.int .i64 (3 + sn), vm2] 49 (0, 0)) := P32.at_
            have hBq := hBq.put P32 hg5
            refine GD_pure 33 rfl (by kernel_rfl) (by kernel_rfl) (by kernel_rfl) (by kernel_rfl) rfl rfl rfl (qv fun wq hC => by exact r_assign) ?_
            refine GD_end (by kernel_rfl) (by first | exact fun _ => hBd | exact dead 26 rfl (by kernel_rfl)) ?_
            refine Tn (Rg (Mv (As (Nl (Bn (Tn (Rg (Mv ?_))))))))
            refine g_add rfl rfl (by omega) (h := ?_)
            refine As (Nl ?_)
            first
            | exact round_end (3 - (k + 1)) (by omega) ⟨k + 1, ne, _, _, vm2, vc2, _, has rfl (has (by first | rfl | (rw [← hne]; rfl)) (has rfl (has rfl (has rfl (has rfl (has rfl (has rfl (has rfl rfl)))))))), by omega, rfl, hner.1, hner.2, htr.snoc (m := M) (v := q) (by rw [hM]; simp only; omega) (fun s => by rw [hM]; simp only; unfold goF; omega), by simp only [List.length_append, List.length_singleton]; omega, HRm, HRc, K5, K2, hBq⟩
            | exact round_end (3 - (k + 1)) (by omega) ⟨k + 1, ne, _, _, vm, vc, _, has rfl (has (by first | rfl | (rw [← hne]; rfl)) (has rfl (has rfl (has rfl (has rfl (has rfl (has rfl (has rfl rfl)))))))), by omega, rfl, hner.1, hner.2, htr.same (fun s => by rw [show ne = at' by omega]), by omega, HRm, HRc, K5, K2, hB⟩
        · skip
          refine Nl (Tn (Cf rfl (Sk (Tn (Rg (Mv (As (Nl (Bn (Tn (Rg (Mv ?_))))))))))))
          refine g_add rfl rfl (by omega) (h := ?_)
          refine As (Nl ?_)
          first
          | exact round_end (3 - (k + 1)) (by omega) ⟨k + 1, ne, _, _, vm2, vc2, _, has rfl (has (by first | rfl | (rw [← hne]; rfl)) (has rfl (has rfl (has rfl (has rfl (has rfl (has rfl (has rfl rfl)))))))), by omega, rfl, hner.1, hner.2, htr.snoc (m := M) (v := q) (by rw [hM]; simp only; omega) (fun s => by rw [hM]; simp only; unfold goF; omega), by simp only [List.length_append, List.length_singleton]; omega, HRm, HRc, K5, K2, hBq⟩
          | exact round_end (3 - (k + 1)) (by omega) ⟨k + 1, ne, _, _, vm, vc, _, has rfl (has (by first | rfl | (rw [← hne]; rfl)) (has rfl (has rfl (has rfl (has rfl (has rfl (has rfl (has rfl rfl)))))))), by omega, rfl, hner.1, hner.2, htr.same (fun s => by rw [show ne = at' by omega]), by omega, HRm, HRc, K5, K2, hB⟩
    · skip
      refine Nl (Tn (Cf rfl (Xi (Tx (Tx (Bs (Bn (Tn (Rg (Mv ?_))))))))))
      refine g_add rfl rfl (by omega) (h := ?_)
      refine As (Nl ?_)
      exact round_end (3 - (r + 1)) (by omega) ⟨r + 1, l, cs, vm, vc, _, has rfl (has rfl (has rfl (has rfl (has rfl (has rfl rfl))))), by omega, rfl, htr.same (fun s => by rw [hat3 (by omega)]; exact (goF_same q a0 s).symm), by omega, HRm, HRc, K5, K2, hB⟩
  · skip
    refine Nl (Tn (Cf rfl (Xi (Tx (Tx (Bs (Tn (Sq (Rg ?_)))))))))
    have hob  := Kd.R_reads HRm
    obtain ⟨Am, cm, rfl, hcm, hCm⟩ := hob
    have hob  := Kd.R_reads HRc
    obtain ⟨Ac, cc, rfl, hcc, hCc⟩ := hob
    have hTru := htr.fin (by omega) (by omega)
    have hTru' : Tru (3 + (sn : Int)) l cs := by rw [show (3 + (sn : Int)) = ((3 + sn : Nat) : Int) by omega]; exact hTru
    refine g_loadA rfl Try.underlying49 info49 (l := [.int .i64 (3 + sn), .slice Am l.length cm]) (cellsAt K5) (h := ?_)
    refine Mv ?_
    refine g_storeA rfl rfl info49 K2 rfl (by simp [Value.oneCell']) (h := fun w18 P18 => ?_)
    have K2a : w18.heap[g2]? = some (.cells #[.int .i64 (3 + sn), .slice Am l.length cm] 49 (0, 0)) := P18.at_
    have hCm2 := (Kd.R_reads' (R_apartP flatM76 HRm P18 K2 (by decide))).2.2
    have hCc2 := (Kd.R_reads' (R_apartP flatInt HRc P18 K2 (by decide))).2.2
    refine As (Nl (Tn (Rt ?_)))
    exact retct rfl ⟨g2, 0, none⟩ rfl (loadVarA (l := [.int .i64 (3 + sn), .slice Am l.length cm]) Try.underlying49 info49 (cellsAt K2a)) ⟨3 + sn, Am, cm, l.length, l, _, cs, rfl, rfl, hCm2, ⟨Ac, cc, rfl, hCc2, hcc⟩, hTru', hB.put P18 (Nat.le_trans (Nat.le_refl _) hg2)⟩
end Go.Proofs.B
