/- barrel: the law BarrelFirst, walked. -/
import Derived.Test.YtpfoleggapngoaaL8
import Derived.Test.YtpfoleggapngoaaB33
set_option linter.unusedVariables false
set_option linter.unusedSimpArgs false
set_option maxRecDepth 10000
namespace Go.Proofs.B
open Go Go.RowKit Go.Proofs Go.Proofs.G Go.Proofs.F Go.Proofs.YtpfoleggapngoaaW.PrintWords
theorem firstK_c (A : Option Addr) (c : Nat) (y : List S70) (mo : Nat) (a b e0 : Int) (w : World) (hs : k70.C w A y.length y) (hy : yardOk y = true) (hm : mo ≤ 12) (hf : firstGo y mo 0 (begF y) = (a, b, e0)) :
    Calls Try.prog 28 #[.slice A y.length c, .int .i64 mo] w fun e w' => e = .returned (.tuple #[.int .i64 a, .int .i64 b, .int .i64 e0]) ∧ Bel w w' := by
  refine (first_c A c y mo w hs).mono ?_
  rw [firstL, if_pos hy, if_pos (by omega), Int.toNat_natCast, hf]
  exact fun e w' h => h
def idF (k : Nat) : Nat → Int := fun i => if i < k then -1 else 0
theorem idF_rd (mo j : Nat) (h : j < mo) : rd (lvList (idF mo) mo) (j : Nat) = -1 := by rw [lvList_rd _ _ _ h, idF, if_pos h]
theorem idF_set (mo k : Nat) (h : k < mo) : (lvList (idF k) mo).set k (-1) = lvList (idF (k + 1)) mo := by
  unfold lvList
  rw [range_set mo k _ _ h]
  refine range_congr fun i hi => ?_
  unfold idF
  by_cases e : i = k
  · rw [if_pos e, if_pos (by omega)]
  · rw [if_neg e]
    by_cases e2 : i < k
    · rw [if_pos e2, if_pos (by omega)]
    · rw [if_neg e2, if_neg (by omega)]
theorem idF_zero (mo : Nat) : List.replicate mo (0 : Int) = lvList (idF 0) mo := by
  unfold lvList
  rw [show (List.range mo).map (idF 0) = (List.range mo).map (fun _ => (0 : Int)) from range_congr fun i hi => by unfold idF; rw [if_neg (by omega)]]
  rw [List.map_const', List.length_range]
set_option maxHeartbeats 40000000 in
theorem barrelFirst_c (A : Option Addr) (c : Nat) (y : List S70) (n : Int) (B : Option Addr) (d : Nat) (bits : List Int) (w : World) (hs : k70.C w A y.length y) (_ : (Lit.int .i64 n).wf = true) (hbt : (Kd.int .i64).C w B bits.length bits) (hsz : bits.length * 8 ≤ 140737488351232) :
    Calls Try.prog 9 #[.slice A y.length c, .int .i64 n, .slice B bits.length d] w fun e w' => e = .returned (.bool true) ∧ Bel w w' := by
  obtain ⟨mo, hmo, hmo12⟩ := mod13 n
  refine G_enter (l := [.slice A y.length c, .int .i64 n, .slice B bits.length d]) Try.func9 rfl rfl ?_
  refine Sq (Rg (As (Nl (Tn (Sq (Sq (Rg (Mv ?_))))))))
  refine g_call he45 rfl (sound_c A c y _ hs) (h := ?_)
  rintro e w26 ⟨rfl, hb26⟩
  refine ⟨_, rfl, ?_⟩
  cases q26 : yardOk y with
  | true =>
    have hy := q26
    have h4 := yard_len hy
    refine Nt rfl (Nl (Tn (Cf rfl (Sk (Tn (Sq (Rg (Mv ?_))))))))
    refine g_call he41 rfl (mod_at n 13 mo hmo (by decide) (by decide) _) (h := ?_)
    rintro e w30 ⟨rfl, rfl⟩
    refine ⟨_, rfl, ?_⟩
    refine As (Nl (Tn (Sq (Rg (Mv (Mv ?_))))))
    obtain ⟨⟨a, b, e0⟩, hf⟩ : ∃ r, firstGo y mo 0 (begF y) = r := ⟨_, rfl⟩
    refine g_call he28 rfl (firstK_c A c y mo a b e0 _ (Kd.C_below hs hb26) hy hmo12 hf) (h := ?_)
    rintro e w34 ⟨rfl, hb34⟩
    refine ⟨_, rfl, ?_⟩
    have hB34 := hb26.bel hb34
    refine Mv (Xt rfl rfl (Xt rfl rfl (Xt rfl rfl (As (As (As (Nl (Tn (Sq (Rg (Mv ?_)))))))))))
    refine g_makeR (Kd.int .i64) (n := mo) (z := .int .i64 0) (z0 := 0) (bytes := 8) (okp := fun _ => True) Try.underlying22 zi3 rfl (by decide) (by decide) rfl rfl rfl (by omega) (h := fun gr w39 HR0 hg39 => ?_)
    have hB39 := hB34.grown hg39 (fun k hk => by cases hk)
    have HR0 := Kd.R_lower HR0 hB34.size
    rw [idF_zero] at HR0
    refine As (Nl (Tn (Sq (Sq (Rg (As (Nl (Tn (Bk ?_)))))))))
    refine GC_loop (fun m σ w' => ∃ (k : Nat) (τ : Nat → Value), σ = upd (upd (upd (upd (upd (upd (upd (upd τ 0 (.slice A y.length c)) 2 (.slice B bits.length d)) 7 (.int .i64 mo)) 8 (.int .i64 a)) 9 (.int .i64 b)) 10 (.int .i64 e0)) 11 (.slice (some ⟨gr, 0, none⟩) mo mo)) 12 (.int .i64 k) ∧ k ≤ mo ∧ m = mo - k ∧ (Kd.int .i64).R 3 w' w.heap.size (fun _ => True) (.slice (some ⟨gr, 0, none⟩) mo mo) (lvList (idF k) mo) ∧ Bel w w') (mo) ⟨0, _, has rfl (has rfl (has rfl (has rfl (has rfl (has rfl (has rfl (has rfl rfl))))))), Nat.zero_le _, rfl, HR0, hB39⟩ ?_
    rintro m _ w3 ⟨k, τ, rfl, hk, rfl, HR, hB⟩
    refine Sq (Sq (Rg (Mv (Mv ?_))))
    refine g_lss rfl rfl (h1 := fun c42 => ?_) (h2 := fun c42 => ?_)
    · skip
      refine Nl (Tn (Ct rfl (Sk (Tn (Sq (Bk (Rg (Mv (Mv ?_)))))))))
      refine g_indexO Try.underlying22 info3 rfl rfl  (by omega) (by omega) (Nat.mul_one _) (h := ?_)
      refine g_storeR (enc := Value.int .i64) rfl rfl info3 HR (by omega) (by omega) (h := fun w9 HR9 hg9 => ?_)
      have hto : ((k : Int)).toNat = k := Int.toNat_natCast k
      rw [hto, idF_set mo k (by omega)] at HR9
      refine Nl (Bn (Tn (Rg (Mv ?_))))
      refine g_add rfl rfl (by omega) (h := ?_)
      refine As (Nl ?_)
      exact round_end (mo - (k + 1)) (by omega) ⟨k + 1, _, has rfl (has rfl (has rfl (has rfl (has rfl (has rfl (has rfl (has rfl rfl))))))), by omega, rfl, HR9, hB.grown hg9 (fun q hq => Kd.R_base HR q hq)⟩
    · skip
      refine Nl (Tn (Cf rfl (Xi (Tx (Tx (Bs (Tn (Sq (Rg (Mv (Mv (Mv (Mv ?_)))))))))))))
      obtain rfl : k = mo := by omega
      obtain ⟨A11, c11, e11, _, hC11⟩ := Kd.R_reads HR
      rw [e11]
      refine g_call he47 rfl (leaksLaw_c A none c 0 y k [] _ (Kd.C_below hs hB) hy hmo12 (Kd.C_nil _ _)) (h := ?_)
      rintro e w53 ⟨v53, rfl, HR53, hb53⟩
      refine ⟨_, rfl, ?_⟩
      obtain ⟨A53, c53, rfl, _, hC53⟩ := Kd.R_reads HR53
      have hB53 := hB.bel hb53
      obtain ⟨lv0, hlv0⟩ : ∃ f, (runGo y (lvList (idF k) k) (leaksL y k []) (lvList (idF k) k).length 0 (begF y)).1 = f := ⟨_, rfl⟩
      obtain ⟨dr0, hdr0⟩ : ∃ f, (runGo y (lvList (idF k) k) (leaksL y k []) (lvList (idF k) k).length 0 (begF y)).2 = f := ⟨_, rfl⟩
      have hfr := first_run (y := y) (plan := lvList (idF k) k) (leaks := leaksL y k []) k 0 (begF y) (fun j _ hj => idF_rd k j (by omega)) (fun j _ hj i hi => hi_leak y k j i (by omega) hi)
      rw [lvList_len] at hlv0 hdr0
      rw [hlv0, hdr0, show ((0 : Nat) : Int) = 0 from rfl, hf] at hfr
      refine g_call he23 rfl (runK_c A A11 A53 c c11 c53 y (lvList (idF k) k) (leaksL y k []) lv0 dr0 _ (Kd.C_below hs hB53) (Kd.C_below hC11 hb53) hC53 hy (planOk_of hy hmo12 [] (lvList_len _ _) (fun j hj => by rw [idF_rd k j hj]; omega)) (by rw [lvList_len]; exact hlv0) (by rw [lvList_len]; exact hdr0)) (h := ?_)
      rintro e w54 ⟨v54, rfl, HR54, hb54⟩
      refine ⟨_, rfl, ?_⟩
      have hB54 := hB53.bel hb54
      obtain ⟨A54, c54, rfl, _, hC54⟩ := Kd.R_reads HR54
      refine Mv (Xt rfl rfl (Xt rfl rfl (Xt rfl rfl (As (As (As (Nl (Tn (Sq (Sq (Rg (Mv ?_))))))))))))
      refine g_v (r_neqF rfl rfl (by decide)) (h := ?_)
      refine Nl (Tn (Cf rfl (Sk (Tn (Sq (Sq (Rg (Mv ?_))))))))
      refine g_neq rfl rfl (h1 := fun c61 => ?_) (h2 := fun c61 => ?_)
      · skip
        have hT : e0 = 4 ∧ a = 0 ∧ b = 0 ∧ dr0 = -1 := by
          rcases hfr with ⟨h1, h2⟩ | ⟨_, _, h1, _⟩
          · injection h1 with h1 h3; injection h3 with h3 h5; exact ⟨h5, h1, h3, h2⟩
          · injection h1 with h1 h3; injection h3 with h3 h5; exact absurd h5 c61
        obtain ⟨rfl, rfl, rfl, rfl⟩ := hT
        refine Nl (Tn (Ct rfl (Sq (Rg (Mv ?_)))))
        refine g_v (r_eqlT rfl rfl (by decide)) (h := ?_)
        refine Mv (Mv ?_)
        refine g_v (r_eqlT rfl rfl (by decide)) (h := ?_)
        refine Pt rfl (Mv (Mv ?_))
        refine g_v (r_eqlT rfl rfl (by decide)) (h := ?_)
        refine Pt rfl (Mv (Mv ?_))
        refine g_v (r_eqlT rfl rfl (by decide)) (h := ?_)
        refine Pt rfl (Mv ?_)
        refine g_call he21 rfl (works_c _) (h := ?_)
        rintro e w77 ⟨rfl, hb77⟩
        refine ⟨_, rfl, ?_⟩
        refine Pt rfl (As (Nl (Tn (Rt (Tr ?_)))))
        exact ret1 rfl ⟨rfl, hB54.bel hb77⟩
      · skip
        have hF : ∃ who wh : Nat, a = who ∧ b = wh ∧ e0 = 0 ∧ wh < k ∧ who < y.length ∧ dr0 = wh ∧ lv0 who < (yd y who).f2 ∧ ∀ i, i < who → (yd y i).f2 ≤ lv0 i := by
          rcases hfr with ⟨h1, h2⟩ | ⟨who, wh, h1, h2, h3, h5⟩
          · injection h1 with h1 h3; injection h3 with h3 h5; rw [c61] at h5; exact absurd h5 (by decide)
          · injection h1 with h1 h6; injection h6 with h6 h7; exact ⟨who, wh, h1, h6, h7, by omega, h5⟩
        obtain ⟨who, wh, rfl, rfl, rfl, hwh, hwho, rfl, hlow, hhigh⟩ := hF
        refine Nl (Tn (Cf rfl (Sk (Tn (Sq (Sq ?_))))))
        have hBd := hB54.drew
        obtain ⟨ad54, hA54, h108⟩ := Kd.at_int (Kd.C_below hC54 (Bel.drew (Below.refl _ _))) who (by omega) (by rw [lvList_len]; omega)
        obtain ⟨ad, hA, h113⟩ := at70 hs hBd who hwho
        subst hA54 hA
        rw [lvList_rd _ _ _ hwho] at h108
        refine GD_start 37 [] (fun w' => w' = w54.drewN 1) (by kernel_rfl) rfl ?_
        refine GD_pure 0 rfl (by kernel_rfl) (by kernel_rfl) (by kernel_rfl) (by kernel_rfl) rfl rfl rfl (qv fun wq hC => by exact r_move) ?_
        refine GD_pure 1 rfl (by kernel_rfl) (by kernel_rfl) (by kernel_rfl) (by kernel_rfl) rfl rfl rfl (qv fun wq hC => by exact r_move) ?_
        refine GD_pure 2 rfl (by kernel_rfl) (by kernel_rfl) (by kernel_rfl) (by kernel_rfl) rfl rfl rfl (qv fun wq hC => by exact r_neqF rfl rfl (by omega)) ?_
        refine GD_pure 3 rfl (by kernel_rfl) (by kernel_rfl) (by kernel_rfl) (by kernel_rfl) rfl rfl rfl (qv fun wq hC => by exact r_move) ?_
        refine GD_pure 4 rfl (by kernel_rfl) (by kernel_rfl) (by kernel_rfl) (by kernel_rfl) rfl rfl rfl (qv fun wq hC => by exact r_move) ?_
        refine GD_pure 5 rfl (by kernel_rfl) (by kernel_rfl) (by kernel_rfl) (by kernel_rfl) rfl rfl rfl (qv fun wq hC => by exact r_move) ?_
        refine GD_pure 6 rfl (by kernel_rfl) (by kernel_rfl) (by kernel_rfl) (by kernel_rfl) rfl rfl rfl (qv fun wq hC => by exact r_sub rfl rfl (by omega)) ?_
        refine GD_take 7 rfl (by kernel_rfl) (by kernel_rfl) (by kernel_rfl) (by kernel_rfl) rfl rfl rfl (qc (fun wq hC => by exact r_call he43 rfl) (fun wq hC => by exact inT_c _ 0 _ (by omega) _)) ?_
        refine GD_pure 8 rfl (by kernel_rfl) (by kernel_rfl) (by kernel_rfl) (by kernel_rfl) rfl rfl rfl (qv fun wq hC => by exact r_not rfl) ?_
        refine GD_pure 9 rfl (by kernel_rfl) (by kernel_rfl) (by kernel_rfl) (by kernel_rfl) rfl rfl rfl (qv fun wq hC => by exact r_pickF rfl) ?_
        refine GD_pure 10 rfl (by kernel_rfl) (by kernel_rfl) (by kernel_rfl) (by kernel_rfl) rfl rfl rfl (qv fun wq hC => by exact r_move) ?_
        refine GD_pure 11 rfl (by kernel_rfl) (by kernel_rfl) (by kernel_rfl) (by kernel_rfl) rfl rfl rfl (qv fun wq hC => by exact r_move) ?_
        refine GD_pure 12 rfl (by kernel_rfl) (by kernel_rfl) (by kernel_rfl) (by kernel_rfl) rfl rfl rfl (qv fun wq hC => by exact r_move) ?_
        refine GD_pure 13 rfl (by kernel_rfl) (by kernel_rfl) (by kernel_rfl) (by kernel_rfl) rfl rfl rfl (qv fun wq hC => by exact r_len Try.underlying35 rfl) ?_
        refine GD_pure 14 rfl (by kernel_rfl) (by kernel_rfl) (by kernel_rfl) (by kernel_rfl) rfl rfl rfl (qv fun wq hC => by exact r_sub rfl rfl (by omega)) ?_
        refine GD_take 15 rfl (by kernel_rfl) (by kernel_rfl) (by kernel_rfl) (by kernel_rfl) rfl rfl rfl (qc (fun wq hC => by exact r_call he43 rfl) (fun wq hC => by exact inT_c _ 0 _ (by omega) _)) ?_
        refine GD_pure 16 rfl (by kernel_rfl) (by kernel_rfl) (by kernel_rfl) (by kernel_rfl) rfl rfl rfl (qv fun wq hC => by exact r_not rfl) ?_
        refine GD_pure 17 rfl (by kernel_rfl) (by kernel_rfl) (by kernel_rfl) (by kernel_rfl) rfl rfl rfl (qv fun wq hC => by exact r_pickF rfl) ?_
        refine GD_pure 18 rfl (by kernel_rfl) (by kernel_rfl) (by kernel_rfl) (by kernel_rfl) rfl rfl rfl (qv fun wq hC => by exact r_move) ?_
        refine GD_pure 19 rfl (by kernel_rfl) (by kernel_rfl) (by kernel_rfl) (by kernel_rfl) rfl rfl rfl (qv fun wq hC => by exact r_move) ?_
        refine GD_pure 20 rfl (by kernel_rfl) (by kernel_rfl) (by kernel_rfl) (by kernel_rfl) rfl rfl rfl (qv fun wq hC => by exact r_len Try.underlying22 rfl) ?_
        refine GD_pure 21 rfl (by kernel_rfl) (by kernel_rfl) (by kernel_rfl) (by kernel_rfl) rfl rfl rfl (qv fun wq hC => by exact r_move) ?_
        refine GD_pure 22 rfl (by kernel_rfl) (by kernel_rfl) (by kernel_rfl) (by kernel_rfl) rfl rfl rfl (qv fun wq hC => by exact r_len Try.underlying35 rfl) ?_
        refine GD_pure 23 rfl (by kernel_rfl) (by kernel_rfl) (by kernel_rfl) (by kernel_rfl) rfl rfl rfl (qv fun wq hC => by exact r_neqF rfl rfl (by rw [lvList_len]; omega)) ?_
        refine GD_pure 24 rfl (by kernel_rfl) (by kernel_rfl) (by kernel_rfl) (by kernel_rfl) rfl rfl rfl (qv fun wq hC => by exact r_pickF rfl) ?_
        refine GD_pure 25 rfl (by kernel_rfl) (by kernel_rfl) (by kernel_rfl) (by kernel_rfl) rfl rfl rfl (qv fun wq hC => by exact r_move) ?_
        refine GD_pure 26 rfl (by kernel_rfl) (by kernel_rfl) (by kernel_rfl) (by kernel_rfl) rfl rfl rfl (qv fun wq hC => by exact r_move) ?_
        refine GD_pure 27 rfl (by kernel_rfl) (by kernel_rfl) (by kernel_rfl) (by kernel_rfl) rfl rfl rfl (qv fun wq hC => by exact r_move) ?_
        refine GD_pure 28 rfl (by kernel_rfl) (by kernel_rfl) (by kernel_rfl) (by kernel_rfl) rfl rfl rfl (qv fun wq hC => by exact r_indexS Try.underlying22 info3 rfl rfl (by omega) (by rw [lvList_len]; omega) (Nat.mul_one _)) ?_
        refine GD_take 29 rfl (by kernel_rfl) (by kernel_rfl) (by kernel_rfl) (by kernel_rfl) rfl rfl rfl (qv fun wq hC => by exact r_load1 rfl Try.underlying3 (by subst hC; exact h108)) ?_
        refine GD_pure 30 rfl (by kernel_rfl) (by kernel_rfl) (by kernel_rfl) (by kernel_rfl) rfl rfl rfl (qv fun wq hC => by exact r_move) ?_
        refine GD_pure 31 rfl (by kernel_rfl) (by kernel_rfl) (by kernel_rfl) (by kernel_rfl) rfl rfl rfl (qv fun wq hC => by exact r_move) ?_
        refine GD_pure 32 rfl (by kernel_rfl) (by kernel_rfl) (by kernel_rfl) (by kernel_rfl) rfl rfl rfl (qv fun wq hC => by exact r_indexS Try.underlying35 info70 rfl rfl (by omega) (by omega) rfl) ?_
        refine GD_pure 33 rfl (by kernel_rfl) (by kernel_rfl) (by kernel_rfl) (by kernel_rfl) rfl rfl rfl (qv fun wq hC => by exact r_fieldAddr f70_2 rfl rfl) ?_
        refine GD_take 34 rfl (by kernel_rfl) (by kernel_rfl) (by kernel_rfl) (by kernel_rfl) rfl rfl rfl (qv fun wq hC => by exact r_load1 rfl Try.underlying3 (by subst hC; exact h113 2 (.int .i64 (yd y who).f2) (by rw [yd_get y who hwho]; rfl))) ?_
        refine GD_pure 35 rfl (by kernel_rfl) (by kernel_rfl) (by kernel_rfl) (by kernel_rfl) rfl rfl rfl (qv fun wq hC => by exact r_geqF rfl rfl (by omega)) ?_
        refine GD_pure 36 rfl (by kernel_rfl) (by kernel_rfl) (by kernel_rfl) (by kernel_rfl) rfl rfl rfl (qv fun wq hC => by exact r_pickF rfl) ?_
        refine GD_end (by kernel_rfl) (fun _ => rfl) ?_
        refine Tn (Cf rfl (Sk (Tn (Sq (Sq (Rg (As (Nl (Tn (Bk ?_))))))))))
        skip
        refine GC_loop (fun m σ w' => ∃ (i : Nat) (τ : Nat → Value), σ = upd (upd (upd (upd (upd (upd (upd τ 0 (.slice (some ad) y.length c)) 2 (.slice B bits.length d)) 7 (.int .i64 k)) 8 (.int .i64 who)) 9 (.int .i64 wh)) 13 (.slice (some ad54) (lvList lv0 y.length).length c54)) 16 (.int .i64 i) ∧ i ≤ who ∧ m = who - i ∧ Bel w54 w') (who) ⟨0, _, has rfl (has rfl (has rfl (has rfl (has rfl (has rfl (has rfl rfl)))))), Nat.zero_le _, rfl, Bel.drew (Below.refl _ _)⟩ ?_
        rintro m _ w4 ⟨i, τ1, rfl, hi, rfl, hB1⟩
        refine Sq (Sq (Rg (Mv (Mv ?_))))
        refine g_lss rfl rfl (h1 := fun c118 => ?_) (h2 := fun c118 => ?_)
        · skip
          refine Nl (Tn (Ct rfl (Sk (Tn (Sq (Bk (Sq ?_)))))))
          have hil : i < who := by omega
          have hBd1 := hB1.drew
          obtain ⟨ad1, hA1, h129⟩ := at70 hs (hB54.bel hBd1) i (by omega)
          rw [hA1]
          obtain ⟨ad2, hA2, h124⟩ := Kd.at_int (Kd.C_below hC54 hBd1) i (by omega) (by rw [lvList_len]; omega)
          rw [hA2]
          rw [lvList_rd _ _ _ (show i < y.length by omega)] at h124
          refine GD_start 10 [] (fun w' => w' = w4.drewN 1) (by kernel_rfl) rfl ?_
          refine GD_pure 0 rfl (by kernel_rfl) (by kernel_rfl) (by kernel_rfl) (by kernel_rfl) rfl rfl rfl (qv fun wq hC => by exact r_move) ?_
          refine GD_pure 1 rfl (by kernel_rfl) (by kernel_rfl) (by kernel_rfl) (by kernel_rfl) rfl rfl rfl (qv fun wq hC => by exact r_move) ?_
          refine GD_pure 2 rfl (by kernel_rfl) (by kernel_rfl) (by kernel_rfl) (by kernel_rfl) rfl rfl rfl (qv fun wq hC => by exact r_indexS Try.underlying22 info3 rfl rfl (by omega) (by rw [lvList_len]; omega) (Nat.mul_one _)) ?_
          refine GD_take 3 rfl (by kernel_rfl) (by kernel_rfl) (by kernel_rfl) (by kernel_rfl) rfl rfl rfl (qv fun wq hC => by exact r_load1 rfl Try.underlying3 (by subst hC; exact h124)) ?_
          refine GD_pure 4 rfl (by kernel_rfl) (by kernel_rfl) (by kernel_rfl) (by kernel_rfl) rfl rfl rfl (qv fun wq hC => by exact r_move) ?_
          refine GD_pure 5 rfl (by kernel_rfl) (by kernel_rfl) (by kernel_rfl) (by kernel_rfl) rfl rfl rfl (qv fun wq hC => by exact r_move) ?_
          refine GD_pure 6 rfl (by kernel_rfl) (by kernel_rfl) (by kernel_rfl) (by kernel_rfl) rfl rfl rfl (qv fun wq hC => by exact r_indexS Try.underlying35 info70 rfl rfl (by omega) (by omega) rfl) ?_
          refine GD_pure 7 rfl (by kernel_rfl) (by kernel_rfl) (by kernel_rfl) (by kernel_rfl) rfl rfl rfl (qv fun wq hC => by exact r_fieldAddr f70_2 rfl rfl) ?_
          refine GD_take 8 rfl (by kernel_rfl) (by kernel_rfl) (by kernel_rfl) (by kernel_rfl) rfl rfl rfl (qv fun wq hC => by exact r_load1 rfl Try.underlying3 (by subst hC; exact h129 2 (.int .i64 (yd y i).f2) (by rw [yd_get y i (by omega)]; rfl))) ?_
          refine GD_pure 9 rfl (by kernel_rfl) (by kernel_rfl) (by kernel_rfl) (by kernel_rfl) rfl rfl rfl (qv fun wq hC => by exact r_lssF rfl rfl (by have := hhigh i hil; omega)) ?_
          refine GD_end (by kernel_rfl) (fun _ => rfl) ?_
          refine Tn (Cf rfl (Sk (Bn (Tn (Rg (Mv ?_))))))
          refine g_add rfl rfl (by omega) (h := ?_)
          refine As (Nl ?_)
          exact round_end (who - (i + 1)) (by omega) ⟨i + 1, _, has rfl (has rfl (has rfl (has rfl (has rfl (has rfl (has rfl rfl)))))), by omega, rfl, hBd1⟩
        · skip
          refine Nl (Tn (Cf rfl (Xi (Tx (Tx (Bs (Tn (Sq (Sq (Rg (As (Nl (Tn (Bk ?_))))))))))))))
          refine GC_loop (fun m σ w' => ∃ (q : Nat) (τ : Nat → Value), σ = upd (upd (upd (upd (upd (upd τ 0 (.slice (some ad) y.length c)) 2 (.slice B bits.length d)) 7 (.int .i64 k)) 8 (.int .i64 who)) 9 (.int .i64 wh)) 17 (.int .i64 q) ∧ q ≤ 2 ∧ m = 2 - q ∧ Bel w w') (2) ⟨0, _, has rfl (has rfl (has rfl (has rfl (has rfl (has rfl rfl))))), Nat.zero_le _, rfl, hB54.bel hB1⟩ ?_
          rintro m _ w5 ⟨q, τ2, rfl, hq, rfl, hB2⟩
          refine Sq (Sq (Rg (Mv ?_)))
          refine g_lss rfl rfl (h1 := fun c132 => ?_) (h2 := fun c132 => ?_)
          · skip
            refine Nl (Tn (Ct rfl (Sk (Tn (Sq (Bk (Sq (Rg (Mv (Mv (Mv ?_)))))))))))
            refine g_call he46 rfl (planLaw_c (some ad) B c d y k bits _ h4.2 hmo12 (Kd.C_below hbt hB2)) (h := ?_)
            rintro e w138 ⟨v138, rfl, HR138, hb138⟩
            refine ⟨_, rfl, ?_⟩
            obtain ⟨A138, c138, rfl, _, hC138⟩ := Kd.R_reads HR138
            have hB138 := hB2.bel hb138
            refine As (Nl (Tn ?_))
            refine GC_join (fun σ w' => ∃ (l : List Int) (Al : Option Addr) (cl : Nat) (τ : Nat → Value), σ = upd (upd (upd (upd (upd (upd (upd τ 0 (.slice (some ad) y.length c)) 2 (.slice B bits.length d)) 7 (.int .i64 k)) 8 (.int .i64 who)) 9 (.int .i64 wh)) 17 (.int .i64 q)) 18 (.slice Al l.length cl) ∧ (Kd.int .i64).C w' Al l.length l ∧ l.length = k ∧ (∀ j, j < k → -1 ≤ rd l (j : Nat) ∧ rd l (j : Nat) ≤ (y.length : Int) - 1) ∧ Bel w w') ?_ ?_
            · skip
              refine Sq (Rg (Mv ?_))
              refine g_eql rfl rfl (h1 := fun c140 => ?_) (h2 := fun c140 => ?_)
              · skip
                refine Nl (Tn (Ct rfl (Sq (Rg (Mv (Mv ?_))))))
                refine g_call he30 rfl (keep_c (some ad) c y k _ (Kd.C_below hs hB138)) (h := ?_)
                rintro e w144 ⟨v144, code, plan, rfl, ⟨A144, c144, rfl, hC144, hc144⟩, hkr, hb144⟩
                refine ⟨_, rfl, ?_⟩
                have hB144 := hB138.bel hb144
                refine Mv (Xt rfl rfl (Xt rfl rfl (As (As (Nl (Tn (Sq (Sq (Rg (Mv ?_))))))))))
                refine g_neq rfl rfl (h1 := fun c148 => ?_) (h2 := fun c148 => ?_)
                · skip
                  have hcode : code = 4 := by
                    rcases hkr with ⟨_, _, ⟨h, _⟩ | ⟨h, _⟩⟩ | ⟨_, h, _⟩ | ⟨h, _⟩
                    · exact absurd h c148
                    · exact h
                    · exact absurd (by omega) h
                    · exact absurd hy h
                  subst hcode
                  refine Nl (Tn (Ct rfl (Sq (Rg (Mv ?_)))))
                  refine g_v (r_eqlT rfl rfl (by decide)) (h := ?_)
                  refine Mv ?_
                  refine g_call he21 rfl (works_c _) (h := ?_)
                  rintro e w152 ⟨rfl, hb152⟩
                  refine ⟨_, rfl, ?_⟩
                  refine Pt rfl (As (Nl (Tn (Rt (Tr (Tr (Br (Tr (Tr (Br (Tr ?_)))))))))))
                  exact ret1 rfl ⟨rfl, hB144.bel hb152⟩
                · skip
                  have hkeep : plan.length = k ∧ okPlan y (begF y) plan := by
                    rcases hkr with ⟨_, _, ⟨_, h1, h2⟩ | ⟨h, _⟩⟩ | ⟨_, h, _⟩ | ⟨h, _⟩
                    · exact ⟨by omega, h2⟩
                    · rw [c148] at h; exact absurd h (by decide)
                    · exact absurd (by omega) h
                    · exact absurd hy h
                  refine Nl (Tn (Cf rfl (Sk (Tn (Rg (Mv (As (Nl ?_))))))))
                  exact join_end ⟨plan, A144, c144, _, has rfl (has rfl (has rfl (has rfl (has rfl (has rfl (has rfl rfl)))))), hC144, hkeep.1, fun j hj => by have := okPlan_tops plan _ hkeep.2 j (by omega); omega, hB144⟩
              · skip
                refine Nl (Tn (Cf rfl (Sk ?_)))
                exact join_end ⟨_, A138, c138, _, has rfl (has rfl (has rfl (has rfl (has rfl (has rfl (has rfl rfl)))))), hC138, lvList_len _ _, fun j hj => by rw [lvList_rd _ _ _ hj]; exact planV_rg _ _ _, hB138⟩
            · rintro _ w31 ⟨l, Al, cl, τ3, rfl, hCl, hll, htops, hB31⟩
              refine Sq (Rg (Mv (Mv (Mv (Mv ?_)))))
              refine g_call he47 rfl (leaksLaw_c (some ad) none c 0 y k [] _ (Kd.C_below hs hB31) hy hmo12 (Kd.C_nil _ _)) (h := ?_)
              rintro e w160 ⟨v160, rfl, HR160, hb160⟩
              refine ⟨_, rfl, ?_⟩
              obtain ⟨A160, c160, rfl, _, hC160⟩ := Kd.R_reads HR160
              have hB160 := hB31.bel hb160
              obtain ⟨lv1, hlv1⟩ : ∃ f, (runGo y l (leaksL y k []) l.length 0 (begF y)).1 = f := ⟨_, rfl⟩
              obtain ⟨dr1, hdr1⟩ : ∃ f, (runGo y l (leaksL y k []) l.length 0 (begF y)).2 = f := ⟨_, rfl⟩
              refine g_call he23 rfl (runK_c (some ad) Al A160 c cl c160 y l (leaksL y k []) lv1 dr1 _ (Kd.C_below hs hB160) (Kd.C_below hCl hb160) hC160 hy (planOk_of hy hmo12 [] hll htops) hlv1 hdr1) (h := ?_)
              rintro e w161 ⟨v161, rfl, HR161, hb161⟩
              refine ⟨_, rfl, ?_⟩
              have hB161 := hB160.bel hb161
              refine Mv (Xt rfl rfl (Xt rfl rfl (Xt rfl rfl (As (As (As (Nl (Tn (Sq (Sq (Rg (Mv ?_))))))))))))
              refine g_v (r_neqF rfl rfl (by decide)) (h := ?_)
              refine Nl (Tn (Cf rfl (Sk (Tn (Sq (Rg (Mv (Mv ?_))))))))
              refine g_call he48 rfl (place_c Al cl l who _ (Kd.C_below hCl (hb160.bel hb161))) (h := ?_)
              rintro e w169 ⟨p, rfl, hpl, rfl⟩
              have hfp : dr1 = -1 → 0 ≤ p ∧ p < wh := fun hd => first_place (y := y) (plan := l) (leaks := leaksL y k []) (lv := begF y) (n := k) hwho hll (fun j hj i hi => hi_leak y k j i hj hi) hf hwh (by rw [hll] at hdr1; rw [hdr1]; exact hd) hpl
              refine ⟨_, rfl, ?_⟩
              refine As (Nl (Tn (Sq (Rg (Mv ?_)))))
              refine g_eql rfl rfl (h1 := fun c171 => ?_) (h2 := fun c171 => ?_)
              · skip
                refine Mv (Mv ?_)
                refine g_v (r_lssF rfl rfl (by have := hfp c171; omega)) (h := ?_)
                refine Mv (Mv (Mv ?_))
                refine g_v (r_geqF rfl rfl (by have := hfp c171; omega)) (h := ?_)
                refine Pf rfl (Pt rfl (Nl (Tn (Cf rfl (Sk (Bn (Tn (Rg (Mv ?_)))))))))
                refine g_add rfl rfl (by omega) (h := ?_)
                refine As (Nl ?_)
                exact round_end (2 - (q + 1)) (by omega) ⟨q + 1, _, has rfl (has rfl (has rfl (has rfl (has rfl (has rfl rfl))))), by omega, rfl, hB161⟩
              · skip
                refine Mv (Of (Of (Of (Of (Of (Of (Of (Pf rfl (Nl (Tn (Cf rfl (Sk (Bn (Tn (Rg (Mv ?_))))))))))))))))
                refine g_add rfl rfl (by omega) (h := ?_)
                refine As (Nl ?_)
                exact round_end (2 - (q + 1)) (by omega) ⟨q + 1, _, has rfl (has rfl (has rfl (has rfl (has rfl (has rfl rfl))))), by omega, rfl, hB161⟩
          · skip
            refine Nl (Tn (Cf rfl (Xi (Tx (Tx (Bs (Tn (Sq (Rg ?_)))))))))
            refine g_call he21 rfl (works_c _) (h := ?_)
            rintro e w181 ⟨rfl, hb181⟩
            refine ⟨_, rfl, ?_⟩
            refine As (Nl (Tn (Rt ?_)))
            exact ret1 rfl ⟨rfl, hB2.bel hb181⟩
  | false =>
    skip
    refine Nt rfl (Nl (Tn (Ct rfl (Sq (Rg ?_)))))
    refine g_call he21 rfl (works_c _) (h := ?_)
    rintro e w28 ⟨rfl, hb28⟩
    refine ⟨_, rfl, ?_⟩
    refine As (Nl (Tn (Rt (Tr ?_))))
    exact ret1 rfl ⟨rfl, hb26.bel hb28⟩
end Go.Proofs.B
