/- barrel: First, Run. -/
import Derived.Test.YtpfoleggapngoaaG9
import Derived.Test.YtpfoleggapngoaaB3
set_option linter.unusedVariables false
set_option linter.unusedSimpArgs false
set_option maxRecDepth 10000
namespace Go.Proofs.B
open Go Go.RowKit Go.Proofs Go.Proofs.G Go.Proofs.F Go.Proofs.YtpfoleggapngoaaW.PrintWords
def hiF (y : List S70) : Nat → Int := fun i => (yd y i).f3.f1
def firstGo (y : List S70) : Nat → Int → (Nat → Int) → Int × Int × Int
  | 0, _, _ => (0, 0, 4)
  | n + 1, m, lv => if 0 ≤ dryUp (dryP y lv (hiF y)) y.length then (dryUp (dryP y lv (hiF y)) y.length, m, 0) else firstGo y n (m + 1) (lkF lv (hiF y) y.length)
def firstL (y : List S70) (months : Int) : Int × Int × Int := if yardOk y = true then (if 0 ≤ months ∧ months ≤ 12 then firstGo y months.toNat 0 (begF y) else (0, 0, 62)) else (0, 0, 61)
theorem yard_len {y : List S70} (h : yardOk y = true) : 1 ≤ y.length ∧ y.length ≤ 4 := by simp [yardOk] at h; omega
theorem yard_cask {y : List S70} (h : yardOk y = true) (i : Nat) (hi : i < y.length) : caskOk (yd y i) = true := by
  rw [yd_get y i hi]
  unfold yardOk at h
  simp only [Bool.and_eq_true] at h
  exact List.all_eq_true.1 h.2 _ (List.getElem_mem hi)
theorem cask_rg {c : S70} (h : caskOk c = true) : (1 ≤ c.f1 ∧ c.f1 ≤ 1000) ∧ (0 ≤ c.f0 ∧ c.f0 ≤ c.f1) ∧ (0 ≤ c.f2 ∧ c.f2 ≤ c.f1) ∧ (0 ≤ c.f3.f0 ∧ c.f3.f0 ≤ c.f3.f1 ∧ c.f3.f1 ≤ 1000) := by
  simp only [caskOk, spanOk, decide_eq_true_eq] at h; exact h
def lvOk (lv : Nat → Int) : Prop := ∀ i, 0 ≤ lv i ∧ lv i ≤ 1000
theorem yd_out {y : List S70} {i : Nat} (h : y.length ≤ i) : yd y i = z70 := by simp [yd, List.getD_eq_getElem?_getD, h]
theorem beg_ok {y : List S70} (h : yardOk y = true) : lvOk (begF y) := fun i => by
  unfold begF
  by_cases hi : i < y.length
  · have := cask_rg (yard_cask h i hi); omega
  · rw [yd_out (by omega)]; simp [z70]
theorem hi_ok {y : List S70} (h : yardOk y = true) (i : Nat) : 0 ≤ hiF y i ∧ hiF y i ≤ 1000 := by
  unfold hiF
  by_cases hi : i < y.length
  · have := cask_rg (yard_cask h i hi); omega
  · rw [yd_out (by omega)]; simp [z70, z68]
theorem lk_ok {lv f : Nat → Int} (h : lvOk lv) (hf : ∀ i, 0 ≤ f i) (k : Nat) : lvOk (lkF lv f k) := fun i => by
  have := h i
  have := hf i
  unfold lkF
  split <;> omega
/-- leaked, with the greatest leaks. -/
theorem leakedMost_c (A : Option Addr) (c : Nat) (y : List S70) (lv : Nat → Int) (month : Int) (w : World) (g : Nat) (hs : k70.C w A y.length y) (hy : yardOk y = true) (hl : lvOk lv) (K : w.heap[g]? = some (.cells #[.slice A y.length c] 35 (0, 0))) :
    Calls Try.prog 71 #[.slice A y.length c, .agg (isF lv), .int .i64 month, .agg #[.func (.func 95) #[] #[.pointer (some ⟨g, 0, none⟩)]]] w fun e w' => e = .returned (.tuple #[.agg (isF (lkF lv (hiF y) y.length)), .int .i64 (dryUp (dryP y lv (hiF y)) y.length)]) ∧ Bel w w' :=
  leaked_c A c y lv (hiF y) 95 [.pointer (some ⟨g, 0, none⟩)] month w hs (yard_len hy).2 (fun i _ => by have := hl i; omega) he95
    (fun i hi => ⟨by have := hi_ok hy i; omega, fun w1 hB => most1_c A c y w1 (Kd.C_below hs hB) g (kB K hB) month i hi⟩)
theorem ret3i {a b c a' b' c' : Int} (h : (a, b, c) = (a', b', c')) : Ending.returned (.tuple #[.int .i64 a, .int .i64 b, .int .i64 c]) = .returned (.tuple #[.int .i64 a', .int .i64 b', .int .i64 c']) := by
  injection h with h1 h2; injection h2 with h2 h3; rw [h1, h2, h3]

theorem first_c (A : Option Addr) (c : Nat) (y : List S70) (months : Int) (w : World) (hs : k70.C w A y.length y) :
    Calls Try.prog 28 #[.slice A y.length c, .int .i64 months] w fun e w' => e = .returned (.tuple #[.int .i64 (firstL y months).1, .int .i64 (firstL y months).2.1, .int .i64 (firstL y months).2.2]) ∧ Bel w w' := by
  refine G_enter (l := [.slice A y.length c, .int .i64 months]) Try.func28 rfl rfl ?_
  refine Sq (Rg (As (As (As (Nl (Tn (Sq (Sq (Rg (Mv ?_))))))))))
  refine g_call he26 rfl (checkYard_c A c y w hs) (h := ?_)
  rintro e w12 ⟨rfl, hb12⟩
  refine ⟨_, rfl, ?_⟩
  refine As (Nl (Tn (Sq (Rg (Mv ?_)))))
  refine g_neq rfl rfl (h1 := fun c14 => ?_) (h2 := fun c14 => ?_)
  · skip
    have hy : ¬ yardOk y = true := fun h => by rw [if_pos h] at c14; exact c14 rfl
    refine Nl (Tn (Ct rfl (Sq (Rg (Mv (As (As (As (Nl (Tn (Rt (Tr ?_))))))))))))
    exact ret3 rfl ⟨ret3i (by rw [firstL, if_neg hy, if_neg hy]), hb12⟩
  · skip
    have hy : yardOk y = true := by by_cases h : yardOk y = true; exact h; rw [if_neg h] at c14; exact absurd c14 (by decide)
    have h4 := yard_len hy
    refine Nl (Tn (Cf rfl (Sk (Tn (Sq (Sq (Rg (Mv ?_))))))))
    refine g_within rfl rfl rfl (h1 := fun c17 => ?_) (h2 := fun c17 => ?_)
    · skip
      refine Nt rfl (Nl (Tn (Cf rfl (Sk (Tn (Sq (Rg (Mv ?_))))))))
      refine g_call he70 rfl (begin_c A c y _ (Kd.C_below hs hb12) h4.2) (h := ?_)
      rintro e w20 ⟨rfl, hb20⟩
      refine ⟨_, rfl, ?_⟩
      have hB20 := hb12.bel hb20
      refine g_alloc (z := .agg (isF fun _ => 0)) (by kernel_rfl) (h := fun g8 w8 N8 => ?_)
      have K8 := N8.at_
      have hB8 := hB20.new N8
      refine g_storeA rfl rfl info111 K8 rfl (by simpa using isF_one _) (h := fun w9 P9 => ?_)
      refine Nl (Tn (Sq (Sq (Rg (Mv (Mv (Nl (Tn (Bk ?_)))))))))
      refine GC_loop (fun m σ w' => ∃ (k : Nat) (lv : Nat → Int) (τ : Nat → Value), σ = upd (upd (upd (upd (upd τ 0 (.slice A y.length c)) 1 (.int .i64 months)) 8 (.pointer (some ⟨g8, 0, none⟩))) 21 (.int .i64 months)) 22 (.int .i64 k) ∧ (k : Int) ≤ months ∧ m = months.toNat - k ∧ w'.heap[g8]? = some (.cells (isF lv) 111 (0, 0)) ∧ lvOk lv ∧ Bel w w' ∧ firstL y months = firstGo y (months.toNat - k) k lv) (months.toNat) ⟨0, begF y, _, has rfl (has rfl (has rfl (has rfl (has rfl rfl)))), c17.1, rfl, P9.at_, beg_ok hy, hB8.put P9 (Nat.le_trans hB20.size N8.ge), by rw [firstL, if_pos hy, if_pos c17]; rfl⟩ ?_
      rintro m _ w1 ⟨k, lv, τ, rfl, hk, rfl, K8a, hlv, hB, hgo⟩
      refine Sq (Rg ?_)
      refine g_lss rfl rfl (h1 := fun c23 => ?_) (h2 := fun c23 => ?_)
      · skip
        refine Nl (Tn (Sq (Ct rfl (Sk (Tn (Sq (Bk (Sq (Rg (Mv (As (Nl (Tn (Sq (Rg (As (Nl (Tn (Sq ?_)))))))))))))))))))
        obtain ⟨n, hn⟩ : ∃ n, months.toNat - k = n + 1 := ⟨months.toNat - k - 1, by omega⟩
        rw [hn, firstGo] at hgo
        refine GD_start 11 [9] (fun w' => w'.heap[g8]? = some (.cells (isF lv) 111 (0, 0))) (by kernel_rfl) rfl ?_
        refine GD_pure 0 rfl (by kernel_rfl) (by kernel_rfl) (by kernel_rfl) (by kernel_rfl) rfl rfl rfl (qv fun wq hC => by exact r_move) ?_
        refine GD_take 1 rfl (by kernel_rfl) (by kernel_rfl) (by kernel_rfl) (by kernel_rfl) rfl rfl rfl (qv fun wq hC => by exact r_loadA rfl Try.underlying111 info111 (l := (isF lv).toList) (cellsAt hC)) ?_
        refine GD_pure 2 rfl (by kernel_rfl) (by kernel_rfl) (by kernel_rfl) (by kernel_rfl) rfl rfl rfl (qv fun wq hC => by exact r_move) ?_
        refine GD_pure 3 rfl (by kernel_rfl) (by kernel_rfl) (by kernel_rfl) (by kernel_rfl) rfl rfl rfl (qv fun wq hC => by exact r_move) ?_
        refine GD_call 4 rfl (by kernel_rfl) (fun _ => K8a) rfl rfl he78 rfl (most_c A c y _) (fun e w30 he => ?_)
        obtain ⟨gm, rfl, Km, hgm, hb30⟩ := he
        refine ⟨_, rfl, ?_⟩
        have hB30 := hB.drew.bel hb30
        have K8b := kB (w1 := w1.drewN 1) K8a hb30
        refine GD_call 5 rfl (by kernel_rfl) (fun _ => K8b) rfl rfl he71 rfl (leakedMost_c A c y lv k _ gm (Kd.C_below hs hB30) hy hlv Km) (fun e w31 he => ?_)
        obtain ⟨rfl, hb31⟩ := he
        refine ⟨_, rfl, ?_⟩
        have hB31 := hB30.bel hb31
        have K8c := kB K8b hb31
        refine GD_pure 6 rfl (by kernel_rfl) (by kernel_rfl) (by kernel_rfl) (by kernel_rfl) rfl rfl rfl (qv fun wq hC => by exact r_move) ?_
        refine GD_pure 7 rfl (by kernel_rfl) (by kernel_rfl) (by kernel_rfl) (by kernel_rfl) rfl rfl rfl (qv fun wq hC => by exact r_extract rfl rfl) ?_
        refine GD_pure 8 rfl (by kernel_rfl) (by kernel_rfl) (by kernel_rfl) (by kernel_rfl) rfl rfl rfl (qv fun wq hC => by exact r_extract rfl rfl) ?_
        refine GD_storeA 9 rfl (by kernel_rfl) (fun _ => K8c) rfl rfl rfl info111 K8c rfl (by simpa using isF_one _) (fun w32 P32 => ?_)
        refine GD_pure 10 rfl (by kernel_rfl) (by kernel_rfl) (by kernel_rfl) (by kernel_rfl) rfl rfl rfl (qv fun wq hC => by exact r_assign) ?_
        refine GD_end (by kernel_rfl) (dead 9 rfl (by kernel_rfl)) ?_
        refine Tn (Sq (Rg (Mv ?_)))
        refine g_geq rfl rfl (h1 := fun c35 => ?_) (h2 := fun c35 => ?_)
        · skip
          refine Nl (Tn (Ct rfl (Sq (Rg (Mv (Mv (As (As (As (Nl (Tn (Rt (Br (Tr (Tr (Br (Tr ?_)))))))))))))))))
          rw [if_pos c35] at hgo
          exact ret3 rfl ⟨ret3i hgo.symm, hB31.put P32 (Nat.le_trans hB20.size N8.ge)⟩
        · skip
          refine Nl (Tn (Cf rfl (Sk (Bn (Tn (Rg ?_))))))
          refine g_add rfl rfl (by omega) (h := ?_)
          refine Mv (Nl ?_)
          rw [if_neg c35] at hgo
          exact round_end (months.toNat - (k + 1)) (by omega) ⟨k + 1, _, _, has rfl (has rfl (has rfl (has rfl (has rfl rfl)))), by omega, rfl, P32.at_, lk_ok hlv (fun i => (hi_ok hy i).1) _, hB31.put P32 (Nat.le_trans hB20.size N8.ge), by rw [hgo, show months.toNat - (k + 1) = n by omega]; rfl⟩
      · skip
        refine Nl (Tn (Sq (Cf rfl (Xi (Tx (Tx (Bs (Tn (Sq (Rg (As (As (As (Nl (Tn (Rt ?_))))))))))))))))
        rw [show months.toNat - k = 0 by omega, firstGo] at hgo
        exact ret3 rfl ⟨ret3i hgo.symm, hB⟩
    · skip
      refine Nt rfl (Nl (Tn (Ct rfl (Sq (Rg (As (As (As (Nl (Tn (Rt (Tr ?_))))))))))))
      exact ret3 rfl ⟨ret3i (by rw [firstL, if_pos hy, if_neg c17]), hb12⟩
end Go.Proofs.B
