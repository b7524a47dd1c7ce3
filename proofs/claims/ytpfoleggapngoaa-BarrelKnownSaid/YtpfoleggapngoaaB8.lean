/- barrel: Keep, from outside. -/
import Derived.Test.YtpfoleggapngoaaGd
import Derived.Test.YtpfoleggapngoaaB7
set_option linter.unusedVariables false
set_option linter.unusedSimpArgs false
set_option maxRecDepth 10000
namespace Go.Proofs.B
open Go Go.RowKit Go.Proofs Go.Proofs.G Go.Proofs.F Go.Proofs.YtpfoleggapngoaaW.PrintWords
def KeepRes (y : List S70) (months : Int) (code : Int) (plan : List Int) : Prop :=
  (yardOk y = true ∧ (0 ≤ months ∧ months ≤ 12) ∧ ((code = 0 ∧ plan.length = months.toNat ∧ okPlan y (begF y) plan) ∨ (code = 4 ∧ plan = [] ∧ Bad y months.toNat (begF y)))) ∨
  (yardOk y = true ∧ ¬ (0 ≤ months ∧ months ≤ 12) ∧ code = 62 ∧ plan = []) ∨ (¬ yardOk y = true ∧ code = 61 ∧ plan = [])
/-- A row of numbers that is read. -/
def RowV (w : World) (v : Value) (xs : List Int) : Prop := ∃ A c, v = .slice A xs.length c ∧ (Kd.int .i64).C w A xs.length xs ∧ xs.length ≤ c
theorem RowV.nil (w : World) : RowV w (.slice none 0 0) [] := ⟨none, 0, rfl, Kd.C_nil _ _, Nat.le_refl _⟩
theorem ret2i {v v' : Value} {b b' : Int} (h : v = v') (h2 : b = b') : Ending.returned (.tuple #[v, .int .i64 b]) = .returned (.tuple #[v', .int .i64 b']) := by rw [h, h2]
set_option maxHeartbeats 2000000 in
theorem keep_c (A : Option Addr) (c : Nat) (y : List S70) (months : Int) (w : World) (hs : k70.C w A y.length y) :
    Calls Try.prog 30 #[.slice A y.length c, .int .i64 months] w fun e w' => ∃ v code plan, e = .returned (.tuple #[v, .int .i64 code]) ∧ RowV w' v plan ∧ KeepRes y months code plan ∧ Bel w w' := by
  refine G_enter (l := [.slice A y.length c, .int .i64 months]) Try.func30 rfl rfl ?_
  refine Sq (Rg ?_)
  refine g_box rfl (h := fun g2 w2 N2 => ?_)
  have K2 := N2.at_
  have hB2 := Bel.of_new N2
  refine g_box rfl (h := fun g3 w3 N3 => ?_)
  have K3 := N3.at_
  have hB3 := hB2.new N3
  have K2a := kN K2 N3
  refine As (As (Nl (Tn (Sq (Sq (Rg (L1 Try.underlying35 (cellAt K2a rfl) rfl ?_)))))))
  refine g_call he26 rfl (checkYard_c A c y _ (Kd.C_below hs hB3)) (h := ?_)
  rintro e w12 ⟨rfl, hb12⟩
  refine ⟨_, rfl, ?_⟩
  have hB12 := hB3.bel hb12
  refine As (Nl (Tn (Sq (Rg (Mv ?_)))))
  refine g_neq rfl rfl (h1 := fun c14 => ?_) (h2 := fun c14 => ?_)
  · skip
    have hy : ¬ yardOk y = true := fun h => by rw [if_pos h] at c14; exact c14 rfl
    refine Nl (Tn (Ct rfl (Sq (Rg (Mv (As (As (Nl (Tn (Rt (Tr ?_)))))))))))
    exact ret2 rfl ⟨.slice none 0 0, 61, [], ret2i rfl (if_neg hy), RowV.nil _, .inr (.inr ⟨hy, rfl, rfl⟩), hB12⟩
  · skip
    have hy : yardOk y = true := by by_cases h : yardOk y = true; exact h; rw [if_neg h] at c14; exact absurd c14 (by decide)
    have h4 := yard_len hy
    have K2b : w12.heap[g2]? = some (.cells #[.slice A y.length c] 35 (0, 0)) := kB K2a hb12
    have K3b : w12.heap[g3]? = some (.cells #[.int .i64 months] 3 (0, 0)) := kB K3 hb12
    refine Nl (Tn (Cf rfl (Sk (Tn (Sq (Sq (Rg (L1 Try.underlying3 (cellAt K3b rfl) rfl ?_))))))))
    refine g_within rfl rfl rfl (h1 := fun c17 => ?_) (h2 := fun c17 => ?_)
    · skip
      refine Nt rfl (Nl (Tn (Cf rfl (Sk (Tn (Sq (Rg ?_)))))))
      refine g_makeMap (h := fun gM w19 N19 => ?_)
      refine g_alloc (z := .map none) (by kernel_rfl) (h := fun g7 w7 N7 => ?_)
      have K7 := N7.at_
      have K7a : w7.heap[g7]? = some (.cells #[.map none] 124 (0, 0)) := K7
      refine g_store1 rfl rfl info124 K7a (by decide) (h := fun w8 P8 => ?_)
      have K7b : w8.heap[g7]? = some (.cells #[.map (some gM)] 124 (0, 0)) := P8.at_
      have KMb := kP (kN N19.at_ N7) P8 (N7.ne N19.at_)
      have hB8 := ((hB12.new N19).new N7).put P8 (Nat.le_trans (hB12.new N19).size N7.ge)
      have K2c := kP (kN (kN K2b N19) N7) P8 (ne_ty (kN (kN K2b N19) N7) K7a (by decide))
      have K3c := kP (kN (kN K3b N19) N7) P8 (ne_ty (kN (kN K3b N19) N7) K7a (by decide))
      refine Nl (Tn (Sq (Rg ?_)))
      refine g_alloc (z := .nilFunc) (by kernel_rfl) (h := fun g8 w8 N8 => ?_)
      have K8 := N8.at_
      have K8a : w8.heap[g8]? = some (.cells #[.nilFunc] 125 (0, 0)) := K8
      refine Nl (Tn (Sq (Rg (Mf ?_))))
      refine g_store1 rfl rfl info125 K8a (by decide) (h := fun w9 P9 => ?_)
      have env : KEnv y A c months g3 g7 g2 g8 gM #[] 0 w9 := ⟨kP (kN K3c N8) P9 (N8.ne K3c), kP (kN K7b N8) P9 (N8.ne K7b), kP (kN K2c N8) P9 (N8.ne K2c), P9.at_, kP (kN KMb N8) P9 (N8.ne KMb), fun e he => by simp at he⟩
      have hB9 := (hB8.new N8).put P9 (Nat.le_trans hB8.size N8.ge)
      have hgM : w.heap.size ≤ gM := Nat.le_trans hB12.size N19.ge
      refine Nl (Tn (Sq ?_))
      have envd : KEnv y A c months g3 g7 g2 g8 gM #[] 0 (w9.drewN 1) := env.bel (Bel.drew (Below.refl _ _))
      refine GD_start 10 [] (fun w' => w'.heap[g8]? = some (.cells #[.func (.func 80) #[] #[.pointer (some ⟨g3, 0, none⟩), .pointer (some ⟨g7, 0, none⟩), .pointer (some ⟨g2, 0, none⟩), .pointer (some ⟨g8, 0, none⟩)]] 125 (0, 0)) ∧ w'.heap[g2]? = some (.cells #[.slice A y.length c] 35 (0, 0))) (by kernel_rfl) rfl ?_
      refine GD_take 0 rfl (by kernel_rfl) (by kernel_rfl) (by kernel_rfl) (by kernel_rfl) rfl rfl rfl (qv fun wq hC => by exact r_load1 rfl Try.underlying125 (cellAt hC.1 rfl)) ?_
      refine GD_take 1 rfl (by kernel_rfl) (by kernel_rfl) (by kernel_rfl) (by kernel_rfl) rfl rfl rfl (qv fun wq hC => by exact r_load1 rfl Try.underlying35 (cellAt hC.2 rfl)) ?_
      refine GD_one 2 (by kernel_rfl) (fun _ => ⟨envd.Kf, envd.Ky⟩) ?_
      refine GO_call rfl rfl rfl he70 rfl (begin_c A c y _ (Kd.C_below hs hB9.drew) h4.2) (fun e w24 he => ?_)
      obtain ⟨rfl, hb24⟩ := he
      refine ⟨_, rfl, ?_⟩
      have envd := envd.bel hb24
      have hB24 := hB9.drew.bel hb24
      refine GD_pure 3 rfl (by kernel_rfl) (by kernel_rfl) (by kernel_rfl) (by kernel_rfl) rfl rfl rfl (qv fun wq hC => by exact r_bld (build127 _ _ _) rfl) ?_
      refine GD_one 4 (by kernel_rfl) (fun _ => ⟨envd.Kf, envd.Ky⟩) ?_
      refine GO_callv rfl rfl rfl he80 rfl rfl (keep1_c w A c y months g3 g7 g2 g8 gM hs hy c17 hgM months.toNat 0 (begF y) [] none 0 w24 #[] 0 (by omega) (by omega) hB24 envd (fun e he => by simp at he) (beg_ok hy) (beg_full hy) (Kd.C_nil _ _) (fun _ => rfl) rfl (Nat.le_refl _)) (fun e w26 he => ?_)
      obtain ⟨v26, b26, es3, clock3, rfl, hch26, env26, hT, hF⟩ := he
      refine ⟨_, rfl, ?_⟩
      have envd := env26
      have hB26 : Bel w w26 := hch26.step hB24 hB24.size (fun i hi h => by omega)
      refine GD_pure 5 rfl (by kernel_rfl) (by kernel_rfl) (by kernel_rfl) (by kernel_rfl) rfl rfl rfl (qv fun wq hC => by exact r_move) ?_
      refine GD_pure 6 rfl (by kernel_rfl) (by kernel_rfl) (by kernel_rfl) (by kernel_rfl) rfl rfl rfl (qv fun wq hC => by exact r_extract rfl rfl) ?_
      refine GD_pure 7 rfl (by kernel_rfl) (by kernel_rfl) (by kernel_rfl) (by kernel_rfl) rfl rfl rfl (qv fun wq hC => by exact r_extract rfl rfl) ?_
      refine GD_pure 8 rfl (by kernel_rfl) (by kernel_rfl) (by kernel_rfl) (by kernel_rfl) rfl rfl rfl (qv fun wq hC => by exact r_assign) ?_
      refine GD_pure 9 rfl (by kernel_rfl) (by kernel_rfl) (by kernel_rfl) (by kernel_rfl) rfl rfl rfl (qv fun wq hC => by exact r_assign) ?_
      refine GD_end (by kernel_rfl) (fun _ => ⟨envd.Kf, envd.Ky⟩) ?_
      refine Tn (Sq (Sq (Rg ?_)))
      skip
      refine Mv ?_
      cases q29 : b26 with
      | true =>
        refine Nt rfl (Nl (Tn (Cf rfl (Sk (Tn (Sq (Rg (Mv (As (As (Nl (Tn (Rt ?_)))))))))))))
        obtain ⟨A', c', p, rfl, hCp, hlep, hpn, hok⟩ := hT q29
        exact ret2 rfl ⟨_, 0, p, ret2i rfl rfl, ⟨A', c', rfl, hCp, hlep⟩, .inl ⟨hy, c17, .inl ⟨rfl, hpn, hok⟩⟩, hB26⟩
      | false =>
        refine Nt rfl (Nl (Tn (Ct rfl (Sq (Rg (As (As (Nl (Tn (Rt (Tr ?_)))))))))))
        obtain ⟨hbad, _⟩ := hF q29
        exact ret2 rfl ⟨.slice none 0 0, 4, [], ret2i rfl rfl, RowV.nil _, .inl ⟨hy, c17, .inr ⟨rfl, rfl, hbad⟩⟩, hB26⟩
    · skip
      refine Nt rfl (Nl (Tn (Ct rfl (Sq (Rg (As (As (Nl (Tn (Rt (Tr ?_)))))))))))
      exact ret2 rfl ⟨.slice none 0 0, 62, [], ret2i rfl rfl, RowV.nil _, .inr (.inl ⟨hy, c17, rfl, rfl⟩), hB12⟩
end Go.Proofs.B
