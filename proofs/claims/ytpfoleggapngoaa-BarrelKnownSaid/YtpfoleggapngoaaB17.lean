/- barrel: pushed. -/
import Derived.Test.YtpfoleggapngoaaGd
import Derived.Test.YtpfoleggapngoaaB16
set_option linter.unusedVariables false
set_option linter.unusedSimpArgs false
set_option maxRecDepth 10000
namespace Go.Proofs.B
open Go Go.RowKit Go.Proofs Go.Proofs.G Go.Proofs.F Go.Proofs.YtpfoleggapngoaaW.PrintWords
theorem walkG_append : ∀ (a : List S151) (cs : List Int) (b : List S151), walkG cs (a ++ b) = walkG (walkG cs a) b
  | [], _, _ => rfl
  | s :: ss, cs, b => by rw [List.cons_append, walkG, walkG, walkG_append ss]
def Bal (N : Nat) (l : List S76) (cs : List Int) : Prop := InB l cs ∧ ∀ s : Nat, s < N → net l cs s = 0
/-- As far as a move's count can be changed: counts that balance, and why no further. -/
def Far (N : Nat) (l : List S76) (k0 : Nat) (fw : Bool) (v : Int) : Prop :=
  ∃ cs, Bal N l cs ∧ rd cs k0 = v ∧ (v = (if fw = true then (mv l k0).f2.f0 else (mv l k0).f2.f1) ∨
    ∃ met : Int → Bool, (∀ x, met x = true → ∀ k q u, Ed l cs k0 k q x u → met u = true) ∧ met (if fw = true then (mv l k0).f0 else (mv l k0).f1) = true ∧ met (if fw = true then (mv l k0).f1 else (mv l k0).f0) = false)
/-- A barrel more (or fewer) round a way and the move. -/
theorem bal_push {N : Nat} {l : List S76} {cs : List Int} {k0 : Nat} {fw : Bool} {steps : List S151} {vs : List Int} (hb : Bal N l cs) (hk : k0 < l.length) (hp : Path l cs k0 (if fw = true then (mv l k0).f0 else (mv l k0).f1) steps vs (if fw = true then (mv l k0).f1 else (mv l k0).f0)) (hnd : vs.Nodup) (hni : (if fw = true then (mv l k0).f0 else (mv l k0).f1) ∉ vs)
    (hroom : rd cs k0 ≠ (if fw = true then (mv l k0).f2.f0 else (mv l k0).f2.f1)) : Bal N l (walkG cs (steps ++ [⟨k0, fw⟩])) ∧ rd (walkG cs (steps ++ [⟨k0, fw⟩])) k0 = rd cs k0 + dl fw := by
  obtain ⟨h1, h2, h3⟩ := push_path hb.1 hp hnd hni
  have hk' : k0 < (walkG cs steps).length := by rw [h1.1]; exact hk
  have h4 := h3 k0 rfl
  rw [walkG_append]
  show Bal N l (stepV (walkG cs steps) ⟨k0, fw⟩) ∧ rd (stepV (walkG cs steps) ⟨k0, fw⟩) k0 = _
  refine ⟨⟨⟨by rw [stepV_len]; exact h1.1, fun j hj => ?_⟩, fun s hs => ?_⟩, by rw [rd_stepV _ k0 hk', if_pos rfl, h4]⟩
  · rw [rd_stepV _ k0 hk']
    have h5 := h1.2 j hj
    have h6 := hb.1.2 k0 hk
    split
    · rename_i e; subst e
      rw [h4]
      cases fw <;> simp only [dl, Bool.false_eq_true, if_false, if_true] at hroom ⊢ <;> omega
    · exact h5
  · unfold net
    rw [ovf_step l _ k0 hk' fw s _ hk]
    have h5 := h2 s
    have h6 := hb.2 s hs
    unfold net at h5 h6
    rw [h5, h6]
    unfold one
    cases fw <;> simp only [dl, Bool.false_eq_true, if_false, if_true] <;> (repeat' split) <;> omega
theorem lit22_0' : True := trivial




set_option maxHeartbeats 3000000 in
theorem pushedF_c (N : Nat) (l : List S76) (A : Option Addr) (c : Nat) (cs0 : List Int) (B : Option Addr) (d : Nat) (k0 : Nat) (w : World) (hs : k76.C w A l.length l) (hc0 : (Kd.int .i64).C w B cs0.length cs0) (hN : N ≤ 6) (hl10 : 1 ≤ l.length ∧ l.length ≤ 10)
    (hm : ∀ k, k < l.length → (0 ≤ (mv l k).f0 ∧ (mv l k).f0 < N) ∧ (0 ≤ (mv l k).f1 ∧ (mv l k).f1 < N)) (hne : ∀ k, k < l.length → (mv l k).f0 ≠ (mv l k).f1) (hsp : ∀ k, k < l.length → 0 ≤ (mv l k).f2.f0 ∧ (mv l k).f2.f0 ≤ (mv l k).f2.f1 ∧ (mv l k).f2.f1 ≤ 1000) (hk0 : k0 < l.length) (hbal : Bal N l cs0) :
    Calls Try.prog 84 #[.agg #[.int .i64 N, .slice A l.length c], .slice B cs0.length d, .int .i64 k0, .bool false] w fun e w' => ∃ v, e = .returned (.int .i64 v) ∧ Far N l k0 false v ∧ Bel w w' := by
  have hbd : ∀ cs, InB l cs → ∀ x ∈ cs, -1000000 ≤ x ∧ x ≤ 1000000 := fun cs hcs x hx => by
    obtain ⟨i, hi, rfl⟩ := List.mem_iff_getElem.1 hx
    have h1 := hcs.2 i (by rw [← hcs.1]; exact hi)
    rw [rd_nat cs i hi] at h1
    have h3 := hsp i (by rw [← hcs.1]; exact hi)
    omega
  have hsp0 := hsp k0 hk0
  have hm0 := hm k0 hk0
  have hne0 := hne k0 hk0
  refine G_enter (l := [.agg #[.int .i64 N, .slice A l.length c], .slice B cs0.length d, .int .i64 k0, .bool false]) Try.func84 rfl rfl ?_
  refine Sq (Rg ?_)
  refine g_box rfl (h := fun g4 w4 N4 => ?_)
  have K4 := N4.at_
  have hB4 := Bel.of_new N4
  have K4a : w4.heap[g4]? = some (.cells #[.int .i64 N, .slice A l.length c] 130 (0, 0)) := K4
  refine As (Nl (Tn (Sq (Rg ?_))))
  refine g_litsR (Kd.int .i64) (xs := []) (inner := []) (okp := fun _ => True) (lit22_0 _) rfl rfl (by decide) (Reps.none _ _) (h := fun g15 w15 HR15 hg15 => ?_)
  have hB15 := hB4.grown hg15 (by intro q hq; cases hq)
  refine Mv ?_
  refine g_appendRows (Kd.int .i64) Try.underlying22 zi3 rfl (by decide) (by decide) (okp := fun _ => False) HR15 (Kd.C_below hc0 hB15) (fun x cs h => h) (fun _ h => h.elim) (fun _ _ => trivial) hg15.size (by simp only [List.length_nil]; have := hbal.1.1; omega) rfl rfl (h := fun v17 w17 HR17 hg17 _ => ?_)
  have hB17 := hB15.grown hg17 (fun q hq => Nat.le_trans hB4.size (Kd.R_base HR15 q hq))
  have K4b := kG (kG K4a hg15 (by intro h; cases h)) hg17 (ne_own HR15 (kG K4a hg15 (by intro h; cases h)) (by decide))
  have HR18 := Kd.R_lower HR17 hB4.size
  rw [List.nil_append] at HR18
  obtain ⟨gr0, cap0, rfl, hgr0, _, _⟩ := Kd.R_form HR18 (by rw [hbal.1.1]; omega)
  refine As (Nl (Tn (Sq (Rg (Fb f130_0 rfl (Fb f49_1 rfl (L1 Try.underlying47 (cellAt K4b rfl) rfl (Mv ?_))))))))
  obtain ⟨ad, hA, h23⟩ := at76 hs hB17 k0 hk0
  refine g_indexS (ad := ad) Try.underlying47 info76 (by rw [← hA]; rfl) rfl (by omega) (by omega) rfl (h := ?_)
  refine g_loadA rfl Try.underlying76 info76 (l := enc76 l[k0]) h23 (h := ?_)
  refine g_bld (build139 _ _ _ _ _) rfl (h := ?_)
  refine g_alloc (z := .agg #[.int .i64 0, .int .i64 0, .int .i64 0, .int .i64 0]) (by kernel_rfl) (h := fun g10 w10 N10 => ?_)
  have K10 := N10.at_
  refine g_storeA rfl rfl info139 K10 rfl (by simp [Value.oneCell']) (h := fun w6 P6 => ?_)
  have K10a : w6.heap[g10]? = some (.cells (enc76 (mv l k0)).toArray 139 (0, 0)) := by rw [mv_get l k0 hk0]; exact P6.at_
  have hB6' : Bel w17 w6 := (Bel.of_new N10).put P6 N10.ge
  have HR6 := rB HR18 hB6'
  have K4c := kB K4b hB6'
  have hB6 := hB17.bel hB6'
  refine Nl (Tn (Sq ?_))
  refine GD_start 8 [] (fun w' => w' = w6.drewN 1) (by kernel_rfl) rfl ?_
  refine GD_pure 0 rfl (by kernel_rfl) (by kernel_rfl) (by kernel_rfl) (by kernel_rfl) rfl rfl rfl (qv fun wq hC => by exact r_fieldAddrB f139_0 rfl) ?_
  refine GD_pure 1 rfl (by kernel_rfl) (by kernel_rfl) (by kernel_rfl) (by kernel_rfl) rfl rfl rfl (qv fun wq hC => by exact r_fieldAddrB f76_1 rfl) ?_
  refine GD_take 2 rfl (by kernel_rfl) (by kernel_rfl) (by kernel_rfl) (by kernel_rfl) rfl rfl rfl (qv fun wq hC => by exact r_load1 rfl Try.underlying3 (by subst hC; exact cellAt K10a rfl)) ?_
  refine GD_pure 3 rfl (by kernel_rfl) (by kernel_rfl) (by kernel_rfl) (by kernel_rfl) rfl rfl rfl (qv fun wq hC => by exact r_fieldAddrB f139_0 rfl) ?_
  refine GD_pure 4 rfl (by kernel_rfl) (by kernel_rfl) (by kernel_rfl) (by kernel_rfl) rfl rfl rfl (qv fun wq hC => by exact r_fieldAddrB f76_0 rfl) ?_
  refine GD_take 5 rfl (by kernel_rfl) (by kernel_rfl) (by kernel_rfl) (by kernel_rfl) rfl rfl rfl (qv fun wq hC => by exact r_load1 rfl Try.underlying3 (by subst hC; exact cellAt K10a rfl)) ?_
  refine GD_pure 6 rfl (by kernel_rfl) (by kernel_rfl) (by kernel_rfl) (by kernel_rfl) rfl rfl rfl (qv fun wq hC => by exact r_assign) ?_
  refine GD_pure 7 rfl (by kernel_rfl) (by kernel_rfl) (by kernel_rfl) (by kernel_rfl) rfl rfl rfl (qv fun wq hC => by exact r_assign) ?_
  refine GD_end (by kernel_rfl) (fun _ => rfl) ?_
  refine Tn ?_
  refine GC_join (fun σ w' => ∃ (τ : Nat → Value), σ = upd (upd (upd (upd (upd (upd (upd τ 2 (.int .i64 k0)) 3 (.bool false)) 4 (.pointer (some ⟨g4, 0, none⟩))) 9 (.slice (some ⟨gr0, 0, none⟩) cs0.length cap0)) 10 (.pointer (some ⟨g10, 0, none⟩))) 11 (.int .i64 (mv l k0).f1)) 12 (.int .i64 (mv l k0).f0) ∧ Bel w6 w') ?_ ?_
  · skip
    refine Sq (Rg (Mv (Nl (Tn (Cf rfl (Sk ?_))))))
    exact join_end ⟨_, has rfl (has rfl (has rfl (has rfl (has rfl (has rfl (has rfl rfl)))))), (Bel.drew (Below.refl w6.heap.size w6))⟩
  · rintro _ w7 ⟨τ7, rfl, hB7⟩
    refine Bk ?_
    refine GC_loop (fun m σ w' => ∃ (cs : List Int) (gr cap : Nat) (τ : Nat → Value), σ = upd (upd (upd (upd (upd (upd (upd τ 2 (.int .i64 k0)) 3 (.bool false)) 4 (.pointer (some ⟨g4, 0, none⟩))) 9 (.slice (some ⟨gr, 0, none⟩) cs.length cap)) 10 (.pointer (some ⟨g10, 0, none⟩))) 11 (.int .i64 (mv l k0).f1)) 12 (.int .i64 (mv l k0).f0) ∧ m = ((mv l k0).f2.f1 - rd cs k0).toNat ∧ Bal N l cs ∧ (Kd.int .i64).R 3 w' w.heap.size (fun _ => True) (.slice (some ⟨gr, 0, none⟩) cs.length cap) cs ∧ w'.heap[g4]? = some (.cells #[.int .i64 N, .slice A l.length c] 130 (0, 0)) ∧ w'.heap[g10]? = some (.cells (enc76 (mv l k0)).toArray 139 (0, 0)) ∧ Bel w w') (((mv l k0).f2.f1 - rd cs0 k0).toNat) ⟨cs0, gr0, cap0, _, has rfl (has rfl (has rfl (has rfl (has rfl (has rfl (has rfl rfl)))))), rfl, hbal, rB HR6 hB7, kB K4c hB7, kB K10a hB7, hB6.bel hB7⟩ ?_
    rintro m _ w8 ⟨cs, gr, cap, τ8, rfl, rfl, hbl, HR8, K4d, K10d, hB8⟩
    have hcl := hbl.1.1
    have hC8 := (Kd.R_reads' HR8).2.2
    have hin0 := hbl.1.2 k0 hk0
    have h44 : ∀ w', Bel w8 w' → w'.cell? ⟨gr, k0, none⟩ = some (.int .i64 (rd cs k0)) := fun w' hb => (Kd.R_celln (0 : Int) (rB HR8 hb) k0 (by omega) (by omega)).1
    refine Bk ?_
    refine GC_join (fun σ w' => ∃ (τ : Nat → Value), σ = upd (upd (upd (upd (upd (upd (upd τ 2 (.int .i64 k0)) 3 (.bool false)) 4 (.pointer (some ⟨g4, 0, none⟩))) 9 (.slice (some ⟨gr, 0, none⟩) cs.length cap)) 10 (.pointer (some ⟨g10, 0, none⟩))) 11 (.int .i64 (mv l k0).f1)) 12 (.int .i64 (mv l k0).f0) ∧ Bel w8 w' ∧ rd cs k0 ≠ (mv l k0).f2.f1) ?_ ?_
    · skip
      refine Sq ?_
      have hBd : Bel w8 (w8.drewN 1) := Bel.drew (Below.refl _ _)
      refine GD_start 23 [] (fun w' => Bel w8 w') (by kernel_rfl) rfl ?_
      refine GD_pure 0 rfl (by kernel_rfl) (by kernel_rfl) (by kernel_rfl) (by kernel_rfl) rfl rfl rfl (qv fun wq hC => by exact r_move) ?_
      refine GD_pure 1 rfl (by kernel_rfl) (by kernel_rfl) (by kernel_rfl) (by kernel_rfl) rfl rfl rfl (qv fun wq hC => by exact r_not rfl) ?_
      refine GD_pure 2 rfl (by kernel_rfl) (by kernel_rfl) (by kernel_rfl) (by kernel_rfl) rfl rfl rfl (qv fun wq hC => by exact r_move) ?_
      refine GD_pure 3 rfl (by kernel_rfl) (by kernel_rfl) (by kernel_rfl) (by kernel_rfl) rfl rfl rfl (qv fun wq hC => by exact r_move) ?_
      refine GD_pure 4 rfl (by kernel_rfl) (by kernel_rfl) (by kernel_rfl) (by kernel_rfl) rfl rfl rfl (qv fun wq hC => by exact r_move) ?_
      refine GD_pure 5 rfl (by kernel_rfl) (by kernel_rfl) (by kernel_rfl) (by kernel_rfl) rfl rfl rfl (qv fun wq hC => by exact r_indexO Try.underlying22 info3 rfl rfl  (by omega) (by omega) (Nat.mul_one _)) ?_
      refine GD_take 6 rfl (by kernel_rfl) (by kernel_rfl) (by kernel_rfl) (by kernel_rfl) rfl rfl rfl (qv fun wq hC => by exact r_load1 rfl Try.underlying3 (h44 _ hC)) ?_
      refine GD_take 7 rfl (by kernel_rfl) (by kernel_rfl) (by kernel_rfl) (by kernel_rfl) rfl rfl rfl (qv fun wq hC => by exact r_loadA rfl Try.underlying139 info139 (l := enc76 (mv l k0)) (cellsAt (kB K10d hC))) ?_
      refine GD_one 8 (by kernel_rfl) (fun _ => hBd) ?_
      refine GO_call rfl rfl rfl he89 rfl (greatest_c (mv l k0) _) (fun e w46 he => ?_)
      obtain ⟨rfl, hb46⟩ := he
      refine ⟨_, rfl, ?_⟩
      have hBd := hBd.bel hb46
      rcases Decidable.em (rd cs k0 = (mv l k0).f2.f1) with c47 | c47
      · skip
        refine GD_pure 9 rfl (by kernel_rfl) (by kernel_rfl) (by kernel_rfl) (by kernel_rfl) rfl rfl rfl (qv fun wq hC => by exact r_eqlT rfl rfl c47) ?_
        refine GD_pure 10 rfl (by kernel_rfl) (by kernel_rfl) (by kernel_rfl) (by kernel_rfl) rfl rfl rfl (qv fun wq hC => by exact r_pickT rfl) ?_
        refine GD_pure 11 rfl (by kernel_rfl) (by kernel_rfl) (by kernel_rfl) (by kernel_rfl) rfl rfl rfl (qv fun wq hC => by exact r_move) ?_
        refine GD_off 12 rfl (by kernel_rfl) (by kernel_rfl) (by kernel_rfl) (by kernel_rfl) rfl rfl ?_
        refine GD_off 13 rfl (by kernel_rfl) (by kernel_rfl) (by kernel_rfl) (by kernel_rfl) rfl rfl ?_
        refine GD_off 14 rfl (by kernel_rfl) (by kernel_rfl) (by kernel_rfl) (by kernel_rfl) rfl rfl ?_
        refine GD_off 15 rfl (by kernel_rfl) (by kernel_rfl) (by kernel_rfl) (by kernel_rfl) rfl rfl ?_
        refine GD_off 16 rfl (by kernel_rfl) (by kernel_rfl) (by kernel_rfl) (by kernel_rfl) rfl rfl ?_
        refine GD_off 17 rfl (by kernel_rfl) (by kernel_rfl) (by kernel_rfl) (by kernel_rfl) rfl rfl ?_
        refine GD_off 18 rfl (by kernel_rfl) (by kernel_rfl) (by kernel_rfl) (by kernel_rfl) rfl rfl ?_
        refine GD_off 19 rfl (by kernel_rfl) (by kernel_rfl) (by kernel_rfl) (by kernel_rfl) rfl rfl ?_
        refine GD_off 20 rfl (by kernel_rfl) (by kernel_rfl) (by kernel_rfl) (by kernel_rfl) rfl rfl ?_
        refine GD_off 21 rfl (by kernel_rfl) (by kernel_rfl) (by kernel_rfl) (by kernel_rfl) rfl rfl ?_
        refine GD_pure 22 rfl (by kernel_rfl) (by kernel_rfl) (by kernel_rfl) (by kernel_rfl) rfl rfl rfl (qv fun wq hC => by exact r_pickT rfl) ?_
        refine GD_end (by kernel_rfl) (fun _ => hBd) ?_
        refine Tn (Ct rfl (Sq (Rg (Mv (Mv ?_)))))
        refine g_indexO Try.underlying22 info3 rfl rfl  (by omega) (by omega) (Nat.mul_one _) (h := ?_)
        refine L1 Try.underlying3 (h44 _ hBd) rfl (As (Nl (Tn (Rt (Tr (Br (Tr (Br ?_))))))))
        exact ret1 rfl ⟨_, rfl, ⟨cs, hbl, rfl, .inl c47⟩, hB8.bel hBd⟩
      · skip
        refine GD_pure 9 rfl (by kernel_rfl) (by kernel_rfl) (by kernel_rfl) (by kernel_rfl) rfl rfl rfl (qv fun wq hC => by exact r_eqlF rfl rfl c47) ?_
        refine GD_pure 10 rfl (by kernel_rfl) (by kernel_rfl) (by kernel_rfl) (by kernel_rfl) rfl rfl rfl (qv fun wq hC => by exact r_pickT rfl) ?_
        refine GD_pure 11 rfl (by kernel_rfl) (by kernel_rfl) (by kernel_rfl) (by kernel_rfl) rfl rfl rfl (qv fun wq hC => by exact r_move) ?_
        refine GD_pure 12 rfl (by kernel_rfl) (by kernel_rfl) (by kernel_rfl) (by kernel_rfl) rfl rfl rfl (qv fun wq hC => by exact r_move) ?_
        refine GD_pure 13 rfl (by kernel_rfl) (by kernel_rfl) (by kernel_rfl) (by kernel_rfl) rfl rfl rfl (qv fun wq hC => by exact r_move) ?_
        refine GD_off 14 rfl (by kernel_rfl) (by kernel_rfl) (by kernel_rfl) (by kernel_rfl) rfl rfl ?_
        refine GD_off 15 rfl (by kernel_rfl) (by kernel_rfl) (by kernel_rfl) (by kernel_rfl) rfl rfl ?_
        refine GD_off 16 rfl (by kernel_rfl) (by kernel_rfl) (by kernel_rfl) (by kernel_rfl) rfl rfl ?_
        refine GD_off 17 rfl (by kernel_rfl) (by kernel_rfl) (by kernel_rfl) (by kernel_rfl) rfl rfl ?_
        refine GD_off 18 rfl (by kernel_rfl) (by kernel_rfl) (by kernel_rfl) (by kernel_rfl) rfl rfl ?_
        refine GD_off 19 rfl (by kernel_rfl) (by kernel_rfl) (by kernel_rfl) (by kernel_rfl) rfl rfl ?_
        refine GD_off 20 rfl (by kernel_rfl) (by kernel_rfl) (by kernel_rfl) (by kernel_rfl) rfl rfl ?_
        refine GD_pure 21 rfl (by kernel_rfl) (by kernel_rfl) (by kernel_rfl) (by kernel_rfl) rfl rfl rfl (qv fun wq hC => by exact r_pickF rfl) ?_
        refine GD_pure 22 rfl (by kernel_rfl) (by kernel_rfl) (by kernel_rfl) (by kernel_rfl) rfl rfl rfl (qv fun wq hC => by exact r_pickF rfl) ?_
        refine GD_end (by kernel_rfl) (fun _ => hBd) ?_
        refine Tn (Cf rfl (Sk ?_))
        exact join_end ⟨_, has rfl (has rfl (has rfl (has rfl (has rfl (has rfl (has rfl rfl)))))), hBd, c47⟩
    · rintro _ w9 ⟨τ9, rfl, hBd, hroom⟩
      refine Sq (Rg ?_)
      refine g_loadA rfl Try.underlying130 info130 (l := [.int .i64 N, .slice A l.length c]) (cellsAt (kB K4d hBd)) (h := ?_)
      refine Mv (Mv (Mv (Mv ?_)))
      refine g_call he97 rfl (way_c N l A c cs (some ⟨gr, 0, none⟩) cap (mv l k0).f1 (mv l k0).f0 k0 _ (Kd.C_below hs (hB8.bel hBd)) (Kd.C_below hC8 hBd) hcl (by omega) (by omega) hm hne (by omega) (by omega)) (h := ?_)
      rintro e w71 ⟨v71, gm2, es2, steps, rfl, hmet2, hpost, HRs, hsl2, hb71⟩
      refine ⟨_, rfl, ?_⟩
      refine Mv (Xt rfl rfl (Xt rfl rfl (As (As (Nl (Tn (Sq (Sq (Rg (Mv (Mv ?_)))))))))))
      obtain ⟨ck2, hKm2⟩ := hmet2.K
      obtain ⟨ks, hks⟩ := key3 (mv l k0).f0 (by omega)
      have hkeys2 : ∀ x ∈ es2.toList, ∃ l, keyOf Try.prog 3 x.key = some l := fun x hx => by
        obtain ⟨⟨a, h1, h2, h3⟩, _⟩ := hmet2.hes x hx
        rw [h1]; exact key3 a ⟨by omega, by omega⟩
      have hBe := hBd.bel hb71
      refine g_lookupB K3 Try.underlying146 (zero4 _) hKm2 hkeys2 hks (fun e he => (hmet2.hes e he).2) rfl rfl (h := fun b76 h76 => ?_)
      have hb76 : b76 = inM es2 (mv l k0).f0 := by
        cases hq : inM es2 (mv l k0).f0 with
        | true => exact h76.2 (lkB_true.1 hq)
        | false =>
          cases hb : b76 with
          | false => rfl
          | true => rw [show inM es2 (mv l k0).f0 = true from lkB_true.2 (h76.1 hb)] at hq; cases hq
      cases q76 : b76 with
      | true =>
        obtain ⟨vs, hpath, hnd, hnotin⟩ : ∃ vs, Path l cs k0 (mv l k0).f1 steps vs (mv l k0).f0 ∧ vs.Nodup ∧ (mv l k0).f1 ∉ vs := by
          rcases hpost with ⟨_, h⟩ | ⟨h, _⟩
          · exact h
          · rw [← hb76, q76] at h; cases h
        obtain ⟨hbl2, hrd2⟩ := bal_push (fw := false) hbl hk0 hpath hnd hnotin hroom
        refine Nt rfl (Nl (Tn (Cf rfl (Sk (Tn (Rg (Mv (Mv (Mv (Mv ?_))))))))))
        refine g_bld (build151 _ _ _) rfl (h := ?_)
        refine g_lits (bs147 _ _ _) rfl (h := fun g87 w87 N87 => ?_)
        have hlm : unmet N es2 ≤ N := by
          unfold unmet
          exact Nat.le_trans (List.length_filter_le _ _) (by simp)
        refine g_appendR k151 Try.underlying147 zi151 rfl (by decide) (rN HRs N87) (cs := [.int .i64 k0, .bool false]) N87.at_ (p := ⟨k0, false⟩) (okp := fun _ => False) (k151_mkM _ _ _ _) (fun _ h => h.elim) (fun _ _ => trivial) (Nat.le_trans hb71.size N87.ch.size) (by omega) (by simp [maxLen]; omega) rfl rfl (h := fun v88 w88 HR88 hg88 _ => ?_)
        have hBf : Bel w8 w88 := (hBe.new N87).grown hg88 (fun q hq => Nat.le_trans hBd.size (Kd.R_base HRs q hq))
        have HR9 := rB HR8 hBf
        have hgrlt : gr < w8.heap.size := Kd.R_lt HR8 gr rfl
        have hw8 := hBd.size
        obtain ⟨A88, c88, rfl, _, hC88⟩ := Kd.R_reads HR88
        refine g_call he98 (by kernel_rfl) (walk_c A88 c88 gr cs.length cap w.heap.size (steps ++ [⟨k0, false⟩]) cs w88 hC88 (fun ad e => by have := R_addr HR88 ad e; omega) HR9 (by simp only [List.length_append, List.length_singleton]; omega) (fun st hst => by
          rw [hcl]
          rcases List.mem_append.1 hst with h | h
          · exact path_moves hpath st h
          · rw [List.mem_singleton.1 h]; exact ⟨Int.natCast_nonneg _, by show (k0 : Int) < _; omega⟩) (hbd cs hbl.1)) (h := ?_)
        rintro e w89 ⟨rfl, HRw, hchw⟩
        refine ⟨_, rfl, ?_⟩
        have hgr2 : w.heap.size ≤ gr := Kd.R_base HR8 gr rfl
        have hcl2 : (walkG cs (steps ++ [⟨k0, false⟩])).length = cs.length := walkG_len _ _
        have K4f := hchw.at_ (kB K4d hBf) (fun e => ne_own HR9 (kB K4d hBf) (by decide) (by rw [e]; rfl))
        have K10f := hchw.at_ (kB K10d hBf) (fun e => ne_own HR9 (kB K10d hBf) (by decide) (by rw [e]; rfl))
        have hin2 := hbl2.1.2 k0 hk0
        refine Nl (Bn ?_)
        exact round_end ((mv l k0).f2.f1 - rd (walkG cs (steps ++ [⟨k0, false⟩])) k0).toNat (by rw [hrd2] at hin2 ⊢; simp only [dl, Bool.false_eq_true, if_false, if_true] at hin2 ⊢; omega) ⟨walkG cs (steps ++ [⟨k0, false⟩]), gr, cap, _, has rfl (has rfl (has rfl (has (by rw [hcl2]; rfl) (has rfl (has rfl (has rfl rfl)))))), rfl, hbl2, by rw [hcl2]; exact HRw, K4f, K10f, hchw.step (hB8.bel hBf) (hB8.bel hBf).size (fun i hi e => by omega)⟩
      | false =>
        refine Nt rfl (Nl (Tn (Ct rfl (Sq (Rg (Mv (Mv ?_)))))))
        refine g_indexO Try.underlying22 info3 rfl rfl  (by omega) (by omega) (Nat.mul_one _) (h := ?_)
        refine L1 Try.underlying3 (h44 _ hBe) rfl (As (Nl (Tn (Rt (Tr (Br (Tr (Br ?_))))))))
        obtain ⟨hp1, hp2, hp3, _⟩ : inM es2 (mv l k0).f0 = false ∧ inM es2 (mv l k0).f1 = true ∧ (∀ v, inM es2 v = true → ∀ k fw u, Ed l cs k0 k fw v u → inM es2 u = true) ∧ (∀ u, inM es2 u = true → Rch l cs k0 (mv l k0).f1 u) := by
          rcases hpost with ⟨h, _⟩ | h
          · rw [← hb76, q76] at h; cases h
          · exact h
        exact ret1 rfl ⟨_, rfl, ⟨cs, hbl, rfl, .inr ⟨inM es2, hp3, hp2, hp1⟩⟩, hB8.bel hBe⟩

set_option maxHeartbeats 3000000 in
theorem pushedT_c (N : Nat) (l : List S76) (A : Option Addr) (c : Nat) (cs0 : List Int) (B : Option Addr) (d : Nat) (k0 : Nat) (w : World) (hs : k76.C w A l.length l) (hc0 : (Kd.int .i64).C w B cs0.length cs0) (hN : N ≤ 6) (hl10 : 1 ≤ l.length ∧ l.length ≤ 10)
    (hm : ∀ k, k < l.length → (0 ≤ (mv l k).f0 ∧ (mv l k).f0 < N) ∧ (0 ≤ (mv l k).f1 ∧ (mv l k).f1 < N)) (hne : ∀ k, k < l.length → (mv l k).f0 ≠ (mv l k).f1) (hsp : ∀ k, k < l.length → 0 ≤ (mv l k).f2.f0 ∧ (mv l k).f2.f0 ≤ (mv l k).f2.f1 ∧ (mv l k).f2.f1 ≤ 1000) (hk0 : k0 < l.length) (hbal : Bal N l cs0) :
    Calls Try.prog 84 #[.agg #[.int .i64 N, .slice A l.length c], .slice B cs0.length d, .int .i64 k0, .bool true] w fun e w' => ∃ v, e = .returned (.int .i64 v) ∧ Far N l k0 true v ∧ Bel w w' := by
  have hbd : ∀ cs, InB l cs → ∀ x ∈ cs, -1000000 ≤ x ∧ x ≤ 1000000 := fun cs hcs x hx => by
    obtain ⟨i, hi, rfl⟩ := List.mem_iff_getElem.1 hx
    have h1 := hcs.2 i (by rw [← hcs.1]; exact hi)
    rw [rd_nat cs i hi] at h1
    have h3 := hsp i (by rw [← hcs.1]; exact hi)
    omega
  have hsp0 := hsp k0 hk0
  have hm0 := hm k0 hk0
  have hne0 := hne k0 hk0
  refine G_enter (l := [.agg #[.int .i64 N, .slice A l.length c], .slice B cs0.length d, .int .i64 k0, .bool true]) Try.func84 rfl rfl ?_
  refine Sq (Rg ?_)
  refine g_box rfl (h := fun g4 w4 N4 => ?_)
  have K4 := N4.at_
  have hB4 := Bel.of_new N4
  have K4a : w4.heap[g4]? = some (.cells #[.int .i64 N, .slice A l.length c] 130 (0, 0)) := K4
  refine As (Nl (Tn (Sq (Rg ?_))))
  refine g_litsR (Kd.int .i64) (xs := []) (inner := []) (okp := fun _ => True) (lit22_0 _) rfl rfl (by decide) (Reps.none _ _) (h := fun g15 w15 HR15 hg15 => ?_)
  have hB15 := hB4.grown hg15 (by intro q hq; cases hq)
  refine Mv ?_
  refine g_appendRows (Kd.int .i64) Try.underlying22 zi3 rfl (by decide) (by decide) (okp := fun _ => False) HR15 (Kd.C_below hc0 hB15) (fun x cs h => h) (fun _ h => h.elim) (fun _ _ => trivial) hg15.size (by simp only [List.length_nil]; have := hbal.1.1; omega) rfl rfl (h := fun v17 w17 HR17 hg17 _ => ?_)
  have hB17 := hB15.grown hg17 (fun q hq => Nat.le_trans hB4.size (Kd.R_base HR15 q hq))
  have K4b := kG (kG K4a hg15 (by intro h; cases h)) hg17 (ne_own HR15 (kG K4a hg15 (by intro h; cases h)) (by decide))
  have HR18 := Kd.R_lower HR17 hB4.size
  rw [List.nil_append] at HR18
  obtain ⟨gr0, cap0, rfl, hgr0, _, _⟩ := Kd.R_form HR18 (by rw [hbal.1.1]; omega)
  refine As (Nl (Tn (Sq (Rg (Fb f130_0 rfl (Fb f49_1 rfl (L1 Try.underlying47 (cellAt K4b rfl) rfl (Mv ?_))))))))
  obtain ⟨ad, hA, h23⟩ := at76 hs hB17 k0 hk0
  refine g_indexS (ad := ad) Try.underlying47 info76 (by rw [← hA]; rfl) rfl (by omega) (by omega) rfl (h := ?_)
  refine g_loadA rfl Try.underlying76 info76 (l := enc76 l[k0]) h23 (h := ?_)
  refine g_bld (build139 _ _ _ _ _) rfl (h := ?_)
  refine g_alloc (z := .agg #[.int .i64 0, .int .i64 0, .int .i64 0, .int .i64 0]) (by kernel_rfl) (h := fun g10 w10 N10 => ?_)
  have K10 := N10.at_
  refine g_storeA rfl rfl info139 K10 rfl (by simp [Value.oneCell']) (h := fun w6 P6 => ?_)
  have K10a : w6.heap[g10]? = some (.cells (enc76 (mv l k0)).toArray 139 (0, 0)) := by rw [mv_get l k0 hk0]; exact P6.at_
  have hB6' : Bel w17 w6 := (Bel.of_new N10).put P6 N10.ge
  have HR6 := rB HR18 hB6'
  have K4c := kB K4b hB6'
  have hB6 := hB17.bel hB6'
  refine Nl (Tn (Sq ?_))
  refine GD_start 8 [] (fun w' => w' = w6.drewN 1) (by kernel_rfl) rfl ?_
  refine GD_pure 0 rfl (by kernel_rfl) (by kernel_rfl) (by kernel_rfl) (by kernel_rfl) rfl rfl rfl (qv fun wq hC => by exact r_fieldAddrB f139_0 rfl) ?_
  refine GD_pure 1 rfl (by kernel_rfl) (by kernel_rfl) (by kernel_rfl) (by kernel_rfl) rfl rfl rfl (qv fun wq hC => by exact r_fieldAddrB f76_1 rfl) ?_
  refine GD_take 2 rfl (by kernel_rfl) (by kernel_rfl) (by kernel_rfl) (by kernel_rfl) rfl rfl rfl (qv fun wq hC => by exact r_load1 rfl Try.underlying3 (by subst hC; exact cellAt K10a rfl)) ?_
  refine GD_pure 3 rfl (by kernel_rfl) (by kernel_rfl) (by kernel_rfl) (by kernel_rfl) rfl rfl rfl (qv fun wq hC => by exact r_fieldAddrB f139_0 rfl) ?_
  refine GD_pure 4 rfl (by kernel_rfl) (by kernel_rfl) (by kernel_rfl) (by kernel_rfl) rfl rfl rfl (qv fun wq hC => by exact r_fieldAddrB f76_0 rfl) ?_
  refine GD_take 5 rfl (by kernel_rfl) (by kernel_rfl) (by kernel_rfl) (by kernel_rfl) rfl rfl rfl (qv fun wq hC => by exact r_load1 rfl Try.underlying3 (by subst hC; exact cellAt K10a rfl)) ?_
  refine GD_pure 6 rfl (by kernel_rfl) (by kernel_rfl) (by kernel_rfl) (by kernel_rfl) rfl rfl rfl (qv fun wq hC => by exact r_assign) ?_
  refine GD_pure 7 rfl (by kernel_rfl) (by kernel_rfl) (by kernel_rfl) (by kernel_rfl) rfl rfl rfl (qv fun wq hC => by exact r_assign) ?_
  refine GD_end (by kernel_rfl) (fun _ => rfl) ?_
  refine Tn ?_
  refine GC_join (fun σ w' => ∃ (τ : Nat → Value), σ = upd (upd (upd (upd (upd (upd (upd τ 2 (.int .i64 k0)) 3 (.bool true)) 4 (.pointer (some ⟨g4, 0, none⟩))) 9 (.slice (some ⟨gr0, 0, none⟩) cs0.length cap0)) 10 (.pointer (some ⟨g10, 0, none⟩))) 11 (.int .i64 (mv l k0).f0)) 12 (.int .i64 (mv l k0).f1) ∧ Bel w6 w') ?_ ?_
  · skip
    refine Sq (Rg (Mv (Nl (Tn (Ct rfl ?_)))))
    refine GD_start 8 [] (fun w' => w' = (w6.drewN 1).drewN 1) (by kernel_rfl) rfl ?_
    refine GD_pure 0 rfl (by kernel_rfl) (by kernel_rfl) (by kernel_rfl) (by kernel_rfl) rfl rfl rfl (qv fun wq hC => by exact r_fieldAddrB f139_0 rfl) ?_
    refine GD_pure 1 rfl (by kernel_rfl) (by kernel_rfl) (by kernel_rfl) (by kernel_rfl) rfl rfl rfl (qv fun wq hC => by exact r_fieldAddrB f76_0 rfl) ?_
    refine GD_take 2 rfl (by kernel_rfl) (by kernel_rfl) (by kernel_rfl) (by kernel_rfl) rfl rfl rfl (qv fun wq hC => by exact r_load1 rfl Try.underlying3 (by subst hC; exact cellAt K10a rfl)) ?_
    refine GD_pure 3 rfl (by kernel_rfl) (by kernel_rfl) (by kernel_rfl) (by kernel_rfl) rfl rfl rfl (qv fun wq hC => by exact r_fieldAddrB f139_0 rfl) ?_
    refine GD_pure 4 rfl (by kernel_rfl) (by kernel_rfl) (by kernel_rfl) (by kernel_rfl) rfl rfl rfl (qv fun wq hC => by exact r_fieldAddrB f76_1 rfl) ?_
    refine GD_take 5 rfl (by kernel_rfl) (by kernel_rfl) (by kernel_rfl) (by kernel_rfl) rfl rfl rfl (qv fun wq hC => by exact r_load1 rfl Try.underlying3 (by subst hC; exact cellAt K10a rfl)) ?_
    refine GD_pure 6 rfl (by kernel_rfl) (by kernel_rfl) (by kernel_rfl) (by kernel_rfl) rfl rfl rfl (qv fun wq hC => by exact r_assign) ?_
    refine GD_pure 7 rfl (by kernel_rfl) (by kernel_rfl) (by kernel_rfl) (by kernel_rfl) rfl rfl rfl (qv fun wq hC => by exact r_assign) ?_
    refine GD_end (by kernel_rfl) (fun _ => rfl) ?_
    exact join_end ⟨_, has rfl (has rfl (has rfl (has rfl (has rfl (has rfl (has rfl rfl)))))), (Bel.drew (Bel.drew (Below.refl w6.heap.size w6)))⟩
  · rintro _ w7 ⟨τ7, rfl, hB7⟩
    refine Bk ?_
    refine GC_loop (fun m σ w' => ∃ (cs : List Int) (gr cap : Nat) (τ : Nat → Value), σ = upd (upd (upd (upd (upd (upd (upd τ 2 (.int .i64 k0)) 3 (.bool true)) 4 (.pointer (some ⟨g4, 0, none⟩))) 9 (.slice (some ⟨gr, 0, none⟩) cs.length cap)) 10 (.pointer (some ⟨g10, 0, none⟩))) 11 (.int .i64 (mv l k0).f0)) 12 (.int .i64 (mv l k0).f1) ∧ m = (rd cs k0 - (mv l k0).f2.f0).toNat ∧ Bal N l cs ∧ (Kd.int .i64).R 3 w' w.heap.size (fun _ => True) (.slice (some ⟨gr, 0, none⟩) cs.length cap) cs ∧ w'.heap[g4]? = some (.cells #[.int .i64 N, .slice A l.length c] 130 (0, 0)) ∧ w'.heap[g10]? = some (.cells (enc76 (mv l k0)).toArray 139 (0, 0)) ∧ Bel w w') ((rd cs0 k0 - (mv l k0).f2.f0).toNat) ⟨cs0, gr0, cap0, _, has rfl (has rfl (has rfl (has rfl (has rfl (has rfl (has rfl rfl)))))), rfl, hbal, rB HR6 hB7, kB K4c hB7, kB K10a hB7, hB6.bel hB7⟩ ?_
    rintro m _ w8 ⟨cs, gr, cap, τ8, rfl, rfl, hbl, HR8, K4d, K10d, hB8⟩
    have hcl := hbl.1.1
    have hC8 := (Kd.R_reads' HR8).2.2
    have hin0 := hbl.1.2 k0 hk0
    have h44 : ∀ w', Bel w8 w' → w'.cell? ⟨gr, k0, none⟩ = some (.int .i64 (rd cs k0)) := fun w' hb => (Kd.R_celln (0 : Int) (rB HR8 hb) k0 (by omega) (by omega)).1
    refine Bk ?_
    refine GC_join (fun σ w' => ∃ (τ : Nat → Value), σ = upd (upd (upd (upd (upd (upd (upd τ 2 (.int .i64 k0)) 3 (.bool true)) 4 (.pointer (some ⟨g4, 0, none⟩))) 9 (.slice (some ⟨gr, 0, none⟩) cs.length cap)) 10 (.pointer (some ⟨g10, 0, none⟩))) 11 (.int .i64 (mv l k0).f0)) 12 (.int .i64 (mv l k0).f1) ∧ Bel w8 w' ∧ rd cs k0 ≠ (mv l k0).f2.f0) ?_ ?_
    · skip
      refine Sq ?_
      have hBd : Bel w8 (w8.drewN 1) := Bel.drew (Below.refl _ _)
      refine GD_start 23 [] (fun w' => Bel w8 w') (by kernel_rfl) rfl ?_
      refine GD_pure 0 rfl (by kernel_rfl) (by kernel_rfl) (by kernel_rfl) (by kernel_rfl) rfl rfl rfl (qv fun wq hC => by exact r_move) ?_
      refine GD_pure 1 rfl (by kernel_rfl) (by kernel_rfl) (by kernel_rfl) (by kernel_rfl) rfl rfl rfl (qv fun wq hC => by exact r_not rfl) ?_
      refine GD_pure 2 rfl (by kernel_rfl) (by kernel_rfl) (by kernel_rfl) (by kernel_rfl) rfl rfl rfl (qv fun wq hC => by exact r_move) ?_
      refine GD_off 3 rfl (by kernel_rfl) (by kernel_rfl) (by kernel_rfl) (by kernel_rfl) rfl rfl ?_
      refine GD_off 4 rfl (by kernel_rfl) (by kernel_rfl) (by kernel_rfl) (by kernel_rfl) rfl rfl ?_
      refine GD_off 5 rfl (by kernel_rfl) (by kernel_rfl) (by kernel_rfl) (by kernel_rfl) rfl rfl ?_
      refine GD_off 6 rfl (by kernel_rfl) (by kernel_rfl) (by kernel_rfl) (by kernel_rfl) rfl rfl ?_
      refine GD_off 7 rfl (by kernel_rfl) (by kernel_rfl) (by kernel_rfl) (by kernel_rfl) rfl rfl ?_
      refine GD_off 8 rfl (by kernel_rfl) (by kernel_rfl) (by kernel_rfl) (by kernel_rfl) rfl rfl ?_
      refine GD_off 9 rfl (by kernel_rfl) (by kernel_rfl) (by kernel_rfl) (by kernel_rfl) rfl rfl ?_
      refine GD_pure 10 rfl (by kernel_rfl) (by kernel_rfl) (by kernel_rfl) (by kernel_rfl) rfl rfl rfl (qv fun wq hC => by exact r_pickF rfl) ?_
      refine GD_pure 11 rfl (by kernel_rfl) (by kernel_rfl) (by kernel_rfl) (by kernel_rfl) rfl rfl rfl (qv fun wq hC => by exact r_move) ?_
      refine GD_pure 12 rfl (by kernel_rfl) (by kernel_rfl) (by kernel_rfl) (by kernel_rfl) rfl rfl rfl (qv fun wq hC => by exact r_move) ?_
      refine GD_pure 13 rfl (by kernel_rfl) (by kernel_rfl) (by kernel_rfl) (by kernel_rfl) rfl rfl rfl (qv fun wq hC => by exact r_move) ?_
      refine GD_pure 14 rfl (by kernel_rfl) (by kernel_rfl) (by kernel_rfl) (by kernel_rfl) rfl rfl rfl (qv fun wq hC => by exact r_move) ?_
      refine GD_pure 15 rfl (by kernel_rfl) (by kernel_rfl) (by kernel_rfl) (by kernel_rfl) rfl rfl rfl (qv fun wq hC => by exact r_move) ?_
      refine GD_pure 16 rfl (by kernel_rfl) (by kernel_rfl) (by kernel_rfl) (by kernel_rfl) rfl rfl rfl (qv fun wq hC => by exact r_indexO Try.underlying22 info3 rfl rfl  (by omega) (by omega) (Nat.mul_one _)) ?_
      refine GD_take 17 rfl (by kernel_rfl) (by kernel_rfl) (by kernel_rfl) (by kernel_rfl) rfl rfl rfl (qv fun wq hC => by exact r_load1 rfl Try.underlying3 (h44 _ hC)) ?_
      refine GD_take 18 rfl (by kernel_rfl) (by kernel_rfl) (by kernel_rfl) (by kernel_rfl) rfl rfl rfl (qv fun wq hC => by exact r_loadA rfl Try.underlying139 info139 (l := enc76 (mv l k0)) (cellsAt (kB K10d hC))) ?_
      refine GD_one 19 (by kernel_rfl) (fun _ => hBd) ?_
      refine GO_call rfl rfl rfl he88 rfl (least_c (mv l k0) _) (fun e w46 he => ?_)
      obtain ⟨rfl, hb46⟩ := he
      refine ⟨_, rfl, ?_⟩
      have hBd := hBd.bel hb46
      rcases Decidable.em (rd cs k0 = (mv l k0).f2.f0) with c58 | c58
      · skip
        refine GD_pure 20 rfl (by kernel_rfl) (by kernel_rfl) (by kernel_rfl) (by kernel_rfl) rfl rfl rfl (qv fun wq hC => by exact r_eqlT rfl rfl c58) ?_
        refine GD_pure 21 rfl (by kernel_rfl) (by kernel_rfl) (by kernel_rfl) (by kernel_rfl) rfl rfl rfl (qv fun wq hC => by exact r_pickT rfl) ?_
        refine GD_pure 22 rfl (by kernel_rfl) (by kernel_rfl) (by kernel_rfl) (by kernel_rfl) rfl rfl rfl (qv fun wq hC => by exact r_pickF rfl) ?_
        refine GD_end (by kernel_rfl) (fun _ => hBd) ?_
        refine Tn (Ct rfl (Sq (Rg (Mv (Mv ?_)))))
        refine g_indexO Try.underlying22 info3 rfl rfl  (by omega) (by omega) (Nat.mul_one _) (h := ?_)
        refine L1 Try.underlying3 (h44 _ hBd) rfl (As (Nl (Tn (Rt (Tr (Br (Tr (Br ?_))))))))
        exact ret1 rfl ⟨_, rfl, ⟨cs, hbl, rfl, .inl c58⟩, hB8.bel hBd⟩
      · skip
        refine GD_pure 20 rfl (by kernel_rfl) (by kernel_rfl) (by kernel_rfl) (by kernel_rfl) rfl rfl rfl (qv fun wq hC => by exact r_eqlF rfl rfl c58) ?_
        refine GD_pure 21 rfl (by kernel_rfl) (by kernel_rfl) (by kernel_rfl) (by kernel_rfl) rfl rfl rfl (qv fun wq hC => by exact r_pickT rfl) ?_
        refine GD_pure 22 rfl (by kernel_rfl) (by kernel_rfl) (by kernel_rfl) (by kernel_rfl) rfl rfl rfl (qv fun wq hC => by exact r_pickF rfl) ?_
        refine GD_end (by kernel_rfl) (fun _ => hBd) ?_
        refine Tn (Cf rfl (Sk ?_))
        exact join_end ⟨_, has rfl (has rfl (has rfl (has rfl (has rfl (has rfl (has rfl rfl)))))), hBd, c58⟩
    · rintro _ w9 ⟨τ9, rfl, hBd, hroom⟩
      refine Sq (Rg ?_)
      refine g_loadA rfl Try.underlying130 info130 (l := [.int .i64 N, .slice A l.length c]) (cellsAt (kB K4d hBd)) (h := ?_)
      refine Mv (Mv (Mv (Mv ?_)))
      refine g_call he97 rfl (way_c N l A c cs (some ⟨gr, 0, none⟩) cap (mv l k0).f0 (mv l k0).f1 k0 _ (Kd.C_below hs (hB8.bel hBd)) (Kd.C_below hC8 hBd) hcl (by omega) (by omega) hm hne (by omega) (by omega)) (h := ?_)
      rintro e w71 ⟨v71, gm2, es2, steps, rfl, hmet2, hpost, HRs, hsl2, hb71⟩
      refine ⟨_, rfl, ?_⟩
      refine Mv (Xt rfl rfl (Xt rfl rfl (As (As (Nl (Tn (Sq (Sq (Rg (Mv (Mv ?_)))))))))))
      obtain ⟨ck2, hKm2⟩ := hmet2.K
      obtain ⟨ks, hks⟩ := key3 (mv l k0).f1 (by omega)
      have hkeys2 : ∀ x ∈ es2.toList, ∃ l, keyOf Try.prog 3 x.key = some l := fun x hx => by
        obtain ⟨⟨a, h1, h2, h3⟩, _⟩ := hmet2.hes x hx
        rw [h1]; exact key3 a ⟨by omega, by omega⟩
      have hBe := hBd.bel hb71
      refine g_lookupB K3 Try.underlying146 (zero4 _) hKm2 hkeys2 hks (fun e he => (hmet2.hes e he).2) rfl rfl (h := fun b76 h76 => ?_)
      have hb76 : b76 = inM es2 (mv l k0).f1 := by
        cases hq : inM es2 (mv l k0).f1 with
        | true => exact h76.2 (lkB_true.1 hq)
        | false =>
          cases hb : b76 with
          | false => rfl
          | true => rw [show inM es2 (mv l k0).f1 = true from lkB_true.2 (h76.1 hb)] at hq; cases hq
      cases q76 : b76 with
      | true =>
        obtain ⟨vs, hpath, hnd, hnotin⟩ : ∃ vs, Path l cs k0 (mv l k0).f0 steps vs (mv l k0).f1 ∧ vs.Nodup ∧ (mv l k0).f0 ∉ vs := by
          rcases hpost with ⟨_, h⟩ | ⟨h, _⟩
          · exact h
          · rw [← hb76, q76] at h; cases h
        obtain ⟨hbl2, hrd2⟩ := bal_push (fw := true) hbl hk0 hpath hnd hnotin hroom
        refine Nt rfl (Nl (Tn (Cf rfl (Sk (Tn (Rg (Mv (Mv (Mv (Mv ?_))))))))))
        refine g_bld (build151 _ _ _) rfl (h := ?_)
        refine g_lits (bs147 _ _ _) rfl (h := fun g87 w87 N87 => ?_)
        have hlm : unmet N es2 ≤ N := by
          unfold unmet
          exact Nat.le_trans (List.length_filter_le _ _) (by simp)
        refine g_appendR k151 Try.underlying147 zi151 rfl (by decide) (rN HRs N87) (cs := [.int .i64 k0, .bool true]) N87.at_ (p := ⟨k0, true⟩) (okp := fun _ => False) (k151_mkM _ _ _ _) (fun _ h => h.elim) (fun _ _ => trivial) (Nat.le_trans hb71.size N87.ch.size) (by omega) (by simp [maxLen]; omega) rfl rfl (h := fun v88 w88 HR88 hg88 _ => ?_)
        have hBf : Bel w8 w88 := (hBe.new N87).grown hg88 (fun q hq => Nat.le_trans hBd.size (Kd.R_base HRs q hq))
        have HR9 := rB HR8 hBf
        have hgrlt : gr < w8.heap.size := Kd.R_lt HR8 gr rfl
        have hw8 := hBd.size
        obtain ⟨A88, c88, rfl, _, hC88⟩ := Kd.R_reads HR88
        refine g_call he98 (by kernel_rfl) (walk_c A88 c88 gr cs.length cap w.heap.size (steps ++ [⟨k0, true⟩]) cs w88 hC88 (fun ad e => by have := R_addr HR88 ad e; omega) HR9 (by simp only [List.length_append, List.length_singleton]; omega) (fun st hst => by
          rw [hcl]
          rcases List.mem_append.1 hst with h | h
          · exact path_moves hpath st h
          · rw [List.mem_singleton.1 h]; exact ⟨Int.natCast_nonneg _, by show (k0 : Int) < _; omega⟩) (hbd cs hbl.1)) (h := ?_)
        rintro e w89 ⟨rfl, HRw, hchw⟩
        refine ⟨_, rfl, ?_⟩
        have hgr2 : w.heap.size ≤ gr := Kd.R_base HR8 gr rfl
        have hcl2 : (walkG cs (steps ++ [⟨k0, true⟩])).length = cs.length := walkG_len _ _
        have K4f := hchw.at_ (kB K4d hBf) (fun e => ne_own HR9 (kB K4d hBf) (by decide) (by rw [e]; rfl))
        have K10f := hchw.at_ (kB K10d hBf) (fun e => ne_own HR9 (kB K10d hBf) (by decide) (by rw [e]; rfl))
        have hin2 := hbl2.1.2 k0 hk0
        refine Nl (Bn ?_)
        exact round_end (rd (walkG cs (steps ++ [⟨k0, true⟩])) k0 - (mv l k0).f2.f0).toNat (by rw [hrd2] at hin2 ⊢; simp only [dl, Bool.false_eq_true, if_false, if_true] at hin2 ⊢; omega) ⟨walkG cs (steps ++ [⟨k0, true⟩]), gr, cap, _, has rfl (has rfl (has rfl (has (by rw [hcl2]; rfl) (has rfl (has rfl (has rfl rfl)))))), rfl, hbl2, by rw [hcl2]; exact HRw, K4f, K10f, hchw.step (hB8.bel hBf) (hB8.bel hBf).size (fun i hi e => by omega)⟩
      | false =>
        refine Nt rfl (Nl (Tn (Ct rfl (Sq (Rg (Mv (Mv ?_)))))))
        refine g_indexO Try.underlying22 info3 rfl rfl  (by omega) (by omega) (Nat.mul_one _) (h := ?_)
        refine L1 Try.underlying3 (h44 _ hBe) rfl (As (Nl (Tn (Rt (Tr (Br (Tr (Br ?_))))))))
        obtain ⟨hp1, hp2, hp3, _⟩ : inM es2 (mv l k0).f1 = false ∧ inM es2 (mv l k0).f0 = true ∧ (∀ v, inM es2 v = true → ∀ k fw u, Ed l cs k0 k fw v u → inM es2 u = true) ∧ (∀ u, inM es2 u = true → Rch l cs k0 (mv l k0).f0 u) := by
          rcases hpost with ⟨h, _⟩ | h
          · rw [← hb76, q76] at h; cases h
          · exact h
        exact ret1 rfl ⟨_, rfl, ⟨cs, hbl, rfl, .inr ⟨inM es2, hp3, hp2, hp1⟩⟩, hB8.bel hBe⟩
end Go.Proofs.B
