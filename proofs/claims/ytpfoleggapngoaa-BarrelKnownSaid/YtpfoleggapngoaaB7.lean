/- barrel: Keep. -/
import Derived.Test.YtpfoleggapngoaaGd
import Derived.Test.YtpfoleggapngoaaB6
set_option linter.unusedVariables false
set_option linter.unusedSimpArgs false
set_option maxRecDepth 10000
namespace Go.Proofs.B
open Go Go.RowKit Go.Proofs Go.Proofs.G Go.Proofs.F Go.Proofs.YtpfoleggapngoaaW.PrintWords
/-! ### Plans that keep -/
theorem dryUp_neg (p : Nat → Bool) : ∀ n, dryUp p n < 0 ↔ ∀ i, i < n → p i = false
  | 0 => by simp [dryUp]
  | n + 1 => by
    unfold dryUp
    have ih := dryUp_neg p n
    constructor
    · intro h i hi
      split at h
      · omega
      · rename_i hc
        have h0 := ih.1 h
        by_cases hin : i = n
        · subst hin
          cases hp : p i with
          | false => rfl
          | true => exact absurd ⟨h, hp⟩ hc
        · exact h0 i (by omega)
    · intro h
      have h0 := ih.2 (fun i hi => h i (by omega))
      rw [if_neg (fun hc => by rw [h n (by omega)] at hc; cases hc.2)]
      exact h0
def okPlan (y : List S70) : (Nat → Int) → List Int → Prop
  | _, [] => True
  | lv, t :: ts => dryUp (dryP y lv (hiF y)) y.length < 0 ∧ (0 ≤ t ∧ t < y.length) ∧ okPlan y (topF y t (lkF lv (hiF y) y.length)) ts
theorem okPlan_mono (y : List S70) : ∀ (p : List Int) (f g : Nat → Int), (∀ i, i < y.length → f i ≤ g i) → okPlan y f p → okPlan y g p
  | [], _, _, _, _ => trivial
  | t :: ts, f, g, h, ⟨h1, h2, h3⟩ => by
    refine ⟨?_, h2, okPlan_mono y ts _ _ (fun i hi => ?_) h3⟩
    · rw [dryUp_neg] at h1 ⊢
      intro i hi
      have a := h1 i hi
      have b := h i hi
      simp only [dryP, decide_eq_false_iff_not] at a ⊢
      omega
    · have b := h i hi
      unfold topF lkF
      simp only [hi, if_true]
      split <;> omega
def Bad (y : List S70) (n : Nat) (lv : Nat → Int) : Prop := ∀ p, p.length = n → ¬ okPlan y lv p
theorem Bad.congr {y : List S70} {n : Nat} {f g : Nat → Int} (h : Bad y n f) (hfg : ∀ i, i < y.length → f i = g i) : Bad y n g := fun p hp hg => h p hp (okPlan_mono y p g f (fun i hi => by rw [hfg i hi]; exact Int.le_refl _) hg)
def lvFull (y : List S70) (lv : Nat → Int) : Prop := ∀ i, i < y.length → lv i ≤ (yd y i).f1
theorem beg_full {y : List S70} (h : yardOk y = true) : lvFull y (begF y) := fun i hi => by have := cask_rg (yard_cask h i hi); unfold begF; omega
theorem lk_full {y : List S70} (h : yardOk y = true) {lv : Nat → Int} (hl : lvFull y lv) : lvFull y (lkF lv (hiF y) y.length) := fun i hi => by
  have := cask_rg (yard_cask h i hi); have := hl i hi; have := hi_ok h i
  unfold lkF; simp only [hi, if_true]; omega
theorem top_full {y : List S70} {lv : Nat → Int} (hl : lvFull y lv) (t : Int) : lvFull y (topF y t lv) := fun i hi => by
  have := hl i hi
  unfold topF; split <;> omega
theorem top_ok {y : List S70} (h : yardOk y = true) {lv : Nat → Int} (hl : lvOk lv) (t : Int) : lvOk (topF y t lv) := fun i => by
  have := hl i
  unfold topF; split
  · by_cases hi : i < y.length
    · have := cask_rg (yard_cask h i hi); omega
    · rw [yd_out (by omega)]; simp [z70]
  · exact this
/-- A top that turns nothing is no better than to top up the first. -/
theorem bad_skip {y : List S70} {n : Nat} {lx : Nat → Int} (h4 : 1 ≤ y.length ∧ y.length ≤ 4) (hf : lvFull y lx) (k : Nat) (h0 : Bad y n (topF y 0 lx)) (he : ∀ i, i < 4 → topF y k lx i = lx i) : Bad y n (topF y k lx) := fun p hp hok =>
  h0 p hp (okPlan_mono y p _ _ (fun i hi => by
    rw [he i (by omega)]
    have := hf i hi
    unfold topF; split <;> omega) hok)
theorem bad_all {y : List S70} {n : Nat} {lv : Nat → Int} (h : ∀ k : Nat, k < y.length → Bad y n (topF y k (lkF lv (hiF y) y.length))) : Bad y (n + 1) lv := fun p hp hok => by
  cases p with
  | nil => cases hp
  | cons t ts =>
    obtain ⟨_, ⟨h1, h2⟩, h3⟩ := hok
    obtain ⟨k, rfl⟩ := Int.eq_ofNat_of_zero_le h1
    exact h k (by omega) ts (by simpa using hp) h3
theorem bad_dry {y : List S70} {n : Nat} {lv : Nat → Int} (h : 0 ≤ dryUp (dryP y lv (hiF y)) y.length) : Bad y (n + 1) lv := fun p hp hok => by
  cases p with
  | nil => cases hp
  | cons t ts => have := hok.1; omega
theorem mom_inj {m m' : Int} {f g : Nat → Int} (h : mom m f = mom m' g) : m = m' ∧ ∀ i, i < 4 → f i = g i := by
  simp [mom] at h
  exact ⟨h.1, isF_inj (by simp [isF, h])⟩
theorem mom_cells {w : World} {g t : Nat} {fr : Nat × Nat} {m : Int} {f : Nat → Int} (K : w.heap[g]? = some (.cells (mom m f) t fr)) : ∀ j v, (isF f).toList[j]? = some v → w.cell? ((⟨g, 0 + 1, none⟩ : Addr).add j) = some v := fun j v h => by
  rw [add_lit]
  refine cellAt K ?_
  match j, h with
  | 0, h => exact h
  | 1, h => exact h
  | 2, h => exact h
  | 3, h => exact h
  | j + 4, h => simp [isF] at h
theorem mom_set (m : Int) (f : Nat → Int) (k : Nat) (hk : k < 4) (v : Int) : (mom m f).setIfInBounds (0 + 1 + k * 1) (.int .i64 v) = mom m (fun i => if i = k then v else f i) := by
  match k, hk with
  | 0, _ => simp [mom]
  | 1, _ => simp [mom]
  | 2, _ => simp [mom]
  | 3, _ => simp [mom]
theorem build127 (w : World) (m : Int) (f : Nat → Int) : (Instr.build 127 #[(0, .int .i64 m), (1, .agg (isF f))]).run Try.prog w = .ok (.agg (mom m f)) w := by kernel_rfl
theorem zero4 (w : World) : (zeroValue 4).run Try.prog w = .ok (.bool false) w := by kernel_rfl
def BadKey (y : List S70) (months : Int) (v : Value) : Prop := ∀ m lv, v = .agg (mom m lv) → Bad y (months - m).toNat lv
structure KEnv (y : List S70) (A : Option Addr) (c : Nat) (months : Int) (gm gt gy gf gM : Nat) (es : Array MapEntry) (clock : Nat) (w : World) : Prop where
  Km : w.heap[gm]? = some (.cells #[.int .i64 months] 3 (0, 0))
  Kt : w.heap[gt]? = some (.cells #[.map (some gM)] 124 (0, 0))
  Ky : w.heap[gy]? = some (.cells #[.slice A y.length c] 35 (0, 0))
  Kf : w.heap[gf]? = some (.cells #[.func (.func 80) #[] #[.pointer (some ⟨gm, 0, none⟩), .pointer (some ⟨gt, 0, none⟩), .pointer (some ⟨gy, 0, none⟩), .pointer (some ⟨gf, 0, none⟩)]] 125 (0, 0))
  KM : w.heap[gM]? = some (.map es clock)
  hes : ∀ e ∈ es.toList, (∃ m lv, e.key = .agg (mom m lv) ∧ (0 ≤ m ∧ m ≤ 12) ∧ lvOk lv) ∧ e.val = .bool true
theorem KEnv.bel {y : List S70} {A : Option Addr} {c : Nat} {months : Int} {gm gt gy gf gM : Nat} {es : Array MapEntry} {clock : Nat} {w w' : World} (h : KEnv y A c months gm gt gy gf gM es clock w) (hb : Bel w w') : KEnv y A c months gm gt gy gf gM es clock w' :=
  ⟨kB h.Km hb, kB h.Kt hb, kB h.Ky hb, kB h.Kf hb, kB h.KM hb, h.hes⟩
theorem KEnv.keys {y : List S70} {A : Option Addr} {c : Nat} {months : Int} {gm gt gy gf gM : Nat} {es : Array MapEntry} {clock : Nat} {w : World} (h : KEnv y A c months gm gt gy gf gM es clock w) : ∀ x ∈ es.toList, ∃ l, keyOf Try.prog 127 x.key = some l := fun x hx => by
  obtain ⟨⟨m, lv, h1, h2, h3⟩, _⟩ := h.hes x hx
  rw [h1]
  exact key127 m lv (by omega) (fun i _ => by have := h3 i; omega)
theorem ret2v {v v' : Value} {b b' : Bool} (h : v = v') (h2 : b = b') : Ending.returned (.tuple #[v, .bool b]) = .returned (.tuple #[v', .bool b']) := by rw [h, h2]

set_option maxHeartbeats 4000000 in
theorem keep1_c (w0 : World) (A : Option Addr) (c : Nat) (y : List S70) (months : Int) (gm gt gy gf gM : Nat) (hs : k70.C w0 A y.length y) (hy : yardOk y = true) (hmo : 0 ≤ months ∧ months ≤ 12) (hgM : w0.heap.size ≤ gM) :
    ∀ (n : Nat) (m : Int) (lv : Nat → Int) (plan : List Int) (PA : Option Addr) (cap : Nat) (w : World) (es : Array MapEntry) (clock : Nat), m + n = months → 0 ≤ m → Bel w0 w → KEnv y A c months gm gt gy gf gM es clock w →
      (∀ e ∈ es.toList, ∀ m' lv', e.key = .agg (mom m' lv') → m' < m ∨ BadKey y months e.key) → lvOk lv → lvFull y lv → (Kd.int .i64).C w PA plan.length plan → (PA = none → plan.length = 0) → plan.length = m → plan.length ≤ cap →
      Calls Try.prog 80 #[.agg (mom m lv), .slice PA plan.length cap, .pointer (some ⟨gm, 0, none⟩), .pointer (some ⟨gt, 0, none⟩), .pointer (some ⟨gy, 0, none⟩), .pointer (some ⟨gf, 0, none⟩)] w fun e w' =>
        ∃ v b es' clock', e = .returned (.tuple #[v, .bool b]) ∧ Ch (fun k => k = gM) w w' ∧ KEnv y A c months gm gt gy gf gM es' clock' w' ∧
          (b = true → ∃ A' c' p, v = .slice A' (plan ++ p).length c' ∧ (Kd.int .i64).C w' A' (plan ++ p).length (plan ++ p) ∧ (plan ++ p).length ≤ c' ∧ p.length = n ∧ okPlan y lv p) ∧
          (b = false → Bad y n lv ∧ ∀ e ∈ es'.toList, e ∈ es.toList ∨ BadKey y months e.key) := by
  have h4 := yard_len hy
  intro n
  induction n with
  | zero =>
    intro m lv plan PA cap w es clock hmn hm0 hB0 env hes hlv hfull hC hPA hpm hcap
    refine G_enter (l := [.agg (mom m lv), .slice PA plan.length cap, .pointer (some ⟨gm, 0, none⟩), .pointer (some ⟨gt, 0, none⟩), .pointer (some ⟨gy, 0, none⟩), .pointer (some ⟨gf, 0, none⟩)]) Try.func80 rfl rfl ?_
    refine Sq (Rg ?_)
    refine g_box rfl (h := fun g6 w6 N6 => ?_)
    have K6 := N6.at_
    have hB6 := Bel.of_new N6
    have K6a : w6.heap[g6]? = some (.cells (mom m lv) 127 (0, 0)) := K6
    have env6 := env.bel hB6
    refine As (As (Nl (Tn (Sc (Sq (Rg (Mv (Ln Try.underlying22 rfl (As (Nl (Tn (Sq (Sq (Rg (Fb f127_0 rfl (L1 Try.underlying3 (cellAt K6a rfl) rfl (L1 Try.underlying3 (cellAt env6.Km rfl) rfl ?_)))))))))))))))))
    refine g_eql rfl rfl (h1 := fun c22 => ?_) (h2 := fun c22 => ?_)
    · skip
      refine Nl (Tn (Ct rfl (Sq (Rg (Mv (Mv (Mv ?_)))))))
      refine g_slice3 Try.underlying22 inf3 rfl rfl rfl rfl rfl (Nat.le_refl _) hcap (h := ?_)
      refine As (As (Nl (Tn (Rt (Tr (Sr ?_))))))
      exact ret2 rfl ⟨_, true, es, clock, ret2v rfl rfl, Ch.mono (Ch.of_below hB6) (fun _ _ h => h.elim), env6, fun _ => ⟨PA, plan.length, [], by rw [List.append_nil]; rfl, by rw [List.append_nil]; exact Kd.C_below hC hB6, by simp, rfl, trivial⟩, fun h => by cases h⟩
    · skip
      exact absurd (by omega) c22
  | succ n ih =>
    intro m lv plan PA cap w es clock hmn hm0 hB0 env hes hlv hfull hC hPA hpm hcap
    have hmaxp : plan.length ≤ 12 := by omega
    refine G_enter (l := [.agg (mom m lv), .slice PA plan.length cap, .pointer (some ⟨gm, 0, none⟩), .pointer (some ⟨gt, 0, none⟩), .pointer (some ⟨gy, 0, none⟩), .pointer (some ⟨gf, 0, none⟩)]) Try.func80 rfl rfl ?_
    refine Sq (Rg ?_)
    refine g_box rfl (h := fun g6 w6 N6 => ?_)
    have K6 := N6.at_
    have hB6 := Bel.of_new N6
    have K6a : w6.heap[g6]? = some (.cells (mom m lv) 127 (0, 0)) := K6
    have env6 := env.bel hB6
    obtain ⟨kl, hkl⟩ := key127 m lv (by omega) (fun i _ => by have := hlv i; omega)
    refine As (As (Nl (Tn (Sc (Sq (Rg (Mv (Ln Try.underlying22 rfl (As (Nl (Tn (Sq (Sq (Rg (Fb f127_0 rfl (L1 Try.underlying3 (cellAt K6a rfl) rfl (L1 Try.underlying3 (cellAt env6.Km rfl) rfl ?_)))))))))))))))))
    refine g_eql rfl rfl (h1 := fun c22 => ?_) (h2 := fun c22 => ?_)
    · skip
      exact absurd c22 (by omega)
    · skip
      refine Nl (Tn (Cf rfl (Sk (Tn (Sq (Sq (Rg (L1 Try.underlying124 (cellAt env6.Kt rfl) rfl ?_))))))))
      refine g_loadA rfl Try.underlying127 info127 (l := (mom m lv).toList) (cellsAt K6a) (h := ?_)
      refine g_lookupB K127 Try.underlying124 (zero4 _) env6.KM env6.keys hkl (fun a ha => (env6.hes a ha).2) rfl rfl (h := fun b29 h29 => ?_)
      refine Nl (Tn ?_)
      cases q29 : b29 with
      | true =>
        refine Ct rfl (Sq (Rg (As (As (Nl (Tn (Rt (Tr (Sr ?_)))))))))
        obtain ⟨e, he, hek⟩ := h29.1 q29
        have hb := (hes e he m lv hek).resolve_left (by omega)
        exact ret2 rfl ⟨_, false, es, clock, ret2v rfl rfl, Ch.mono (Ch.of_below hB6) (fun _ _ h => h.elim), env6, fun h => absurd h Bool.false_ne_true, fun _ => ⟨by have := hb m lv hek; rwa [show (months - m).toNat = n + 1 by omega] at this, fun e he => .inl he⟩⟩
      | false =>
        refine Cf rfl (Sk (Tn (Sq (Rg (L1 Try.underlying124 (cellAt env6.Kt rfl) rfl ?_)))))
        refine g_loadA rfl Try.underlying127 info127 (l := (mom m lv).toList) (cellsAt K6a) (h := ?_)
        refine g_mapUpdate K127 Try.underlying124 env6.KM env6.keys hkl rfl rfl rfl (h := fun es1 clock1 wx PM hes1 => ?_)
        have K6x := kP K6a PM (ne_map K6a env6.KM)
        have envx : KEnv y A c months gm gt gy gf gM es1 clock1 wx := ⟨kP env6.Km PM (ne_map env6.Km env6.KM), kP env6.Kt PM (ne_map env6.Kt env6.KM), kP env6.Ky PM (ne_map env6.Ky env6.KM), kP env6.Kf PM (ne_map env6.Kf env6.KM), PM.at_, fun e he => by
          rcases hes1 e he with h | ⟨h1, h2⟩
          · exact env6.hes e h
          · exact ⟨⟨m, lv, h1, by omega, hlv⟩, h2⟩⟩
        have hB0x : Bel w0 wx := (hB0.bel hB6).put PM hgM
        have hchx : Ch (fun k => k = gM) w wx := (Ch.of_below hB6).trans PM.ch (fun _ _ h => h.elim) (fun _ _ h => h)
        have hCx := scalarC_map (Kd.C_below hC hB6) env6.KM PM.ch
        refine Nl (Tn ?_)
        refine GC_join (fun σ w' => ∃ (g11 : Nat) (τ : Nat → Value), σ = upd (upd (upd (upd (upd (upd (upd (upd (upd τ 1 (.slice PA plan.length cap)) 2 (.pointer (some ⟨gm, 0, none⟩))) 3 (.pointer (some ⟨gt, 0, none⟩))) 4 (.pointer (some ⟨gy, 0, none⟩))) 5 (.pointer (some ⟨gf, 0, none⟩))) 6 (.pointer (some ⟨g6, 0, none⟩))) 10 (.int .i64 plan.length)) 11 (.pointer (some ⟨g11, 0, none⟩))) 12 (.int .i64 (dryUp (dryP y lv (hiF y)) y.length)) ∧ w'.heap[g11]? = some (.cells (isF (lkF lv (hiF y) y.length)) 111 (0, 0)) ∧ wx.heap.size ≤ g11 ∧ Bel wx w') ?_ ?_
        · skip
          have Ky1 : (wx.drewN 1).heap[gy]? = some (.cells #[.slice A y.length c] 35 (0, 0)) := envx.Ky
          have K6c : (wx.drewN 1).heap[g6]? = some (.cells (mom m lv) 127 (0, 0)) := K6x
          have hBx : Bel wx (wx.drewN 1) := Bel.drew (Below.refl _ _)
          refine GD_start 14 [] (fun w' => w'.heap[gy]? = some (.cells #[.slice A y.length c] 35 (0, 0)) ∧ w'.heap[g6]? = some (.cells (mom m lv) 127 (0, 0))) (by kernel_rfl) rfl ?_
          refine GD_take 0 rfl (by kernel_rfl) (by kernel_rfl) (by kernel_rfl) (by kernel_rfl) rfl rfl rfl (qv fun wq hC => by exact r_load1 rfl Try.underlying35 (cellAt hC.1 rfl)) ?_
          refine GD_pure 1 rfl (by kernel_rfl) (by kernel_rfl) (by kernel_rfl) (by kernel_rfl) rfl rfl rfl (qv fun wq hC => by exact r_fieldAddrB f127_1 rfl) ?_
          refine GD_take 2 rfl (by kernel_rfl) (by kernel_rfl) (by kernel_rfl) (by kernel_rfl) rfl rfl rfl (qv fun wq hC => by exact r_loadA rfl Try.underlying111 info111 (l := (isF lv).toList) (mom_cells hC.2)) ?_
          refine GD_pure 3 rfl (by kernel_rfl) (by kernel_rfl) (by kernel_rfl) (by kernel_rfl) rfl rfl rfl (qv fun wq hC => by exact r_fieldAddrB f127_0 rfl) ?_
          refine GD_take 4 rfl (by kernel_rfl) (by kernel_rfl) (by kernel_rfl) (by kernel_rfl) rfl rfl rfl (qv fun wq hC => by exact r_load1 rfl Try.underlying3 (cellAt hC.2 rfl)) ?_
          refine GD_take 5 rfl (by kernel_rfl) (by kernel_rfl) (by kernel_rfl) (by kernel_rfl) rfl rfl rfl (qv fun wq hC => by exact r_load1 rfl Try.underlying35 (cellAt hC.1 rfl)) ?_
          refine GD_two 6 11 (by kernel_rfl) (fun _ => ⟨Ky1, K6c⟩) ?_ ?_
          · skip
            refine GO_call rfl rfl rfl he78 rfl (most_c A c y _) (fun e w39 he => ?_)
            obtain ⟨gmo, rfl, Kmo, _, hb39⟩ := he
            refine ⟨_, rfl, ?_⟩
            have hBx := Bel.bel hBx hb39
            have Ky1 := kB Ky1 hb39
            have K6c := kB K6c hb39
            try have K11 := kB K11 hb39
            refine GD_two 7 11 (by kernel_rfl) (fun _ => ⟨Ky1, K6c⟩) ?_ ?_
            · skip
              refine GO_call rfl rfl rfl he71 rfl (leakedMost_c A c y lv m _ gmo (Kd.C_below hs (hB0x.bel hBx)) hy hlv Kmo) (fun e w40 he => ?_)
              obtain ⟨rfl, hb40⟩ := he
              refine ⟨_, rfl, ?_⟩
              have hBx := Bel.bel hBx hb40
              have Ky1 := kB Ky1 hb40
              have K6c := kB K6c hb40
              try have K11 := kB K11 hb40
              refine GD_pure 8 rfl (by kernel_rfl) (by kernel_rfl) (by kernel_rfl) (by kernel_rfl) rfl rfl rfl (qv fun wq hC => by exact r_move) ?_
              refine GD_pure 9 rfl (by kernel_rfl) (by kernel_rfl) (by kernel_rfl) (by kernel_rfl) rfl rfl rfl (qv fun wq hC => by exact r_extract rfl rfl) ?_
              refine GD_pure 10 rfl (by kernel_rfl) (by kernel_rfl) (by kernel_rfl) (by kernel_rfl) rfl rfl rfl (qv fun wq hC => by exact r_extract rfl rfl) ?_
              refine GD_one 11 (by kernel_rfl) (fun _ => ⟨Ky1, K6c⟩) ?_
              refine GO_alloc (z := .agg (isF fun _ => 0)) rfl rfl rfl (by kernel_rfl) (fun g11 w11 N11 => ?_)
              have hg11 := Nat.le_trans hBx.size N11.ge
              have hBx := Bel.new hBx N11
              have Ky1 := kN Ky1 N11
              have K6c := kN K6c N11
              have K11 := N11.at_
              try have Kmo := kN Kmo N11
              refine GD_one 12 (by kernel_rfl) (fun _ => ⟨Ky1, K6c⟩) ?_
              refine GO_storeA rfl rfl rfl rfl info111 K11 rfl (by simpa using isF_one _) (fun w12 P12 => ?_)
              have hBx := Bel.put hBx P12 hg11
              have Ky1 := kP Ky1 P12 (ne_ty Ky1 K11 (by decide))
              have K6c := kP K6c P12 (ne_ty K6c K11 (by decide))
              refine GD_pure 13 rfl (by kernel_rfl) (by kernel_rfl) (by kernel_rfl) (by kernel_rfl) rfl rfl rfl (qv fun wq hC => by exact r_assign) ?_
              refine GD_end (by kernel_rfl) (fun _ => ⟨Ky1, K6c⟩) ?_
              exact join_end ⟨g11, _, has rfl (has rfl (has rfl (has rfl (has rfl (has rfl (has rfl (has rfl (has rfl rfl)))))))), P12.at_, hg11, hBx⟩
            · skip
              refine GO_alloc (z := .agg (isF fun _ => 0)) rfl rfl rfl (by kernel_rfl) (fun g11 w11 N11 => ?_)
              have hg11 := Nat.le_trans hBx.size N11.ge
              have hBx := Bel.new hBx N11
              have Ky1 := kN Ky1 N11
              have K6c := kN K6c N11
              have K11 := N11.at_
              try have Kmo := kN Kmo N11
              refine GD_one 7 (by kernel_rfl) (fun _ => ⟨Ky1, K6c⟩) ?_
              refine GO_call rfl rfl rfl he71 rfl (leakedMost_c A c y lv m _ gmo (Kd.C_below hs (hB0x.bel hBx)) hy hlv Kmo) (fun e w40 he => ?_)
              obtain ⟨rfl, hb40⟩ := he
              refine ⟨_, rfl, ?_⟩
              have hBx := Bel.bel hBx hb40
              have Ky1 := kB Ky1 hb40
              have K6c := kB K6c hb40
              try have K11 := kB K11 hb40
              refine GD_pure 8 rfl (by kernel_rfl) (by kernel_rfl) (by kernel_rfl) (by kernel_rfl) rfl rfl rfl (qv fun wq hC => by exact r_move) ?_
              refine GD_pure 9 rfl (by kernel_rfl) (by kernel_rfl) (by kernel_rfl) (by kernel_rfl) rfl rfl rfl (qv fun wq hC => by exact r_extract rfl rfl) ?_
              refine GD_pure 10 rfl (by kernel_rfl) (by kernel_rfl) (by kernel_rfl) (by kernel_rfl) rfl rfl rfl (qv fun wq hC => by exact r_extract rfl rfl) ?_
              refine GD_one 12 (by kernel_rfl) (fun _ => ⟨Ky1, K6c⟩) ?_
              refine GO_storeA rfl rfl rfl rfl info111 K11 rfl (by simpa using isF_one _) (fun w12 P12 => ?_)
              have hBx := Bel.put hBx P12 hg11
              have Ky1 := kP Ky1 P12 (ne_ty Ky1 K11 (by decide))
              have K6c := kP K6c P12 (ne_ty K6c K11 (by decide))
              refine GD_pure 13 rfl (by kernel_rfl) (by kernel_rfl) (by kernel_rfl) (by kernel_rfl) rfl rfl rfl (qv fun wq hC => by exact r_assign) ?_
              refine GD_end (by kernel_rfl) (fun _ => ⟨Ky1, K6c⟩) ?_
              exact join_end ⟨g11, _, has rfl (has rfl (has rfl (has rfl (has rfl (has rfl (has rfl (has rfl (has rfl rfl)))))))), P12.at_, hg11, hBx⟩
          · skip
            refine GO_alloc (z := .agg (isF fun _ => 0)) rfl rfl rfl (by kernel_rfl) (fun g11 w11 N11 => ?_)
            have hg11 := Nat.le_trans hBx.size N11.ge
            have hBx := Bel.new hBx N11
            have Ky1 := kN Ky1 N11
            have K6c := kN K6c N11
            have K11 := N11.at_
            try have Kmo := kN Kmo N11
            refine GD_one 6 (by kernel_rfl) (fun _ => ⟨Ky1, K6c⟩) ?_
            refine GO_call rfl rfl rfl he78 rfl (most_c A c y _) (fun e w39 he => ?_)
            obtain ⟨gmo, rfl, Kmo, _, hb39⟩ := he
            refine ⟨_, rfl, ?_⟩
            have hBx := Bel.bel hBx hb39
            have Ky1 := kB Ky1 hb39
            have K6c := kB K6c hb39
            try have K11 := kB K11 hb39
            refine GD_one 7 (by kernel_rfl) (fun _ => ⟨Ky1, K6c⟩) ?_
            refine GO_call rfl rfl rfl he71 rfl (leakedMost_c A c y lv m _ gmo (Kd.C_below hs (hB0x.bel hBx)) hy hlv Kmo) (fun e w40 he => ?_)
            obtain ⟨rfl, hb40⟩ := he
            refine ⟨_, rfl, ?_⟩
            have hBx := Bel.bel hBx hb40
            have Ky1 := kB Ky1 hb40
            have K6c := kB K6c hb40
            try have K11 := kB K11 hb40
            refine GD_pure 8 rfl (by kernel_rfl) (by kernel_rfl) (by kernel_rfl) (by kernel_rfl) rfl rfl rfl (qv fun wq hC => by exact r_move) ?_
            refine GD_pure 9 rfl (by kernel_rfl) (by kernel_rfl) (by kernel_rfl) (by kernel_rfl) rfl rfl rfl (qv fun wq hC => by exact r_extract rfl rfl) ?_
            refine GD_pure 10 rfl (by kernel_rfl) (by kernel_rfl) (by kernel_rfl) (by kernel_rfl) rfl rfl rfl (qv fun wq hC => by exact r_extract rfl rfl) ?_
            refine GD_one 12 (by kernel_rfl) (fun _ => ⟨Ky1, K6c⟩) ?_
            refine GO_storeA rfl rfl rfl rfl info111 K11 rfl (by simpa using isF_one _) (fun w12 P12 => ?_)
            have hBx := Bel.put hBx P12 hg11
            have Ky1 := kP Ky1 P12 (ne_ty Ky1 K11 (by decide))
            have K6c := kP K6c P12 (ne_ty K6c K11 (by decide))
            refine GD_pure 13 rfl (by kernel_rfl) (by kernel_rfl) (by kernel_rfl) (by kernel_rfl) rfl rfl rfl (qv fun wq hC => by exact r_assign) ?_
            refine GD_end (by kernel_rfl) (fun _ => ⟨Ky1, K6c⟩) ?_
            exact join_end ⟨g11, _, has rfl (has rfl (has rfl (has rfl (has rfl (has rfl (has rfl (has rfl (has rfl rfl)))))))), P12.at_, hg11, hBx⟩
        · rintro _ w7 ⟨g11, τ, rfl, K11, hg11, hBx⟩
          have env7 := envx.bel hBx
          have hB07 := hB0x.bel hBx
          have hC7 := Kd.C_below hCx hBx
          have hch7 : Ch (fun k => k = gM) w w7 := hchx.then (Ch.of_below hBx)
          have K6b := kB K6x hBx
          have hlxok : lvOk (lkF lv (hiF y) y.length) := lk_ok hlv (fun i => (hi_ok hy i).1) _
          have hlxf : lvFull y (lkF lv (hiF y) y.length) := lk_full hy hfull
          have hself : ∀ (h : Bad y (n + 1) lv), BadKey y months (.agg (mom m lv)) := fun h m' lv' e => by
            injection e with e
            obtain ⟨rfl, e2⟩ := mom_inj e
            rw [show (months - m).toNat = n + 1 by omega]
            exact h.congr (fun i hi => e2 i (by omega))
          refine Sq (Sq (Rg (Mv ?_)))
          refine g_geq rfl rfl (h1 := fun c44 => ?_) (h2 := fun c44 => ?_)
          · skip
            refine Nl (Tn (Ct rfl (Sq (Rg (As (As (Nl (Tn (Rt (Tr (Sr ?_)))))))))))
            have hbad := bad_dry (n := n) c44
            exact ret2 rfl ⟨_, false, es1, clock1, ret2v rfl rfl, hch7, env7, fun h => absurd h Bool.false_ne_true, fun _ => ⟨hbad, fun e he => by
              rcases hes1 e he with h | ⟨h1, h2⟩
              · exact .inl h
              · rw [h1]; exact .inr (hself hbad)⟩⟩
          · skip
            refine Nl (Tn (Cf rfl (Sk (Tn (Sq (Lb (Tn (Sq (Sq (Rg (L1 Try.underlying35 (cellAt env7.Ky rfl) rfl (Ln Try.underlying35 rfl (Mv (Nl (Tn (Bk ?_))))))))))))))))
            obtain ⟨mm, hmm⟩ : ∃ x, m = x := ⟨m, rfl⟩
            refine GC_loop (fun m σ w' => ∃ (k : Nat) (es2 : Array MapEntry) (clock2 : Nat) (τ : Nat → Value), σ = upd (upd (upd (upd (upd (upd (upd (upd (upd (upd τ 1 (.slice PA plan.length cap)) 2 (.pointer (some ⟨gm, 0, none⟩))) 3 (.pointer (some ⟨gt, 0, none⟩))) 4 (.pointer (some ⟨gy, 0, none⟩))) 5 (.pointer (some ⟨gf, 0, none⟩))) 6 (.pointer (some ⟨g6, 0, none⟩))) 10 (.int .i64 plan.length)) 11 (.pointer (some ⟨g11, 0, none⟩))) 46 (.int .i64 y.length)) 47 (.int .i64 k) ∧ k ≤ y.length ∧ m = y.length - k ∧ KEnv y A c months gm gt gy gf gM es2 clock2 w' ∧ w'.heap[g6]? = some (.cells (mom mm lv) 127 (0, 0)) ∧ w'.heap[g11]? = some (.cells (isF (lkF lv (hiF y) y.length)) 111 (0, 0)) ∧ Bel w0 w' ∧ Ch (fun k => k = gM) w w' ∧ (Kd.int .i64).C w' PA plan.length plan ∧ (∀ t : Nat, t < k → Bad y n (topF y t (lkF lv (hiF y) y.length))) ∧ (∀ e ∈ es2.toList, e ∈ es1.toList ∨ BadKey y months e.key)) (y.length) ⟨0, es1, clock1, _, has rfl (has rfl (has rfl (has rfl (has rfl (has rfl (has rfl (has rfl (has rfl (has rfl rfl))))))))), Nat.zero_le _, rfl, env7, by rw [← hmm]; exact K6b, K11, hB07, hch7, hC7, fun t h => absurd h (by omega), fun e he => .inl he⟩ ?_
            rintro m _ wl ⟨k, es2, clock2, τ2, rfl, hk, rfl, envl, K6l, K11l, hB0l, hchl, hCl, hbadl, hesl⟩
            subst hmm
            refine Sq (Rg ?_)
            refine g_lss rfl rfl (h1 := fun c48 => ?_) (h2 := fun c48 => ?_)
            · skip
              refine Nl (Tn (Sq (Ct rfl (Sk (Tn (Sq (Bk (Sq (Rg (Mv (As (Nl (Tn (Sq (Rg (Fb f127_0 rfl (L1 Try.underlying3 (cellAt K6l rfl) rfl ?_)))))))))))))))))
              refine g_add rfl rfl (by omega) (h := ?_)
              refine g_loadA rfl Try.underlying111 info111 (l := (isF (lkF lv (hiF y) y.length)).toList) (cellsAt K11l) (h := ?_)
              refine g_bld (build127 _ _ _) rfl (h := ?_)
              refine g_alloc (z := .agg (mom 0 fun _ => 0)) (by kernel_rfl) (h := fun g14 w14 N14 => ?_)
              have K14 := N14.at_
              refine g_storeA rfl rfl info127 K14 rfl (by simp [mom, Value.oneCell']) (h := fun w13 P13 => ?_)
              have hBl13 : Bel wl w13 := (Bel.of_new N14).put P13 N14.ge
              have K14a : w13.heap[g14]? = some (.cells (mom (m + 1) (lkF lv (hiF y) y.length)) 127 (0, 0)) := P13.at_
              have env13 := envl.bel hBl13
              have hkl : k < y.length := by omega
              refine Nl (Tn (Sq (Rg (Mv ?_))))
              obtain ⟨ad, hA, h60⟩ := at70 hs (hB0l.bel hBl13) k hkl
              have Ky13 := env13.Ky
              rw [hA] at Ky13
              refine L1 Try.underlying35 (cellAt Ky13 rfl) rfl (Mv ?_)
              refine g_indexS Try.underlying35 info70 rfl rfl (by omega) (by omega) rfl (h := ?_)
              refine Fa f70_1 rfl (L1 Try.underlying3 (h60 1 _ rfl) rfl (Fb f127_1 rfl ?_))
              refine g_indexA Try.underlying111 info3 rfl rfl (by omega) (by omega) (add_lit _ _ _) (h := ?_)
              refine g_store1 rfl rfl info3 K14a (by simp [mom]; omega) (h := fun w14 P14 => ?_)
              have hBl14 := hBl13.put P14 N14.ge
              have K14b : w14.heap[g14]? = some (.cells (mom (m + 1) (topF y k (lkF lv (hiF y) y.length))) 127 (0, 0)) := by
                have hq : (fun i => if i = k then (y[k]).f1 else lkF lv (hiF y) y.length i) = topF y k (lkF lv (hiF y) y.length) := by
                  funext i
                  unfold topF
                  by_cases hi : i = k
                  · rw [if_pos hi, if_pos ⟨by omega, by omega⟩, hi, yd_get y k hkl]
                  · rw [if_neg hi, if_neg (fun h => hi (by omega))]
                rw [← hq, ← mom_set (m + 1) _ k (by omega)]
                exact P14.at_
              have env14 := envl.bel hBl14
              have K11m := kB K11l hBl14
              refine Nl (Tn (Sq (Sq (Rg (Fb f127_1 rfl ?_)))))
              refine g_loadA rfl Try.underlying111 info111 (l := (isF (topF y k (lkF lv (hiF y) y.length))).toList) (mom_cells K14b) (h := ?_)
              refine g_loadA rfl Try.underlying111 info111 (l := (isF (lkF lv (hiF y) y.length)).toList) (cellsAt K11m) (h := ?_)
              have htk : lvOk (topF y k (lkF lv (hiF y) y.length)) := top_ok hy hlxok _
              obtain ⟨l1, hl1⟩ := key111 (topF y k (lkF lv (hiF y) y.length)) (fun i _ => by have := htk i; omega)
              obtain ⟨l2, hl2⟩ := key111 (lkF lv (hiF y) y.length) (fun i _ => by have := hlxok i; omega)
              refine g_eqlA (m := 5) (by decide) (by kernel_rfl) (by kernel_rfl) wide111 (by kernel_rfl) hl1 hl2 rfl rfl (h1 := fun c66 => ?_) (h2 := fun c66 => ?_)
              · skip
                refine Mv (Mv ?_)
                refine g_gtr rfl rfl (h1 := fun c69 => ?_) (h2 := fun c69 => ?_)
                · skip
                  refine Pt rfl (Nl (Tn (Ct rfl (Xi (Tx (Bs (Tn (Rg ?_))))))))
                  refine g_add rfl rfl (by omega) (h := ?_)
                  refine Mv (Nl ?_)
                  have hsk := bad_skip h4 hlxf k (hbadl 0 (by omega)) (isF_inj c66)
                  exact round_end (y.length - (k + 1)) (by omega) ⟨k + 1, es2, clock2, _, has rfl (has rfl (has rfl (has rfl (has rfl (has rfl (has rfl (has rfl (has rfl (has rfl rfl))))))))), hkl, rfl, env14, kB K6l hBl14, K11m, hB0l.bel hBl14, hchl.then (Ch.of_below hBl14), Kd.C_below hCl hBl14, fun t ht => by
                    by_cases htk : t = k
                    · rw [htk]; exact hsk
                    · exact hbadl t (by omega), hesl⟩
                · skip
                  refine Pt rfl (Nl (Tn (Cf rfl (Sk (Tn (Sq ?_))))))
                  have envd := envl.bel hBl14.drew
                  have K14d := K14b
                  have K6d := kB K6l hBl14
                  have K11d := K11m
                  refine GD_start 15 [9] (fun w' => w'.heap[gf]? = some (.cells #[.func (.func 80) #[] #[.pointer (some ⟨gm, 0, none⟩), .pointer (some ⟨gt, 0, none⟩), .pointer (some ⟨gy, 0, none⟩), .pointer (some ⟨gf, 0, none⟩)]] 125 (0, 0)) ∧ w'.heap[g14]? = some (.cells (mom (m + 1) (topF y k (lkF lv (hiF y) y.length))) 127 (0, 0))) (by kernel_rfl) rfl ?_
                  refine GD_take 0 rfl (by kernel_rfl) (by kernel_rfl) (by kernel_rfl) (by kernel_rfl) rfl rfl rfl (qv fun wq hC => by exact r_load1 rfl Try.underlying125 (cellAt hC.1 rfl)) ?_
                  refine GD_take 1 rfl (by kernel_rfl) (by kernel_rfl) (by kernel_rfl) (by kernel_rfl) rfl rfl rfl (qv fun wq hC => by exact r_loadA rfl Try.underlying127 info127 (l := (mom (m + 1) (topF y k (lkF lv (hiF y) y.length))).toList) (cellsAt hC.2)) ?_
                  refine GD_pure 2 rfl (by kernel_rfl) (by kernel_rfl) (by kernel_rfl) (by kernel_rfl) rfl rfl rfl (qv fun wq hC => by exact r_move) ?_
                  refine GD_pure 3 rfl (by kernel_rfl) (by kernel_rfl) (by kernel_rfl) (by kernel_rfl) rfl rfl rfl (qv fun wq hC => by exact r_move) ?_
                  refine GD_pure 4 rfl (by kernel_rfl) (by kernel_rfl) (by kernel_rfl) (by kernel_rfl) rfl rfl rfl (qv fun wq hC => by exact r_move) ?_
                  refine GD_take 5 rfl (by kernel_rfl) (by kernel_rfl) (by kernel_rfl) (by kernel_rfl) rfl rfl rfl (qv fun wq hC => by exact r_slice3 Try.underlying22 inf3 rfl rfl rfl rfl rfl (Nat.le_refl _) hcap) ?_
                  refine GD_pure 6 rfl (by kernel_rfl) (by kernel_rfl) (by kernel_rfl) (by kernel_rfl) rfl rfl rfl (qv fun wq hC => by exact r_move) ?_
                  refine GD_one 7 (by kernel_rfl) (fun _ => ⟨envd.Kf, K14d⟩) ?_
                  refine GO_lit1 rfl rfl rfl bs22 rfl rfl (fun g79 w79 N79 => ?_)
                  have hB79 : Bel wl w79 := hBl14.drew.new N79
                  have envd := envl.bel hB79
                  have K14d := kN (w1 := w14.drewN 1) K14d N79
                  refine GD_one 8 (by kernel_rfl) (fun _ => ⟨envd.Kf, K14d⟩) ?_
                  refine GO_appendC (p := (k : Int)) rfl rfl rfl Try.underlying22 zi3 rfl (Kd.C_below hCl hB79) N79.at_ (by omega) (by simp [maxLen]; omega) hPA rfl rfl (fun v80 w80 HR80 hg80 => ?_)
                  have hB80 : Bel wl w80 := hB79.grown hg80 (fun k hk => by cases hk)
                  have envd := envl.bel hB80
                  have K14d := kG K14d hg80 (by intro h; cases h)
                  obtain ⟨A80, c80, rfl, hle80, hC80⟩ := Kd.R_reads HR80
                  refine GD_one 9 (by kernel_rfl) (fun _ => ⟨envd.Kf, K14d⟩) ?_
                  refine GO_callv rfl rfl rfl he80 rfl rfl (ih (m + 1) (topF y k (lkF lv (hiF y) y.length)) (plan ++ [(k : Int)]) A80 c80 w80 es2 clock2 (by omega) (by omega) (hB0l.bel hB80) envd (fun e he m' lv' hek => ?hes) (top_ok hy hlxok _) (top_full hlxf _) hC80 ?hpa (by simp; omega) hle80) (fun e w81 he => ?_)
                  case hes =>
                    rcases hesl e he with h | h
                    · rcases hes1 e h with h | ⟨h1, h2⟩
                      · rcases hes e h m' lv' hek with h | h
                        · left; omega
                        · right; exact h
                      · left
                        rw [h1] at hek
                        injection hek with hek
                        have := (mom_inj hek).1
                        omega
                    · right; exact h
                  case hpa =>
                    intro hA
                    obtain ⟨ad, h, _⟩ := hC80.2.2 (by simp)
                    rw [hA] at h; cases h
                  obtain ⟨v81, b81, es3, clock3, rfl, hch81, env81, hT, hF⟩ := he
                  refine ⟨_, rfl, ?_⟩
                  refine GD_pure 10 rfl (by kernel_rfl) (by kernel_rfl) (by kernel_rfl) (by kernel_rfl) rfl rfl rfl (qv fun wq hC => by exact r_move) ?_
                  refine GD_pure 11 rfl (by kernel_rfl) (by kernel_rfl) (by kernel_rfl) (by kernel_rfl) rfl rfl rfl (qv fun wq hC => by exact r_extract rfl rfl) ?_
                  refine GD_pure 12 rfl (by kernel_rfl) (by kernel_rfl) (by kernel_rfl) (by kernel_rfl) rfl rfl rfl (qv fun wq hC => by exact r_extract rfl rfl) ?_
                  refine GD_pure 13 rfl (by kernel_rfl) (by kernel_rfl) (by kernel_rfl) (by kernel_rfl) rfl rfl rfl (qv fun wq hC => by exact r_assign) ?_
                  refine GD_pure 14 rfl (by kernel_rfl) (by kernel_rfl) (by kernel_rfl) (by kernel_rfl) rfl rfl rfl (qv fun wq hC => by exact r_assign) ?_
                  refine GD_end (by kernel_rfl) (dead 9 rfl (by kernel_rfl)) ?_
                  refine Tn (Sq (Rg (Mv (Nl (Tn ?_)))))
                  cases q84 : b81 with
                  | true =>
                    refine Ct rfl (Sq (Rg (Mv (As (As (Nl (Tn (Rt (Br (Tr (Tr (Br (Tr (Sr ?_))))))))))))))
                    obtain ⟨A', c', p, rfl, hCp, hlep, hpn, hok⟩ := hT q84
                    have hnd : dryUp (dryP y lv (hiF y)) y.length < 0 := by omega
                    have hfin : Ch (fun k => k = gM) w w81 := (hchl.then (Ch.of_below hB80)).trans hch81 (fun _ _ h => h) (fun _ _ h => h)
                    have happ : plan ++ [(k : Int)] ++ p = plan ++ (k : Int) :: p := by simp
                    exact ret2 rfl ⟨.slice A' (plan ++ [(k : Int)] ++ p).length c', true, es3, clock3, ret2v rfl rfl, hfin, env81, fun _ => ⟨A', c', (k : Int) :: p, by rw [happ], by rw [← happ]; exact hCp, by rw [← happ]; exact hlep, by simp [hpn], hnd, ⟨by omega, by omega⟩, hok⟩, fun h => absurd h.symm Bool.false_ne_true⟩
                  | false =>
                    refine Cf rfl (Sk (Bn (Tn (Rg ?_))))
                    refine g_add rfl rfl (by omega) (h := ?_)
                    refine Mv (Nl ?_)
                    obtain ⟨hbadk, hes3⟩ := hF q84
                    have K6e := hch81.at_ (kB K6l hB80) (ne_map (kB K6l hB80) envd.KM)
                    have K11e := hch81.at_ (kB K11l hB80) (ne_map (kB K11l hB80) envd.KM)
                    have hC81 := scalarC_map (Kd.C_below hCl hB80) envd.KM hch81
                    exact round_end (y.length - (k + 1)) (by omega) ⟨k + 1, es3, clock3, _, has rfl (has rfl (has rfl (has rfl (has rfl (has rfl (has rfl (has rfl (has rfl (has rfl rfl))))))))), hkl, rfl, env81, K6e, K11e, hch81.step (hB0l.bel hB80) (hB0l.bel hB80).size (fun i hi h => by omega), (hchl.then (Ch.of_below hB80)).trans hch81 (fun _ _ h => h) (fun _ _ h => h), hC81, fun t ht => by
                      by_cases htk : t = k
                      · rw [htk]; exact hbadk
                      · exact hbadl t (by omega), fun e he => by
                      rcases hes3 e he with h | h
                      · exact hesl e h
                      · exact .inr h⟩
              · skip
                refine Mv (Of (Of (Pf rfl (Nl (Tn (Cf rfl (Sk (Tn (Sq ?_)))))))))
                have envd := envl.bel hBl14.drew
                have K14d := K14b
                have K6d := kB K6l hBl14
                have K11d := K11m
                refine GD_start 15 [9] (fun w' => w'.heap[gf]? = some (.cells #[.func (.func 80) #[] #[.pointer (some ⟨gm, 0, none⟩), .pointer (some ⟨gt, 0, none⟩), .pointer (some ⟨gy, 0, none⟩), .pointer (some ⟨gf, 0, none⟩)]] 125 (0, 0)) ∧ w'.heap[g14]? = some (.cells (mom (m + 1) (topF y k (lkF lv (hiF y) y.length))) 127 (0, 0))) (by kernel_rfl) rfl ?_
                refine GD_take 0 rfl (by kernel_rfl) (by kernel_rfl) (by kernel_rfl) (by kernel_rfl) rfl rfl rfl (qv fun wq hC => by exact r_load1 rfl Try.underlying125 (cellAt hC.1 rfl)) ?_
                refine GD_take 1 rfl (by kernel_rfl) (by kernel_rfl) (by kernel_rfl) (by kernel_rfl) rfl rfl rfl (qv fun wq hC => by exact r_loadA rfl Try.underlying127 info127 (l := (mom (m + 1) (topF y k (lkF lv (hiF y) y.length))).toList) (cellsAt hC.2)) ?_
                refine GD_pure 2 rfl (by kernel_rfl) (by kernel_rfl) (by kernel_rfl) (by kernel_rfl) rfl rfl rfl (qv fun wq hC => by exact r_move) ?_
                refine GD_pure 3 rfl (by kernel_rfl) (by kernel_rfl) (by kernel_rfl) (by kernel_rfl) rfl rfl rfl (qv fun wq hC => by exact r_move) ?_
                refine GD_pure 4 rfl (by kernel_rfl) (by kernel_rfl) (by kernel_rfl) (by kernel_rfl) rfl rfl rfl (qv fun wq hC => by exact r_move) ?_
                refine GD_take 5 rfl (by kernel_rfl) (by kernel_rfl) (by kernel_rfl) (by kernel_rfl) rfl rfl rfl (qv fun wq hC => by exact r_slice3 Try.underlying22 inf3 rfl rfl rfl rfl rfl (Nat.le_refl _) hcap) ?_
                refine GD_pure 6 rfl (by kernel_rfl) (by kernel_rfl) (by kernel_rfl) (by kernel_rfl) rfl rfl rfl (qv fun wq hC => by exact r_move) ?_
                refine GD_one 7 (by kernel_rfl) (fun _ => ⟨envd.Kf, K14d⟩) ?_
                refine GO_lit1 rfl rfl rfl bs22 rfl rfl (fun g79 w79 N79 => ?_)
                have hB79 : Bel wl w79 := hBl14.drew.new N79
                have envd := envl.bel hB79
                have K14d := kN (w1 := w14.drewN 1) K14d N79
                refine GD_one 8 (by kernel_rfl) (fun _ => ⟨envd.Kf, K14d⟩) ?_
                refine GO_appendC (p := (k : Int)) rfl rfl rfl Try.underlying22 zi3 rfl (Kd.C_below hCl hB79) N79.at_ (by omega) (by simp [maxLen]; omega) hPA rfl rfl (fun v80 w80 HR80 hg80 => ?_)
                have hB80 : Bel wl w80 := hB79.grown hg80 (fun k hk => by cases hk)
                have envd := envl.bel hB80
                have K14d := kG K14d hg80 (by intro h; cases h)
                obtain ⟨A80, c80, rfl, hle80, hC80⟩ := Kd.R_reads HR80
                refine GD_one 9 (by kernel_rfl) (fun _ => ⟨envd.Kf, K14d⟩) ?_
                refine GO_callv rfl rfl rfl he80 rfl rfl (ih (m + 1) (topF y k (lkF lv (hiF y) y.length)) (plan ++ [(k : Int)]) A80 c80 w80 es2 clock2 (by omega) (by omega) (hB0l.bel hB80) envd (fun e he m' lv' hek => ?hes) (top_ok hy hlxok _) (top_full hlxf _) hC80 ?hpa (by simp; omega) hle80) (fun e w81 he => ?_)
                case hes =>
                  rcases hesl e he with h | h
                  · rcases hes1 e h with h | ⟨h1, h2⟩
                    · rcases hes e h m' lv' hek with h | h
                      · left; omega
                      · right; exact h
                    · left
                      rw [h1] at hek
                      injection hek with hek
                      have := (mom_inj hek).1
                      omega
                  · right; exact h
                case hpa =>
                  intro hA
                  obtain ⟨ad, h, _⟩ := hC80.2.2 (by simp)
                  rw [hA] at h; cases h
                obtain ⟨v81, b81, es3, clock3, rfl, hch81, env81, hT, hF⟩ := he
                refine ⟨_, rfl, ?_⟩
                refine GD_pure 10 rfl (by kernel_rfl) (by kernel_rfl) (by kernel_rfl) (by kernel_rfl) rfl rfl rfl (qv fun wq hC => by exact r_move) ?_
                refine GD_pure 11 rfl (by kernel_rfl) (by kernel_rfl) (by kernel_rfl) (by kernel_rfl) rfl rfl rfl (qv fun wq hC => by exact r_extract rfl rfl) ?_
                refine GD_pure 12 rfl (by kernel_rfl) (by kernel_rfl) (by kernel_rfl) (by kernel_rfl) rfl rfl rfl (qv fun wq hC => by exact r_extract rfl rfl) ?_
                refine GD_pure 13 rfl (by kernel_rfl) (by kernel_rfl) (by kernel_rfl) (by kernel_rfl) rfl rfl rfl (qv fun wq hC => by exact r_assign) ?_
                refine GD_pure 14 rfl (by kernel_rfl) (by kernel_rfl) (by kernel_rfl) (by kernel_rfl) rfl rfl rfl (qv fun wq hC => by exact r_assign) ?_
                refine GD_end (by kernel_rfl) (dead 9 rfl (by kernel_rfl)) ?_
                refine Tn (Sq (Rg (Mv (Nl (Tn ?_)))))
                cases q84 : b81 with
                | true =>
                  refine Ct rfl (Sq (Rg (Mv (As (As (Nl (Tn (Rt (Br (Tr (Tr (Br (Tr (Sr ?_))))))))))))))
                  obtain ⟨A', c', p, rfl, hCp, hlep, hpn, hok⟩ := hT q84
                  have hnd : dryUp (dryP y lv (hiF y)) y.length < 0 := by omega
                  have hfin : Ch (fun k => k = gM) w w81 := (hchl.then (Ch.of_below hB80)).trans hch81 (fun _ _ h => h) (fun _ _ h => h)
                  have happ : plan ++ [(k : Int)] ++ p = plan ++ (k : Int) :: p := by simp
                  exact ret2 rfl ⟨.slice A' (plan ++ [(k : Int)] ++ p).length c', true, es3, clock3, ret2v rfl rfl, hfin, env81, fun _ => ⟨A', c', (k : Int) :: p, by rw [happ], by rw [← happ]; exact hCp, by rw [← happ]; exact hlep, by simp [hpn], hnd, ⟨by omega, by omega⟩, hok⟩, fun h => absurd h.symm Bool.false_ne_true⟩
                | false =>
                  refine Cf rfl (Sk (Bn (Tn (Rg ?_))))
                  refine g_add rfl rfl (by omega) (h := ?_)
                  refine Mv (Nl ?_)
                  obtain ⟨hbadk, hes3⟩ := hF q84
                  have K6e := hch81.at_ (kB K6l hB80) (ne_map (kB K6l hB80) envd.KM)
                  have K11e := hch81.at_ (kB K11l hB80) (ne_map (kB K11l hB80) envd.KM)
                  have hC81 := scalarC_map (Kd.C_below hCl hB80) envd.KM hch81
                  exact round_end (y.length - (k + 1)) (by omega) ⟨k + 1, es3, clock3, _, has rfl (has rfl (has rfl (has rfl (has rfl (has rfl (has rfl (has rfl (has rfl (has rfl rfl))))))))), hkl, rfl, env81, K6e, K11e, hch81.step (hB0l.bel hB80) (hB0l.bel hB80).size (fun i hi h => by omega), (hchl.then (Ch.of_below hB80)).trans hch81 (fun _ _ h => h) (fun _ _ h => h), hC81, fun t ht => by
                    by_cases htk : t = k
                    · rw [htk]; exact hbadk
                    · exact hbadl t (by omega), fun e he => by
                    rcases hes3 e he with h | h
                    · exact hesl e h
                    · exact .inr h⟩
            · skip
              refine Nl (Tn (Sq (Cf rfl (Xi (Tx (Tx (Bs (Tn (Sq (Rg (As (As (Nl (Tn (Rt (Sr ?_))))))))))))))))
              have hbad : Bad y (n + 1) lv := bad_all (fun t ht => hbadl t (by omega))
              exact ret2 rfl ⟨_, false, es2, clock2, ret2v rfl rfl, hchl, envl, fun h => absurd h Bool.false_ne_true, fun _ => ⟨hbad, fun e he => by
                rcases hesl e he with h | h
                · rcases hes1 e h with h | ⟨h1, h2⟩
                  · exact .inl h
                  · rw [h1]; exact .inr (hself hbad)
                · exact .inr h⟩⟩
end Go.Proofs.B
