/- barrel: balanced. -/
import Derived.Test.YtpfoleggapngoaaGd
import Derived.Test.YtpfoleggapngoaaB15
set_option linter.unusedVariables false
set_option linter.unusedSimpArgs false
set_option maxRecDepth 10000
namespace Go.Proofs.B
open Go Go.RowKit Go.Proofs Go.Proofs.G Go.Proofs.F Go.Proofs.YtpfoleggapngoaaW.PrintWords
theorem R_addr {α : Type} {k : Kd α} {e base n c : Nat} {ok : Nat → Prop} {w : World} {A : Option Addr} {xs : List α} (h : k.R e w base ok (.slice A n c) xs) : ∀ ad, A = some ad → base ≤ ad.block := fun ad hA => by
  subst hA
  obtain ⟨_, inner, hown, _⟩ := h
  rcases hown.2 with ⟨h1, _⟩ | ⟨g, cap, cur, h1, hg, _⟩
  · cases h1
  · injection h1 with h1; injection h1 with h1; rw [h1]; exact hg
def Stuck (N : Nat) (l : List S76) (cs : List Int) (met : Int → Bool) : Prop :=
  (∀ v, met v = true → ∀ k fw u, Ed l cs (-1) k fw v u → met u = true) ∧ (∃ s : Nat, s < N ∧ met s = true ∧ 0 < net l cs s) ∧ (∀ s : Nat, s < N → net l cs s < 0 → met s = false)
def posN (N : Nat) (l : List S76) (cs : List Int) : Nat := (sumN (fun s => max 0 (net l cs s)) N).toNat
theorem sumN_nonneg {f : Nat → Int} : ∀ n, (∀ s, 0 ≤ f s) → 0 ≤ sumN f n
  | 0, _ => Int.le_refl _
  | n + 1, h => by unfold sumN; have := sumN_nonneg n h; have := h n; omega
theorem posN_lt {N : Nat} {l : List S76} {cs cs' : List Int} {a b : Nat} (ha : a < N) (hb : b < N) (h : ∀ s : Nat, net l cs' s = net l cs s - one ((a : Int) = s) + one ((b : Int) = s)) (hpa : 0 < net l cs a) (hnb : net l cs b < 0) : posN N l cs' < posN N l cs := by
  have e : sumN (fun s => max 0 (net l cs' s)) N = sumN (fun s => max 0 (net l cs s) - one ((a : Int) = s)) N := by
    refine sumN_congr N fun s hs => ?_
    show max 0 (net l cs' s) = max 0 (net l cs s) - one ((a : Int) = s)
    rw [h s]
    unfold one
    by_cases h1 : (a : Int) = s
    · have : a = s := by omega
      subst this
      by_cases h2 : (b : Int) = a
      · have : b = a := by omega
        subst this; omega
      · simp only [h2, if_false, if_true]; omega
    · by_cases h2 : (b : Int) = s
      · have : b = s := by omega
        subst this
        simp only [h1, if_false, if_true]; omega
      · simp only [h1, h2, if_false]; omega
  have hs := sumN_sub (fun s => max 0 (net l cs s)) (fun s => one ((a : Int) = (s : Int))) N
  have h1 := sumN_one N a (by omega)
  have hn := sumN_nonneg (f := fun s => max 0 (net l cs' s)) N (fun s => by omega)
  unfold posN
  rw [e, hs, h1] at *
  omega
theorem one139 : True := trivial
def lows (l : List S76) : List Int := l.map (fun m => m.f2.f0)
theorem rd_lows (l : List S76) (k : Nat) (hk : k < l.length) : rd (lows l) k = (mv l k).f2.f0 := by
  rw [rd_nat _ _ (by simpa [lows] using hk), mv_get l k hk]; simp [lows]
def pw2 (met : Int → Bool) (s : Nat) : Int := if met s = true then 0 else 2 ^ s
theorem pw2_bd (met : Int → Bool) : ∀ n, n ≤ 6 → 0 ≤ sumN (pw2 met) n ∧ sumN (pw2 met) n ≤ 100 * (n : Int)
  | 0, _ => by simp [sumN]
  | n + 1, h => by
    have h1 := pw2_bd met n (by omega)
    have h2 := pow6 (N := n) (by omega)
    have h3 : 0 ≤ pw2 met n ∧ pw2 met n ≤ 64 := by unfold pw2; split <;> omega
    show 0 ≤ sumN (pw2 met) n + pw2 met n ∧ sumN (pw2 met) n + pw2 met n ≤ _
    omega
theorem all_zero {f : Nat → Int} {N : Nat} (hs : sumN f N = 0) (h : ∀ s, s < N → f s ≤ 0) : ∀ s, s < N → f s = 0 := by
  have key : ∀ n, n ≤ N → sumN f n ≤ 0 ∧ (sumN f n = 0 → ∀ s, s < n → f s = 0) := fun n => by
    induction n with
    | zero => intro _; exact ⟨Int.le_refl _, fun _ s hs => by omega⟩
    | succ n ih =>
      intro hn
      obtain ⟨h1, h2⟩ := ih (by omega)
      have h3 := h n (by omega)
      refine ⟨by unfold sumN; omega, fun h4 s hs => ?_⟩
      unfold sumN at h4
      by_cases e : s = n
      · subst e; omega
      · exact h2 (by omega) s (by omega)
  exact (key N (Nat.le_refl _)).2 hs
theorem not_all_nonneg {f : Nat → Int} {N a : Nat} (hs : sumN f N = 0) (ha : a < N) (hp : 0 < f a) (h : ∀ s, s < N → 0 ≤ f s) : False := by
  have h2 : sumN (fun s => 0 - f s) N = 0 := by
    rw [sumN_sub, hs]
    have : ∀ n, sumN (fun _ => 0) n = 0 := fun n => by
      induction n with
      | zero => rfl
      | succ n ih => unfold sumN; rw [ih]; rfl
    rw [this]; rfl
  have := all_zero h2 (fun s hs => by have := h s hs; omega) a ha
  omega
theorem ret2p {v v' : Value} {a b : Int} (h : v = v') (h2 : a = b) : Ending.returned (.tuple #[v, .int .i64 a]) = .returned (.tuple #[v', .int .i64 b]) := by rw [h, h2]

set_option maxHeartbeats 8000000 in
theorem balanced_c (N : Nat) (l : List S76) (A : Option Addr) (c : Nat) (w : World) (hs : k76.C w A l.length l) (hN : N ≤ 6) (hl10 : 1 ≤ l.length ∧ l.length ≤ 10)
    (hm : ∀ k, k < l.length → (0 ≤ (mv l k).f0 ∧ (mv l k).f0 < N) ∧ (0 ≤ (mv l k).f1 ∧ (mv l k).f1 < N)) (hne : ∀ k, k < l.length → (mv l k).f0 ≠ (mv l k).f1) (hsp : ∀ k, k < l.length → 0 ≤ (mv l k).f2.f0 ∧ (mv l k).f2.f0 ≤ (mv l k).f2.f1 ∧ (mv l k).f2.f1 ≤ 1000) :
    Calls Try.prog 83 #[.agg #[.int .i64 N, .slice A l.length c]] w fun e w' => ∃ v proof, e = .returned (.tuple #[v, .int .i64 proof]) ∧ Bel w w' ∧
      ((∃ cs, (Kd.int .i64).R 3 w' w.heap.size (fun _ => True) v cs ∧ InB l cs ∧ (∀ s : Nat, s < N → net l cs s = 0) ∧ proof = 0) ∨
       (v = .slice none 0 0 ∧ ∃ cs met, InB l cs ∧ Stuck N l cs met ∧ proof = sumN (pw2 met) N)) := by
  have hbd : ∀ cs, InB l cs → ∀ x ∈ cs, -1000000 ≤ x ∧ x ≤ 1000000 := fun cs hcs x hx => by
    obtain ⟨i, hi, rfl⟩ := List.mem_iff_getElem.1 hx
    have h1 := hcs.2 i (by rw [← hcs.1]; exact hi)
    rw [rd_nat cs i hi] at h1
    have h3 := hsp i (by rw [← hcs.1]; exact hi)
    omega
  refine G_enter (l := [.agg #[.int .i64 N, .slice A l.length c]]) Try.func83 rfl rfl ?_
  refine Sq (Rg ?_)
  refine g_box rfl (h := fun g1 w1 N1 => ?_)
  have K1 := N1.at_
  have hB1 := Bel.of_new N1
  have K1a : w1.heap[g1]? = some (.cells #[.int .i64 N, .slice A l.length c] 130 (0, 0)) := K1
  refine As (As (Nl (Tn (Sq (Rg (As (Nl (Tn (Sq (Sq (Rg (Fb f130_0 rfl (Fb f49_1 rfl (L1 Try.underlying47 (cellAt K1a rfl) rfl (Ln Try.underlying47 rfl (Mv (Nl (Tn (Bk ?_)))))))))))))))))))
  refine GC_loop (fun m σ w' => ∃ (k : Nat) (v : Value) (τ : Nat → Value), σ = upd (upd (upd (upd (upd (upd (upd τ 1 (.pointer (some ⟨g1, 0, none⟩))) 2 v) 3 (.int .i64 0)) 4 (.func (.func 88) #[] #[])) 19 (.slice A l.length c)) 20 (.int .i64 l.length)) 21 (.int .i64 k) ∧ k ≤ l.length ∧ m = l.length - k ∧ (Kd.int .i64).R 3 w' w.heap.size (fun _ => True) v ((lows l).take k) ∧ w'.heap[g1]? = some (.cells #[.int .i64 N, .slice A l.length c] 130 (0, 0)) ∧ Bel w w') (l.length) ⟨0, _, _, has rfl (has rfl (has rfl (has rfl (has rfl (has rfl (has rfl rfl)))))), Nat.zero_le _, rfl, Kd.R_nil _ _ _ _ _, K1a, hB1⟩ ?_
  rintro m _ w3 ⟨k, v, τ, rfl, hk, rfl, HR, K1b, hB⟩
  refine Sq (Rg ?_)
  refine g_lss rfl rfl (h1 := fun c22 => ?_) (h2 := fun c22 => ?_)
  · skip
    refine Nl (Tn (Sq (Ct rfl (Sk (Tn (Sq (Bk (Sq (Rg ?_)))))))))
    have hkl : k < l.length := by omega
    obtain ⟨ad, hA, h24⟩ := at76 hs hB k hkl
    rw [hA]
    refine g_indexS Try.underlying47 info76 rfl rfl (by omega) (by omega) rfl (h := ?_)
    refine g_loadA rfl Try.underlying76 info76 (l := enc76 l[k]) h24 (h := ?_)
    refine g_alloc (z := zero76) (by kernel_rfl) (h := fun g6 w6 N6 => ?_)
    have K6 := N6.at_
    refine g_storeA rfl rfl info76 K6 rfl (one76 _) (h := fun w6 P6 => ?_)
    have K6a : w6.heap[g6]? = some (.cells (enc76 (mv l k)).toArray 76 (0, 0)) := by rw [mv_get l k hkl]; exact P6.at_
    have hB6' : Bel w3 w6 := (Bel.of_new N6).put P6 N6.ge
    have HR6 := rB HR hB6'
    refine Nl (Tn (Rg (Mv (Mv ?_))))
    refine g_loadA rfl Try.underlying76 info76 (l := enc76 (mv l k)) (cellsAt K6a) (h := ?_)
    refine g_bld (build139 _ _ _ _ _) rfl (h := ?_)
    refine g_callv he88 rfl rfl (least_c (mv l k) _) (h := ?_)
    rintro e w29 ⟨rfl, hb29⟩
    refine ⟨_, rfl, ?_⟩
    have HR29 := rB HR6 hb29
    have hB29 : Bel w3 w29 := hB6'.bel hb29
    refine g_lit1 bs22 rfl rfl (h := fun g30 w30 N30 => ?_)
    have HR30 := rN HR29 N30
    have hlen : ((lows l).take k).length = k := by simp [lows]; omega
    refine g_appendR (Kd.int .i64) Try.underlying22 zi3 rfl (by decide) HR30 N30.at_ (p := (mv l k).f2.f0) (okp := fun _ => False) rfl (fun _ h => h.elim) (fun _ _ => trivial) (Nat.le_trans (hB.bel hB29).size N30.ch.size) (by omega) (by simp [maxLen]; omega) rfl rfl (h := fun v' w31 HR' hg31 hv31 => ?_)
    have hB31 := ((hB.bel hB29).new N30).grown hg31 (Kd.R_base HR30)
    have K1c := kG (kN (kB K1b hB29) N30) hg31 (ne_own HR30 (kN (kB K1b hB29) N30) (by decide))
    rw [hA] at K1c
    refine As (Nl (Bn (Tn (Rg ?_))))
    refine g_add rfl rfl (by omega) (h := ?_)
    refine Mv (Nl ?_)
    exact round_end (l.length - (k + 1)) (by omega) ⟨k + 1, _, _, has rfl (has rfl (has rfl (has rfl (has rfl (has rfl (has rfl rfl)))))), hkl, rfl, by rw [take_snoc' (lows l) k (by simpa [lows] using hkl)]; rw [← rd_lows l k hkl, rd_nat (lows l) k (by simpa [lows] using hkl)] at HR'; exact HR', K1c, hB31⟩
  · skip
    refine Nl (Tn (Sq (Cf rfl (Xi (Tx (Tx (Bs (Tn (Sq (Rg ?_))))))))))
    have hke : k = l.length := by omega
    have hInB0 : InB l (lows l) := ⟨by simp [lows], fun j hj => by rw [rd_lows l j hj]; have := hsp j hj; omega⟩
    rw [show (lows l).take k = lows l from by rw [hke]; exact List.take_of_length_le (by simp [lows])] at HR
    obtain ⟨gr0, cap0, rfl, hgr0, _, _⟩ := Kd.R_form HR (by rw [hInB0.1]; omega)
    refine g_loadA rfl Try.underlying130 info130 (l := [.int .i64 N, .slice A l.length c]) (cellsAt K1b) (h := ?_)
    refine Mf (As (Nl (Tn (Bk ?_))))
    refine GC_loop (fun m σ w' => ∃ (cs : List Int) (gr cap : Nat) (τ : Nat → Value), σ = upd (upd (upd (upd τ 1 (.pointer (some ⟨g1, 0, none⟩))) 2 (.slice (some ⟨gr, 0, none⟩) cs.length cap)) 3 (.int .i64 0)) 7 (.func (.func 97) #[.agg #[.int .i64 N, .slice A l.length c]] #[]) ∧ m = posN N l cs ∧ InB l cs ∧ (Kd.int .i64).R 3 w' w.heap.size (fun _ => True) (.slice (some ⟨gr, 0, none⟩) cs.length cap) cs ∧ w'.heap[g1]? = some (.cells #[.int .i64 N, .slice A l.length c] 130 (0, 0)) ∧ Bel w w') (posN N l (lows l)) ⟨lows l, gr0, cap0, _, has rfl (has rfl (has rfl (has rfl rfl))), rfl, hInB0, HR, K1b, hB⟩ ?_
    rintro m _ w4 ⟨cs, gr, cap, τ4, rfl, rfl, hIn, HR4, K1d, hB4⟩
    refine Bk (Sq (Rg ?_))
    refine g_loadA rfl Try.underlying130 info130 (l := [.int .i64 N, .slice A l.length c]) (cellsAt K1d) (h := ?_)
    refine Mv ?_
    have hC4 := (Kd.R_reads' HR4).2.2
    refine g_call he82 rfl (over_c A (some ⟨gr, 0, none⟩) c cap N l cs w4 (Kd.C_below hs hB4) hC4 hIn.1 (by omega) (by omega) hm (hbd cs hIn)) (h := ?_)
    rintro e w37 ⟨v37, rfl, HRo, hb37⟩
    refine ⟨_, rfl, ?_⟩
    have hB37 := hB4.bel hb37
    have K1e := kB K1d hb37
    have HR5 := rB HR4 hb37
    obtain ⟨Ao, co, rfl, _, hCo⟩ := Kd.R_reads HRo
    have hCo' : ∀ w', Bel w37 w' → ∀ j : Nat, j < N → ∃ ad, Ao = some ad ∧ w'.cell? (ad.add j) = some (.int .i64 (net l cs j)) := fun w' hb j hj => by
      obtain ⟨ad, e1, h1⟩ := Kd.at_int (Kd.C_below hCo hb) j (by omega) (by simpa using hj)
      rw [rd_nat _ _ (by simpa using hj)] at h1
      refine ⟨ad, e1, ?_⟩
      simpa using h1
    generalize hol : ((List.range N).map (ovf l cs l.length)).length = ol at *
    have hol' : N = ol := by rw [← hol]; simp
    subst hol'
    refine As (Nl (Tn (Sq (Rg (As (Nl (Tn ?_)))))))
    refine GC_join (fun σ w' => ∃ (f : Int) (τ : Nat → Value), σ = upd (upd (upd (upd (upd (upd τ 1 (.pointer (some ⟨g1, 0, none⟩))) 2 (.slice (some ⟨gr, 0, none⟩) cs.length cap)) 3 (.int .i64 0)) 7 (.func (.func 97) #[.agg #[.int .i64 N, .slice A l.length c]] #[])) 8 (.slice Ao N co)) 9 (.int .i64 f) ∧ w' = w37 ∧ ((f = -1 ∧ ∀ s : Nat, s < N → net l cs s ≤ 0) ∨ (∃ fn : Nat, f = fn ∧ fn < N ∧ 0 < net l cs fn))) ?_ ?_
    · skip
      refine Sq (Rg (Fb f130_0 rfl (Fb f49_0 rfl (L1 Try.underlying3 (cellAt K1e rfl) rfl (Mv (Nl (Tn (Bk ?_))))))))
      refine GC_loop (fun m σ w' => ∃ (k : Nat) (τ : Nat → Value), σ = upd (upd (upd (upd (upd (upd (upd (upd τ 1 (.pointer (some ⟨g1, 0, none⟩))) 2 (.slice (some ⟨gr, 0, none⟩) cs.length cap)) 3 (.int .i64 0)) 7 (.func (.func 97) #[.agg #[.int .i64 N, .slice A l.length c]] #[])) 8 (.slice Ao N co)) 9 (.int .i64 (-1))) 40 (.int .i64 N)) 41 (.int .i64 k) ∧ k ≤ N ∧ m = N - k ∧ w' = w37 ∧ ∀ s : Nat, s < k → net l cs s ≤ 0) (N) ⟨0, _, has rfl (has rfl (has rfl (has rfl (has rfl (has rfl (has rfl (has rfl rfl))))))), Nat.zero_le _, rfl, rfl, fun s hs => by omega⟩ ?_
      rintro m _ w6 ⟨k, τ6, rfl, hk6, rfl, rfl, hneg⟩
      refine Sq (Rg ?_)
      refine g_lss rfl rfl (h1 := fun c42 => ?_) (h2 := fun c42 => ?_)
      · skip
        refine Nl (Tn (Sq (Ct rfl (Sk (Tn (Sq (Bk (Sq (Rg (Mv (As (Nl (Tn (Sq (Rg (Mv (Mv ?_)))))))))))))))))
        have hkl : k < N := by omega
        obtain ⟨ad, hA, h47⟩ := hCo' w6 (Below.refl _ _) k hkl
        rw [hA]
        refine g_indexS Try.underlying22 info3 rfl rfl (by omega) (by omega) (Nat.mul_one _) (h := ?_)
        refine L1 Try.underlying3 (h47) rfl ?_
        refine g_gtr rfl rfl (h1 := fun c48 => ?_) (h2 := fun c48 => ?_)
        · skip
          refine Nl (Tn (Ct rfl (Sq (Rg (Mv (As (Nl (Tn (Xi (Bo (Tx (Tx (Bs ?_)))))))))))))
          exact join_end ⟨k, _, has rfl (has rfl (has rfl (has rfl (has rfl (has rfl rfl))))), rfl, .inr ⟨k, rfl, hkl, c48⟩⟩
        · skip
          refine Nl (Tn (Cf rfl (Sk (Bn (Tn (Rg ?_))))))
          refine g_add rfl rfl (by omega) (h := ?_)
          refine Mv (Nl ?_)
          exact round_end (N - (k + 1)) (by omega) ⟨k + 1, _, has rfl (has rfl (has rfl (has rfl (has rfl (has rfl (has rfl (has rfl rfl))))))), hkl, rfl, rfl, fun s hs => by
            by_cases e : s = k
            · subst e; omega
            · exact hneg s (by omega)⟩
      · skip
        refine Nl (Tn (Sq (Cf rfl (Xi (Tx (Tx (Bs ?_)))))))
        exact join_end ⟨-1, _, has rfl (has rfl (has rfl (has rfl (has rfl (has rfl rfl))))), rfl, .inl ⟨rfl, fun s hs => hneg s (by omega)⟩⟩
    · rintro _ w5 ⟨f, τ5, rfl, rfl, hf⟩
      refine Sq (Sq (Rg (Mv ?_)))
      refine g_lss rfl rfl (h1 := fun c52 => ?_) (h2 := fun c52 => ?_)
      · skip
        refine Nl (Tn (Ct rfl (Sq (Rg (Mv (As (As (Nl (Tn (Rt (Tr (Br (Tr (Br ?_))))))))))))))
        have hneg : ∀ s : Nat, s < N → net l cs s ≤ 0 := by
          rcases hf with ⟨_, h⟩ | ⟨fn, h, _⟩
          · exact h
          · omega
        exact ret2 rfl ⟨_, 0, ret2p rfl rfl, hB37, .inl ⟨cs, HR5, hIn, all_zero (net_sum hm cs l.length (Nat.le_refl _)) hneg, rfl⟩⟩
      · skip
        obtain ⟨fn, rfl, hfn, hpos⟩ : ∃ fn : Nat, f = fn ∧ fn < N ∧ 0 < net l cs fn := by
          rcases hf with ⟨h, _⟩ | h
          · omega
          · exact h
        refine Nl (Tn (Cf rfl (Sk (Tn (Sq (Rg (As (Nl (Tn (Sq (Rg ?_)))))))))))
        refine g_makeMap (h := fun gE w54 N54 => ?_)
        refine As (Nl (Tn (Sq (Sq (Rg (Fb f130_0 rfl (Fb f49_0 rfl (L1 Try.underlying3 (cellAt (kN K1e N54) rfl) rfl (Mv (Nl (Tn (Bk ?_))))))))))))
        refine GC_loop (fun m σ w' => ∃ (s : Nat) (gm : Nat) (es : Array MapEntry) (τ : Nat → Value), σ = upd (upd (upd (upd (upd (upd (upd (upd (upd (upd τ 1 (.pointer (some ⟨g1, 0, none⟩))) 2 (.slice (some ⟨gr, 0, none⟩) cs.length cap)) 3 (.int .i64 0)) 7 (.func (.func 97) #[.agg #[.int .i64 N, .slice A l.length c]] #[])) 8 (.slice Ao N co)) 9 (.int .i64 fn)) 11 (.bool false)) 12 (.map (some gm))) 57 (.int .i64 N)) 58 (.int .i64 s) ∧ s ≤ N ∧ m = N - s ∧ Bel w5 w' ∧ MetAt w' gm es N ∧ ((∀ t : Nat, t < s → 0 ≤ net l cs t) ∨ ((∀ v, inM es v = true → ∀ k fw u, Ed l cs (-1) k fw v u → inM es u = true) ∧ inM es fn = true ∧ (∀ u, inM es u = true → Rch l cs (-1) fn u) ∧ ∀ t : Nat, t < s → net l cs t < 0 → inM es t = false))) (N) ⟨0, gE, #[], _, has rfl (has rfl (has rfl (has rfl (has rfl (has rfl (has rfl (has rfl (has rfl (has rfl rfl))))))))), Nat.zero_le _, rfl, Bel.of_new N54, ⟨⟨0, N54.at_⟩, fun e he => by simp at he⟩, .inl (fun t ht => by omega)⟩ ?_
        rintro m _ w7 ⟨s, gm, es, τ7, rfl, hsN, rfl, hB7, hmet, hcond⟩
        refine Sq (Rg ?_)
        refine g_lss rfl rfl (h1 := fun c59 => ?_) (h2 := fun c59 => ?_)
        · skip
          refine Nl (Tn (Sq (Ct rfl (Sk (Tn (Sq (Bk (Sq (Rg (Mv (As (Nl (Tn (Sq (Sq (Rg (Mv (Mv ?_))))))))))))))))))
          have hsl : s < N := by omega
          obtain ⟨ad, hA, h64⟩ := hCo' w7 hB7 s hsl
          refine g_indexS (ad := ad) Try.underlying22 info3 (by rw [← hA]; rfl) rfl (by omega) (by omega) (Nat.mul_one _) (h := ?_)
          refine L1 Try.underlying3 (h64) rfl ?_
          refine g_geq rfl rfl (h1 := fun c65 => ?_) (h2 := fun c65 => ?_)
          · skip
            refine Nl (Tn (Ct rfl (Xi (Tx (Bs (Tn (Rg ?_)))))))
            refine g_add rfl rfl (by omega) (h := ?_)
            refine Mv (Nl ?_)
            exact round_end (N - (s + 1)) (by omega) ⟨s + 1, gm, es, _, has rfl (has rfl (has rfl (has rfl (has rfl (has rfl (has rfl (has rfl (has rfl (has rfl rfl))))))))), hsl, rfl, hB7, hmet, by
              rcases hcond with h | ⟨h1, h2, h3, h4⟩
              · left; intro t ht; by_cases e : t = s
                · subst e; exact c65
                · exact h t (by omega)
              · right; refine ⟨h1, h2, h3, fun t ht hn => ?_⟩; by_cases e : t = s
                · subst e; omega
                · exact h4 t (by omega) hn⟩
          · skip
            refine Nl (Tn (Cf rfl (Sk (Tn (Sq (Rg (Mv (Mv (Mv (Mv ?_))))))))))
            have hC7 := (Kd.R_reads' (rB HR5 hB7)).2.2
            have hsfn : (fn : Int) ≠ (s : Int) := fun e => absurd hpos (by have e2 : fn = s := Int.ofNat.inj e; rw [e2]; omega)
            refine g_callv he97 rfl rfl (way_c N l A c cs (some ⟨gr, 0, none⟩) cap fn s (-1) w7 (Kd.C_below hs (hB37.bel hB7)) hC7 hIn.1 (by omega) (by omega) hm hne (by omega) hsfn) (h := ?_)
            rintro e w71 ⟨v71, gm2, es2, steps, rfl, hmet2, hpost, HRs, hsl2, hb71⟩
            refine ⟨_, rfl, ?_⟩
            refine Mv (Xt rfl rfl (Xt rfl rfl (As (As (Nl (Tn (Sq (Sq (Rg (Mv (Mv ?_)))))))))))
            obtain ⟨ck2, hKm2⟩ := hmet2.K
            obtain ⟨ks, hks⟩ := key3 (s : Int) (by omega)
            have hkeys2 : ∀ x ∈ es2.toList, ∃ l, keyOf Try.prog 3 x.key = some l := fun x hx => by
              obtain ⟨⟨a, h1, h2, h3⟩, _⟩ := hmet2.hes x hx
              rw [h1]; exact key3 a ⟨by omega, by omega⟩
            refine g_lookupB K3 Try.underlying146 (zero4 _) hKm2 hkeys2 hks (fun e he => (hmet2.hes e he).2) rfl rfl (h := fun b76 h76 => ?_)
            have hb76 : b76 = inM es2 s := by
              cases hq : inM es2 (s : Int) with
              | true => exact h76.2 (lkB_true.1 hq)
              | false =>
                cases hb : b76 with
                | false => rfl
                | true => rw [show inM es2 (s : Int) = true from lkB_true.2 (h76.1 hb)] at hq; cases hq
            refine Nl (Tn ?_)
            cases q76 : b76 with
            | true =>
              obtain ⟨vs, hpath, hnd, hnotin⟩ : ∃ vs, Path l cs (-1) fn steps vs s ∧ vs.Nodup ∧ (fn : Int) ∉ vs := by
                rcases hpost with ⟨_, h⟩ | ⟨h, _⟩
                · exact h
                · rw [← hb76, q76] at h; cases h
              obtain ⟨hIn2, hnet2, _⟩ := push_path hIn hpath hnd hnotin
              have hB71 := hB7.bel hb71
              have HR71 := rB HR5 hB71
              obtain ⟨Ast, cap2, rfl, _, hCs⟩ := Kd.R_reads HRs
              have hgrlt : gr < w7.heap.size := Nat.lt_of_lt_of_le (Kd.R_lt HR5 gr rfl) hB7.size
              refine Ct rfl (Sq (Rg (Mv (Mv ?_))))
              refine g_call he98 rfl (walk_c Ast cap2 gr cs.length cap w.heap.size steps cs w71 hCs (fun ad e => by have := R_addr HRs ad e; omega) HR71 (by omega) (fun st hst => by have := path_moves hpath st hst; rw [hIn.1]; exact this) (hbd cs hIn)) (h := ?_)
              rintro e w79 ⟨rfl, HRw, hchw⟩
              refine ⟨_, rfl, ?_⟩
              have hgr2 : w.heap.size ≤ gr := Kd.R_base HR5 gr rfl
              have hcl2 : (walkG cs steps).length = cs.length := walkG_len _ _
              have K1f := hchw.at_ (kB K1e hB71) (fun e => ne_own HR71 (kB K1e hB71) (by decide) (by rw [e]; rfl))
              refine Nl (Tn (Sq (Rg (As (Nl (Tn (Xi (Tx (Bo (Tx (Tx (Bs (Tn (Sq (Rg (Mv (Nt rfl (Nl (Tn (Cf rfl (Sk (Bn ?_))))))))))))))))))))))
              exact round_end (posN N l (walkG cs steps)) (posN_lt hfn hsl hnet2 hpos (by omega)) ⟨walkG cs steps, gr, cap, _, has rfl (has rfl (has (by rw [hcl2]; rfl) (has rfl rfl))), rfl, hIn2, by rw [hcl2]; exact HRw, K1f, hchw.step (hB37.bel hB71) (hB37.bel hB71).size (fun i hi e => by omega)⟩
            | false =>
              refine Cf rfl (Sk (Tn (Rg (Mv (As (Nl (Bn (Tn (Rg ?_)))))))))
              refine g_add rfl rfl (by omega) (h := ?_)
              refine Mv (Nl ?_)
              obtain ⟨hp1, hp2, hp3, hp4⟩ : inM es2 (s : Int) = false ∧ inM es2 (fn : Int) = true ∧ (∀ v, inM es2 v = true → ∀ k fw u, Ed l cs (-1) k fw v u → inM es2 u = true) ∧ (∀ u, inM es2 u = true → Rch l cs (-1) fn u) := by
                rcases hpost with ⟨h, _⟩ | h
                · rw [← hb76, q76] at h; cases h
                · exact h
              exact round_end (N - (s + 1)) (by omega) ⟨s + 1, gm2, es2, _, has rfl (has rfl (has rfl (has rfl (has rfl (has rfl (has rfl (has rfl (has rfl (has rfl rfl))))))))), hsl, rfl, hB7.bel hb71, hmet2, .inr ⟨hp3, hp2, hp4, fun t ht hn => by
                by_cases e : t = s
                · rw [e]; exact hp1
                · cases hq : inM es2 (t : Int) with
                  | false => rfl
                  | true =>
                    rcases hcond with h | ⟨h1, h2, h3, h4⟩
                    · have := h t (by omega); omega
                    · have h5 := Rch.closed (hp4 _ hq) h2 h1
                      rw [h4 t (by omega) hn] at h5; cases h5⟩⟩
        · skip
          refine Nl (Tn (Sq (Cf rfl (Xi (Tx (Tx (Bs (Tn (Sq (Rg (Mv (Nt rfl (Nl (Tn (Ct rfl (Sq (Sq (Rg ?_))))))))))))))))))
          have hsN' : s = N := by omega
          obtain ⟨h1, h2, h3, h4⟩ : (∀ v, inM es v = true → ∀ k fw u, Ed l cs (-1) k fw v u → inM es u = true) ∧ inM es fn = true ∧ (∀ u, inM es u = true → Rch l cs (-1) fn u) ∧ ∀ t : Nat, t < s → net l cs t < 0 → inM es t = false := by
            rcases hcond with h | h
            · exact (not_all_nonneg (net_sum hm cs l.length (Nat.le_refl _)) hfn hpos (fun t ht => h t (by omega))).elim
            · exact h
          obtain ⟨ck, hKm⟩ := hmet.K
          have hkeys : ∀ x ∈ es.toList, ∃ l, keyOf Try.prog 3 x.key = some l := fun x hx => by
            obtain ⟨⟨a, h1, h2, h3⟩, _⟩ := hmet.hes x hx
            rw [h1]; exact key3 a ⟨by omega, by omega⟩
          refine Fb f130_0 rfl (Fb f49_0 rfl (L1 Try.underlying3 (cellAt (kB K1e hB7) rfl) rfl (Mv (Nl (Tn (Bk ?_))))))
          refine GC_loop (fun m σ w' => ∃ (j : Nat) (τ : Nat → Value), σ = upd (upd (upd (upd τ 3 (.int .i64 (sumN (pw2 (inM es)) j))) 12 (.map (some gm))) 86 (.int .i64 N)) 87 (.int .i64 j) ∧ j ≤ N ∧ m = N - j ∧ w' = w7) (N) ⟨0, _, has rfl (has rfl (has rfl (has rfl rfl))), Nat.zero_le _, rfl, rfl⟩ ?_
          rintro m _ w8 ⟨j, τ8, rfl, hj, rfl, rfl⟩
          refine Sq (Rg ?_)
          refine g_lss rfl rfl (h1 := fun c88 => ?_) (h2 := fun c88 => ?_)
          · skip
            refine Nl (Tn (Sq (Ct rfl (Sk (Tn (Sq (Bk (Sq (Rg (Mv (As (Nl (Tn (Sq (Rg (Mv (Mv ?_)))))))))))))))))
            have hjl : j < N := by omega
            obtain ⟨ks, hks⟩ := key3 (j : Int) (by omega)
            have hpb := pw2_bd (inM es) j (by omega)
            have hp6 := pow6 (N := j) (by omega)
            have hsum : sumN (pw2 (inM es)) (j + 1) = sumN (pw2 (inM es)) j + pw2 (inM es) j := rfl
            refine g_lookupB K3 Try.underlying146 (zero4 _) hKm hkeys hks (fun e he => (hmet.hes e he).2) rfl rfl (h := fun b92 h92 => ?_)
            have hb92 : b92 = inM es j := by
              cases hq : inM es (j : Int) with
              | true => exact h92.2 (lkB_true.1 hq)
              | false =>
                cases hb : b92 with
                | false => rfl
                | true => rw [show inM es (j : Int) = true from lkB_true.2 (h92.1 hb)] at hq; cases hq
            cases q92 : b92 with
            | true =>
              have hpw : pw2 (inM es) j = 0 := by unfold pw2; rw [← hb92, q92]; rfl
              refine Nt rfl (Nl (Tn (Cf rfl (Sk (Bn (Tn (Rg ?_)))))))
              refine g_add rfl rfl (by omega) (h := ?_)
              refine Mv (Nl ?_)
              exact round_end (N - (j + 1)) (by omega) ⟨j + 1, _, has rfl (has rfl (has rfl (has (by rw [hsum, hpw, Int.add_zero]; rfl) rfl))), hjl, rfl, rfl⟩
            | false =>
              have hpw : pw2 (inM es) j = 2 ^ j := by unfold pw2; rw [← hb92, q92]; rfl
              refine Nt rfl (Nl (Tn (Ct rfl (Rg (Mv (Mv ?_))))))
              refine g_v (r_shl rfl rfl (n := j) rfl (by omega) (by omega)) (h := ?_)
              refine g_add rfl rfl (by omega) (h := ?_)
              refine As (Nl (Bn (Tn (Rg ?_))))
              refine g_add rfl rfl (by omega) (h := ?_)
              refine Mv (Nl ?_)
              exact round_end (N - (j + 1)) (by omega) ⟨j + 1, _, has rfl (has rfl (has rfl (has (by show Value.int .i64 (sumN (pw2 (inM es)) j + 1 * 2 ^ j) = _; rw [hsum, hpw, Int.one_mul]) rfl))), hjl, rfl, rfl⟩
          · skip
            refine Nl (Tn (Sq (Cf rfl (Xi (Tx (Tx (Bs (Tn (Sq (Rg (Mv (As (As (Nl (Tn (Rt (Br (Tr (Br ?_)))))))))))))))))))
            rw [show j = N by omega]
            exact ret2 rfl ⟨.slice none 0 0, _, ret2p rfl rfl, hB37.bel hB7, .inr ⟨rfl, cs, inM es, hIn, ⟨h1, ⟨fn, hfn, h2, hpos⟩, fun t ht hn => h4 t (by omega) hn⟩, rfl⟩⟩
end Go.Proofs.B
