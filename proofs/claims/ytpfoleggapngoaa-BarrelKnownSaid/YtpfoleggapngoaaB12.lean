/- barrel: way, from outside. -/
import Derived.Test.YtpfoleggapngoaaGd
import Derived.Test.YtpfoleggapngoaaB11
set_option linter.unusedVariables false
set_option linter.unusedSimpArgs false
set_option maxRecDepth 10000
namespace Go.Proofs.B
open Go Go.RowKit Go.Proofs Go.Proofs.G Go.Proofs.F Go.Proofs.YtpfoleggapngoaaW.PrintWords
theorem path_end {l : List S76} {cs : List Int} {wo : Int} : ∀ {steps : List S151} {vs : List Int} {a b : Int}, Path l cs wo a steps vs b → a = b ∨ b ∈ vs
  | [], [], _, _, h => .inl h
  | [], _ :: _, _, _, h => by cases h
  | _ :: _, [], _, _, h => by cases h
  | _ :: ss, v :: vs, a, b, h => by
    rcases path_end h.2 with rfl | h2
    · exact .inr (by simp)
    · exact .inr (by simp [h2])
/-- What way says: a way, or all that can be reached, the target not. -/
def WayPost (l : List S76) (cs : List Int) (src tgt wo : Int) (met : Int → Bool) (steps : List S151) : Prop :=
  (met tgt = true ∧ ∃ vs, Path l cs wo src steps vs tgt ∧ vs.Nodup ∧ src ∉ vs) ∨
  (met tgt = false ∧ met src = true ∧ (∀ v, met v = true → ∀ k fw u, Ed l cs wo k fw v u → met u = true) ∧ ∀ u, met u = true → Rch l cs wo src u)
theorem ret2m {v v' u u' : Value} (h : v = v') (h2 : u = u') : Ending.returned (.tuple #[v, u]) = .returned (.tuple #[v', u']) := by rw [h, h2]
structure MetAt (w : World) (gM : Nat) (es : Array MapEntry) (N : Nat) : Prop where
  K : ∃ clock, w.heap[gM]? = some (.map es clock)
  hes : ∀ e ∈ es.toList, (∃ a, e.key = .int .i64 a ∧ 0 ≤ a ∧ a < N) ∧ e.val = .bool true
set_option maxHeartbeats 2000000 in
theorem way_c (N : Nat) (l : List S76) (A : Option Addr) (c : Nat) (cs : List Int) (B : Option Addr) (d : Nat) (src tgt wo : Int) (w : World) (hs : k76.C w A l.length l) (hc : (Kd.int .i64).C w B cs.length cs) (hlen : cs.length = l.length) (hN : N ≤ 1000) (hl10 : l.length ≤ 1000)
    (hm : ∀ k, k < l.length → (0 ≤ (mv l k).f0 ∧ (mv l k).f0 < N) ∧ (0 ≤ (mv l k).f1 ∧ (mv l k).f1 < N)) (hne : ∀ k, k < l.length → (mv l k).f0 ≠ (mv l k).f1) (hsrc : 0 ≤ src ∧ src < N) (hst : src ≠ tgt) :
    Calls Try.prog 97 #[.agg #[.int .i64 N, .slice A l.length c], .slice B cs.length d, .int .i64 src, .int .i64 tgt, .int .i64 wo] w fun e w' =>
      ∃ v gM es steps, e = .returned (.tuple #[v, .map (some gM)]) ∧ MetAt w' gM es N ∧ WayPost l cs src tgt wo (inM es) steps ∧ k151.R 151 w' w.heap.size (fun _ => True) v steps ∧ steps.length ≤ N ∧ Bel w w' := by
  obtain ⟨kl, hkl⟩ := key3 src (by omega)
  refine G_enter (l := [.agg #[.int .i64 N, .slice A l.length c], .slice B cs.length d, .int .i64 src, .int .i64 tgt, .int .i64 wo]) Try.func97 rfl rfl ?_
  refine Sq (Rg ?_)
  refine g_box rfl (h := fun g5 w5 N5 => ?_)
  have K5 := N5.at_
  refine g_box rfl (h := fun g6 w6 N6 => ?_)
  have K6 := N6.at_
  refine g_box rfl (h := fun g8 w8 N8 => ?_)
  have K8 := N8.at_
  refine g_box rfl (h := fun g9 w9 N9 => ?_)
  have K9 := N9.at_
  have hB9 : Bel w w9 := (((Bel.of_new N5).new N6).new N8).new N9
  have K5a := kN (kN (kN K5 N6) N8) N9
  have K6a := kN (kN K6 N8) N9
  have K8a := kN K8 N9
  refine As (As (Nl (Tn (Sq (Rg ?_)))))
  refine g_makeMap (h := fun gM w16 N16 => ?_)
  refine Mv ?_
  refine g_insert2 K3 Try.underlying146 N16.at_ (fun e he => by simp at he) hkl rfl rfl rfl (h := fun es1 clock1 w17 P17 hes1 hlk1 => ?_)
  refine Mv ?_
  refine g_alloc (z := .map none) (by kernel_rfl) (h := fun g12 w12 N12 => ?_)
  have K12 := N12.at_
  have K12a : w12.heap[g12]? = some (.cells #[.map none] 146 (0, 0)) := K12
  refine g_store1 rfl rfl info146 K12a (by decide) (h := fun w18 P18 => ?_)
  refine Nl (Tn (Sq (Rg ?_)))
  refine g_alloc (z := .nilFunc) (by kernel_rfl) (h := fun g13 w13 N13 => ?_)
  have K13 := N13.at_
  have K13a : w13.heap[g13]? = some (.cells #[.nilFunc] 152 (0, 0)) := K13
  refine Nl (Tn (Sq (Rg (Mf ?_))))
  refine g_store1 rfl rfl info152 K13a (by decide) (h := fun w19 P19 => ?_)
  have hgM : w.heap.size ≤ gM := Nat.le_trans hB9.size N16.ge
  have hB17 : Bel w w17 := (hB9.new N16).put P17 hgM
  have hB18 : Bel w w18 := (hB17.new N12).put P18 (Nat.le_trans hB17.size N12.ge)
  have hB19 : Bel w w19 := (hB18.new N13).put P19 (Nat.le_trans hB18.size N13.ge)
  have lift : ∀ {g : Nat} {cs : Array Value} {t : TypeId}, w9.heap[g]? = some (.cells cs t (0, 0)) → w19.heap[g]? = some (.cells cs t (0, 0)) := fun K => by
    have a1 := kP (kN K N16) P17 (N16.ne K)
    have a2 := kP (kN a1 N12) P18 (N12.ne a1)
    exact kP (kN a2 N13) P19 (N13.ne a2)
  have KM12 := kP (kN P17.at_ N12) P18 (N12.ne P17.at_)
  have KM19 := kP (kN KM12 N13) P19 (N13.ne KM12)
  have K12c := P18.at_
  have K12d := kP (kN K12c N13) P19 (N13.ne K12c)
  have env : WEnv N l A c cs B d tgt wo g8 g5 g9 g12 g6 g13 gM es1 clock1 w19 := ⟨lift K8a, lift K5a, lift K9, K12d, lift K6a, P19.at_, KM19, fun e he => by
    rcases hes1 e he with h | ⟨h1, h2⟩
    · simp at h
    · exact ⟨⟨src, h1, hsrc⟩, h2⟩⟩
  have hin1 : ∀ v, inM es1 v = true ↔ v = src := fun v => by
    rw [show inM es1 v = lkB es1 (.int .i64 v) from rfl, hlk1, lkB_true]
    constructor
    · rintro (⟨a, ha, _⟩ | h)
      · simp at ha
      · injection h
    · rintro rfl; exact .inr rfl
  refine Nl (Tn (Sq (Rg (L1 Try.underlying152 (cellAt env.Kon rfl) rfl (Mv ?_)))))
  refine g_callv he99 rfl rfl (way1_c w N l A c cs B d tgt wo g8 g5 g9 g12 g6 g13 gM hs hc hlen hN hl10 hm hne hgM _ src w19 es1 clock1 rfl hB19 env ((hin1 src).2 rfl)) (h := ?_)
  rintro e w23 ⟨v23, b23, es', clock', steps, rfl, hch23, env23, ⟨hm1, hT, hF, hR⟩, HR23, hsl⟩
  refine ⟨_, rfl, ?_⟩
  have hB23 : Bel w w23 := hch23.step hB19 hB19.size (fun i hi h => by omega)
  have hum : unmet N es1 ≤ N := by
    unfold unmet
    exact Nat.le_trans (List.length_filter_le _ _) (by simp)
  have hpost : WayPost l cs src tgt wo (inM es') steps := by
    cases hb : b23 with
    | true =>
      obtain ⟨vs, h1, h2, h3⟩ := hT hb
      refine .inl ⟨?_, vs, h1, h2, fun h => ?_⟩
      · rcases path_end h1 with h | h
        · exact absurd h hst
        · exact (h3 _ h).2
      · have := (h3 _ h).1; rw [(hin1 src).2 rfl] at this; cases this
    | false =>
      obtain ⟨h1, h2, h3⟩ := hF hb
      refine .inr ⟨?_, hm1 _ ((hin1 src).2 rfl), fun v hv => h2 v ?_, fun u hu => ?_⟩
      · cases hq : inM es' tgt with
        | false => rfl
        | true => exact absurd ((hin1 tgt).1 (h3 hq)).symm hst
      · by_cases hvs : v = src
        · exact .inl hvs
        · refine .inr ⟨hv, ?_⟩
          cases hq : inM es1 v with
          | false => rfl
          | true => exact absurd ((hin1 v).1 hq) hvs
      · rcases hR u hu with h | h
        · rw [(hin1 u).1 h]; exact .refl
        · exact h
  refine Mv (Xt rfl rfl (Xt rfl rfl (As (As (Nl (Tn (Sq (Sq (Rg (Mv ?_))))))))))
  cases q26 : b23 with
  | true =>
    refine Nt rfl (Nl (Tn (Cf rfl (Sk (Tn (Sq ?_))))))
    refine GD_start 4 [] (fun w' => w' = w23.drewN 1) (by kernel_rfl) rfl ?_
    refine GD_pure 0 rfl (by kernel_rfl) (by kernel_rfl) (by kernel_rfl) (by kernel_rfl) rfl rfl rfl (qv fun wq hC => by exact r_move) ?_
    refine GD_take 1 rfl (by kernel_rfl) (by kernel_rfl) (by kernel_rfl) (by kernel_rfl) rfl rfl rfl (qv fun wq hC => by exact r_load1 rfl Try.underlying146 (by subst hC; exact cellAt env23.Kmet rfl)) ?_
    refine GD_pure 2 rfl (by kernel_rfl) (by kernel_rfl) (by kernel_rfl) (by kernel_rfl) rfl rfl rfl (qv fun wq hC => by exact r_assign) ?_
    refine GD_pure 3 rfl (by kernel_rfl) (by kernel_rfl) (by kernel_rfl) (by kernel_rfl) rfl rfl rfl (qv fun wq hC => by exact r_assign) ?_
    refine GD_end (by kernel_rfl) (fun _ => rfl) ?_
    refine Tn (Rt ?_)
    exact ret2 rfl ⟨v23, gM, es', steps, ret2m rfl rfl, ⟨⟨clock', env23.KM⟩, env23.hes⟩, hpost, Kd.R_lower (rB HR23 (Bel.drew (Below.refl _ _))) hB19.size, by omega, hB23.drew⟩
  | false =>
    refine Nt rfl (Nl (Tn (Ct rfl (Sq ?_))))
    refine GD_start 3 [] (fun w' => w' = w23.drewN 1) (by kernel_rfl) rfl ?_
    refine GD_take 0 rfl (by kernel_rfl) (by kernel_rfl) (by kernel_rfl) (by kernel_rfl) rfl rfl rfl (qv fun wq hC => by exact r_load1 rfl Try.underlying146 (by subst hC; exact cellAt env23.Kmet rfl)) ?_
    refine GD_pure 1 rfl (by kernel_rfl) (by kernel_rfl) (by kernel_rfl) (by kernel_rfl) rfl rfl rfl (qv fun wq hC => by exact r_assign) ?_
    refine GD_pure 2 rfl (by kernel_rfl) (by kernel_rfl) (by kernel_rfl) (by kernel_rfl) rfl rfl rfl (qv fun wq hC => by exact r_assign) ?_
    refine GD_end (by kernel_rfl) (fun _ => rfl) ?_
    refine Tn (Rt (Tr ?_))
    refine ret2 rfl ⟨.slice none 0 0, gM, es', [], ret2m rfl rfl, ⟨⟨clock', env23.KM⟩, env23.hes⟩, ?_, Kd.R_nil _ _ _ _ _, Nat.zero_le _, hB23.drew⟩
    rcases hpost with ⟨h, _⟩ | h
    · exact absurd ((hin1 tgt).1 ((hF q26).2.2 h)).symm hst
    · exact .inr h
end Go.Proofs.B
