/- barrel: way. -/
import Derived.Test.YtpfoleggapngoaaGd
import Derived.Test.YtpfoleggapngoaaB10
set_option linter.unusedVariables false
set_option linter.unusedSimpArgs false
set_option maxRecDepth 10000
namespace Go.Proofs.B
open Go Go.RowKit Go.Proofs Go.Proofs.G Go.Proofs.F Go.Proofs.YtpfoleggapngoaaW.PrintWords
/-! ### Ways -/
/-- By move k one more barrel can come from a tgt b (fw: fewer of the move go). -/
def Ed (l : List S76) (cs : List Int) (wo : Int) (k : Nat) (fw : Bool) (a b : Int) : Prop :=
  k < l.length ∧ (k : Int) ≠ wo ∧ ((fw = false ∧ a = (mv l k).f0 ∧ b = (mv l k).f1 ∧ rd cs k < (mv l k).f2.f1) ∨ (fw = true ∧ a = (mv l k).f1 ∧ b = (mv l k).f0 ∧ (mv l k).f2.f0 < rd cs k))
def Path (l : List S76) (cs : List Int) (wo : Int) : Int → List S151 → List Int → Int → Prop
  | a, [], [], b => a = b
  | a, s :: ss, v :: vs, b => (∃ k : Nat, s.f0 = k ∧ Ed l cs wo k s.f1 a v) ∧ Path l cs wo v ss vs b
  | _, _, _, _ => False
inductive Rch (l : List S76) (cs : List Int) (wo : Int) (a : Int) : Int → Prop
  | refl : Rch l cs wo a a
  | step {v u : Int} {k : Nat} {fw : Bool} : Rch l cs wo a v → Ed l cs wo k fw v u → Rch l cs wo a u
theorem Rch.trans {l : List S76} {cs : List Int} {wo a v u : Int} (h : Rch l cs wo a v) (h2 : Rch l cs wo v u) : Rch l cs wo a u := by
  induction h2 with
  | refl => exact h
  | step _ he ih => exact .step ih he
theorem Rch.closed {l : List S76} {cs : List Int} {wo a u : Int} {met : Int → Bool} (h : Rch l cs wo a u) (ha : met a = true) (hc : ∀ v, met v = true → ∀ k fw u, Ed l cs wo k fw v u → met u = true) : met u = true := by
  induction h with
  | refl => exact ha
  | step _ he ih => exact hc _ ih _ _ _ he
noncomputable abbrev inM (es : Array MapEntry) (v : Int) : Bool := lkB es (.int .i64 v)
noncomputable def unmet (N : Nat) (es : Array MapEntry) : Nat := ((List.range N).filter (fun (v : Nat) => !inM es (v : Int))).length
theorem filter_lt {α : Type} {p q : α → Bool} (h : ∀ x, q x = true → p x = true) : ∀ {l : List α}, (∃ x ∈ l, p x = true ∧ q x = false) → (l.filter q).length < (l.filter p).length
  | [], ⟨x, hx, _⟩ => by cases hx
  | y :: l, ⟨x, hx, h1, h2⟩ => by
    have hle : ∀ l : List α, (l.filter q).length ≤ (l.filter p).length := fun l => by
      induction l with
      | nil => exact Nat.le_refl _
      | cons z l ih =>
        simp only [List.filter_cons]
        cases hq : q z with
        | true => rw [h z hq]; simp only [if_true, List.length_cons]; omega
        | false =>
          simp only [Bool.false_eq_true, if_false]
          split
          · simp only [List.length_cons]; omega
          · exact ih
    simp only [List.filter_cons]
    rcases List.mem_cons.1 hx with rfl | hx
    · rw [h1, h2]
      have := hle l
      simp only [if_true, Bool.false_eq_true, if_false, List.length_cons]; omega
    · have ih := filter_lt h ⟨x, hx, h1, h2⟩
      cases hq : q y with
      | true => rw [h y hq]; simp only [if_true, List.length_cons]; omega
      | false =>
        simp only [Bool.false_eq_true, if_false]
        split
        · simp only [List.length_cons]; omega
        · exact ih
theorem unmet_lt {N : Nat} {es es' : Array MapEntry} {v : Int} (h : ∀ k, lkB es' k = true ↔ (lkB es k = true ∨ k = .int .i64 v)) (h0 : 0 ≤ v ∧ v < N) (hv : inM es v = false) : unmet N es' < unmet N es := by
  obtain ⟨u, rfl⟩ := Int.eq_ofNat_of_zero_le h0.1
  refine filter_lt (fun x hx => ?_) ⟨u, by simp; have := h0.2; omega, by rw [hv]; rfl, ?_⟩
  · cases hq : inM es (x : Int) with
    | false => rfl
    | true => rw [show inM es' (x : Int) = true from (h _).2 (.inl hq)] at hx; cases hx
  · rw [show inM es' (u : Int) = true from (h _).2 (.inr rfl)]; rfl
theorem K3 : Maps.Keyed Try.prog 3 := Maps.int_keyed Try.underlying3
theorem key3 (n : Int) (h : -1000000 ≤ n ∧ n ≤ 1000000) : ∃ l, keyOf Try.prog 3 (.int .i64 n) = some l := by
  unfold keyOf
  simp [Try.underlying3, mapKey, wfi h]
theorem build139 (w : World) (a b c d : Value) : (Instr.build 139 #[(0, .agg #[a, b, c, d])]).run Try.prog w = .ok (.agg #[a, b, c, d]) w := by kernel_rfl
theorem build151 (w : World) (a : Int) (b : Bool) : (Instr.build 151 #[(0, .int .i64 a), (1, .bool b)]).run Try.prog w = .ok (.agg #[.int .i64 a, .bool b]) w := by kernel_rfl
theorem bs147 (w : World) (a : Int) (b : Bool) : (Instr.buildSlice 147 1 #[(0, .agg #[.int .i64 a, .bool b])]).run Try.prog w = .ok (.slice (some ⟨w.heap.size, 0, none⟩) 1 1) (w.alloc (.cells #[.int .i64 a, .bool b] 151)) := by kernel_rfl
theorem zi151 : (Try.prog.info? 151).map (fun i => (i.zero, i.size, i.bytes)) = some (some (.agg #[.int .i64 0, .bool false]), 2, 16) := by kernel_rfl
structure WEnv (N : Nat) (l : List S76) (A : Option Addr) (c : Nat) (cs : List Int) (B : Option Addr) (d : Nat) (tgt wo : Int) (gto gb gwo gmet gc gon gM : Nat) (es : Array MapEntry) (clock : Nat) (w : World) : Prop where
  Kto : w.heap[gto]? = some (.cells #[.int .i64 tgt] 3 (0, 0))
  Kb : w.heap[gb]? = some (.cells #[.int .i64 N, .slice A l.length c] 130 (0, 0))
  Kwo : w.heap[gwo]? = some (.cells #[.int .i64 wo] 3 (0, 0))
  Kmet : w.heap[gmet]? = some (.cells #[.map (some gM)] 146 (0, 0))
  Kc : w.heap[gc]? = some (.cells #[.slice B cs.length d] 22 (0, 0))
  Kon : w.heap[gon]? = some (.cells #[.func (.func 99) #[] #[.pointer (some ⟨gto, 0, none⟩), .pointer (some ⟨gb, 0, none⟩), .pointer (some ⟨gwo, 0, none⟩), .pointer (some ⟨gmet, 0, none⟩), .pointer (some ⟨gc, 0, none⟩), .pointer (some ⟨gon, 0, none⟩)]] 152 (0, 0))
  KM : w.heap[gM]? = some (.map es clock)
  hes : ∀ e ∈ es.toList, (∃ a, e.key = .int .i64 a ∧ 0 ≤ a ∧ a < N) ∧ e.val = .bool true
section
variable {N : Nat} {l : List S76} {A : Option Addr} {c : Nat} {cs : List Int} {B : Option Addr} {d : Nat} {tgt wo : Int} {gto gb gwo gmet gc gon gM : Nat} {es : Array MapEntry} {clock : Nat} {w w' : World}
theorem WEnv.bel (h : WEnv N l A c cs B d tgt wo gto gb gwo gmet gc gon gM es clock w) (hb : Bel w w') : WEnv N l A c cs B d tgt wo gto gb gwo gmet gc gon gM es clock w' :=
  ⟨kB h.Kto hb, kB h.Kb hb, kB h.Kwo hb, kB h.Kmet hb, kB h.Kc hb, kB h.Kon hb, kB h.KM hb, h.hes⟩
theorem WEnv.keys (h : WEnv N l A c cs B d tgt wo gto gb gwo gmet gc gon gM es clock w) (hN : N ≤ 1000) : ∀ x ∈ es.toList, ∃ l, keyOf Try.prog 3 x.key = some l := fun x hx => by
  obtain ⟨⟨a, h1, h2, h3⟩, _⟩ := h.hes x hx
  rw [h1]; exact key3 a ⟨by omega, by omega⟩
theorem WEnv.put {es' : Array MapEntry} {clock' : Nat} (h : WEnv N l A c cs B d tgt wo gto gb gwo gmet gc gon gM es clock w) (hp : Put w w' gM (.map es' clock')) (he : ∀ e ∈ es'.toList, (∃ a, e.key = .int .i64 a ∧ 0 ≤ a ∧ a < N) ∧ e.val = .bool true) : WEnv N l A c cs B d tgt wo gto gb gwo gmet gc gon gM es' clock' w' :=
  ⟨kP h.Kto hp (ne_map h.Kto h.KM), kP h.Kb hp (ne_map h.Kb h.KM), kP h.Kwo hp (ne_map h.Kwo h.KM), kP h.Kmet hp (ne_map h.Kmet h.KM), kP h.Kc hp (ne_map h.Kc h.KM), kP h.Kon hp (ne_map h.Kon h.KM), hp.at_, he⟩
end
theorem ret2s {v v' : Value} {b b' : Bool} (h : v = v') (h2 : b = b') : Ending.returned (.tuple #[v, .bool b]) = .returned (.tuple #[v', .bool b']) := by rw [h, h2]
/-- What on(a) says. -/
def OnPost (l : List S76) (cs : List Int) (tgt wo : Int) (a : Int) (es es' : Array MapEntry) (b : Bool) (steps : List S151) : Prop :=
  (∀ k, lkB es k = true → lkB es' k = true) ∧
  (b = true → ∃ vs, Path l cs wo a steps vs tgt ∧ vs.Nodup ∧ ∀ v ∈ vs, inM es v = false ∧ inM es' v = true) ∧
  (b = false → a ≠ tgt ∧ (∀ v, (v = a ∨ (inM es' v = true ∧ inM es v = false)) → ∀ k fw u, Ed l cs wo k fw v u → inM es' u = true) ∧ (inM es' tgt = true → inM es tgt = true)) ∧
  (∀ u, inM es' u = true → inM es u = true ∨ Rch l cs wo a u)
def Can (l : List S76) (cs : List Int) (wo a nx : Int) (es : Array MapEntry) (k : Nat) : Prop :=
  (k : Int) ≠ wo ∧ inM es nx = false ∧ ((a = (mv l k).f0 ∧ rd cs k < (mv l k).f2.f1) ∨ (a = (mv l k).f1 ∧ (mv l k).f2.f0 < rd cs k))

set_option maxHeartbeats 8000000 in
theorem way1_c (w0 : World) (N : Nat) (l : List S76) (A : Option Addr) (c : Nat) (cs : List Int) (B : Option Addr) (d : Nat) (tgt wo : Int) (gto gb gwo gmet gc gon gM : Nat) (hs : k76.C w0 A l.length l) (hc : (Kd.int .i64).C w0 B cs.length cs) (hlen : cs.length = l.length) (hN : N ≤ 1000) (hl10 : l.length ≤ 1000)
    (hm : ∀ k, k < l.length → (0 ≤ (mv l k).f0 ∧ (mv l k).f0 < N) ∧ (0 ≤ (mv l k).f1 ∧ (mv l k).f1 < N)) (hne : ∀ k, k < l.length → (mv l k).f0 ≠ (mv l k).f1) (hgM : w0.heap.size ≤ gM) :
    ∀ (n : Nat) (a : Int) (w : World) (es : Array MapEntry) (clock : Nat), unmet N es = n → Bel w0 w → WEnv N l A c cs B d tgt wo gto gb gwo gmet gc gon gM es clock w → inM es a = true →
      Calls Try.prog 99 #[.int .i64 a, .pointer (some ⟨gto, 0, none⟩), .pointer (some ⟨gb, 0, none⟩), .pointer (some ⟨gwo, 0, none⟩), .pointer (some ⟨gmet, 0, none⟩), .pointer (some ⟨gc, 0, none⟩), .pointer (some ⟨gon, 0, none⟩)] w fun e w' =>
        ∃ v b es' clock' steps, e = .returned (.tuple #[v, .bool b]) ∧ Ch (fun k => k = gM) w w' ∧ WEnv N l A c cs B d tgt wo gto gb gwo gmet gc gon gM es' clock' w' ∧ OnPost l cs tgt wo a es es' b steps ∧ k151.R 151 w' w.heap.size (fun _ => True) v steps ∧ steps.length ≤ unmet N es := by
  intro n
  induction n using Nat.strongRecOn with
  | _ n ih =>
    intro a w es clock hn hB0 env ha
    refine G_enter (l := [.int .i64 a, .pointer (some ⟨gto, 0, none⟩), .pointer (some ⟨gb, 0, none⟩), .pointer (some ⟨gwo, 0, none⟩), .pointer (some ⟨gmet, 0, none⟩), .pointer (some ⟨gc, 0, none⟩), .pointer (some ⟨gon, 0, none⟩)]) Try.func99 rfl rfl ?_
    refine Sq (Rg (As (As (Nl (Tn (Sq (Sq (Rg (Mv (L1 Try.underlying3 (cellAt env.Kto rfl) rfl ?_))))))))))
    refine g_eql rfl rfl (h1 := fun c19 => ?_) (h2 := fun c19 => ?_)
    · skip
      refine Nl (Tn (Ct rfl (Sq (Rg (As (As (Nl (Tn (Rt (Tr ?_))))))))))
      exact ret2 rfl ⟨.slice none 0 0, true, es, clock, [], ret2s rfl rfl, Ch.refl _ _, env, ⟨fun _ h => h, fun _ => ⟨[], c19, List.nodup_nil, fun v hv => by cases hv⟩, fun h => absurd h.symm Bool.false_ne_true, fun u h => .inl h⟩, Kd.R_nil _ _ _ _ _, Nat.zero_le _⟩
    · skip
      refine Nl (Tn (Cf rfl (Sk (Tn (Sq (Sq (Rg (Fb f130_0 rfl (Fb f49_1 rfl (L1 Try.underlying47 (cellAt env.Kb rfl) rfl (Ln Try.underlying47 rfl (Mv (Nl (Tn (Bk ?_)))))))))))))))
      refine GC_loop (fun m σ w' => ∃ (k : Nat) (es2 : Array MapEntry) (clock2 : Nat) (τ : Nat → Value), σ = upd (upd (upd (upd (upd (upd (upd (upd (upd (upd τ 0 (.int .i64 a)) 1 (.pointer (some ⟨gto, 0, none⟩))) 2 (.pointer (some ⟨gb, 0, none⟩))) 3 (.pointer (some ⟨gwo, 0, none⟩))) 4 (.pointer (some ⟨gmet, 0, none⟩))) 5 (.pointer (some ⟨gc, 0, none⟩))) 6 (.pointer (some ⟨gon, 0, none⟩))) 22 (.slice A l.length c)) 23 (.int .i64 l.length)) 24 (.int .i64 k) ∧ k ≤ l.length ∧ m = l.length - k ∧ WEnv N l A c cs B d tgt wo gto gb gwo gmet gc gon gM es2 clock2 w' ∧ Bel w0 w' ∧ Ch (fun k => k = gM) w w' ∧ (∀ q, lkB es q = true → lkB es2 q = true) ∧ (∀ j, j < k → ∀ fw u, Ed l cs wo j fw a u → inM es2 u = true) ∧ (∀ v, inM es2 v = true → inM es v = false → ∀ j fw u, Ed l cs wo j fw v u → inM es2 u = true) ∧ (inM es2 tgt = true → inM es tgt = true) ∧ (∀ u, inM es2 u = true → inM es u = true ∨ Rch l cs wo a u)) (l.length) ⟨0, es, clock, _, has rfl (has rfl (has rfl (has rfl (has rfl (has rfl (has rfl (has rfl (has rfl (has rfl rfl))))))))), Nat.zero_le _, rfl, env, hB0, Ch.refl _ _, fun _ h => h, fun j hj => absurd hj (by omega), fun v h1 h2 => (by rw [h1] at h2; cases h2), fun h => h, fun u h => .inl h⟩ ?_
      rintro m _ wl ⟨k, es2, clock2, τ, rfl, hk, rfl, envl, hB0l, hchl, hmono, hproc, hfin, hto, hreach⟩
      refine Sq (Rg ?_)
      refine g_lss rfl rfl (h1 := fun c25 => ?_) (h2 := fun c25 => ?_)
      · skip
        refine Nl (Tn (Sq (Ct rfl (Sk (Tn (Sq (Bk (Sq (Rg (Mv ?_))))))))))
        have hkl : k < l.length := by omega
        obtain ⟨ad, hA, h28⟩ := at76 hs hB0l k hkl
        obtain ⟨adB, hBB, hcnt⟩ := Kd.at_int hc k (by omega) (by omega)
        obtain ⟨hm0, hm1⟩ := hm k hkl
        have hmk := mv_get l k hkl
        have hnek := hne k hkl
        have hma : (List.length l : Int) ≤ 1000 := by omega
        refine g_indexS (ad := ad) Try.underlying47 info76 (by rw [← hA]; rfl) rfl (by omega) (by omega) rfl (h := ?_)
        refine g_loadA rfl Try.underlying76 info76 (l := enc76 l[k]) h28 (h := ?_)
        refine g_alloc (z := zero76) (by kernel_rfl) (h := fun g11 w11 N11 => ?_)
        have K11 := N11.at_
        refine As ?_
        refine g_storeA rfl rfl info76 K11 rfl (one76 _) (h := fun w5 P5 => ?_)
        have K11a : w5.heap[g11]? = some (.cells (enc76 (mv l k)).toArray 76 (0, 0)) := by rw [hmk]; exact P5.at_
        have hB5 : Bel wl w5 := (Bel.of_new N11).put P5 N11.ge
        refine Nl (Tn (Sq ?_))
        have hB6 : Bel wl (w5.drewN 1) := hB5.drew
        have K11b : (w5.drewN 1).heap[g11]? = some (.cells (enc76 (mv l k)).toArray 76 (0, 0)) := K11a
        refine GD_start 7 [] (fun w' => w'.heap[g11]? = some (.cells (enc76 (mv l k)).toArray 76 (0, 0))) (by kernel_rfl) rfl ?_
        refine GD_pure 0 rfl (by kernel_rfl) (by kernel_rfl) (by kernel_rfl) (by kernel_rfl) rfl rfl rfl (qv fun wq hC => by exact r_move) ?_
        refine GD_pure 1 rfl (by kernel_rfl) (by kernel_rfl) (by kernel_rfl) (by kernel_rfl) rfl rfl rfl (qv fun wq hC => by exact r_bld (build151 _ _ _) rfl) ?_
        refine GD_pure 2 rfl (by kernel_rfl) (by kernel_rfl) (by kernel_rfl) (by kernel_rfl) rfl rfl rfl (qv fun wq hC => by exact r_fieldAddrB f76_1 rfl) ?_
        refine GD_take 3 rfl (by kernel_rfl) (by kernel_rfl) (by kernel_rfl) (by kernel_rfl) rfl rfl rfl (qv fun wq hC => by exact r_load1 rfl Try.underlying3 (cellAt hC rfl)) ?_
        refine GD_one 4 (by kernel_rfl) (fun _ => K11b) ?_
        refine GO_alloc (z := .agg #[.int .i64 0, .bool false]) rfl rfl rfl (by kernel_rfl) (fun g12 w12 N12 => ?_)
        have hg12 : wl.heap.size ≤ g12 := Nat.le_trans hB6.size N12.ge
        have hB6 := hB6.new N12
        have K11b := kN (w1 := w5.drewN 1) K11b N12
        refine GD_one 5 (by kernel_rfl) (fun _ => K11b) ?_
        refine GO_storeA rfl rfl rfl rfl info151 N12.at_ rfl (by simp [Value.oneCell']) (fun w6 P6 => ?_)
        have K11b := kP K11b P6 (ne_ty K11b N12.at_ (by decide))
        have K12b : w6.heap[g12]? = some (.cells #[.int .i64 k, .bool false] 151 (0, 0)) := P6.at_
        have hB6 := hB6.put P6 hg12
        refine GD_pure 6 rfl (by kernel_rfl) (by kernel_rfl) (by kernel_rfl) (by kernel_rfl) rfl rfl rfl (qv fun wq hC => by exact r_assign) ?_
        refine GD_end (by kernel_rfl) (fun _ => K11b) ?_
        refine Tn ?_
        refine GC_join (fun σ w' => ∃ (fw : Bool) (nx : Int) (τ : Nat → Value), σ = upd (upd (upd (upd (upd (upd (upd (upd (upd (upd (upd (upd (upd (upd τ 0 (.int .i64 a)) 1 (.pointer (some ⟨gto, 0, none⟩))) 2 (.pointer (some ⟨gb, 0, none⟩))) 3 (.pointer (some ⟨gwo, 0, none⟩))) 4 (.pointer (some ⟨gmet, 0, none⟩))) 5 (.pointer (some ⟨gc, 0, none⟩))) 6 (.pointer (some ⟨gon, 0, none⟩))) 10 (.int .i64 k)) 11 (.pointer (some ⟨g11, 0, none⟩))) 12 (.pointer (some ⟨g12, 0, none⟩))) 13 (.int .i64 nx)) 22 (.slice A l.length c)) 23 (.int .i64 l.length)) 24 (.int .i64 k) ∧ w'.heap[g11]? = some (.cells (enc76 (mv l k)).toArray 76 (0, 0)) ∧ w'.heap[g12]? = some (.cells #[.int .i64 k, .bool fw] 151 (0, 0)) ∧ Bel wl w' ∧ ((a = (mv l k).f1 ∧ fw = true ∧ nx = (mv l k).f0) ∨ (a ≠ (mv l k).f1 ∧ fw = false ∧ nx = (mv l k).f1))) ?_ ?_
        · skip
          refine Sq (Rg (Mv (Fb f76_1 rfl (L1 Try.underlying3 (cellAt K11b rfl) rfl ?_))))
          refine g_eql rfl rfl (h1 := fun c36 => ?_) (h2 := fun c36 => ?_)
          · skip
            refine Nl (Tn (Ct rfl ?_))
            have hB8 : Bel wl (w6.drewN 1) := hB6.drew
            have K11c : (w6.drewN 1).heap[g11]? = some (.cells (enc76 (mv l k)).toArray 76 (0, 0)) := K11b
            have K12c : (w6.drewN 1).heap[g12]? = some (.cells #[.int .i64 k, .bool false] 151 (0, 0)) := K12b
            refine GD_start 6 [] (fun w' => w'.heap[g11]? = some (.cells (enc76 (mv l k)).toArray 76 (0, 0))) (by kernel_rfl) rfl ?_
            refine GD_pure 0 rfl (by kernel_rfl) (by kernel_rfl) (by kernel_rfl) (by kernel_rfl) rfl rfl rfl (qv fun wq hC => by exact r_move) ?_
            refine GD_pure 1 rfl (by kernel_rfl) (by kernel_rfl) (by kernel_rfl) (by kernel_rfl) rfl rfl rfl (qv fun wq hC => by exact r_bld (build151 _ _ _) rfl) ?_
            refine GD_pure 2 rfl (by kernel_rfl) (by kernel_rfl) (by kernel_rfl) (by kernel_rfl) rfl rfl rfl (qv fun wq hC => by exact r_fieldAddrB f76_0 rfl) ?_
            refine GD_take 3 rfl (by kernel_rfl) (by kernel_rfl) (by kernel_rfl) (by kernel_rfl) rfl rfl rfl (qv fun wq hC => by exact r_load1 rfl Try.underlying3 (cellAt hC rfl)) ?_
            refine GD_one 4 (by kernel_rfl) (fun _ => K11c) ?_
            refine GO_storeA rfl rfl rfl rfl info151 K12c rfl (by simp [Value.oneCell']) (fun w8 P8 => ?_)
            have K11c := kP K11c P8 (ne_ty K11c K12c (by decide))
            have K12d : w8.heap[g12]? = some (.cells #[.int .i64 k, .bool true] 151 (0, 0)) := P8.at_
            have hB8 := hB8.put P8 hg12
            refine GD_pure 5 rfl (by kernel_rfl) (by kernel_rfl) (by kernel_rfl) (by kernel_rfl) rfl rfl rfl (qv fun wq hC => by exact r_assign) ?_
            refine GD_end (by kernel_rfl) (fun _ => K11c) ?_
            exact join_end ⟨true, (mv l k).f0, _, has rfl (has rfl (has rfl (has rfl (has rfl (has rfl (has rfl (has rfl (has rfl (has rfl (has rfl (has rfl (has rfl (has rfl rfl))))))))))))), K11c, K12d, hB8, .inl ⟨c36, rfl, rfl⟩⟩
          · skip
            refine Nl (Tn (Cf rfl (Sk ?_)))
            exact join_end ⟨false, (mv l k).f1, _, has rfl (has rfl (has rfl (has rfl (has rfl (has rfl (has rfl (has rfl (has rfl (has rfl (has rfl (has rfl (has rfl (has rfl rfl))))))))))))), K11b, K12b, hB6, .inr ⟨c36, rfl, rfl⟩⟩
        · rintro _ w7 ⟨fw, nx, τ7, rfl, K11j, K12j, hB7, hfw⟩
          have env7 := envl.bel hB7
          have hnx : 0 ≤ nx ∧ nx < N := by rcases hfw with ⟨_, _, h⟩ | ⟨_, _, h⟩ <;> omega
          obtain ⟨kl, hkl3⟩ := key3 nx (by omega)
          refine GC_join (fun σ w' => ∃ (b : Bool) (τ : Nat → Value), σ = upd (upd (upd (upd (upd (upd (upd (upd (upd (upd (upd (upd (upd (upd (upd τ 0 (.int .i64 a)) 1 (.pointer (some ⟨gto, 0, none⟩))) 2 (.pointer (some ⟨gb, 0, none⟩))) 3 (.pointer (some ⟨gwo, 0, none⟩))) 4 (.pointer (some ⟨gmet, 0, none⟩))) 5 (.pointer (some ⟨gc, 0, none⟩))) 6 (.pointer (some ⟨gon, 0, none⟩))) 10 (.int .i64 k)) 11 (.pointer (some ⟨g11, 0, none⟩))) 12 (.pointer (some ⟨g12, 0, none⟩))) 13 (.int .i64 nx)) 14 (.bool b)) 22 (.slice A l.length c)) 23 (.int .i64 l.length)) 24 (.int .i64 k) ∧ Bel w7 w' ∧ (b = true → Can l cs wo a nx es2 k) ∧ (b = false → ¬ Can l cs wo a nx es2 k)) ?_ ?_
          · skip
            have hBd : Bel w7 (w7.drewN 1) := Bel.drew (Below.refl _ _)
            have KcB := env7.Kc
            rw [hBB] at KcB
            refine GD_start 42 [] (fun w' => Bel w7 w') (by kernel_rfl) rfl ?_
            refine GD_pure 0 rfl (by kernel_rfl) (by kernel_rfl) (by kernel_rfl) (by kernel_rfl) rfl rfl rfl (qv fun wq hC => by exact r_move) ?_
            refine GD_take 1 rfl (by kernel_rfl) (by kernel_rfl) (by kernel_rfl) (by kernel_rfl) rfl rfl rfl (qv fun wq hC => by exact r_load1 rfl Try.underlying3 (cellAt (kB env7.Kwo hC) rfl)) ?_
            rcases Decidable.em ((k : Int) ≠ wo) with c43 | c43
            · skip
              refine GD_pure 2 rfl (by kernel_rfl) (by kernel_rfl) (by kernel_rfl) (by kernel_rfl) rfl rfl rfl (qv fun wq hC => by exact r_neqT rfl rfl c43) ?_
              refine GD_pure 3 rfl (by kernel_rfl) (by kernel_rfl) (by kernel_rfl) (by kernel_rfl) rfl rfl rfl (qv fun wq hC => by exact r_move) ?_
              refine GD_take 4 rfl (by kernel_rfl) (by kernel_rfl) (by kernel_rfl) (by kernel_rfl) rfl rfl rfl (qv fun wq hC => by exact r_load1 rfl Try.underlying146 (cellAt (kB env7.Kmet hC) rfl)) ?_
              refine GD_pure 5 rfl (by kernel_rfl) (by kernel_rfl) (by kernel_rfl) (by kernel_rfl) rfl rfl rfl (qv fun wq hC => by exact r_move) ?_
              refine GD_take 6 rfl (by kernel_rfl) (by kernel_rfl) (by kernel_rfl) (by kernel_rfl) rfl rfl rfl ((qv fun wq hC => by exact r_lookup (lkB_run K3 Try.underlying146 (zero4 _) (kB env7.KM hC) (env7.keys hN) hkl3 (fun e he => (env7.hes e he).2))) : QR _ _ _ (.bool (lkB es2 (.int .i64 nx)))) ?_
              refine GD_pure 7 rfl (by kernel_rfl) (by kernel_rfl) (by kernel_rfl) (by kernel_rfl) rfl rfl rfl (qv fun wq hC => by exact r_not rfl) ?_
              refine GD_pure 8 rfl (by kernel_rfl) (by kernel_rfl) (by kernel_rfl) (by kernel_rfl) rfl rfl rfl (qv fun wq hC => by exact r_pickT rfl) ?_
              refine GD_pure 9 rfl (by kernel_rfl) (by kernel_rfl) (by kernel_rfl) (by kernel_rfl) rfl rfl rfl (qv fun wq hC => by exact r_move) ?_
              cases q50 : (!lkB es2 (.int .i64 nx)) with
              | true =>
                refine GD_pure 10 rfl (by kernel_rfl) (by kernel_rfl) (by kernel_rfl) (by kernel_rfl) rfl rfl rfl (qv fun wq hC => by exact r_move) ?_
                refine GD_pure 11 rfl (by kernel_rfl) (by kernel_rfl) (by kernel_rfl) (by kernel_rfl) rfl rfl rfl (qv fun wq hC => by exact r_fieldAddrB f76_0 rfl) ?_
                refine GD_take 12 rfl (by kernel_rfl) (by kernel_rfl) (by kernel_rfl) (by kernel_rfl) rfl rfl rfl (qv fun wq hC => by exact r_load1 rfl Try.underlying3 (cellAt (kB K11j hC) rfl)) ?_
                rcases Decidable.em (a = (mv l k).f0) with c54 | c54
                · skip
                  refine GD_pure 13 rfl (by kernel_rfl) (by kernel_rfl) (by kernel_rfl) (by kernel_rfl) rfl rfl rfl (qv fun wq hC => by exact r_eqlT rfl rfl c54) ?_
                  refine GD_pure 14 rfl (by kernel_rfl) (by kernel_rfl) (by kernel_rfl) (by kernel_rfl) rfl rfl rfl (qv fun wq hC => by exact r_move) ?_
                  refine GD_take 15 rfl (by kernel_rfl) (by kernel_rfl) (by kernel_rfl) (by kernel_rfl) rfl rfl rfl (qv fun wq hC => by exact r_load1 rfl Try.underlying22 (cellAt (kB KcB hC) rfl)) ?_
                  refine GD_pure 16 rfl (by kernel_rfl) (by kernel_rfl) (by kernel_rfl) (by kernel_rfl) rfl rfl rfl (qv fun wq hC => by exact r_move) ?_
                  refine GD_pure 17 rfl (by kernel_rfl) (by kernel_rfl) (by kernel_rfl) (by kernel_rfl) rfl rfl rfl (qv fun wq hC => by exact r_indexS Try.underlying22 info3 rfl rfl (by omega) (by omega) (Nat.mul_one _)) ?_
                  refine GD_take 18 rfl (by kernel_rfl) (by kernel_rfl) (by kernel_rfl) (by kernel_rfl) rfl rfl rfl (qv fun wq hC => by exact r_load1 rfl Try.underlying3 (((hB0l.bel hB7).bel hC).cellk hcnt)) ?_
                  refine GD_take 19 rfl (by kernel_rfl) (by kernel_rfl) (by kernel_rfl) (by kernel_rfl) rfl rfl rfl (qv fun wq hC => by exact r_loadA rfl Try.underlying76 info76 (l := enc76 (mv l k)) (cellsAt (kB K11j hC))) ?_
                  refine GD_pure 20 rfl (by kernel_rfl) (by kernel_rfl) (by kernel_rfl) (by kernel_rfl) rfl rfl rfl (qv fun wq hC => by exact r_bld (build139 _ _ _ _ _) rfl) ?_
                  refine GD_one 21 (by kernel_rfl) (fun _ => hBd) ?_
                  refine GO_call rfl rfl rfl he89 rfl (greatest_c (mv l k) _) (fun e w62 he => ?_)
                  obtain ⟨rfl, hb62⟩ := he
                  refine ⟨_, rfl, ?_⟩
                  have hBd := hBd.bel hb62
                  rcases Decidable.em (rd cs k < (mv l k).f2.f1) with c63 | c63
                  · skip
                    refine GD_pure 22 rfl (by kernel_rfl) (by kernel_rfl) (by kernel_rfl) (by kernel_rfl) rfl rfl rfl (qv fun wq hC => by exact r_lssT rfl rfl c63) ?_
                    refine GD_pure 23 rfl (by kernel_rfl) (by kernel_rfl) (by kernel_rfl) (by kernel_rfl) rfl rfl rfl (qv fun wq hC => by exact r_pickT rfl) ?_
                    refine GD_pure 24 rfl (by kernel_rfl) (by kernel_rfl) (by kernel_rfl) (by kernel_rfl) rfl rfl rfl (qv fun wq hC => by exact r_move) ?_
                    refine GD_off 25 rfl (by kernel_rfl) (by kernel_rfl) (by kernel_rfl) (by kernel_rfl) rfl rfl ?_
                    refine GD_off 26 rfl (by kernel_rfl) (by kernel_rfl) (by kernel_rfl) (by kernel_rfl) rfl rfl ?_
                    refine GD_off 27 rfl (by kernel_rfl) (by kernel_rfl) (by kernel_rfl) (by kernel_rfl) rfl rfl ?_
                    refine GD_off 28 rfl (by kernel_rfl) (by kernel_rfl) (by kernel_rfl) (by kernel_rfl) rfl rfl ?_
                    refine GD_off 29 rfl (by kernel_rfl) (by kernel_rfl) (by kernel_rfl) (by kernel_rfl) rfl rfl ?_
                    refine GD_off 30 rfl (by kernel_rfl) (by kernel_rfl) (by kernel_rfl) (by kernel_rfl) rfl rfl ?_
                    refine GD_off 31 rfl (by kernel_rfl) (by kernel_rfl) (by kernel_rfl) (by kernel_rfl) rfl rfl ?_
                    refine GD_off 32 rfl (by kernel_rfl) (by kernel_rfl) (by kernel_rfl) (by kernel_rfl) rfl rfl ?_
                    refine GD_off 33 rfl (by kernel_rfl) (by kernel_rfl) (by kernel_rfl) (by kernel_rfl) rfl rfl ?_
                    refine GD_off 34 rfl (by kernel_rfl) (by kernel_rfl) (by kernel_rfl) (by kernel_rfl) rfl rfl ?_
                    refine GD_off 35 rfl (by kernel_rfl) (by kernel_rfl) (by kernel_rfl) (by kernel_rfl) rfl rfl ?_
                    refine GD_off 36 rfl (by kernel_rfl) (by kernel_rfl) (by kernel_rfl) (by kernel_rfl) rfl rfl ?_
                    refine GD_off 37 rfl (by kernel_rfl) (by kernel_rfl) (by kernel_rfl) (by kernel_rfl) rfl rfl ?_
                    refine GD_off 38 rfl (by kernel_rfl) (by kernel_rfl) (by kernel_rfl) (by kernel_rfl) rfl rfl ?_
                    refine GD_pure 39 rfl (by kernel_rfl) (by kernel_rfl) (by kernel_rfl) (by kernel_rfl) rfl rfl rfl (qv fun wq hC => by exact r_pickT rfl) ?_
                    refine GD_pure 40 rfl (by kernel_rfl) (by kernel_rfl) (by kernel_rfl) (by kernel_rfl) rfl rfl rfl (qv fun wq hC => by exact r_pickT rfl) ?_
                    refine GD_pure 41 rfl (by kernel_rfl) (by kernel_rfl) (by kernel_rfl) (by kernel_rfl) rfl rfl rfl (qv fun wq hC => by exact r_assign) ?_
                    refine GD_end (by kernel_rfl) (fun _ => hBd) ?_
                    exact join_end ⟨true, _, has rfl (has rfl (has rfl (has rfl (has rfl (has rfl (has rfl (has rfl (has rfl (has rfl (has rfl (has rfl (has rfl (has rfl (has rfl rfl)))))))))))))), hBd, fun _ => ⟨c43, by simpa using q50, .inl ⟨c54, c63⟩⟩, fun h => absurd h.symm Bool.false_ne_true⟩
                  · skip
                    refine GD_pure 22 rfl (by kernel_rfl) (by kernel_rfl) (by kernel_rfl) (by kernel_rfl) rfl rfl rfl (qv fun wq hC => by exact r_lssF rfl rfl c63) ?_
                    refine GD_pure 23 rfl (by kernel_rfl) (by kernel_rfl) (by kernel_rfl) (by kernel_rfl) rfl rfl rfl (qv fun wq hC => by exact r_pickT rfl) ?_
                    refine GD_pure 24 rfl (by kernel_rfl) (by kernel_rfl) (by kernel_rfl) (by kernel_rfl) rfl rfl rfl (qv fun wq hC => by exact r_move) ?_
                    refine GD_pure 25 rfl (by kernel_rfl) (by kernel_rfl) (by kernel_rfl) (by kernel_rfl) rfl rfl rfl (qv fun wq hC => by exact r_move) ?_
                    refine GD_pure 26 rfl (by kernel_rfl) (by kernel_rfl) (by kernel_rfl) (by kernel_rfl) rfl rfl rfl (qv fun wq hC => by exact r_fieldAddrB f76_1 rfl) ?_
                    refine GD_take 27 rfl (by kernel_rfl) (by kernel_rfl) (by kernel_rfl) (by kernel_rfl) rfl rfl rfl (qv fun wq hC => by exact r_load1 rfl Try.underlying3 (cellAt (kB K11j hC) rfl)) ?_
                    rcases Decidable.em (a = (mv l k).f1) with c69 | c69
                    · skip
                      refine GD_pure 28 rfl (by kernel_rfl) (by kernel_rfl) (by kernel_rfl) (by kernel_rfl) rfl rfl rfl (qv fun wq hC => by exact r_eqlT rfl rfl c69) ?_
                      refine GD_pure 29 rfl (by kernel_rfl) (by kernel_rfl) (by kernel_rfl) (by kernel_rfl) rfl rfl rfl (qv fun wq hC => by exact r_move) ?_
                      refine GD_take 30 rfl (by kernel_rfl) (by kernel_rfl) (by kernel_rfl) (by kernel_rfl) rfl rfl rfl (qv fun wq hC => by exact r_load1 rfl Try.underlying22 (cellAt (kB KcB hC) rfl)) ?_
                      refine GD_pure 31 rfl (by kernel_rfl) (by kernel_rfl) (by kernel_rfl) (by kernel_rfl) rfl rfl rfl (qv fun wq hC => by exact r_move) ?_
                      refine GD_pure 32 rfl (by kernel_rfl) (by kernel_rfl) (by kernel_rfl) (by kernel_rfl) rfl rfl rfl (qv fun wq hC => by exact r_indexS Try.underlying22 info3 rfl rfl (by omega) (by omega) (Nat.mul_one _)) ?_
                      refine GD_take 33 rfl (by kernel_rfl) (by kernel_rfl) (by kernel_rfl) (by kernel_rfl) rfl rfl rfl (qv fun wq hC => by exact r_load1 rfl Try.underlying3 (((hB0l.bel hB7).bel hC).cellk hcnt)) ?_
                      refine GD_take 34 rfl (by kernel_rfl) (by kernel_rfl) (by kernel_rfl) (by kernel_rfl) rfl rfl rfl (qv fun wq hC => by exact r_loadA rfl Try.underlying76 info76 (l := enc76 (mv l k)) (cellsAt (kB K11j hC))) ?_
                      refine GD_pure 35 rfl (by kernel_rfl) (by kernel_rfl) (by kernel_rfl) (by kernel_rfl) rfl rfl rfl (qv fun wq hC => by exact r_bld (build139 _ _ _ _ _) rfl) ?_
                      refine GD_one 36 (by kernel_rfl) (fun _ => hBd) ?_
                      refine GO_call rfl rfl rfl he88 rfl (least_c (mv l k) _) (fun e w77 he => ?_)
                      obtain ⟨rfl, hb77⟩ := he
                      refine ⟨_, rfl, ?_⟩
                      have hBd := hBd.bel hb77
                      rcases Decidable.em ((mv l k).f2.f0 < rd cs k) with c78 | c78
                      · skip
                        refine GD_pure 37 rfl (by kernel_rfl) (by kernel_rfl) (by kernel_rfl) (by kernel_rfl) rfl rfl rfl (qv fun wq hC => by exact r_gtrT rfl rfl c78) ?_
                        refine GD_pure 38 rfl (by kernel_rfl) (by kernel_rfl) (by kernel_rfl) (by kernel_rfl) rfl rfl rfl (qv fun wq hC => by exact r_pickT rfl) ?_
                        refine GD_pure 39 rfl (by kernel_rfl) (by kernel_rfl) (by kernel_rfl) (by kernel_rfl) rfl rfl rfl (qv fun wq hC => by exact r_pickF rfl) ?_
                        refine GD_pure 40 rfl (by kernel_rfl) (by kernel_rfl) (by kernel_rfl) (by kernel_rfl) rfl rfl rfl (qv fun wq hC => by exact r_pickT rfl) ?_
                        refine GD_pure 41 rfl (by kernel_rfl) (by kernel_rfl) (by kernel_rfl) (by kernel_rfl) rfl rfl rfl (qv fun wq hC => by exact r_assign) ?_
                        refine GD_end (by kernel_rfl) (fun _ => hBd) ?_
                        exact join_end ⟨true, _, has rfl (has rfl (has rfl (has rfl (has rfl (has rfl (has rfl (has rfl (has rfl (has rfl (has rfl (has rfl (has rfl (has rfl (has rfl rfl)))))))))))))), hBd, fun _ => ⟨c43, by simpa using q50, .inr ⟨c69, c78⟩⟩, fun h => absurd h.symm Bool.false_ne_true⟩
                      · skip
                        refine GD_pure 37 rfl (by kernel_rfl) (by kernel_rfl) (by kernel_rfl) (by kernel_rfl) rfl rfl rfl (qv fun wq hC => by exact r_gtrF rfl rfl c78) ?_
                        refine GD_pure 38 rfl (by kernel_rfl) (by kernel_rfl) (by kernel_rfl) (by kernel_rfl) rfl rfl rfl (qv fun wq hC => by exact r_pickT rfl) ?_
                        refine GD_pure 39 rfl (by kernel_rfl) (by kernel_rfl) (by kernel_rfl) (by kernel_rfl) rfl rfl rfl (qv fun wq hC => by exact r_pickF rfl) ?_
                        refine GD_pure 40 rfl (by kernel_rfl) (by kernel_rfl) (by kernel_rfl) (by kernel_rfl) rfl rfl rfl (qv fun wq hC => by exact r_pickT rfl) ?_
                        refine GD_pure 41 rfl (by kernel_rfl) (by kernel_rfl) (by kernel_rfl) (by kernel_rfl) rfl rfl rfl (qv fun wq hC => by exact r_assign) ?_
                        refine GD_end (by kernel_rfl) (fun _ => hBd) ?_
                        exact join_end ⟨false, _, has rfl (has rfl (has rfl (has rfl (has rfl (has rfl (has rfl (has rfl (has rfl (has rfl (has rfl (has rfl (has rfl (has rfl (has rfl rfl)))))))))))))), hBd, fun h => absurd h Bool.false_ne_true, fun _ h => by obtain ⟨_, _, h3⟩ := h; omega⟩
                    · skip
                      refine GD_pure 28 rfl (by kernel_rfl) (by kernel_rfl) (by kernel_rfl) (by kernel_rfl) rfl rfl rfl (qv fun wq hC => by exact r_eqlF rfl rfl c69) ?_
                      refine GD_pure 29 rfl (by kernel_rfl) (by kernel_rfl) (by kernel_rfl) (by kernel_rfl) rfl rfl rfl (qv fun wq hC => by exact r_move) ?_
                      refine GD_off 30 rfl (by kernel_rfl) (by kernel_rfl) (by kernel_rfl) (by kernel_rfl) rfl rfl ?_
                      refine GD_off 31 rfl (by kernel_rfl) (by kernel_rfl) (by kernel_rfl) (by kernel_rfl) rfl rfl ?_
                      refine GD_off 32 rfl (by kernel_rfl) (by kernel_rfl) (by kernel_rfl) (by kernel_rfl) rfl rfl ?_
                      refine GD_off 33 rfl (by kernel_rfl) (by kernel_rfl) (by kernel_rfl) (by kernel_rfl) rfl rfl ?_
                      refine GD_off 34 rfl (by kernel_rfl) (by kernel_rfl) (by kernel_rfl) (by kernel_rfl) rfl rfl ?_
                      refine GD_off 35 rfl (by kernel_rfl) (by kernel_rfl) (by kernel_rfl) (by kernel_rfl) rfl rfl ?_
                      refine GD_off 36 rfl (by kernel_rfl) (by kernel_rfl) (by kernel_rfl) (by kernel_rfl) rfl rfl ?_
                      refine GD_off 37 rfl (by kernel_rfl) (by kernel_rfl) (by kernel_rfl) (by kernel_rfl) rfl rfl ?_
                      refine GD_pure 38 rfl (by kernel_rfl) (by kernel_rfl) (by kernel_rfl) (by kernel_rfl) rfl rfl rfl (qv fun wq hC => by exact r_pickF rfl) ?_
                      refine GD_pure 39 rfl (by kernel_rfl) (by kernel_rfl) (by kernel_rfl) (by kernel_rfl) rfl rfl rfl (qv fun wq hC => by exact r_pickF rfl) ?_
                      refine GD_pure 40 rfl (by kernel_rfl) (by kernel_rfl) (by kernel_rfl) (by kernel_rfl) rfl rfl rfl (qv fun wq hC => by exact r_pickT rfl) ?_
                      refine GD_pure 41 rfl (by kernel_rfl) (by kernel_rfl) (by kernel_rfl) (by kernel_rfl) rfl rfl rfl (qv fun wq hC => by exact r_assign) ?_
                      refine GD_end (by kernel_rfl) (fun _ => hBd) ?_
                      exact join_end ⟨false, _, has rfl (has rfl (has rfl (has rfl (has rfl (has rfl (has rfl (has rfl (has rfl (has rfl (has rfl (has rfl (has rfl (has rfl (has rfl rfl)))))))))))))), hBd, fun h => absurd h Bool.false_ne_true, fun _ h => by obtain ⟨_, _, h3⟩ := h; omega⟩
                · skip
                  refine GD_pure 13 rfl (by kernel_rfl) (by kernel_rfl) (by kernel_rfl) (by kernel_rfl) rfl rfl rfl (qv fun wq hC => by exact r_eqlF rfl rfl c54) ?_
                  refine GD_pure 14 rfl (by kernel_rfl) (by kernel_rfl) (by kernel_rfl) (by kernel_rfl) rfl rfl rfl (qv fun wq hC => by exact r_move) ?_
                  refine GD_off 15 rfl (by kernel_rfl) (by kernel_rfl) (by kernel_rfl) (by kernel_rfl) rfl rfl ?_
                  refine GD_off 16 rfl (by kernel_rfl) (by kernel_rfl) (by kernel_rfl) (by kernel_rfl) rfl rfl ?_
                  refine GD_off 17 rfl (by kernel_rfl) (by kernel_rfl) (by kernel_rfl) (by kernel_rfl) rfl rfl ?_
                  refine GD_off 18 rfl (by kernel_rfl) (by kernel_rfl) (by kernel_rfl) (by kernel_rfl) rfl rfl ?_
                  refine GD_off 19 rfl (by kernel_rfl) (by kernel_rfl) (by kernel_rfl) (by kernel_rfl) rfl rfl ?_
                  refine GD_off 20 rfl (by kernel_rfl) (by kernel_rfl) (by kernel_rfl) (by kernel_rfl) rfl rfl ?_
                  refine GD_off 21 rfl (by kernel_rfl) (by kernel_rfl) (by kernel_rfl) (by kernel_rfl) rfl rfl ?_
                  refine GD_off 22 rfl (by kernel_rfl) (by kernel_rfl) (by kernel_rfl) (by kernel_rfl) rfl rfl ?_
                  refine GD_pure 23 rfl (by kernel_rfl) (by kernel_rfl) (by kernel_rfl) (by kernel_rfl) rfl rfl rfl (qv fun wq hC => by exact r_pickF rfl) ?_
                  refine GD_pure 24 rfl (by kernel_rfl) (by kernel_rfl) (by kernel_rfl) (by kernel_rfl) rfl rfl rfl (qv fun wq hC => by exact r_move) ?_
                  refine GD_pure 25 rfl (by kernel_rfl) (by kernel_rfl) (by kernel_rfl) (by kernel_rfl) rfl rfl rfl (qv fun wq hC => by exact r_move) ?_
                  refine GD_pure 26 rfl (by kernel_rfl) (by kernel_rfl) (by kernel_rfl) (by kernel_rfl) rfl rfl rfl (qv fun wq hC => by exact r_fieldAddrB f76_1 rfl) ?_
                  refine GD_take 27 rfl (by kernel_rfl) (by kernel_rfl) (by kernel_rfl) (by kernel_rfl) rfl rfl rfl (qv fun wq hC => by exact r_load1 rfl Try.underlying3 (cellAt (kB K11j hC) rfl)) ?_
                  rcases Decidable.em (a = (mv l k).f1) with c69 | c69
                  · skip
                    refine GD_pure 28 rfl (by kernel_rfl) (by kernel_rfl) (by kernel_rfl) (by kernel_rfl) rfl rfl rfl (qv fun wq hC => by exact r_eqlT rfl rfl c69) ?_
                    refine GD_pure 29 rfl (by kernel_rfl) (by kernel_rfl) (by kernel_rfl) (by kernel_rfl) rfl rfl rfl (qv fun wq hC => by exact r_move) ?_
                    refine GD_take 30 rfl (by kernel_rfl) (by kernel_rfl) (by kernel_rfl) (by kernel_rfl) rfl rfl rfl (qv fun wq hC => by exact r_load1 rfl Try.underlying22 (cellAt (kB KcB hC) rfl)) ?_
                    refine GD_pure 31 rfl (by kernel_rfl) (by kernel_rfl) (by kernel_rfl) (by kernel_rfl) rfl rfl rfl (qv fun wq hC => by exact r_move) ?_
                    refine GD_pure 32 rfl (by kernel_rfl) (by kernel_rfl) (by kernel_rfl) (by kernel_rfl) rfl rfl rfl (qv fun wq hC => by exact r_indexS Try.underlying22 info3 rfl rfl (by omega) (by omega) (Nat.mul_one _)) ?_
                    refine GD_take 33 rfl (by kernel_rfl) (by kernel_rfl) (by kernel_rfl) (by kernel_rfl) rfl rfl rfl (qv fun wq hC => by exact r_load1 rfl Try.underlying3 (((hB0l.bel hB7).bel hC).cellk hcnt)) ?_
                    refine GD_take 34 rfl (by kernel_rfl) (by kernel_rfl) (by kernel_rfl) (by kernel_rfl) rfl rfl rfl (qv fun wq hC => by exact r_loadA rfl Try.underlying76 info76 (l := enc76 (mv l k)) (cellsAt (kB K11j hC))) ?_
                    refine GD_pure 35 rfl (by kernel_rfl) (by kernel_rfl) (by kernel_rfl) (by kernel_rfl) rfl rfl rfl (qv fun wq hC => by exact r_bld (build139 _ _ _ _ _) rfl) ?_
                    refine GD_one 36 (by kernel_rfl) (fun _ => hBd) ?_
                    refine GO_call rfl rfl rfl he88 rfl (least_c (mv l k) _) (fun e w77 he => ?_)
                    obtain ⟨rfl, hb77⟩ := he
                    refine ⟨_, rfl, ?_⟩
                    have hBd := hBd.bel hb77
                    rcases Decidable.em ((mv l k).f2.f0 < rd cs k) with c78 | c78
                    · skip
                      refine GD_pure 37 rfl (by kernel_rfl) (by kernel_rfl) (by kernel_rfl) (by kernel_rfl) rfl rfl rfl (qv fun wq hC => by exact r_gtrT rfl rfl c78) ?_
                      refine GD_pure 38 rfl (by kernel_rfl) (by kernel_rfl) (by kernel_rfl) (by kernel_rfl) rfl rfl rfl (qv fun wq hC => by exact r_pickT rfl) ?_
                      refine GD_pure 39 rfl (by kernel_rfl) (by kernel_rfl) (by kernel_rfl) (by kernel_rfl) rfl rfl rfl (qv fun wq hC => by exact r_pickF rfl) ?_
                      refine GD_pure 40 rfl (by kernel_rfl) (by kernel_rfl) (by kernel_rfl) (by kernel_rfl) rfl rfl rfl (qv fun wq hC => by exact r_pickT rfl) ?_
                      refine GD_pure 41 rfl (by kernel_rfl) (by kernel_rfl) (by kernel_rfl) (by kernel_rfl) rfl rfl rfl (qv fun wq hC => by exact r_assign) ?_
                      refine GD_end (by kernel_rfl) (fun _ => hBd) ?_
                      exact join_end ⟨true, _, has rfl (has rfl (has rfl (has rfl (has rfl (has rfl (has rfl (has rfl (has rfl (has rfl (has rfl (has rfl (has rfl (has rfl (has rfl rfl)))))))))))))), hBd, fun _ => ⟨c43, by simpa using q50, .inr ⟨c69, c78⟩⟩, fun h => absurd h.symm Bool.false_ne_true⟩
                    · skip
                      refine GD_pure 37 rfl (by kernel_rfl) (by kernel_rfl) (by kernel_rfl) (by kernel_rfl) rfl rfl rfl (qv fun wq hC => by exact r_gtrF rfl rfl c78) ?_
                      refine GD_pure 38 rfl (by kernel_rfl) (by kernel_rfl) (by kernel_rfl) (by kernel_rfl) rfl rfl rfl (qv fun wq hC => by exact r_pickT rfl) ?_
                      refine GD_pure 39 rfl (by kernel_rfl) (by kernel_rfl) (by kernel_rfl) (by kernel_rfl) rfl rfl rfl (qv fun wq hC => by exact r_pickF rfl) ?_
                      refine GD_pure 40 rfl (by kernel_rfl) (by kernel_rfl) (by kernel_rfl) (by kernel_rfl) rfl rfl rfl (qv fun wq hC => by exact r_pickT rfl) ?_
                      refine GD_pure 41 rfl (by kernel_rfl) (by kernel_rfl) (by kernel_rfl) (by kernel_rfl) rfl rfl rfl (qv fun wq hC => by exact r_assign) ?_
                      refine GD_end (by kernel_rfl) (fun _ => hBd) ?_
                      exact join_end ⟨false, _, has rfl (has rfl (has rfl (has rfl (has rfl (has rfl (has rfl (has rfl (has rfl (has rfl (has rfl (has rfl (has rfl (has rfl (has rfl rfl)))))))))))))), hBd, fun h => absurd h Bool.false_ne_true, fun _ h => by obtain ⟨_, _, h3⟩ := h; omega⟩
                  · skip
                    refine GD_pure 28 rfl (by kernel_rfl) (by kernel_rfl) (by kernel_rfl) (by kernel_rfl) rfl rfl rfl (qv fun wq hC => by exact r_eqlF rfl rfl c69) ?_
                    refine GD_pure 29 rfl (by kernel_rfl) (by kernel_rfl) (by kernel_rfl) (by kernel_rfl) rfl rfl rfl (qv fun wq hC => by exact r_move) ?_
                    refine GD_off 30 rfl (by kernel_rfl) (by kernel_rfl) (by kernel_rfl) (by kernel_rfl) rfl rfl ?_
                    refine GD_off 31 rfl (by kernel_rfl) (by kernel_rfl) (by kernel_rfl) (by kernel_rfl) rfl rfl ?_
                    refine GD_off 32 rfl (by kernel_rfl) (by kernel_rfl) (by kernel_rfl) (by kernel_rfl) rfl rfl ?_
                    refine GD_off 33 rfl (by kernel_rfl) (by kernel_rfl) (by kernel_rfl) (by kernel_rfl) rfl rfl ?_
                    refine GD_off 34 rfl (by kernel_rfl) (by kernel_rfl) (by kernel_rfl) (by kernel_rfl) rfl rfl ?_
                    refine GD_off 35 rfl (by kernel_rfl) (by kernel_rfl) (by kernel_rfl) (by kernel_rfl) rfl rfl ?_
                    refine GD_off 36 rfl (by kernel_rfl) (by kernel_rfl) (by kernel_rfl) (by kernel_rfl) rfl rfl ?_
                    refine GD_off 37 rfl (by kernel_rfl) (by kernel_rfl) (by kernel_rfl) (by kernel_rfl) rfl rfl ?_
                    refine GD_pure 38 rfl (by kernel_rfl) (by kernel_rfl) (by kernel_rfl) (by kernel_rfl) rfl rfl rfl (qv fun wq hC => by exact r_pickF rfl) ?_
                    refine GD_pure 39 rfl (by kernel_rfl) (by kernel_rfl) (by kernel_rfl) (by kernel_rfl) rfl rfl rfl (qv fun wq hC => by exact r_pickF rfl) ?_
                    refine GD_pure 40 rfl (by kernel_rfl) (by kernel_rfl) (by kernel_rfl) (by kernel_rfl) rfl rfl rfl (qv fun wq hC => by exact r_pickT rfl) ?_
                    refine GD_pure 41 rfl (by kernel_rfl) (by kernel_rfl) (by kernel_rfl) (by kernel_rfl) rfl rfl rfl (qv fun wq hC => by exact r_assign) ?_
                    refine GD_end (by kernel_rfl) (fun _ => hBd) ?_
                    exact join_end ⟨false, _, has rfl (has rfl (has rfl (has rfl (has rfl (has rfl (has rfl (has rfl (has rfl (has rfl (has rfl (has rfl (has rfl (has rfl (has rfl rfl)))))))))))))), hBd, fun h => absurd h Bool.false_ne_true, fun _ h => by obtain ⟨_, _, h3⟩ := h; omega⟩
              | false =>
                refine GD_off 10 rfl (by kernel_rfl) (by kernel_rfl) (by kernel_rfl) (by kernel_rfl) rfl rfl ?_
                refine GD_off 11 rfl (by kernel_rfl) (by kernel_rfl) (by kernel_rfl) (by kernel_rfl) rfl rfl ?_
                refine GD_off 12 rfl (by kernel_rfl) (by kernel_rfl) (by kernel_rfl) (by kernel_rfl) rfl rfl ?_
                refine GD_off 13 rfl (by kernel_rfl) (by kernel_rfl) (by kernel_rfl) (by kernel_rfl) rfl rfl ?_
                refine GD_off 14 rfl (by kernel_rfl) (by kernel_rfl) (by kernel_rfl) (by kernel_rfl) rfl rfl ?_
                refine GD_off 15 rfl (by kernel_rfl) (by kernel_rfl) (by kernel_rfl) (by kernel_rfl) rfl rfl ?_
                refine GD_off 16 rfl (by kernel_rfl) (by kernel_rfl) (by kernel_rfl) (by kernel_rfl) rfl rfl ?_
                refine GD_off 17 rfl (by kernel_rfl) (by kernel_rfl) (by kernel_rfl) (by kernel_rfl) rfl rfl ?_
                refine GD_off 18 rfl (by kernel_rfl) (by kernel_rfl) (by kernel_rfl) (by kernel_rfl) rfl rfl ?_
                refine GD_off 19 rfl (by kernel_rfl) (by kernel_rfl) (by kernel_rfl) (by kernel_rfl) rfl rfl ?_
                refine GD_off 20 rfl (by kernel_rfl) (by kernel_rfl) (by kernel_rfl) (by kernel_rfl) rfl rfl ?_
                refine GD_off 21 rfl (by kernel_rfl) (by kernel_rfl) (by kernel_rfl) (by kernel_rfl) rfl rfl ?_
                refine GD_off 22 rfl (by kernel_rfl) (by kernel_rfl) (by kernel_rfl) (by kernel_rfl) rfl rfl ?_
                refine GD_off 23 rfl (by kernel_rfl) (by kernel_rfl) (by kernel_rfl) (by kernel_rfl) rfl rfl ?_
                refine GD_off 24 rfl (by kernel_rfl) (by kernel_rfl) (by kernel_rfl) (by kernel_rfl) rfl rfl ?_
                refine GD_off 25 rfl (by kernel_rfl) (by kernel_rfl) (by kernel_rfl) (by kernel_rfl) rfl rfl ?_
                refine GD_off 26 rfl (by kernel_rfl) (by kernel_rfl) (by kernel_rfl) (by kernel_rfl) rfl rfl ?_
                refine GD_off 27 rfl (by kernel_rfl) (by kernel_rfl) (by kernel_rfl) (by kernel_rfl) rfl rfl ?_
                refine GD_off 28 rfl (by kernel_rfl) (by kernel_rfl) (by kernel_rfl) (by kernel_rfl) rfl rfl ?_
                refine GD_off 29 rfl (by kernel_rfl) (by kernel_rfl) (by kernel_rfl) (by kernel_rfl) rfl rfl ?_
                refine GD_off 30 rfl (by kernel_rfl) (by kernel_rfl) (by kernel_rfl) (by kernel_rfl) rfl rfl ?_
                refine GD_off 31 rfl (by kernel_rfl) (by kernel_rfl) (by kernel_rfl) (by kernel_rfl) rfl rfl ?_
                refine GD_off 32 rfl (by kernel_rfl) (by kernel_rfl) (by kernel_rfl) (by kernel_rfl) rfl rfl ?_
                refine GD_off 33 rfl (by kernel_rfl) (by kernel_rfl) (by kernel_rfl) (by kernel_rfl) rfl rfl ?_
                refine GD_off 34 rfl (by kernel_rfl) (by kernel_rfl) (by kernel_rfl) (by kernel_rfl) rfl rfl ?_
                refine GD_off 35 rfl (by kernel_rfl) (by kernel_rfl) (by kernel_rfl) (by kernel_rfl) rfl rfl ?_
                refine GD_off 36 rfl (by kernel_rfl) (by kernel_rfl) (by kernel_rfl) (by kernel_rfl) rfl rfl ?_
                refine GD_off 37 rfl (by kernel_rfl) (by kernel_rfl) (by kernel_rfl) (by kernel_rfl) rfl rfl ?_
                refine GD_off 38 rfl (by kernel_rfl) (by kernel_rfl) (by kernel_rfl) (by kernel_rfl) rfl rfl ?_
                refine GD_off 39 rfl (by kernel_rfl) (by kernel_rfl) (by kernel_rfl) (by kernel_rfl) rfl rfl ?_
                refine GD_pure 40 rfl (by kernel_rfl) (by kernel_rfl) (by kernel_rfl) (by kernel_rfl) rfl rfl rfl (qv fun wq hC => by exact r_pickF rfl) ?_
                refine GD_pure 41 rfl (by kernel_rfl) (by kernel_rfl) (by kernel_rfl) (by kernel_rfl) rfl rfl rfl (qv fun wq hC => by exact r_assign) ?_
                refine GD_end (by kernel_rfl) (fun _ => hBd) ?_
                exact join_end ⟨false, _, has rfl (has rfl (has rfl (has rfl (has rfl (has rfl (has rfl (has rfl (has rfl (has rfl (has rfl (has rfl (has rfl (has rfl (has rfl rfl)))))))))))))), hBd, fun h => absurd h Bool.false_ne_true, fun _ h => by have h2 : lkB es2 (.int .i64 nx) = false := h.2.1; rw [h2] at q50; cases q50⟩
            · skip
              refine GD_pure 2 rfl (by kernel_rfl) (by kernel_rfl) (by kernel_rfl) (by kernel_rfl) rfl rfl rfl (qv fun wq hC => by exact r_neqF rfl rfl c43) ?_
              refine GD_pure 3 rfl (by kernel_rfl) (by kernel_rfl) (by kernel_rfl) (by kernel_rfl) rfl rfl rfl (qv fun wq hC => by exact r_move) ?_
              refine GD_off 4 rfl (by kernel_rfl) (by kernel_rfl) (by kernel_rfl) (by kernel_rfl) rfl rfl ?_
              refine GD_off 5 rfl (by kernel_rfl) (by kernel_rfl) (by kernel_rfl) (by kernel_rfl) rfl rfl ?_
              refine GD_off 6 rfl (by kernel_rfl) (by kernel_rfl) (by kernel_rfl) (by kernel_rfl) rfl rfl ?_
              refine GD_off 7 rfl (by kernel_rfl) (by kernel_rfl) (by kernel_rfl) (by kernel_rfl) rfl rfl ?_
              refine GD_pure 8 rfl (by kernel_rfl) (by kernel_rfl) (by kernel_rfl) (by kernel_rfl) rfl rfl rfl (qv fun wq hC => by exact r_pickF rfl) ?_
              refine GD_pure 9 rfl (by kernel_rfl) (by kernel_rfl) (by kernel_rfl) (by kernel_rfl) rfl rfl rfl (qv fun wq hC => by exact r_move) ?_
              refine GD_off 10 rfl (by kernel_rfl) (by kernel_rfl) (by kernel_rfl) (by kernel_rfl) rfl rfl ?_
              refine GD_off 11 rfl (by kernel_rfl) (by kernel_rfl) (by kernel_rfl) (by kernel_rfl) rfl rfl ?_
              refine GD_off 12 rfl (by kernel_rfl) (by kernel_rfl) (by kernel_rfl) (by kernel_rfl) rfl rfl ?_
              refine GD_off 13 rfl (by kernel_rfl) (by kernel_rfl) (by kernel_rfl) (by kernel_rfl) rfl rfl ?_
              refine GD_off 14 rfl (by kernel_rfl) (by kernel_rfl) (by kernel_rfl) (by kernel_rfl) rfl rfl ?_
              refine GD_off 15 rfl (by kernel_rfl) (by kernel_rfl) (by kernel_rfl) (by kernel_rfl) rfl rfl ?_
              refine GD_off 16 rfl (by kernel_rfl) (by kernel_rfl) (by kernel_rfl) (by kernel_rfl) rfl rfl ?_
              refine GD_off 17 rfl (by kernel_rfl) (by kernel_rfl) (by kernel_rfl) (by kernel_rfl) rfl rfl ?_
              refine GD_off 18 rfl (by kernel_rfl) (by kernel_rfl) (by kernel_rfl) (by kernel_rfl) rfl rfl ?_
              refine GD_off 19 rfl (by kernel_rfl) (by kernel_rfl) (by kernel_rfl) (by kernel_rfl) rfl rfl ?_
              refine GD_off 20 rfl (by kernel_rfl) (by kernel_rfl) (by kernel_rfl) (by kernel_rfl) rfl rfl ?_
              refine GD_off 21 rfl (by kernel_rfl) (by kernel_rfl) (by kernel_rfl) (by kernel_rfl) rfl rfl ?_
              refine GD_off 22 rfl (by kernel_rfl) (by kernel_rfl) (by kernel_rfl) (by kernel_rfl) rfl rfl ?_
              refine GD_off 23 rfl (by kernel_rfl) (by kernel_rfl) (by kernel_rfl) (by kernel_rfl) rfl rfl ?_
              refine GD_off 24 rfl (by kernel_rfl) (by kernel_rfl) (by kernel_rfl) (by kernel_rfl) rfl rfl ?_
              refine GD_off 25 rfl (by kernel_rfl) (by kernel_rfl) (by kernel_rfl) (by kernel_rfl) rfl rfl ?_
              refine GD_off 26 rfl (by kernel_rfl) (by kernel_rfl) (by kernel_rfl) (by kernel_rfl) rfl rfl ?_
              refine GD_off 27 rfl (by kernel_rfl) (by kernel_rfl) (by kernel_rfl) (by kernel_rfl) rfl rfl ?_
              refine GD_off 28 rfl (by kernel_rfl) (by kernel_rfl) (by kernel_rfl) (by kernel_rfl) rfl rfl ?_
              refine GD_off 29 rfl (by kernel_rfl) (by kernel_rfl) (by kernel_rfl) (by kernel_rfl) rfl rfl ?_
              refine GD_off 30 rfl (by kernel_rfl) (by kernel_rfl) (by kernel_rfl) (by kernel_rfl) rfl rfl ?_
              refine GD_off 31 rfl (by kernel_rfl) (by kernel_rfl) (by kernel_rfl) (by kernel_rfl) rfl rfl ?_
              refine GD_off 32 rfl (by kernel_rfl) (by kernel_rfl) (by kernel_rfl) (by kernel_rfl) rfl rfl ?_
              refine GD_off 33 rfl (by kernel_rfl) (by kernel_rfl) (by kernel_rfl) (by kernel_rfl) rfl rfl ?_
              refine GD_off 34 rfl (by kernel_rfl) (by kernel_rfl) (by kernel_rfl) (by kernel_rfl) rfl rfl ?_
              refine GD_off 35 rfl (by kernel_rfl) (by kernel_rfl) (by kernel_rfl) (by kernel_rfl) rfl rfl ?_
              refine GD_off 36 rfl (by kernel_rfl) (by kernel_rfl) (by kernel_rfl) (by kernel_rfl) rfl rfl ?_
              refine GD_off 37 rfl (by kernel_rfl) (by kernel_rfl) (by kernel_rfl) (by kernel_rfl) rfl rfl ?_
              refine GD_off 38 rfl (by kernel_rfl) (by kernel_rfl) (by kernel_rfl) (by kernel_rfl) rfl rfl ?_
              refine GD_off 39 rfl (by kernel_rfl) (by kernel_rfl) (by kernel_rfl) (by kernel_rfl) rfl rfl ?_
              refine GD_pure 40 rfl (by kernel_rfl) (by kernel_rfl) (by kernel_rfl) (by kernel_rfl) rfl rfl rfl (qv fun wq hC => by exact r_pickF rfl) ?_
              refine GD_pure 41 rfl (by kernel_rfl) (by kernel_rfl) (by kernel_rfl) (by kernel_rfl) rfl rfl rfl (qv fun wq hC => by exact r_assign) ?_
              refine GD_end (by kernel_rfl) (fun _ => hBd) ?_
              exact join_end ⟨false, _, has rfl (has rfl (has rfl (has rfl (has rfl (has rfl (has rfl (has rfl (has rfl (has rfl (has rfl (has rfl (has rfl (has rfl (has rfl rfl)))))))))))))), hBd, fun h => absurd h Bool.false_ne_true, fun _ h => c43 h.1⟩
          · rintro _ w9 ⟨b9, τ9, rfl, hB9, hcan, hnot⟩
            refine Sq (Sq (Rg (Mv ?_)))
            skip
            refine Nt rfl (Nl (Tn ?_))
            cases q83 : (!b9) with
            | true =>
              refine Ct rfl (Xi (Tx (Bs (Tn (Rg ?_)))))
              refine g_add rfl rfl (by omega) (h := ?_)
              refine Mv (Nl ?_)
              have hb9 : b9 = false := by simpa using q83
              have hnc := hnot hb9
              have hB9' := hB7.bel hB9
              refine round_end (l.length - (k + 1)) (by omega) ⟨k + 1, es2, clock2, _, has rfl (has rfl (has rfl (has rfl (has rfl (has rfl (has rfl (has rfl (has rfl (has rfl rfl))))))))), hkl, rfl, envl.bel hB9', hB0l.bel hB9', hchl.then (Ch.of_below hB9'), hmono, fun j hj fw' u he => ?_, hfin, hto, hreach⟩
              by_cases hjk : j = k
              · subst hjk
                obtain ⟨_, hwo, hh⟩ := he
                cases hq : inM es2 u with
                | true => rfl
                | false =>
                  refine absurd ?_ hnc
                  rcases hh with ⟨rfl, h1, h2, h3⟩ | ⟨rfl, h1, h2, h3⟩
                  · have hxu : nx = u := by rcases hfw with ⟨g1, _, g2⟩ | ⟨g1, _, g2⟩ <;> omega
                    rw [← hxu] at hq
                    exact ⟨hwo, hq, .inl ⟨h1, h3⟩⟩
                  · have hxu : nx = u := by rcases hfw with ⟨g1, _, g2⟩ | ⟨g1, _, g2⟩ <;> omega
                    rw [← hxu] at hq
                    exact ⟨hwo, hq, .inr ⟨h1, h3⟩⟩
              · exact hproc j (by omega) fw' u he
            | false =>
              refine Cf rfl (Sk (Tn (Sq (Rg ?_))))
              have hb9 : b9 = true := by simpa using q83
              obtain ⟨hc1, hc2, hc3⟩ := hcan hb9
              have env9 := env7.bel hB9
              have hB09 := (hB0l.bel hB7).bel hB9
              have hed : Ed l cs wo k fw a nx := by
                refine ⟨hkl, hc1, ?_⟩
                rcases hfw with ⟨g1, g2, g3⟩ | ⟨g1, g2, g3⟩
                · exact .inr ⟨g2, g1, g3, by omega⟩
                · exact .inl ⟨g2, by omega, g3, by omega⟩
              refine L1 Try.underlying146 (cellAt env9.Kmet rfl) rfl (Mv ?_)
              refine g_mapUpdate2 K3 Try.underlying146 env9.KM (env9.keys hN) hkl3 rfl rfl rfl (h := fun es3 clock3 w11 P11 hes3 hlk3 => ?_)
              have env11 : WEnv N l A c cs B d tgt wo gto gb gwo gmet gc gon gM es3 clock3 w11 := env9.put P11 (fun e he => by
                rcases hes3 e he with h | ⟨h1, h2⟩
                · exact env9.hes e h
                · exact ⟨⟨nx, h1, hnx⟩, h2⟩)
              have hB011 : Bel w0 w11 := hB09.put P11 hgM
              have hum := unmet_lt (N := N) hlk3 hnx hc2
              have hum2 : unmet N es2 ≤ unmet N es := by
                refine Nat.le_of_not_lt fun h => ?_
                have hle : ∀ L : List Nat, (L.filter (fun (v : Nat) => !inM es2 (v : Int))).length ≤ (L.filter (fun (v : Nat) => !inM es (v : Int))).length := fun L => by
                  induction L with
                  | nil => exact Nat.le_refl _
                  | cons z L ih =>
                    simp only [List.filter_cons]
                    cases hq : inM es (z : Int) with
                    | true => rw [show inM es2 (z : Int) = true from hmono _ hq]; exact ih
                    | false =>
                      simp only [Bool.not_false, if_true]
                      split
                      · simp only [List.length_cons]; omega
                      · simp only [List.length_cons]; omega
                have := hle (List.range N)
                unfold unmet at h
                omega
              have K12k := kP (kB K12j hB9) P11 (ne_map (kB K12j hB9) env9.KM)
              have hch11 : Ch (fun k => k = gM) w w11 := (hchl.then (Ch.of_below (hB7.bel hB9))).trans P11.ch (fun _ _ h => h) (fun _ _ h => h)
              refine Nl (Tn (Sq (Rg (L1 Try.underlying152 (cellAt env11.Kon rfl) rfl (Mv ?_)))))
              refine g_callv he99 rfl rfl (ih _ (by omega) nx w11 es3 clock3 rfl hB011 env11 ((hlk3 _).2 (.inr rfl))) (h := ?_)
              rintro e w89 ⟨v89, b89, es4, clock4, steps, rfl, hch89, env89, ⟨hm4, hT, hF, hR4⟩, HR89, hsl⟩
              refine ⟨_, rfl, ?_⟩
              have hreach4 : ∀ u, inM es4 u = true → inM es u = true ∨ Rch l cs wo a u := fun u hu => by
                rcases hR4 u hu with h | h
                · rcases (hlk3 _).1 h with h | h
                  · exact hreach u h
                  · injection h with _ h; rw [h]; exact .inr (.step .refl hed)
                · exact .inr (Rch.trans (.step .refl hed) h)
              refine Mv (Xt rfl rfl (Xt rfl rfl (As (As (Nl (Tn (Sq (Rg (Mv (Nl (Tn ?_)))))))))))
              cases q92 : b89 with
              | true =>
                refine Ct rfl (Sq (Rg ?_))
                have K12l := hch89.at_ K12k (ne_map K12k env11.KM)
                obtain ⟨vs, hpath, hnd, hvs⟩ := hT q92
                obtain ⟨A5, c5, rfl, _, hC5⟩ := Kd.R_reads HR89
                have hchf : Ch (fun k => k = gM) w w89 := hch11.trans hch89 (fun _ _ h => h) (fun _ _ h => h)
                refine g_loadA rfl Try.underlying151 info151 (l := [.int .i64 k, .bool fw]) (cellsAt K12l) (h := ?_)
                refine g_litsR k151 (xs := [⟨k, fw⟩]) (inner := [.int .i64 k, .bool fw]) (okp := fun _ => False) (bs147 _ _ _) rfl rfl (by decide) ⟨rfl, fun j p hj => by cases j with | zero => injection hj with hj; subst hj; exact k151_mkM _ _ _ _ | succ j => cases hj⟩ (h := fun g94 w94 HR94 hg94 => ?_)
                have hBf : Bel w89 w94 := Bel.grown (w := w89) (Below.refl _ _) hg94 (fun q hq => by cases hq)
                have hu3 : unmet N es3 ≤ N := by
                  unfold unmet
                  exact Nat.le_trans (List.length_filter_le _ _) (by simp)
                refine Mv ?_
                refine g_appendRows k151 Try.underlying147 zi151 rfl (by decide) (by decide) (okp := fun _ => False) HR94 (Kd.C_below hC5 hBf) (fun x cs h => by rw [k151_open h]; exact k151_mkM _ _ _ _) (fun _ h => h.elim) (fun _ _ => trivial) hBf.size (by simp only [List.length_singleton]; omega) rfl rfl (h := fun v96 w96 HR96 hg96 _ => ?_)
                have hBg := hBf.grown hg96 (fun q hq => Kd.R_base HR94 q hq)
                refine As (As (Nl (Tn (Rt (Br (Tr (Tr (Br (Tr ?_)))))))))
                refine ret2 rfl ⟨v96, true, es4, clock4, ⟨k, fw⟩ :: steps, ret2s rfl rfl, hchf.then (Ch.of_below hBg), env89.bel hBg, ⟨fun q h => hm4 q ((hlk3 q).2 (.inl (hmono q h))), fun _ => ⟨nx :: vs, ⟨⟨k, rfl, hed⟩, hpath⟩, List.nodup_cons.2 ⟨fun h => ?_, hnd⟩, fun v hv => ?_⟩, fun h => absurd h.symm Bool.false_ne_true, hreach4⟩, Kd.R_lower HR96 hchf.size, by simp only [List.length_cons]; omega⟩
                · have := (hvs nx h).1
                  rw [show inM es3 nx = true from (hlk3 _).2 (.inr rfl)] at this; cases this
                · have hnone : ∀ u, inM es2 u = false → inM es u = false := fun u hu => by
                    cases hq : inM es u with
                    | false => rfl
                    | true => rw [show inM es2 u = true from hmono _ hq] at hu; cases hu
                  rcases List.mem_cons.1 hv with rfl | hv
                  · exact ⟨hnone _ hc2, hm4 _ ((hlk3 _).2 (.inr rfl))⟩
                  · obtain ⟨h1, h2⟩ := hvs v hv
                    refine ⟨hnone _ ?_, h2⟩
                    cases hq : inM es2 v with
                    | false => rfl
                    | true => rw [show inM es3 v = true from (hlk3 _).2 (.inl hq)] at h1; cases h1
              | false =>
                refine Cf rfl (Sk (Bn (Tn (Rg ?_))))
                refine g_add rfl rfl (by omega) (h := ?_)
                refine Mv (Nl ?_)
                obtain ⟨hntgt, hclos, htgt⟩ := hF q92
                have h24 : ∀ q, lkB es2 q = true → lkB es4 q = true := fun q h => hm4 q ((hlk3 q).2 (.inl h))
                have h4nx : inM es4 nx = true := hm4 _ ((hlk3 _).2 (.inr rfl))
                refine round_end (l.length - (k + 1)) (by omega) ⟨k + 1, es4, clock4, _, has rfl (has rfl (has rfl (has rfl (has rfl (has rfl (has rfl (has rfl (has rfl (has rfl rfl))))))))), hkl, rfl, env89, hch89.step hB011 hB011.size (fun i hi h => by omega), hch11.trans hch89 (fun _ _ h => h) (fun _ _ h => h), fun q h => h24 q (hmono q h), fun j hj fw' u he => ?_, fun v hv1 hv2 j fw' u he => ?_, fun h => ?_, hreach4⟩
                · by_cases hjk : j = k
                  · subst hjk
                    obtain ⟨_, hwo, hh⟩ := he
                    have hxu : nx = u := by rcases hh with ⟨rfl, h1, h2, h3⟩ | ⟨rfl, h1, h2, h3⟩ <;> rcases hfw with ⟨g1, _, g2⟩ | ⟨g1, _, g2⟩ <;> omega
                    rw [← hxu]; exact h4nx
                  · exact h24 _ (hproc j (by omega) fw' u he)
                · by_cases hvn : v = nx
                  · exact hclos v (.inl hvn) j fw' u he
                  · cases hq : inM es2 v with
                    | true => exact h24 _ (hfin v hq hv2 j fw' u he)
                    | false =>
                      refine hclos v (.inr ⟨hv1, ?_⟩) j fw' u he
                      cases hq3 : inM es3 v with
                      | false => rfl
                      | true =>
                        rcases (hlk3 _).1 hq3 with h | h
                        · rw [show inM es2 v = true from h] at hq; cases hq
                        · injection h with _ h; exact absurd h hvn
                · rcases (hlk3 _).1 (htgt h) with h | h
                  · exact hto h
                  · injection h with _ h; exact absurd h.symm hntgt
      · skip
        refine Nl (Tn (Sq (Cf rfl (Xi (Tx (Tx (Bs (Tn (Sq (Rg (As (As (Nl (Tn (Rt ?_)))))))))))))))
        have hkl : k = l.length := by omega
        refine ret2 rfl ⟨.slice none 0 0, false, es2, clock2, [], ret2s rfl rfl, hchl, envl, ⟨hmono, fun h => absurd h Bool.false_ne_true, fun _ => ⟨c19, fun v hv j fw' u he => ?_, hto⟩, hreach⟩, Kd.R_nil _ _ _ _ _, Nat.zero_le _⟩
        rcases hv with rfl | ⟨hv1, hv2⟩
        · exact hproc j (by have := he.1; omega) fw' u he
        · exact hfin v hv1 hv2 j fw' u he
end Go.Proofs.B
