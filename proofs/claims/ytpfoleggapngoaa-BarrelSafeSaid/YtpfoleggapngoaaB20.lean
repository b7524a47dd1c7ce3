/- barrel: the barrels that a range over a function yields. -/
import Derived.Test.YtpfoleggapngoaaGd
import Derived.Test.YtpfoleggapngoaaB6
import Derived.Test.YtpfoleggapngoaaB11
import Derived.Test.YtpfoleggapngoaaB19
set_option linter.unusedVariables false
set_option linter.unusedSimpArgs false
set_option maxRecDepth 10000
namespace Go.Proofs.B
open Go Go.RowKit Go.Proofs Go.Proofs.G Go.Proofs.F Go.Proofs.YtpfoleggapngoaaW.PrintWords
/-- Cells stay, but of variables of the type [][]int. -/
def Kp (w w' : World) : Prop := w.heap.size ≤ w'.heap.size ∧ ∀ (k : Nat) (cs : Array Value) (t : TypeId) (f : Nat × Nat), t ≠ 25 → w.heap[k]? = some (Obj.cells cs t f) → w'.heap[k]? = some (Obj.cells cs t f)
theorem Kp.refl (w : World) : Kp w w := ⟨Nat.le_refl _, fun _ _ _ _ _ h => h⟩
theorem Kp.trans {a b c : World} (h : Kp a b) (k : Kp b c) : Kp a c := ⟨Nat.le_trans h.1 k.1, fun i cs t f ht hi => k.2 i cs t f ht (h.2 i cs t f ht hi)⟩
theorem Kp.of {w w' : World} (h : Bel w w') : Kp w w' := ⟨h.size, fun k cs t f _ hk => kB hk h⟩
theorem Kp.put {w w' : World} {g : Nat} {o o' : Obj} (h : Put w w' g o') (ho : w.heap[g]? = some o) (hn : ∀ cs t f, o = .cells cs t f → t = 25) : Kp w w' :=
  ⟨Nat.le_of_eq h.size.symm, fun k cs t f ht hk => kP hk h (fun e => by subst e; rw [hk] at ho; injection ho with ho; exact ht (hn _ _ _ ho.symm))⟩
theorem R_kp {α : Type} {enc : α → Value} {h1 : ∀ x, (enc x).oneCell' = true} {e : Nat} {w w' : World} {v : Value} {xs : List α} (he : e ≠ 25) (h : (Kd.scalar enc h1).R e w 0 (fun _ => True) v xs) (hk : Kp w w') : (Kd.scalar enc h1).R e w' 0 (fun _ => True) v xs :=
  Kd.R_of_own (own_move (Kd.own_of_R h) (fun k hk' => by obtain ⟨cs, hc⟩ := own_typed (Kd.own_of_R h) k hk'; rw [hk.2 k cs _ _ he hc, hc])) (fun _ _ => trivial)
abbrev RTi (w : World) (v : Value) (s : List Int) : Prop := (Kd.int .i64).R 3 w 0 (fun _ => True) v s
theorem RTi.kp {w w' : World} {v : Value} {s : List Int} (h : RTi w v s) (hk : Kp w w') : RTi w' v s := R_kp (by decide) h hk
structure IBx (A : Option Addr) (c n : Nat) (girth play : Int) (g : List Bool) (l gP gY gG gS : Nat) (w : World) : Prop where
  KP : w.heap[gP]? = some (.cells #[.slice A n c, .int .i64 girth, .int .i64 play] 101 (0, 0))
  KY : w.heap[gY]? = some (.cells #[.func (.yield l) #[] #[]] 102 (0, 0))
  KG : w.heap[gG]? = some (.cells (bs g) 99 (0, 0))
  KS : w.heap[gS]? = some (.cells #[.func (.func 94) #[] #[.pointer (some ⟨gP, 0, none⟩), .pointer (some ⟨gY, 0, none⟩), .pointer (some ⟨gG, 0, none⟩), .pointer (some ⟨gS, 0, none⟩)]] 102 (0, 0))
theorem IBx.kp {A : Option Addr} {c n : Nat} {girth play : Int} {g : List Bool} {l gP gY gG gS : Nat} {w w' : World} (h : IBx A c n girth play g l gP gY gG gS w) (hk : Kp w w') : IBx A c n girth play g l gP gY gG gS w' :=
  ⟨hk.2 _ _ _ _ (by decide) h.KP, hk.2 _ _ _ _ (by decide) h.KY, hk.2 _ _ _ _ (by decide) h.KG, hk.2 _ _ _ _ (by decide) h.KS⟩
theorem rd_snoc (s : List Int) (x : Int) : rd (s ++ [x]) ((s ++ [x]).length - 1 : Int) = x := by
  rw [List.length_append, List.length_singleton, show ((s.length + 1 : Nat) : Int) - 1 = (s.length : Nat) by omega, rd_nat _ s.length (by simp)]
  simp
theorem last_lt {s : List Int} {x : Int} {t : List Int} (h : (s ++ x :: t).Pairwise (· < ·)) (hs : 0 < s.length) : rd s ((s.length : Int) - 1) < x := by
  have h1 := (List.pairwise_append.1 h).2.2
  refine h1 _ (rd_mem (by omega) (by omega)) _ (by simp)
theorem ris_snoc {n : Nat} {g : List Bool} {s : List Int} {k : Int} (h : Ris n g s) (hs : 0 < s.length) (hk : rd s ((s.length : Int) - 1) < k) (hkn : k < n) (hg : g.getD k.toNat false = false) : Ris n g (s ++ [k]) := by
  have h0 := (h.2 _ (rd_mem (xs := s) (i := (s.length : Int) - 1) (by omega) (by omega))).1
  refine ⟨List.pairwise_append.2 ⟨h.1, List.pairwise_singleton _ _, fun a ha b hb => ?_⟩, fun x hx => ?_⟩
  · rw [List.mem_singleton.1 hb]
    obtain ⟨i, hi, rfl⟩ := List.mem_iff_getElem.1 ha
    by_cases e : i = s.length - 1
    · subst e
      rw [show ((s.length : Int) - 1) = ((s.length - 1 : Nat) : Int) by omega, rd_nat _ _ hi] at hk
      exact hk
    · have h2 := List.pairwise_iff_getElem.1 h.1 i (s.length - 1) hi (by omega) (by omega)
      rw [show ((s.length : Int) - 1) = ((s.length - 1 : Nat) : Int) by omega, rd_nat _ _ (by omega)] at hk
      omega
  · rcases List.mem_append.1 hx with hx | hx
    · exact h.2 x hx
    · rw [List.mem_singleton.1 hx]; exact ⟨⟨by omega, hkn⟩, hg⟩
theorem isBarrel_pos {ws : List Int} {girth play : Int} {s : List Int} (h : isBarrelL ws girth play s = true) : s ≠ [] := fun e => by subst e; simp [isBarrelL] at h
section
variable {J : List (List Int) → World → Prop} {A : Option Addr} {c : Nat} {ws : List Int} {girth play : Int} {g : List Bool} {l : Nat}
set_option maxHeartbeats 4000000 in
theorem longer_c (hJ : ∀ d W W', J d W → Bel W W' → J d W') (hJw : ∀ d W, J d W → (Kd.int .i64).C W A ws.length ws)
    (hY : ∀ d y v W, J d W → RTi W v y → Ris ws.length g y → isBarrelL ws girth play y = true → Yc Try.prog l v W (fun e W' => e = .returned (.bool true) ∧ J (d ++ [y]) W' ∧ Kp W W'))
    (hb : ∀ x ∈ ws, 0 ≤ x ∧ x ≤ 1000) (hn : ws.length ≤ 10) (hgi : 0 ≤ girth ∧ girth ≤ 100000) (hpl : 0 ≤ play ∧ play ≤ 100000) (hgl : g.length = 10) (gP gY gG gS : Nat) :
    ∀ (n : Nat) (s : List Int) (v : Value) (d : List (List Int)) (w : World), Ris ws.length g s → 0 < s.length → (ws.length : Int) - rd s ((s.length : Int) - 1) ≤ n → J d w → IBx A c ws.length girth play g l gP gY gG gS w → RTi w v s →
    Calls Try.prog 94 #[v, .pointer (some ⟨gP, 0, none⟩), .pointer (some ⟨gY, 0, none⟩), .pointer (some ⟨gG, 0, none⟩), .pointer (some ⟨gS, 0, none⟩)] w fun e w' => ∃ ys, e = .returned (.bool true) ∧ J (d ++ ys) w' ∧ Kp w w' ∧
      ∀ t, Ris ws.length g (s ++ t) → isBarrelL ws girth play (s ++ t) = true → s ++ t ∈ ys := by
  intro n
  induction n with
  | zero =>
    intro s v d w hs hs0 hm
    have := (hs.2 _ (rd_mem (xs := s) (i := (s.length : Int) - 1) (by omega) (by omega))).1
    omega
  | succ n ih =>
    intro s v d w hs hs0 hm hJd hbx hv
    obtain ⟨gs, cs, rfl, _, hgs, _⟩ := Kd.R_form hv hs0
    have hsl : s.length ≤ 10 := by
      have h1 : ∀ (m : Nat), m < s.length → (m : Int) ≤ rd s m := fun m => by
        induction m with
        | zero => intro h; exact (hs.2 _ (rd_mem (xs := s) (i := ((0 : Nat) : Int)) (by omega) (by omega))).1.1
        | succ m ih =>
          intro h
          have h2 := ih (by omega)
          have h3 := List.pairwise_iff_getElem.1 hs.1 m (m + 1) (by omega) h (by omega)
          rw [rd_nat s m (by omega)] at h2
          rw [rd_nat s (m + 1) h]
          omega
      have h2 := h1 (s.length - 1) (by omega)
      have h3 := (hs.2 _ (rd_mem (xs := s) (i := ((s.length - 1 : Nat) : Int)) (by omega) (by omega))).1
      omega
    have hlast := (hs.2 _ (rd_mem (xs := s) (i := (s.length : Int) - 1) (by omega) (by omega))).1
    have hcs : s.length ≤ cs := (Kd.R_reads' hv).2.1
    refine G_enter (l := [.slice (some ⟨gs, 0, none⟩) s.length cs, .pointer (some ⟨gP, 0, none⟩), .pointer (some ⟨gY, 0, none⟩), .pointer (some ⟨gG, 0, none⟩), .pointer (some ⟨gS, 0, none⟩)]) Try.func94 rfl rfl ?_
    refine Sq (Rg (As (Nl (Tn (Sc ?_)))))
    refine GC_join (fun σ w' => ∃ (ys : List (List Int)) (τ : Nat → Value), σ = upd (upd (upd (upd (upd τ 0 (.slice (some ⟨gs, 0, none⟩) s.length cs)) 1 (.pointer (some ⟨gP, 0, none⟩))) 2 (.pointer (some ⟨gY, 0, none⟩))) 3 (.pointer (some ⟨gG, 0, none⟩))) 4 (.pointer (some ⟨gS, 0, none⟩)) ∧ J (d ++ ys) w' ∧ Kp w w' ∧ (isBarrelL ws girth play s = true → s ∈ ys)) ?_ ?_
    · skip
      refine Sq (Rg ?_)
      refine g_loadA rfl Try.underlying101 info101 (l := [.slice A ws.length c, .int .i64 girth, .int .i64 play]) (cellsAt hbx.KP) (h := ?_)
      refine Mv ?_
      refine g_call he63 rfl (isBarrel_c A (some ⟨gs, 0, none⟩) c cs ws s girth play _ (hJw _ _ hJd) (Kd.R_reads' hv).2.2 hb (by omega) (fun k hk => (hs.2 k hk).1) hgi hpl) (h := ?_)
      rintro e w11 ⟨rfl, hb11⟩
      refine ⟨_, rfl, ?_⟩
      have hJ11 := hJ _ _ _ hJd hb11
      have hbx11 := hbx.kp (Kp.of hb11)
      have hv11 := hv.kp (Kp.of hb11)
      refine Mv ?_
      cases q12 : isBarrelL ws girth play s with
      | true =>
        refine L1 Try.underlying102 (cellAt hbx11.KY rfl) rfl (Mv ?_)
        refine g_yield rfl rfl (hY _ s _ _ hJ11 hv11 hs q12) (h := ?_)
        rintro e w15 ⟨rfl, hJ15, hK15⟩
        refine ⟨_, rfl, ?_⟩
        refine Nt rfl (Pt rfl (Nl (Tn (Cf rfl (Sk ?_)))))
        exact join_end ⟨[s], _, has rfl (has rfl (has rfl (has rfl (has rfl rfl)))), hJ15, (Kp.of hb11).trans hK15, fun _ => by simp⟩
      | false =>
        refine Of (Of (Of (Of (Pf rfl (Nl (Tn (Cf rfl (Sk ?_))))))))
        exact join_end ⟨[], _, has rfl (has rfl (has rfl (has rfl (has rfl rfl)))), by rw [List.append_nil]; exact hJ11, Kp.of hb11, fun h => by cases h⟩
    · rintro _ w2 ⟨ys1, τ1, rfl, hJ2, hK2, hself⟩
      refine Sq (Rg ?_)
      have hbx2 := hbx.kp hK2
      refine Mv (Ln Try.underlying22 rfl (As (Nl (Tn (Sq (Lb (Tn (Sq (Sq (Rg (Fb f101_0 rfl (Fb f24_0 rfl (L1 Try.underlying22 (cellAt hbx2.KP rfl) rfl (Ln Try.underlying22 rfl (Mv (Nl (Tn (Bk ?_))))))))))))))))))
      refine GC_loop (fun m σ w' => ∃ (k : Nat) (ys : List (List Int)) (τ : Nat → Value), σ = upd (upd (upd (upd (upd (upd (upd (upd τ 0 (.slice (some ⟨gs, 0, none⟩) s.length cs)) 1 (.pointer (some ⟨gP, 0, none⟩))) 2 (.pointer (some ⟨gY, 0, none⟩))) 3 (.pointer (some ⟨gG, 0, none⟩))) 4 (.pointer (some ⟨gS, 0, none⟩))) 7 (.int .i64 s.length)) 23 (.int .i64 ws.length)) 24 (.int .i64 k) ∧ k ≤ ws.length ∧ m = ws.length - k ∧ J (d ++ ys) w' ∧ Kp w w' ∧ (isBarrelL ws girth play s = true → s ∈ ys) ∧ ∀ x t, x < (k : Int) → Ris ws.length g (s ++ x :: t) → isBarrelL ws girth play (s ++ x :: t) = true → s ++ x :: t ∈ ys) (ws.length) ⟨0, ys1, _, has rfl (has rfl (has rfl (has rfl (has rfl (has rfl (has rfl (has rfl rfl))))))), Nat.zero_le _, rfl, hJ2, hK2, hself, fun x t hx hr _ => by have := (hr.2 x (by simp)).1; omega⟩ ?_
      rintro m _ w3 ⟨k, ys, τ, rfl, hk, rfl, hJ3, hK3, hself3, hall⟩
      refine Sq (Rg ?_)
      refine g_lss rfl rfl (h1 := fun c25 => ?_) (h2 := fun c25 => ?_)
      · skip
        refine Nl (Tn (Sq (Ct rfl (Sk (Tn (Sq (Bk (Sq (Rg ?_)))))))))
        have hkl : k < ws.length := by omega
        have hbx3 := hbx.kp hK3
        have hv3 := hv.kp hK3
        have h32 := (Kd.R_celln (0 : Int) hv3 ((s.length : Int) - 1) (by omega) (by omega)).1
        refine Mv (As (Nl (Tn (Sq (Sq (Rg (Mv (Mv (Mv ?_)))))))))
        refine g_sub rfl rfl (by omega) (h := ?_)
        refine g_indexO Try.underlying22 info3 rfl rfl  (by omega) (by omega) (Nat.mul_one _) (h := ?_)
        refine L1 Try.underlying3 (h32) rfl ?_
        refine g_leq rfl rfl (h1 := fun c33 => ?_) (h2 := fun c33 => ?_)
        · skip
          refine Mv (Of (Of (Of (Pt rfl (Nl (Tn (Ct rfl (Xi (Tx (Bs (Tn (Rg ?_))))))))))))
          refine g_add rfl rfl (by omega) (h := ?_)
          refine Mv (Nl ?_)
          exact round_end (ws.length - (k + 1)) (by omega) ⟨k + 1, ys, _, has rfl (has rfl (has rfl (has rfl (has rfl (has rfl (has rfl (has rfl rfl))))))), hkl, rfl, hJ3, hK3, hself3, fun x t hx hr hB => by
            by_cases e : x < (k : Int)
            · exact hall x t e hr hB
            · have := last_lt hr.1 hs0
              have hc : (k : Int) ≤ rd s ((s.length : Int) - 1) := c33
              omega⟩
        · skip
          refine Mv (Mv ?_)
          refine g_indexA Try.underlying99 info4 rfl rfl (by omega) (by omega) (add0 _ _) (h := ?_)
          refine L1 Try.underlying4 (cellAt hbx3.KG (bs_get (by rw [hgl]; exact Nat.lt_of_lt_of_le hkl hn))) rfl (Pf rfl (Nl (Tn ?_)))
          cases q38 : g.getD (k : Int).toNat false with
          | true =>
            refine Ct rfl (Xi (Tx (Bs (Tn (Rg ?_)))))
            refine g_add rfl rfl (by omega) (h := ?_)
            refine Mv (Nl ?_)
            exact round_end (ws.length - (k + 1)) (by omega) ⟨k + 1, ys, _, has rfl (has rfl (has rfl (has rfl (has rfl (has rfl (has rfl (has rfl rfl))))))), hkl, rfl, hJ3, hK3, hself3, fun x t hx hr hB => by
              by_cases e : x < (k : Int)
              · exact hall x t e hr hB
              · obtain rfl : x = k := by omega
                have := (hr.2 (k : Int) (by simp)).2
                rw [q38] at this
                cases this⟩
          | false =>
            refine Cf rfl (Sk (Tn (Sq ?_)))
            have hB8 : Bel w3 (w3.drewN 1) := Bel.drew (Below.refl _ _)
            refine GD_start 10 [8] (fun w' => w'.heap[gS]? = some (.cells #[.func (.func 94) #[] #[.pointer (some ⟨gP, 0, none⟩), .pointer (some ⟨gY, 0, none⟩), .pointer (some ⟨gG, 0, none⟩), .pointer (some ⟨gS, 0, none⟩)]] 102 (0, 0))) (by kernel_rfl) rfl ?_
            refine GD_take 0 rfl (by kernel_rfl) (by kernel_rfl) (by kernel_rfl) (by kernel_rfl) rfl rfl rfl (qv fun wq hC => by exact r_load1 rfl Try.underlying102 (cellAt hC rfl)) ?_
            refine GD_pure 1 rfl (by kernel_rfl) (by kernel_rfl) (by kernel_rfl) (by kernel_rfl) rfl rfl rfl (qv fun wq hC => by exact r_move) ?_
            refine GD_pure 2 rfl (by kernel_rfl) (by kernel_rfl) (by kernel_rfl) (by kernel_rfl) rfl rfl rfl (qv fun wq hC => by exact r_move) ?_
            refine GD_pure 3 rfl (by kernel_rfl) (by kernel_rfl) (by kernel_rfl) (by kernel_rfl) rfl rfl rfl (qv fun wq hC => by exact r_move) ?_
            refine GD_take 4 rfl (by kernel_rfl) (by kernel_rfl) (by kernel_rfl) (by kernel_rfl) rfl rfl rfl (qv fun wq hC => by exact r_slice3 Try.underlying22 inf3 rfl rfl rfl rfl rfl (Nat.le_refl _) hcs) ?_
            refine GD_pure 5 rfl (by kernel_rfl) (by kernel_rfl) (by kernel_rfl) (by kernel_rfl) rfl rfl rfl (qv fun wq hC => by exact r_move) ?_
            refine GD_one 6 (by kernel_rfl) (fun _ => kB hbx3.KS hB8) ?_
            refine GO_lit1 rfl rfl rfl bs22 rfl rfl (fun g45 w45 N45 => ?_)
            have hB8 := hB8.new N45
            refine GD_one 7 (by kernel_rfl) (fun _ => kB hbx3.KS hB8) ?_
            refine GO_appendC (p := (k : Int)) rfl rfl rfl Try.underlying22 zi3 rfl (Kd.C_below (Kd.R_reads' hv3).2.2 hB8) N45.at_ (by omega) (by simp [maxLen]; omega) (fun h => by cases h) rfl rfl (fun v46 w46 HR46 hg46 => ?_)
            have hB8 := hB8.grown hg46 (fun k hk => by cases hk)
            refine GD_one 8 (by kernel_rfl) (fun _ => kB hbx3.KS hB8) ?_
            have hkl2 : rd s ((s.length : Int) - 1) < k := by have : ¬ (k : Int) ≤ rd s ((s.length : Int) - 1) := c33; omega
            refine GO_callv rfl rfl rfl he94 rfl rfl (ih (s ++ [(k : Int)]) v46 (d ++ ys) w46 (ris_snoc hs hs0 hkl2 (by omega) q38) (by simp) (by rw [rd_snoc]; omega) (hJ _ _ _ hJ3 hB8) (hbx3.kp (Kp.of hB8)) (Kd.R_lower HR46 (Nat.zero_le _))) (fun e w47 he => ?_)
            obtain ⟨ys47, rfl, hJ47, hK47, hall47⟩ := he
            refine ⟨_, rfl, ?_⟩
            refine GD_pure 9 rfl (by kernel_rfl) (by kernel_rfl) (by kernel_rfl) (by kernel_rfl) rfl rfl rfl (qv fun wq hC => by exact r_not rfl) ?_
            refine GD_end (by kernel_rfl) (dead 8 rfl (by kernel_rfl)) ?_
            refine Tn (Cf rfl (Sk (Bn (Tn (Rg ?_)))))
            refine g_add rfl rfl (by omega) (h := ?_)
            refine Mv (Nl ?_)
            exact round_end (ws.length - (k + 1)) (by omega) ⟨k + 1, ys ++ ys47, _, has rfl (has rfl (has rfl (has rfl (has rfl (has rfl (has rfl (has rfl rfl))))))), hkl, rfl, by rw [← List.append_assoc]; exact hJ47, (hK3.trans (Kp.of hB8)).trans hK47, fun h => List.mem_append.2 (.inl (hself3 h)), fun x t hx hr hB => by
              by_cases e : x < (k : Int)
              · exact List.mem_append.2 (.inl (hall x t e hr hB))
              · obtain rfl : x = k := by omega
                have h1 : s ++ [(k : Int)] ++ t = s ++ (k : Int) :: t := by simp
                have := hall47 t (by rw [h1]; exact hr) (by rw [h1]; exact hB)
                rw [h1] at this
                exact List.mem_append.2 (.inr this)⟩
      · skip
        refine Nl (Tn (Sq (Cf rfl (Xi (Tx (Tx (Bs (Tn (Sq (Rg (As (Nl (Tn (Rt (Sr ?_)))))))))))))))
        exact ret1 rfl ⟨ys, rfl, hJ3, hK3, fun t hr hB => by
          cases t with
          | nil => rw [List.append_nil] at *; exact hself3 hB
          | cons x t => exact hall x t (by have := (hr.2 x (by simp)).1; omega) hr hB⟩
end
end Go.Proofs.B
