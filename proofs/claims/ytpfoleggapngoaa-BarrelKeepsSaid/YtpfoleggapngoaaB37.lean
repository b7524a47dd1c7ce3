/- barrel: the reference's lists of levels: put, walked. -/
import Derived.Test.YtpfoleggapngoaaB36
set_option linter.unusedVariables false
set_option linter.unusedSimpArgs false
set_option maxRecDepth 10000
namespace Go.Proofs.B
open Go Go.RowKit Go.Proofs Go.Proofs.G Go.Proofs.F Go.Proofs.YtpfoleggapngoaaW.PrintWords
theorem rdM (l : List (List Int)) (k : Nat) (h : k < l.length) : rd_L1 l (k : Nat) = l[k] := by simp [rd_L1, List.getD_eq_getElem?_getD, h]
theorem put_c (A B : Option Addr) (c d : Nat) (l : List (List Int)) (one : List Int) (w : World) (hl : kRow.C w A l.length l) (hlc : l.length ≤ c) (ho : (Kd.int .i64).C w B one.length one) (hd : one.length ≤ d) (hsame : ∀ x ∈ l, x.length = one.length) (hsz : l.length ≤ 1000000000) :
    Calls Try.prog 81 #[.slice A l.length c, .slice B one.length d] w fun e w' => ∃ v, e = .returned v ∧ RowC w' v (putL l one) ∧ Bel w w' := by
  refine G_enter (l := [.slice A l.length c, .slice B one.length d]) Try.func81 rfl rfl ?_
  refine Sq (Rg (As (Nl (Tn (Sq (Rg (As (Nl (Tn (Sq (Sq (Rg (As (Nl (Tn (Bk ?_))))))))))))))))
  refine GC_loop (fun m σ w' => ∃ (k : Nat) (v : Value) (τ : Nat → Value), σ = upd (upd (upd (upd τ 0 (.slice A l.length c)) 1 (.slice B one.length d)) 5 v) 6 (.int .i64 k) ∧ k ≤ l.length ∧ m = l.length - k ∧ (∀ j : Nat, j < k → ¬ HiP (rd_L1 l j) one) ∧ Lc w w' v ((l.take k).filter (fun x => !decide (HiP one x))) ∧ Bel w w') (l.length) ⟨0, _, _, has rfl (has rfl (has rfl (has rfl rfl))), Nat.zero_le _, rfl, fun j hj => absurd hj (Nat.not_lt_zero _), Lc.nil _ _, Below.refl _ _⟩ ?_
  rintro m _ w2 ⟨k, v, τ, rfl, hk, rfl, hall, hL, hB⟩
  refine Sq (Sq (Rg (Mv (Mv (Ln Try.underlying25 rfl ?_)))))
  refine g_lss rfl rfl (h1 := fun c10 => ?_) (h2 := fun c10 => ?_)
  · skip
    refine Nl (Tn (Ct rfl (Sk (Tn (Sq (Bk (Sq (Sq (Rg (Mv (Mv ?_)))))))))))
    have hkl : k < l.length := by omega
    obtain ⟨ad, A0, c0, hA, h16, hle0, hC0⟩ := at_L1 hl k (by omega) (by omega)
    rw [hA]
    have hlk : (rd_L1 l k).length = one.length := by rw [rdM l k hkl]; exact hsame _ (List.getElem_mem hkl)
    refine g_indexS Try.underlying25 info22 rfl rfl (by omega) (by omega) (Nat.mul_one _) (h := ?_)
    refine L1 Try.underlying22 (hB.cellk h16) rfl (Mv ?_)
    refine g_call he96 rfl (higher_c A0 B c0 d (rd_L1 l k) one _ (Kd.C_below hC0 hB) (Kd.C_below ho hB) hlk.symm) (h := ?_)
    rintro e w18 ⟨rfl, hb18⟩
    refine ⟨_, rfl, ?_⟩
    refine Nl (Tn ?_)
    cases q18 : decide (HiP (rd_L1 l k) one) with
    | true =>
      refine Ct rfl (Sq (Rg (Mv (As (Nl (Tn (Rt (Tr (Br (Tr (Tr (Br (Tr ?_)))))))))))))
      exact ret1 rfl ⟨_, rfl, by rw [putL, if_neg (fun h => h _ (by rw [rdM l k hkl]; exact List.getElem_mem hkl) (of_decide_eq_true q18))]; exact ⟨some ad, c, rfl, hlc, by rw [← hA]; exact Kd.C_below hl (hB.bel hb18)⟩, hB.bel hb18⟩
    | false =>
      have hall' : ∀ j : Nat, j < k + 1 → ¬ HiP (rd_L1 l j) one := fun j hj => by
        rcases Nat.lt_succ_iff_lt_or_eq.1 hj with h | h
        · exact hall j h
        · subst h; exact of_decide_eq_false q18
      refine Cf rfl (Sk (Tn (Sq (Rg (Mv (Mv (Mv ?_)))))))
      refine g_indexS Try.underlying25 info22 rfl rfl (by omega) (by omega) (Nat.mul_one _) (h := ?_)
      refine L1 Try.underlying22 (((hB.bel hb18).cellk h16)) rfl ?_
      refine g_call he96 rfl (higher_c B A0 d c0 one (rd_L1 l k) _ (Kd.C_below ho (hB.bel hb18)) (Kd.C_below hC0 (hB.bel hb18)) hlk) (h := ?_)
      rintro e w25 ⟨rfl, hb25⟩
      refine ⟨_, rfl, ?_⟩
      cases q25 : decide (HiP one (rd_L1 l k)) with
      | true =>
        have hnext : (l.take (k + 1)).filter (fun x => !decide (HiP one x)) = (l.take k).filter (fun x => !decide (HiP one x)) := by
          rw [take_snoc' l k hkl, List.filter_append, List.filter_cons, List.filter_nil, ← rdM l k hkl, q25]; simp
        refine Nt rfl (Nl (Tn (Cf rfl (Sk (Bn (Tn (Rg (Mv ?_))))))))
        refine g_add rfl rfl (by omega) (h := ?_)
        refine As (Nl ?_)
        exact round_end (l.length - (k + 1)) (by omega) ⟨k + 1, _, _, has rfl (has rfl (has rfl (has rfl rfl))), hkl, rfl, hall', by rw [hnext]; obtain ⟨vs, hv1, hv2, hv3⟩ := hL; exact ⟨vs, hv1, rB hv2 (hb18.bel hb25), hv3⟩, hB.bel (hb18.bel hb25)⟩
      | false =>
        have hnext : (l.take (k + 1)).filter (fun x => !decide (HiP one x)) = (l.take k).filter (fun x => !decide (HiP one x)) ++ [rd_L1 l k] := by
          rw [take_snoc' l k hkl, List.filter_append, List.filter_cons, List.filter_nil, ← rdM l k hkl, q25]; simp
        have hb2 := hb18.bel hb25
        obtain ⟨vs, hv1, hv2, hv3⟩ := hL
        have hfl : ((l.take k).filter (fun x => !decide (HiP one x))).length ≤ k := Nat.le_trans (List.length_filter_le _ _) (by rw [List.length_take]; omega)
        refine Nt rfl (Nl (Tn (Ct rfl (Rg (Mv (Mv (Mv ?_)))))))
        refine g_indexS Try.underlying25 info22 rfl rfl (by omega) (by omega) (Nat.mul_one _) (h := ?_)
        refine L1 Try.underlying22 (((hB.bel hb2).cellk h16)) rfl ?_
        refine g_lit1 bs25 rfl rfl (h := fun g32 w32 N32 => ?_)
        have hB32 := (hB.bel hb2).new N32
        have HR32 := rN (rB hv2 hb2) N32
        refine g_appendR kVal Try.underlying25 zi22 rfl (by decide) HR32 (cs := [.slice A0 (rd_L1 l k).length c0]) N32.at_ (p := ⟨.slice A0 (rd_L1 l k).length c0, rfl⟩) (okp := fun _ => False) rfl (fun _ h => h.elim) (fun _ _ => trivial) hB32.size (by rw [hv1]; omega) (by rw [hv1]; simp [maxLen]; omega) rfl rfl (h := fun v33 w33 HR33 hg33 _ => ?_)
        have hB33 := hB32.grown hg33 (Kd.R_base HR32)
        refine As (Nl (Bn (Tn (Rg (Mv ?_)))))
        refine g_add rfl rfl (by omega) (h := ?_)
        refine As (Nl ?_)
        exact round_end (l.length - (k + 1)) (by omega) ⟨k + 1, _, _, has rfl (has rfl (has rfl (has rfl rfl))), hkl, rfl, hall', by rw [hnext]; exact Lc.snoc hv1 hv3 (u := ⟨.slice A0 (rd_L1 l k).length c0, rfl⟩) ⟨A0, c0, rfl, hle0, hC0⟩ HR33, hB33⟩
  · skip
    refine Nl (Tn (Cf rfl (Xi (Tx (Tx (Bs (Tn (Sq (Rg (Mv (Mv ?_)))))))))))
    obtain ⟨vs, hv1, hv2, hv3⟩ := hL
    have hfl : ((l.take k).filter (fun x => !decide (HiP one x))).length ≤ k := Nat.le_trans (List.length_filter_le _ _) (by rw [List.length_take]; omega)
    refine g_lit1 bs25 rfl rfl (h := fun g36 w36 N36 => ?_)
    have hB36 := hB.new N36
    have HR36 := rN hv2 N36
    refine g_appendR kVal Try.underlying25 zi22 rfl (by decide) HR36 (cs := [.slice B one.length d]) N36.at_ (p := ⟨.slice B one.length d, rfl⟩) (okp := fun _ => False) rfl (fun _ h => h.elim) (fun _ _ => trivial) hB36.size (by rw [hv1]; omega) (by rw [hv1]; simp [maxLen]; omega) rfl rfl (h := fun v37 w37 HR37 hg37 _ => ?_)
    have hB37 := hB36.grown hg37 (Kd.R_base HR36)
    refine As (Nl (Tn (Rt ?_)))
    have hend : (l.take k).filter (fun x => !decide (HiP one x)) = l.filter (fun x => !decide (HiP one x)) := by rw [List.take_of_length_le (by omega)]
    rw [hend] at hv1 hv3
    have hLs := Lc.snoc (w0 := w) (w := w37) hv1 hv3 (u := ⟨.slice B one.length d, rfl⟩) (l := one) ⟨B, d, rfl, hd, ho⟩ HR37
    have hput : putL l one = l.filter (fun x => !decide (HiP one x)) ++ [one] := by
      unfold putL
      rw [if_pos (fun x hx => by
        obtain ⟨j, hj, rfl⟩ := List.mem_iff_getElem.1 hx
        rw [← rdM l j hj]
        exact hall j (by omega))]
    exact ret1 rfl ⟨_, rfl, by rw [hput]; exact hLs.row hB37, hB37⟩
end Go.Proofs.B
