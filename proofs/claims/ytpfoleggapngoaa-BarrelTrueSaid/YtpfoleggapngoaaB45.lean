/- barrel: the laws' own helpers on books: whole, to, fixed, out. -/
import Derived.Test.YtpfoleggapngoaaGe
import Derived.Test.YtpfoleggapngoaaB44
import Derived.Test.YtpfoleggapngoaaB26
set_option linter.unusedVariables false
set_option linter.unusedSimpArgs false
set_option maxRecDepth 10000
namespace Go.Proofs.B
open Go Go.RowKit Go.Proofs Go.Proofs.G Go.Proofs.F Go.Proofs.YtpfoleggapngoaaW.PrintWords
theorem whole_c (n : Int) (A : Option Addr) (c : Nat) (l : List S76) (w : World) (hs : k76.C w A l.length l) :
    Calls Try.prog 49 #[.agg #[.int .i64 n, .slice A l.length c]] w fun e w' => e = .returned (.bool (bookOk n l)) ∧ Bel w w' := by
  refine G_enter (l := [.agg #[.int .i64 n, .slice A l.length c]]) Try.func49 rfl rfl ?_
  refine Sq (Rg ?_)
  refine g_box rfl (h := fun g1 w1 N1 => ?_)
  have K1 := N1.at_
  have hB1 := Bel.of_new N1
  have K1a : w1.heap[g1]? = some (.cells #[.int .i64 n, .slice A l.length c] 49 (0, 0)) := K1
  refine As (Nl (Tn (Sq (Rg ?_))))
  refine g_loadA rfl Try.underlying49 info49 (l := [.int .i64 n, .slice A l.length c]) (cellsAt K1a) (h := ?_)
  refine g_call he35 rfl (checkBook_c A c n l _ (Kd.C_below hs hB1)) (h := ?_)
  rintro e w4 ⟨rfl, hb4⟩
  refine ⟨_, rfl, ?_⟩
  have hB4 := hB1.bel hb4
  have K1b := kB K1a hb4
  refine g_eql rfl rfl (h1 := fun c5 => ?_) (h2 := fun c5 => ?_)
  · skip
    have hbo : bookOk n l = true := by by_cases h : bookOk n l = true; exact h; rw [if_neg h] at c5; exact absurd c5 (by decide)
    have hob  := book_n hbo
    obtain ⟨hn, hl10⟩ := hob
    refine Mv (Fb f49_0 rfl (L1 Try.underlying3 (cellAt K1b rfl) rfl ?_))
    refine g_inT rfl rfl rfl (hn) (h := ?_)
    refine Pt rfl (Mv (Fb f49_1 rfl (L1 Try.underlying47 (cellAt K1b rfl) rfl (Ln Try.underlying47 rfl ?_))))
    refine g_inT rfl rfl rfl (by omega) (h := ?_)
    refine Pt rfl (As (Nl (Tn (Rt ?_))))
    exact ret1 rfl ⟨retb hbo.symm, hB4⟩
  · skip
    have hbo : bookOk n l = false := by cases h : bookOk n l with | false => rfl | true => rw [if_pos h] at c5; exact absurd rfl c5
    refine Mv (Of (Of (Of (Pf rfl (Mv (Of (Of (Of (Of (Pf rfl (As (Nl (Tn (Rt ?_))))))))))))))
    exact ret1 rfl ⟨retb hbo.symm, hB4⟩
theorem outR_c (A : Option Addr) (c : Nat) (n : Int) (l : List S76) (S : Nat) (w : World) (hs : k76.C w A l.length l) (hbo : bookOk n l = true) (hS : S < 2 ^ 63) :
    Calls Try.prog 58 #[.agg #[.int .i64 n, .slice A l.length c], .int .i64 S] w fun e w' => e = .returned (.int .i64 (cutB l (pS S) (-1) l.length)) ∧ Bel w w' := by
  obtain ⟨hn, hl10⟩ := book_n hbo
  refine G_enter (l := [.agg #[.int .i64 n, .slice A l.length c], .int .i64 S]) Try.func58 rfl rfl ?_
  refine Sq (Rg ?_)
  refine g_box rfl (h := fun g2 w2 N2 => ?_)
  have K2 := N2.at_
  have hB2 := Bel.of_new N2
  have K2a : w2.heap[g2]? = some (.cells #[.int .i64 n, .slice A l.length c] 49 (0, 0)) := K2
  refine As (Nl (Tn (Sq (Rg (As (Nl (Tn (Sq (Sq (Rg (As (Nl (Tn (Bk ?_))))))))))))))
  refine GC_loop (fun m σ w' => ∃ (k : Nat) (τ : Nat → Value), σ = upd (upd (upd (upd τ 1 (.int .i64 S)) 2 (.pointer (some ⟨g2, 0, none⟩))) 5 (.int .i64 (cutB l (pS S) (-1) k))) 6 (.int .i64 k) ∧ k ≤ l.length ∧ m = l.length - k ∧ w'.heap[g2]? = some (.cells #[.int .i64 n, .slice A l.length c] 49 (0, 0)) ∧ Bel w w') (l.length) ⟨0, _, has rfl (has rfl (has rfl (has rfl rfl))), Nat.zero_le _, rfl, K2a, hB2⟩ ?_
  rintro m _ w4 ⟨k, τ, rfl, hk, rfl, K2b, hB⟩
  refine Sq (Sq (Rg (Mv (Fb f49_1 rfl (L1 Try.underlying47 (cellAt K2b rfl) rfl (Ln Try.underlying47 rfl ?_))))))
  refine g_lss rfl rfl (h1 := fun c12 => ?_) (h2 := fun c12 => ?_)
  · skip
    refine Nl (Tn (Ct rfl (Sk (Tn (Sq (Bk (Sq (Rg (Fb f49_1 rfl (L1 Try.underlying47 (cellAt K2b rfl) rfl ?_))))))))))
    have hkl : k < l.length := by omega
    have hob  := at76 hs hB k hkl
    obtain ⟨ad, hA, h23⟩ := hob
    rw [hA]
    have hmk := book_move hbo k hkl
    have hbd := cutB_bd hbo (pS S) (-1) k (by omega)
    have hstep : cutB l (pS S) (-1) (k + 1) = cutB l (pS S) (-1) k + (if (k : Int) = -1 then 0 else if pS S (mv l k).f0 = true ∧ pS S (mv l k).f1 = false then (mv l k).f2.f0 else if pS S (mv l k).f1 = true ∧ pS S (mv l k).f0 = false then - (mv l k).f2.f1 else 0) := rfl
    rw [if_neg (show ¬ (k : Int) = -1 by omega)] at hstep
    rw [← mv_get l k hkl] at h23
    generalize cutB l (pS S) (-1) k = cu at *
    refine Mv ?_
    refine g_indexS Try.underlying47 info76 rfl rfl (by omega) (by omega) rfl (h := ?_)
    refine g_loadA rfl Try.underlying76 info76 (l := enc76 (mv l k)) h23 (h := ?_)
    refine g_alloc (z := .agg #[.int .i64 0, .int .i64 0, .int .i64 0, .int .i64 0]) (by kernel_rfl) (h := fun g7 w7 N7 => ?_)
    have K7 := N7.at_
    refine g_storeA rfl rfl info76 K7 rfl (by simp [enc76, Value.oneCell']) (h := fun w6 P6 => ?_)
    have K7a : w6.heap[g7]? = some (.cells (enc76 (mv l k)).toArray 76 (0, 0)) := P6.at_
    have hB6 := (hB.new N7).put P6 (Nat.le_trans hB.size N7.ge)
    have K2d := kP (kN K2b N7) P6 (ne_ty (kN K2b N7) K7 (by decide))
    rw [hA] at K2d
    refine Nl (Tn (Sq (Sq (Rg (Mv (Fb f76_0 rfl (L1 Try.underlying3 (cellAt K7a rfl) rfl ?_)))))))
    refine g_call he86 rfl (bitI_c S (mv l k).f0 hS (by omega) _) (h := ?_)
    rintro e w23 ⟨rfl, rfl⟩
    refine ⟨_, rfl, ?_⟩
    refine Mv ?_
    cases q24 : pS S (mv l k).f0 with
    | true =>
      refine Mv (Fb f76_1 rfl (L1 Try.underlying3 (cellAt K7a rfl) rfl ?_))
      refine g_call he86 rfl (bitI_c S (mv l k).f1 hS (by omega) _) (h := ?_)
      rintro e w28 ⟨rfl, rfl⟩
      refine ⟨_, rfl, ?_⟩
      cases q28 : pS S (mv l k).f1 with
      | true =>
        refine Nt rfl (Pt rfl (Nl (Tn (Cf rfl (Sk (Tn (Sq (Rg (Mv (Fb f76_1 rfl (L1 Try.underlying3 (cellAt K7a rfl) rfl ?_)))))))))))
        refine g_call he86 rfl (bitI_c S (mv l k).f1 hS (by omega) _) (h := ?_)
        rintro e w39 ⟨rfl, rfl⟩
        refine ⟨_, rfl, ?_⟩
        refine Mv ?_
        cases q40 : pS S (mv l k).f1 with
        | true =>
          refine Mv (Fb f76_0 rfl (L1 Try.underlying3 (cellAt K7a rfl) rfl ?_))
          refine g_call he86 rfl (bitI_c S (mv l k).f0 hS (by omega) _) (h := ?_)
          rintro e w44 ⟨rfl, rfl⟩
          refine ⟨_, rfl, ?_⟩
          cases q44 : pS S (mv l k).f0 with
          | true =>
            refine Nt rfl (Pt rfl (Nl (Tn (Cf rfl (Sk (Bn (Tn (Rg (Mv ?_)))))))))
            refine g_add rfl rfl (by omega) (h := ?_)
            refine As (Nl ?_)
            first
            | exact absurd (‹pS S (mv l k).f0 = true›.symm.trans ‹pS S (mv l k).f0 = false›) (by decide)
            | exact absurd (‹pS S (mv l k).f1 = true›.symm.trans ‹pS S (mv l k).f1 = false›) (by decide)
            | exact round_end (l.length - (k + 1)) (by omega) ⟨k + 1, _, has rfl (has (congrArg (Value.int .i64) (by
                rw [hstep]
                first
                  | (rw [if_pos ⟨‹pS S (mv l k).f0 = true›, ‹pS S (mv l k).f1 = false›⟩])
                  | (rw [if_neg (fun h => absurd (h.1.symm.trans ‹pS S (mv l k).f0 = false›) (by decide)), if_pos ⟨‹pS S (mv l k).f1 = true›, ‹pS S (mv l k).f0 = false›⟩]; omega)
                  | (rw [if_neg (fun h => absurd (h.2.symm.trans ‹pS S (mv l k).f1 = true›) (by decide)), if_neg (fun h => absurd (h.2.symm.trans ‹pS S (mv l k).f0 = true›) (by decide))]; omega)
                  | (rw [if_neg (fun h => absurd (h.1.symm.trans ‹pS S (mv l k).f0 = false›) (by decide)), if_neg (fun h => absurd (h.1.symm.trans ‹pS S (mv l k).f1 = false›) (by decide))]; omega))) (has rfl (has rfl rfl))), hkl, rfl, K2d, hB6⟩
          | false =>
            refine Nt rfl (Pt rfl (Nl (Tn (Ct rfl (Rg (Mv (Fb f76_2 rfl (Fb f68_1 rfl (L1 Try.underlying3 (cellAt K7a rfl) rfl ?_)))))))))
            refine g_sub rfl rfl (by omega) (h := ?_)
            refine As (Nl (Bn (Tn (Rg (Mv ?_)))))
            refine g_add rfl rfl (by omega) (h := ?_)
            refine As (Nl ?_)
            first
            | exact absurd (‹pS S (mv l k).f0 = true›.symm.trans ‹pS S (mv l k).f0 = false›) (by decide)
            | exact absurd (‹pS S (mv l k).f1 = true›.symm.trans ‹pS S (mv l k).f1 = false›) (by decide)
            | exact round_end (l.length - (k + 1)) (by omega) ⟨k + 1, _, has rfl (has (congrArg (Value.int .i64) (by
                rw [hstep]
                first
                  | (rw [if_pos ⟨‹pS S (mv l k).f0 = true›, ‹pS S (mv l k).f1 = false›⟩])
                  | (rw [if_neg (fun h => absurd (h.1.symm.trans ‹pS S (mv l k).f0 = false›) (by decide)), if_pos ⟨‹pS S (mv l k).f1 = true›, ‹pS S (mv l k).f0 = false›⟩]; omega)
                  | (rw [if_neg (fun h => absurd (h.2.symm.trans ‹pS S (mv l k).f1 = true›) (by decide)), if_neg (fun h => absurd (h.2.symm.trans ‹pS S (mv l k).f0 = true›) (by decide))]; omega)
                  | (rw [if_neg (fun h => absurd (h.1.symm.trans ‹pS S (mv l k).f0 = false›) (by decide)), if_neg (fun h => absurd (h.1.symm.trans ‹pS S (mv l k).f1 = false›) (by decide))]; omega))) (has rfl (has rfl rfl))), hkl, rfl, K2d, hB6⟩
        | false =>
          refine Of (Of (Of (Of (Of (Pf rfl (Nl (Tn (Cf rfl (Sk (Bn (Tn (Rg (Mv ?_)))))))))))))
          refine g_add rfl rfl (by omega) (h := ?_)
          refine As (Nl ?_)
          first
          | exact absurd (‹pS S (mv l k).f0 = true›.symm.trans ‹pS S (mv l k).f0 = false›) (by decide)
          | exact absurd (‹pS S (mv l k).f1 = true›.symm.trans ‹pS S (mv l k).f1 = false›) (by decide)
          | exact round_end (l.length - (k + 1)) (by omega) ⟨k + 1, _, has rfl (has (congrArg (Value.int .i64) (by
              rw [hstep]
              first
                | (rw [if_pos ⟨‹pS S (mv l k).f0 = true›, ‹pS S (mv l k).f1 = false›⟩])
                | (rw [if_neg (fun h => absurd (h.1.symm.trans ‹pS S (mv l k).f0 = false›) (by decide)), if_pos ⟨‹pS S (mv l k).f1 = true›, ‹pS S (mv l k).f0 = false›⟩]; omega)
                | (rw [if_neg (fun h => absurd (h.2.symm.trans ‹pS S (mv l k).f1 = true›) (by decide)), if_neg (fun h => absurd (h.2.symm.trans ‹pS S (mv l k).f0 = true›) (by decide))]; omega)
                | (rw [if_neg (fun h => absurd (h.1.symm.trans ‹pS S (mv l k).f0 = false›) (by decide)), if_neg (fun h => absurd (h.1.symm.trans ‹pS S (mv l k).f1 = false›) (by decide))]; omega))) (has rfl (has rfl rfl))), hkl, rfl, K2d, hB6⟩
      | false =>
        refine Nt rfl (Pt rfl (Nl (Tn (Ct rfl (Rg (Mv (Fb f76_2 rfl (Fb f68_0 rfl (L1 Try.underlying3 (cellAt K7a rfl) rfl ?_)))))))))
        refine g_add rfl rfl (by omega) (h := ?_)
        refine As (Nl (Tn (Sq (Rg (Mv (Fb f76_1 rfl (L1 Try.underlying3 (cellAt K7a rfl) rfl ?_)))))))
        refine g_call he86 rfl (bitI_c S (mv l k).f1 hS (by omega) _) (h := ?_)
        rintro e w39 ⟨rfl, rfl⟩
        refine ⟨_, rfl, ?_⟩
        refine Mv ?_
        cases q40 : pS S (mv l k).f1 with
        | true =>
          refine Mv (Fb f76_0 rfl (L1 Try.underlying3 (cellAt K7a rfl) rfl ?_))
          refine g_call he86 rfl (bitI_c S (mv l k).f0 hS (by omega) _) (h := ?_)
          rintro e w44 ⟨rfl, rfl⟩
          refine ⟨_, rfl, ?_⟩
          cases q44 : pS S (mv l k).f0 with
          | true =>
            refine Nt rfl (Pt rfl (Nl (Tn (Cf rfl (Sk (Bn (Tn (Rg (Mv ?_)))))))))
            refine g_add rfl rfl (by omega) (h := ?_)
            refine As (Nl ?_)
            first
            | exact absurd (‹pS S (mv l k).f0 = true›.symm.trans ‹pS S (mv l k).f0 = false›) (by decide)
            | exact absurd (‹pS S (mv l k).f1 = true›.symm.trans ‹pS S (mv l k).f1 = false›) (by decide)
            | exact round_end (l.length - (k + 1)) (by omega) ⟨k + 1, _, has rfl (has (congrArg (Value.int .i64) (by
                rw [hstep]
                first
                  | (rw [if_pos ⟨‹pS S (mv l k).f0 = true›, ‹pS S (mv l k).f1 = false›⟩])
                  | (rw [if_neg (fun h => absurd (h.1.symm.trans ‹pS S (mv l k).f0 = false›) (by decide)), if_pos ⟨‹pS S (mv l k).f1 = true›, ‹pS S (mv l k).f0 = false›⟩]; omega)
                  | (rw [if_neg (fun h => absurd (h.2.symm.trans ‹pS S (mv l k).f1 = true›) (by decide)), if_neg (fun h => absurd (h.2.symm.trans ‹pS S (mv l k).f0 = true›) (by decide))]; omega)
                  | (rw [if_neg (fun h => absurd (h.1.symm.trans ‹pS S (mv l k).f0 = false›) (by decide)), if_neg (fun h => absurd (h.1.symm.trans ‹pS S (mv l k).f1 = false›) (by decide))]; omega))) (has rfl (has rfl rfl))), hkl, rfl, K2d, hB6⟩
          | false =>
            refine Nt rfl (Pt rfl (Nl (Tn (Ct rfl (Rg (Mv (Fb f76_2 rfl (Fb f68_1 rfl (L1 Try.underlying3 (cellAt K7a rfl) rfl ?_)))))))))
            refine g_sub rfl rfl (by omega) (h := ?_)
            refine As (Nl (Bn (Tn (Rg (Mv ?_)))))
            refine g_add rfl rfl (by omega) (h := ?_)
            refine As (Nl ?_)
            first
            | exact absurd (‹pS S (mv l k).f0 = true›.symm.trans ‹pS S (mv l k).f0 = false›) (by decide)
            | exact absurd (‹pS S (mv l k).f1 = true›.symm.trans ‹pS S (mv l k).f1 = false›) (by decide)
            | exact round_end (l.length - (k + 1)) (by omega) ⟨k + 1, _, has rfl (has (congrArg (Value.int .i64) (by
                rw [hstep]
                first
                  | (rw [if_pos ⟨‹pS S (mv l k).f0 = true›, ‹pS S (mv l k).f1 = false›⟩])
                  | (rw [if_neg (fun h => absurd (h.1.symm.trans ‹pS S (mv l k).f0 = false›) (by decide)), if_pos ⟨‹pS S (mv l k).f1 = true›, ‹pS S (mv l k).f0 = false›⟩]; omega)
                  | (rw [if_neg (fun h => absurd (h.2.symm.trans ‹pS S (mv l k).f1 = true›) (by decide)), if_neg (fun h => absurd (h.2.symm.trans ‹pS S (mv l k).f0 = true›) (by decide))]; omega)
                  | (rw [if_neg (fun h => absurd (h.1.symm.trans ‹pS S (mv l k).f0 = false›) (by decide)), if_neg (fun h => absurd (h.1.symm.trans ‹pS S (mv l k).f1 = false›) (by decide))]; omega))) (has rfl (has rfl rfl))), hkl, rfl, K2d, hB6⟩
        | false =>
          refine Of (Of (Of (Of (Of (Pf rfl (Nl (Tn (Cf rfl (Sk (Bn (Tn (Rg (Mv ?_)))))))))))))
          refine g_add rfl rfl (by omega) (h := ?_)
          refine As (Nl ?_)
          first
          | exact absurd (‹pS S (mv l k).f0 = true›.symm.trans ‹pS S (mv l k).f0 = false›) (by decide)
          | exact absurd (‹pS S (mv l k).f1 = true›.symm.trans ‹pS S (mv l k).f1 = false›) (by decide)
          | exact round_end (l.length - (k + 1)) (by omega) ⟨k + 1, _, has rfl (has (congrArg (Value.int .i64) (by
              rw [hstep]
              first
                | (rw [if_pos ⟨‹pS S (mv l k).f0 = true›, ‹pS S (mv l k).f1 = false›⟩])
                | (rw [if_neg (fun h => absurd (h.1.symm.trans ‹pS S (mv l k).f0 = false›) (by decide)), if_pos ⟨‹pS S (mv l k).f1 = true›, ‹pS S (mv l k).f0 = false›⟩]; omega)
                | (rw [if_neg (fun h => absurd (h.2.symm.trans ‹pS S (mv l k).f1 = true›) (by decide)), if_neg (fun h => absurd (h.2.symm.trans ‹pS S (mv l k).f0 = true›) (by decide))]; omega)
                | (rw [if_neg (fun h => absurd (h.1.symm.trans ‹pS S (mv l k).f0 = false›) (by decide)), if_neg (fun h => absurd (h.1.symm.trans ‹pS S (mv l k).f1 = false›) (by decide))]; omega))) (has rfl (has rfl rfl))), hkl, rfl, K2d, hB6⟩
    | false =>
      refine Of (Of (Of (Of (Of (Pf rfl (Nl (Tn (Cf rfl (Sk (Tn (Sq (Rg (Mv (Fb f76_1 rfl (L1 Try.underlying3 (cellAt K7a rfl) rfl ?_)))))))))))))))
      refine g_call he86 rfl (bitI_c S (mv l k).f1 hS (by omega) _) (h := ?_)
      rintro e w39 ⟨rfl, rfl⟩
      refine ⟨_, rfl, ?_⟩
      refine Mv ?_
      cases q40 : pS S (mv l k).f1 with
      | true =>
        refine Mv (Fb f76_0 rfl (L1 Try.underlying3 (cellAt K7a rfl) rfl ?_))
        refine g_call he86 rfl (bitI_c S (mv l k).f0 hS (by omega) _) (h := ?_)
        rintro e w44 ⟨rfl, rfl⟩
        refine ⟨_, rfl, ?_⟩
        cases q44 : pS S (mv l k).f0 with
        | true =>
          refine Nt rfl (Pt rfl (Nl (Tn (Cf rfl (Sk (Bn (Tn (Rg (Mv ?_)))))))))
          refine g_add rfl rfl (by omega) (h := ?_)
          refine As (Nl ?_)
          first
          | exact absurd (‹pS S (mv l k).f0 = true›.symm.trans ‹pS S (mv l k).f0 = false›) (by decide)
          | exact absurd (‹pS S (mv l k).f1 = true›.symm.trans ‹pS S (mv l k).f1 = false›) (by decide)
          | exact round_end (l.length - (k + 1)) (by omega) ⟨k + 1, _, has rfl (has (congrArg (Value.int .i64) (by
              rw [hstep]
              first
                | (rw [if_pos ⟨‹pS S (mv l k).f0 = true›, ‹pS S (mv l k).f1 = false›⟩])
                | (rw [if_neg (fun h => absurd (h.1.symm.trans ‹pS S (mv l k).f0 = false›) (by decide)), if_pos ⟨‹pS S (mv l k).f1 = true›, ‹pS S (mv l k).f0 = false›⟩]; omega)
                | (rw [if_neg (fun h => absurd (h.2.symm.trans ‹pS S (mv l k).f1 = true›) (by decide)), if_neg (fun h => absurd (h.2.symm.trans ‹pS S (mv l k).f0 = true›) (by decide))]; omega)
                | (rw [if_neg (fun h => absurd (h.1.symm.trans ‹pS S (mv l k).f0 = false›) (by decide)), if_neg (fun h => absurd (h.1.symm.trans ‹pS S (mv l k).f1 = false›) (by decide))]; omega))) (has rfl (has rfl rfl))), hkl, rfl, K2d, hB6⟩
        | false =>
          refine Nt rfl (Pt rfl (Nl (Tn (Ct rfl (Rg (Mv (Fb f76_2 rfl (Fb f68_1 rfl (L1 Try.underlying3 (cellAt K7a rfl) rfl ?_)))))))))
          refine g_sub rfl rfl (by omega) (h := ?_)
          refine As (Nl (Bn (Tn (Rg (Mv ?_)))))
          refine g_add rfl rfl (by omega) (h := ?_)
          refine As (Nl ?_)
          first
          | exact absurd (‹pS S (mv l k).f0 = true›.symm.trans ‹pS S (mv l k).f0 = false›) (by decide)
          | exact absurd (‹pS S (mv l k).f1 = true›.symm.trans ‹pS S (mv l k).f1 = false›) (by decide)
          | exact round_end (l.length - (k + 1)) (by omega) ⟨k + 1, _, has rfl (has (congrArg (Value.int .i64) (by
              rw [hstep]
              first
                | (rw [if_pos ⟨‹pS S (mv l k).f0 = true›, ‹pS S (mv l k).f1 = false›⟩])
                | (rw [if_neg (fun h => absurd (h.1.symm.trans ‹pS S (mv l k).f0 = false›) (by decide)), if_pos ⟨‹pS S (mv l k).f1 = true›, ‹pS S (mv l k).f0 = false›⟩]; omega)
                | (rw [if_neg (fun h => absurd (h.2.symm.trans ‹pS S (mv l k).f1 = true›) (by decide)), if_neg (fun h => absurd (h.2.symm.trans ‹pS S (mv l k).f0 = true›) (by decide))]; omega)
                | (rw [if_neg (fun h => absurd (h.1.symm.trans ‹pS S (mv l k).f0 = false›) (by decide)), if_neg (fun h => absurd (h.1.symm.trans ‹pS S (mv l k).f1 = false›) (by decide))]; omega))) (has rfl (has rfl rfl))), hkl, rfl, K2d, hB6⟩
      | false =>
        refine Of (Of (Of (Of (Of (Pf rfl (Nl (Tn (Cf rfl (Sk (Bn (Tn (Rg (Mv ?_)))))))))))))
        refine g_add rfl rfl (by omega) (h := ?_)
        refine As (Nl ?_)
        first
        | exact absurd (‹pS S (mv l k).f0 = true›.symm.trans ‹pS S (mv l k).f0 = false›) (by decide)
        | exact absurd (‹pS S (mv l k).f1 = true›.symm.trans ‹pS S (mv l k).f1 = false›) (by decide)
        | exact round_end (l.length - (k + 1)) (by omega) ⟨k + 1, _, has rfl (has (congrArg (Value.int .i64) (by
            rw [hstep]
            first
              | (rw [if_pos ⟨‹pS S (mv l k).f0 = true›, ‹pS S (mv l k).f1 = false›⟩])
              | (rw [if_neg (fun h => absurd (h.1.symm.trans ‹pS S (mv l k).f0 = false›) (by decide)), if_pos ⟨‹pS S (mv l k).f1 = true›, ‹pS S (mv l k).f0 = false›⟩]; omega)
              | (rw [if_neg (fun h => absurd (h.2.symm.trans ‹pS S (mv l k).f1 = true›) (by decide)), if_neg (fun h => absurd (h.2.symm.trans ‹pS S (mv l k).f0 = true›) (by decide))]; omega)
              | (rw [if_neg (fun h => absurd (h.1.symm.trans ‹pS S (mv l k).f0 = false›) (by decide)), if_neg (fun h => absurd (h.1.symm.trans ‹pS S (mv l k).f1 = false›) (by decide))]; omega))) (has rfl (has rfl rfl))), hkl, rfl, K2d, hB6⟩
  · skip
    refine Nl (Tn (Cf rfl (Xi (Tx (Tx (Bs (Tn (Sq (Rg (Mv (As (Nl (Tn (Rt ?_))))))))))))))
    obtain rfl : k = l.length := by omega
    exact ret1 rfl ⟨rfl, hB⟩
theorem to_c' (a b : Int) (w : World) : Calls Try.prog 51 #[.int .i64 a, .int .i64 b] w fun e w' => e = .returned (.agg #[.int .i64 a, .int .i64 b]) ∧ Bel w w' := to_c a b w
theorem zero49 : (Value.agg #[.int .i64 0, .slice none 0 0]).cells = #[.int .i64 0, .slice none 0 0] := rfl
theorem bs47_0 (w : World) : (Instr.buildSlice 47 0 #[]).run Try.prog w = .ok (.slice (some ⟨w.heap.size, 0, none⟩) 0 0) (w.alloc (.cells #[] 76)) := by kernel_rfl
theorem seg76 (m : S76) (v : Int) : (enc76 m).take 2 ++ [Value.int .i64 v, .int .i64 v] ++ (enc76 m).drop (2 + [Value.int .i64 v, Value.int .i64 v].length) = [.int .i64 m.f0, .int .i64 m.f1, .int .i64 v, .int .i64 v] := rfl
theorem elem76 {e base g n cap : Nat} {ok : Nat → Prop} {W : World} {xs : List S76} (h : k76.R e W base ok (.slice (some ⟨g, 0, none⟩) n cap) xs) {k : Nat} (hk : k < n) : ∀ q v, (enc76 (mv xs k))[q]? = some v → W.cell? ⟨g, k * 4 + q, none⟩ = some v := by
  obtain ⟨c, hcl, hM, hcc, hfz⟩ := Kd.R_elem h z76 (k : Int) (by omega) (by omega)
  have hc := k76_openM hM
  rw [Int.toNat_natCast] at hc hcc
  have hc2 : c = enc76 (mv xs k) := hc
  rw [hc2] at hcc
  exact hcc
set_option maxHeartbeats 4000000 in
theorem fixedR_c (n : Int) (A : Option Addr) (c : Nat) (l : List S76) (k : Nat) (v : Int) (w : World) (hs : k76.C w A l.length l) (hk : k < l.length) (hl : l.length ≤ 1000) :
    Calls Try.prog 50 #[.agg #[.int .i64 n, .slice A l.length c], .int .i64 k, .int .i64 v] w fun e w' => ∃ gx cx, e = .returned (.agg #[.int .i64 n, .slice (some ⟨gx, 0, none⟩) l.length cx]) ∧ k76.R 76 w' w.heap.size (fun _ => True) (.slice (some ⟨gx, 0, none⟩) l.length cx) (setM l k ⟨v, v⟩) ∧ Bel w w' := by
  refine G_enter (l := [.agg #[.int .i64 n, .slice A l.length c], .int .i64 k, .int .i64 v]) Try.func50 rfl rfl ?_
  refine Sq (Rg ?_)
  refine g_box rfl (h := fun g3 w3 N3 => ?_)
  have K3 := N3.at_
  have hB3 := Bel.of_new N3
  have K3a : w3.heap[g3]? = some (.cells #[.int .i64 n, .slice A l.length c] 49 (0, 0)) := K3
  refine g_alloc (z := .agg #[.int .i64 0, .slice none 0 0]) (by kernel_rfl) (h := fun g6 w6 N6 => ?_)
  have K6 := N6.at_
  have hB6 := hB3.new N6
  have K3b := kN K3a N6
  refine Nl (Tn (Sq (Rg ?_)))
  refine g_loadA rfl Try.underlying49 info49 (l := [.int .i64 n, .slice A l.length c]) (cellsAt K3b) (h := ?_)
  refine g_alloc (z := .agg #[.int .i64 0, .slice none 0 0]) (by kernel_rfl) (h := fun g7 w7 N7 => ?_)
  have K7 := N7.at_
  have hB7 := hB6.new N7
  have K3c := kN K3b N7
  have K6b := kN K6 N7
  refine g_storeA rfl rfl info49 K7 rfl (by simp [Value.oneCell']) (h := fun w8 P8 => ?_)
  have K7a : w8.heap[g7]? = some (.cells #[.int .i64 n, .slice A l.length c] 49 (0, 0)) := P8.at_
  have hB8 := hB7.put P8 (Nat.le_trans hB6.size N7.ge)
  have K3d := kP K3c P8 (N7.ne K3b)
  have K6c := kP K6b P8 (N7.ne K6)
  refine Nl (Tn (Sq (Rg ?_)))
  refine g_litsR k76 (xs := []) (inner := []) (okp := fun _ => True) (bs47_0 _) rfl rfl (by decide) (Reps.none _ _) (h := fun g9 w9 HR9 hg9 => ?_)
  have hB9 := hB8.grown hg9 (by intro q hq; cases hq)
  have K7b := kG K7a hg9 (by intro h; cases h)
  have K6d := kG K6c hg9 (by intro h; cases h)
  have K3e := kG K3d hg9 (by intro h; cases h)
  refine Fb f49_1 rfl (L1 Try.underlying47 (cellAt K3e rfl) rfl ?_)
  refine g_appendRows k76 Try.underlying47 zi76 rfl (by decide) (by decide) (okp := fun _ => False) HR9 (Kd.C_below hs hB9) (fun x cs h => by rw [k76_open h]; exact k76_mkM _ _ _ _) (fun _ h => h.elim) (fun _ _ => trivial) hg9.size (by simp only [List.length_nil]; omega) rfl rfl (h := fun v12 w12 HR12 hg12 _ => ?_)
  have hB12 := hB9.grown hg12 (fun q hq => Nat.le_trans hB8.size (Kd.R_base HR9 q hq))
  have K7c := kG K7b hg12 (ne_own HR9 K7b (by decide))
  have K6e := kG K6d hg12 (ne_own HR9 K6d (by decide))
  rw [List.nil_append] at HR12
  have hob  := Kd.R_form HR12 (by omega)
  obtain ⟨gx, cx0, rfl, hgx, _, _⟩ := hob
  refine Fb f49_1 rfl ?_
  refine g_store1 rfl rfl info47 K7c (by simp) rfl (h := fun w13 P13 => ?_)
  have K7d : w13.heap[g7]? = some (.cells #[.int .i64 n, .slice (some ⟨gx, 0, none⟩) l.length cx0] 49 (0, 0)) := P13.at_
  have hB13 := hB12.put P13 (Nat.le_trans hB6.size N7.ge)
  have K6f := kP K6e P13 (N7.ne K6)
  have hb8 := hB8.size
  have hg7 : g7 < w8.heap.size := blt K7a
  have HR13 := rP (R_above HR12) P13 (fun q hq => by have := hq.2; omega)
  have hgx8 : w8.heap.size ≤ gx := Kd.R_base HR12 gx rfl
  refine Nl (Tn (Sq ?_))
  have hBd := hB13.drew
  have HR13 := rB HR13 (Bel.drew (Below.refl _ _))
  refine GD_start 9 [8] (fun w' => w'.heap[g7]? = some (.cells #[.int .i64 n, .slice (some ⟨gx, 0, none⟩) l.length cx0] 49 (0, 0))) (by kernel_rfl) rfl ?_
  refine GD_pure 0 rfl (by kernel_rfl) (by kernel_rfl) (by kernel_rfl) (by kernel_rfl) rfl rfl rfl (qv fun wq hC => by exact r_fieldAddrB f49_1 rfl) ?_
  refine GD_take 1 rfl (by kernel_rfl) (by kernel_rfl) (by kernel_rfl) (by kernel_rfl) rfl rfl rfl (qv fun wq hC => by exact r_load1 rfl Try.underlying47 (cellAt hC rfl)) ?_
  refine GD_pure 2 rfl (by kernel_rfl) (by kernel_rfl) (by kernel_rfl) (by kernel_rfl) rfl rfl rfl (qv fun wq hC => by exact r_move) ?_
  refine GD_pure 3 rfl (by kernel_rfl) (by kernel_rfl) (by kernel_rfl) (by kernel_rfl) rfl rfl rfl (qv fun wq hC => by exact r_move) ?_
  refine GD_pure 4 rfl (by kernel_rfl) (by kernel_rfl) (by kernel_rfl) (by kernel_rfl) rfl rfl rfl (qv fun wq hC => by exact r_move) ?_
  refine GD_one 5 (by kernel_rfl) (fun _ => K7d) ?_
  refine GO_call rfl rfl rfl he51 rfl (to_c v v _) (fun e w19 he => ?_)
  obtain ⟨rfl, hb19⟩ := he
  refine ⟨_, rfl, ?_⟩
  have K7d := kB (w1 := w13.drewN 1) K7d hb19
  have K6f := kB (w1 := w13.drewN 1) K6f hb19
  have HR13 := rB HR13 hb19
  have hBd := hBd.bel hb19
  refine GD_pure 6 rfl (by kernel_rfl) (by kernel_rfl) (by kernel_rfl) (by kernel_rfl) rfl rfl rfl (qv fun wq hC => by exact r_indexO Try.underlying47 info76 rfl rfl  (by omega) (by omega) rfl) ?_
  refine GD_pure 7 rfl (by kernel_rfl) (by kernel_rfl) (by kernel_rfl) (by kernel_rfl) rfl rfl rfl (qv fun wq hC => by exact r_fieldAddrB f76_2 rfl) ?_
  refine GD_one 8 (by kernel_rfl) (fun _ => K7d) ?_
  refine GO_storeSeg k76 rfl rfl HR13 hk rfl (c := enc76 (mv l k)) (j := 2) (seg := [.int .i64 v, .int .i64 v]) (x' := { mv l k with f2 := ⟨v, v⟩ }) (okp := fun _ => False) rfl info68 (by simp [Value.oneCell']) rfl (elem76 HR13 hk) (by show 2 + 2 ≤ 4; decide) (by rw [seg76]; exact k76_mkM _ _ (fun _ => False) _) (fun _ h => h.elim) rfl rfl (fun w15 HR15 hg15 => ?_)
  have K7f := kG K7d hg15 (by intro h; injection h with h; omega)
  have hg6 : g6 < w8.heap.size := blt K6c
  have K6g := kG K6f hg15 (by intro h; injection h with h; omega)
  have hB15 : Bel w w15 := hBd.grown hg15 (fun q hq => by injection hq with hq; omega)
  refine GD_end (by kernel_rfl) (dead 8 rfl (by kernel_rfl)) ?_
  refine Tn (Sq (Rg ?_))
  refine g_loadA rfl Try.underlying49 info49 (l := [.int .i64 n, .slice (some ⟨gx, 0, none⟩) l.length cx0]) (cellsAt K7f) (h := ?_)
  refine g_storeA rfl rfl info49 K6g rfl (by simp [Value.oneCell']) (h := fun w16 P16 => ?_)
  have K6h : w16.heap[g6]? = some (.cells #[.int .i64 n, .slice (some ⟨gx, 0, none⟩) l.length cx0] 49 (0, 0)) := P16.at_
  have HR16 := rP HR15 P16 (fun q hq => by have := hq.2; omega)
  refine Nl (Tn (Rt ?_))
  exact retcell rfl ⟨g6, 0, none⟩ rfl (loadVarA (l := [.int .i64 n, .slice (some ⟨gx, 0, none⟩) l.length cx0]) Try.underlying49 info49 (cellsAt K6h)) ⟨gx, cx0, rfl, R_okT (Kd.R_lower HR16 hB8.size), hB15.put P16 (Nat.le_trans hB3.size N6.ge)⟩
theorem fixed_c (n : Int) (A : Option Addr) (c : Nat) (l : List S76) (k : Nat) (v : Int) (w : World) (hs : k76.C w A l.length l) (hk : k < l.length) (hl : l.length ≤ 1000) :
    Calls Try.prog 50 #[.agg #[.int .i64 n, .slice A l.length c], .int .i64 k, .int .i64 v] w fun e w' => ∃ A' c', e = .returned (.agg #[.int .i64 n, .slice A' (setM l k ⟨v, v⟩).length c']) ∧ k76.C w' A' (setM l k ⟨v, v⟩).length (setM l k ⟨v, v⟩) ∧ Bel w w' :=
  (fixedR_c n A c l k v w hs hk hl).mono fun e w' ⟨gx, cx, h1, h2, h3⟩ => ⟨some ⟨gx, 0, none⟩, cx, by rw [setM_len]; exact h1, (Kd.R_reads' h2).2.2, h3⟩
end Go.Proofs.B
