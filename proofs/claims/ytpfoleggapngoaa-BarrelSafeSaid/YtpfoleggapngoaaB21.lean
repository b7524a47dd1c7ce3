/- barrel: the range function itself. -/
import Derived.Test.YtpfoleggapngoaaB20
set_option linter.unusedVariables false
set_option linter.unusedSimpArgs false
set_option maxRecDepth 10000
namespace Go.Proofs.B
open Go Go.RowKit Go.Proofs Go.Proofs.G Go.Proofs.F Go.Proofs.YtpfoleggapngoaaW.PrintWords
theorem iterMake_c (A : Option Addr) (c n : Nat) (girth play : Int) (g : List Bool) (first : Nat) (w : World) :
    Calls Try.prog 69 #[.agg #[.slice A n c, .int .i64 girth, .int .i64 play], .int .i64 first, .agg (bs g)] w fun e w' => ∃ gP gG gF, e = .returned (.func (.func 93) #[] #[.pointer (some ⟨gP, 0, none⟩), .pointer (some ⟨gG, 0, none⟩), .pointer (some ⟨gF, 0, none⟩)]) ∧ Bel w w' ∧
      w'.heap[gP]? = some (.cells #[.slice A n c, .int .i64 girth, .int .i64 play] 101 (0, 0)) ∧ w'.heap[gG]? = some (.cells (bs g) 99 (0, 0)) ∧ w'.heap[gF]? = some (.cells #[.int .i64 first] 3 (0, 0)) := by
  refine G_enter (l := [.agg #[.slice A n c, .int .i64 girth, .int .i64 play], .int .i64 first, .agg (bs g)]) Try.func69 rfl rfl ?_
  refine Sq (Rg ?_)
  refine g_box rfl (h := fun g3 w3 N3 => ?_)
  have K3 := N3.at_
  have hB3 := Bel.of_new N3
  refine g_box rfl (h := fun g4 w4 N4 => ?_)
  have K4 := N4.at_
  have hB4 := hB3.new N4
  refine g_box rfl (h := fun g5 w5 N5 => ?_)
  have K5 := N5.at_
  have hB5 := hB4.new N5
  refine As (Nl (Tn (Sq (Rg (Mf (As (Nl (Tn (Rt ?_)))))))))
  exact ret1 rfl ⟨g3, g5, g4, rfl, hB5, kN (kN K3 N4) N5, K5, kN K4 N5⟩
section
variable {J : List (List Int) → World → Prop} {A : Option Addr} {c : Nat} {ws : List Int} {girth play : Int} {g : List Bool} {l : Nat}
set_option maxHeartbeats 2000000 in
theorem iter_c (hJ : ∀ d W W', J d W → Bel W W' → J d W') (hJw : ∀ d W, J d W → (Kd.int .i64).C W A ws.length ws)
    (hY : ∀ d y v W, J d W → RTi W v y → Ris ws.length g y → isBarrelL ws girth play y = true → Yc Try.prog l v W (fun e W' => e = .returned (.bool true) ∧ J (d ++ [y]) W' ∧ Kp W W'))
    (hb : ∀ x ∈ ws, 0 ≤ x ∧ x ≤ 1000) (hn : ws.length ≤ 10) (hgi : 0 ≤ girth ∧ girth ≤ 100000) (hpl : 0 ≤ play ∧ play ≤ 100000) (hgl : g.length = 10) (gP gG gF first : Nat) (hf : first < ws.length) (hgf : g.getD first false = false)
    (w : World) (hJ0 : J [] w) (KP : w.heap[gP]? = some (.cells #[.slice A ws.length c, .int .i64 girth, .int .i64 play] 101 (0, 0))) (KG : w.heap[gG]? = some (.cells (bs g) 99 (0, 0))) (KF : w.heap[gF]? = some (.cells #[.int .i64 first] 3 (0, 0))) :
    Calls Try.prog 93 #[.func (.yield l) #[] #[], .pointer (some ⟨gP, 0, none⟩), .pointer (some ⟨gG, 0, none⟩), .pointer (some ⟨gF, 0, none⟩)] w fun e w' => ∃ ys, e = .returned (.tuple #[]) ∧ J ys w' ∧
      ∀ t, Ris ws.length g ((first : Int) :: t) → isBarrelL ws girth play ((first : Int) :: t) = true → (first : Int) :: t ∈ ys := by
  refine G_enter (l := [.func (.yield l) #[] #[], .pointer (some ⟨gP, 0, none⟩), .pointer (some ⟨gG, 0, none⟩), .pointer (some ⟨gF, 0, none⟩)]) Try.func93 rfl rfl ?_
  refine Sq (Rg ?_)
  refine g_box rfl (h := fun g4 w4 N4 => ?_)
  have K4 := N4.at_
  have hB4 := Bel.of_new N4
  have K4a : w4.heap[g4]? = some (.cells #[.func (.yield l) #[] #[]] 102 (0, 0)) := K4
  refine Nl (Tn (Sq (Rg ?_)))
  refine g_alloc (z := .nilFunc) (by kernel_rfl) (h := fun g5 w5 N5 => ?_)
  have K5 := N5.at_
  have hB5 := hB4.new N5
  have K5a : w5.heap[g5]? = some (.cells #[.nilFunc] 102 (0, 0)) := K5
  refine Nl (Tn (Sq (Rg (Mf ?_))))
  refine g_store1 rfl rfl info102 K5a (by decide) (h := fun w6 P6 => ?_)
  have hB6 := hB5.put P6 (Nat.le_trans hB4.size N5.ge)
  have hbx : IBx A c ws.length girth play g l gP g4 gG g5 w6 := ⟨kB KP hB6, kP (kN K4a N5) P6 (N5.ne K4a), kB KG hB6, P6.at_⟩
  refine Nl (Tn (Rg (L1 Try.underlying102 (cellAt hbx.KS rfl) rfl (L1 Try.underlying3 (cellAt (kB KF hB6) rfl) rfl ?_))))
  refine g_lit1 bs22 rfl rfl (h := fun g9 w9 N9 => ?_)
  have hB9 := hB6.new N9
  refine g_callv he94 rfl rfl (longer_c hJ hJw hY hb hn hgi hpl hgl gP g4 gG g5 ws.length [(first : Int)] _ [] w9 ⟨List.pairwise_singleton _ _, fun k hk => by rw [List.mem_singleton.1 hk]; exact ⟨⟨by omega, by omega⟩, by simpa using hgf⟩⟩ (by simp) (by simp only [List.length_singleton]; have := hf; have h0 : rd [(first : Int)] (((1 : Nat) : Int) - 1) = first := rfl; omega) (hJ _ _ _ hJ0 hB9) (hbx.kp (Kp.of (Bel.of_new N9))) (Kd.R_of_own ⟨rfl, .inr ⟨g9, 1, _, rfl, Nat.zero_le _, N9.at_, Nat.le_refl _, by decide, rfl, rfl⟩⟩ (fun _ _ => trivial))) (h := ?_)
  rintro e w10 ⟨ys, rfl, hJ10, hK10, hall⟩
  refine ⟨_, rfl, ?_⟩
  refine Nl ?_
  exact end0 rfl ⟨ys, rfl, hJ10, fun t hr hB => hall t hr hB⟩
end
end Go.Proofs.B
