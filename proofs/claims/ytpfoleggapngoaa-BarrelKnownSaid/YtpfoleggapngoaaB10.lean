/- barrel: walk, AreCounts, Proves. -/
import Derived.Test.YtpfoleggapngoaaGd
import Derived.Test.YtpfoleggapngoaaB9
set_option linter.unusedVariables false
set_option linter.unusedSimpArgs false
set_option maxRecDepth 10000
namespace Go.Proofs.B
open Go Go.RowKit Go.Proofs Go.Proofs.G Go.Proofs.F Go.Proofs.YtpfoleggapngoaaW.PrintWords
def enc151 (x : S151) : List Value := [.int .i64 x.f0, .bool x.f1]
theorem at151 {w : World} {A : Option Addr} {n : Nat} {xs : List S151} (h : k151.C w A n xs) (k : Nat) (hk : k < xs.length) :
    ∃ ad, A = some ad ∧ ∀ j u, (enc151 xs[k])[j]? = some u → w.cell? ((ad.add (k * 2)).add j) = some u := by
  obtain ⟨ad, cs, rfl, _, hK, hc⟩ := Kd.C_get h z151 k (by omega) (by have := h.1; omega)
  have hcs := k151_open hK
  have hx : xs.getD (k : Int).toNat z151 = xs[k] := by simp [List.getD_eq_getElem?_getD, hk]
  rw [hx] at hcs
  subst hcs
  exact ⟨ad, rfl, cells_at hc (Below.refl _ _)⟩
theorem add_block (a : Addr) (n : Nat) : (a.add n).block = a.block := by unfold Addr.add; split <;> rfl
def stepV (cs : List Int) (s : S151) : List Int := cs.set s.f0.toNat (rd cs s.f0 + (if s.f1 = true then -1 else 1))
def walkG (cs : List Int) : List S151 → List Int
  | [] => cs
  | s :: ss => walkG (stepV cs s) ss
theorem stepV_len (cs : List Int) (s : S151) : (stepV cs s).length = cs.length := by simp [stepV]
theorem walkG_len : ∀ (l : List S151) (cs : List Int), (walkG cs l).length = cs.length
  | [], _ => rfl
  | s :: ss, cs => by rw [walkG, walkG_len ss, stepV_len]
theorem stepV_bd {cs : List Int} {s : S151} {b : Int} (h : ∀ x ∈ cs, -b ≤ x ∧ x ≤ b) (hs : 0 ≤ s.f0 ∧ s.f0 < cs.length) : ∀ x ∈ stepV cs s, -(b + 1) ≤ x ∧ x ≤ b + 1 := fun x hx => by
  unfold stepV at hx
  have h0 := h _ (rd_mem hs.1 hs.2)
  rcases List.mem_or_eq_of_mem_set hx with h1 | h1
  · have := h x h1; omega
  · subst h1; split <;> omega
/-- A row of one's own, its cells' block told, where other blocks turn. -/
theorem rC {α : Type} {enc : α → Value} {h1 : ∀ x, (enc x).oneCell' = true} {e base g n cap : Nat} {ok : Nat → Prop} {w w' : World} {xs : List α} (h : (Kd.scalar enc h1).R e w base ok (.slice (some ⟨g, 0, none⟩) n cap) xs) {S : Nat → Prop} (hch : Ch S w w') (hg : ¬ S g) : (Kd.scalar enc h1).R e w' base ok (.slice (some ⟨g, 0, none⟩) n cap) xs := by
  obtain ⟨hn, hc, hC⟩ := Kd.R_reads' h
  have hown := Kd.own_of_R h
  refine Kd.R_of_own ?_ h.1
  exact own_move hown (fun k hk => by
    have : g = k := by simpa [Value.ownBlock] using hk
    subst this
    exact hch.blk g (own_lt hown g (by simp [Value.ownBlock])) hg)
set_option maxHeartbeats 1000000 in
theorem walk_c (A : Option Addr) (c : Nat) (gr n cap base : Nat) (l : List S151) (cs : List Int) (w : World) (hs : k151.C w A l.length l) (hne : ∀ ad, A = some ad → ad.block ≠ gr) (HR : (Kd.int .i64).R 3 w base (fun _ => True) (.slice (some ⟨gr, 0, none⟩) n cap) cs)
    (hl : l.length ≤ 1000) (hm : ∀ s ∈ l, 0 ≤ s.f0 ∧ s.f0 < n) (hb : ∀ x ∈ cs, -1000000 ≤ x ∧ x ≤ 1000000) :
    Calls Try.prog 98 #[.slice (some ⟨gr, 0, none⟩) n cap, .slice A l.length c] w fun e w' => e = .returned (.tuple #[]) ∧ (Kd.int .i64).R 3 w' base (fun _ => True) (.slice (some ⟨gr, 0, none⟩) n cap) (walkG cs l) ∧ Ch (fun k => k = gr) w w' := by
  have hlen := (Kd.R_reads' HR).1
  refine G_enter (l := [.slice (some ⟨gr, 0, none⟩) n cap, .slice A l.length c]) Try.func98 rfl rfl ?_
  refine Sq (Rg (Mv (Ln Try.underlying147 rfl (Mv (Nl (Tn (Bk ?_)))))))
  refine GC_loop (fun m σ w' => ∃ (k : Nat) (cs' : List Int) (τ : Nat → Value), σ = upd (upd (upd (upd τ 0 (.slice (some ⟨gr, 0, none⟩) n cap)) 6 (.slice A l.length c)) 7 (.int .i64 l.length)) 8 (.int .i64 k) ∧ k ≤ l.length ∧ m = l.length - k ∧ (Kd.int .i64).R 3 w' base (fun _ => True) (.slice (some ⟨gr, 0, none⟩) n cap) cs' ∧ Ch (fun k => k = gr) w w' ∧ walkG cs' (l.drop k) = walkG cs l ∧ (∀ x ∈ cs', -(1000000 + (k : Int)) ≤ x ∧ x ≤ 1000000 + (k : Int))) (l.length) ⟨0, cs, _, has rfl (has rfl (has rfl (has rfl rfl))), Nat.zero_le _, rfl, HR, Ch.refl _ _, rfl, by simpa using hb⟩ ?_
  rintro m _ w1 ⟨k, cs', τ, rfl, hk, rfl, HR1, hch, hgo, hbd⟩
  refine Sq (Rg ?_)
  refine g_lss rfl rfl (h1 := fun c9 => ?_) (h2 := fun c9 => ?_)
  · skip
    refine Nl (Tn (Sq (Ct rfl (Sk (Tn (Sq (Bk (Sq (Rg ?_)))))))))
    have hkl : k < l.length := by omega
    obtain ⟨ad, rfl, h11⟩ := at151 hs k hkl
    have h11' : ∀ j u, (enc151 l[k])[j]? = some u → w1.cell? ((ad.add (k * 2)).add j) = some u := fun j u h => hch.cell (h11 j u h) (fun e => hne ad rfl (by rw [← e, add_block, add_block]))
    have hdr : l.drop k = l[k] :: l.drop (k + 1) := List.drop_eq_getElem_cons hkl
    rw [hdr, walkG] at hgo
    have hms := hm l[k] (List.getElem_mem hkl)
    have hlen1 := (Kd.R_reads' HR1).1
    have hbd2 := stepV_bd hbd (s := l[k]) ⟨hms.1, by omega⟩
    have hbx := hbd _ (rd_mem (xs := cs') (i := l[k].f0) hms.1 (by omega))
    generalize l[k] = z at *
    refine g_indexS Try.underlying147 info151 rfl rfl (by omega) (by omega) rfl (h := ?_)
    refine g_loadA rfl Try.underlying151 info151 (l := enc151 z) h11' (h := ?_)
    refine g_alloc (z := .agg #[.int .i64 0, .bool false]) (by kernel_rfl) (h := fun g5 w5 N5 => ?_)
    have K5 := N5.at_
    refine g_storeA rfl rfl info151 K5 rfl (by simp [enc151, Value.oneCell']) (h := fun w6 P6 => ?_)
    have K5a : w6.heap[g5]? = some (.cells #[.int .i64 z.f0, .bool z.f1] 151 (0, 0)) := P6.at_
    have hch6 : Ch nob w1 w6 := (Ch.of_below (Bel.put (Bel.of_new N5) P6 N5.ge))
    have HR2 := rC HR1 hch6 id
    have h18 := (Kd.R_celln (0 : Int) HR2 z.f0 hms.1 hms.2).1
    refine Nl (Tn (Sq (Rg (Fb f151_1 rfl (L1 Try.underlying4 (cellAt K5a rfl) rfl (Nl (Tn ?_)))))))
    cases q13 : z.f1 with
    | true =>
      refine Ct rfl (Rg (Mv (Fb f151_0 rfl (L1 Try.underlying3 (cellAt K5a rfl) rfl ?_))))
      refine g_indexO Try.underlying22 info3 rfl rfl  (by omega) (by omega) (Nat.mul_one _) (h := ?_)
      refine L1 Try.underlying3 (h18) rfl ?_
      refine g_sub rfl rfl (by show -9223372036854775808 ≤ rd cs' z.f0 - 1 ∧ rd cs' z.f0 - 1 ≤ 9223372036854775807; omega) (h := ?_)
      refine g_indexO Try.underlying22 info3 rfl rfl  (by omega) (by omega) (Nat.mul_one _) (h := ?_)
      refine g_storeR (enc := Value.int .i64) rfl rfl info3 HR2 (by omega) (by omega) (h := fun w7 HR3 hg7 => ?_)
      refine Nl (Bn (Tn (Rg ?_)))
      refine g_add rfl rfl (by omega) (h := ?_)
      refine Mv (Nl ?_)
      exact round_end (l.length - (k + 1)) (by omega) ⟨k + 1, _, _, has rfl (has rfl (has rfl (has rfl rfl))), hkl, rfl, HR3, (hch.then hch6).trans (Ch.of_grown hg7) (fun _ _ h => h) (fun _ _ h => by injection h), by rw [← hgo]; unfold stepV; rw [q13]; rfl, by unfold stepV at hbd2; rw [q13] at hbd2; intro x hx; have := hbd2 x hx; omega⟩
    | false =>
      refine Cf rfl (Rg (Mv (Fb f151_0 rfl (L1 Try.underlying3 (cellAt K5a rfl) rfl ?_))))
      refine g_indexO Try.underlying22 info3 rfl rfl  (by omega) (by omega) (Nat.mul_one _) (h := ?_)
      refine L1 Try.underlying3 (h18) rfl ?_
      refine g_add rfl rfl (by show -9223372036854775808 ≤ rd cs' z.f0 + 1 ∧ rd cs' z.f0 + 1 ≤ 9223372036854775807; omega) (h := ?_)
      refine g_indexO Try.underlying22 info3 rfl rfl  (by omega) (by omega) (Nat.mul_one _) (h := ?_)
      refine g_storeR (enc := Value.int .i64) rfl rfl info3 HR2 (by omega) (by omega) (h := fun w7 HR3 hg7 => ?_)
      refine Nl (Bn (Tn (Rg ?_)))
      refine g_add rfl rfl (by omega) (h := ?_)
      refine Mv (Nl ?_)
      exact round_end (l.length - (k + 1)) (by omega) ⟨k + 1, _, _, has rfl (has rfl (has rfl (has rfl rfl))), hkl, rfl, HR3, (hch.then hch6).trans (Ch.of_grown hg7) (fun _ _ h => h) (fun _ _ h => by injection h), by rw [← hgo]; unfold stepV; rw [q13]; rfl, by unfold stepV at hbd2; rw [q13] at hbd2; intro x hx; have := hbd2 x hx; omega⟩
  · skip
    refine Nl (Tn (Sq (Cf rfl (Xi (Tx (Tx (Bs ?_)))))))
    rw [show k = l.length by omega, List.drop_length, walkG] at hgo
    rw [hgo] at HR1
    exact end0 rfl ⟨rfl, HR1, hch⟩
end Go.Proofs.B
