/- barrel: what is pushed along a way (plain). -/
import Derived.Test.YtpfoleggapngoaaGd
import Derived.Test.YtpfoleggapngoaaB14
set_option linter.unusedVariables false
set_option linter.unusedSimpArgs false
set_option maxRecDepth 10000
namespace Go.Proofs.B
open Go Go.RowKit Go.Proofs Go.Proofs.G Go.Proofs.F Go.Proofs.YtpfoleggapngoaaW.PrintWords
def InB (l : List S76) (cs : List Int) : Prop := cs.length = l.length ∧ ∀ k, k < l.length → (mv l k).f2.f0 ≤ rd cs k ∧ rd cs k ≤ (mv l k).f2.f1
abbrev net (l : List S76) (cs : List Int) (s : Nat) : Int := ovf l cs l.length s
def one (p : Prop) [Decidable p] : Int := if p then 1 else 0
theorem rd_set (cs : List Int) (k : Nat) (hk : k < cs.length) (x : Int) (j : Nat) : rd (cs.set k x) j = if j = k then x else rd cs j := by
  simp only [rd, Int.toNat_natCast, List.getD_eq_getElem?_getD, List.getElem?_set]
  by_cases h : k = j
  · subst h; simp [hk]
  · rw [if_neg h, if_neg (fun e => h e.symm)]
def dl (fw : Bool) : Int := if fw = true then -1 else 1
theorem rd_stepV (cs : List Int) (k : Nat) (hk : k < cs.length) (fw : Bool) (j : Nat) : rd (stepV cs ⟨k, fw⟩) j = if j = k then rd cs k + dl fw else rd cs j := by
  unfold stepV
  rw [Int.toNat_natCast, rd_set cs k hk]
  rfl
theorem ovf_agree (l : List S76) (cs cs' : List Int) : ∀ n : Nat, (∀ j : Nat, j < n → rd cs' j = rd cs j) → ∀ s, ovf l cs' n s = ovf l cs n s
  | 0, _, _ => rfl
  | n + 1, h, s => by
    unfold ovf
    rw [ovf_agree l cs cs' n (fun j hj => h j (by omega)) s, h n (by omega)]
theorem ovf_step (l : List S76) (cs : List Int) (k : Nat) (hk : k < cs.length) (fw : Bool) (s : Nat) : ∀ n : Nat, k < n → ovf l (stepV cs ⟨k, fw⟩) n s = ovf l cs n s + (if (mv l k).f1 = s then dl fw else 0) - (if (mv l k).f0 = s then dl fw else 0)
  | 0, h => by omega
  | n + 1, h => by
    unfold ovf
    by_cases hkn : k = n
    · subst hkn
      rw [ovf_agree l cs _ k (fun j hj => by rw [rd_stepV cs k hk, if_neg (by omega)]) s, rd_stepV cs k hk, if_pos rfl]
      (repeat' split) <;> omega
    · rw [ovf_step l cs k hk fw s n (by omega), show rd (stepV cs ⟨k, fw⟩) n = rd cs n from by rw [rd_stepV cs k hk, if_neg (fun e => hkn e.symm)]]
      (repeat' split) <;> omega
theorem ed_step {l : List S76} {cs : List Int} {wo : Int} {k : Nat} {fw : Bool} {a v : Int} (hb : InB l cs) (h : Ed l cs wo k fw a v) : InB l (stepV cs ⟨k, fw⟩) ∧ ∀ s : Nat, net l (stepV cs ⟨k, fw⟩) s = net l cs s - one (a = s) + one (v = s) := by
  obtain ⟨hk, hwo, hh⟩ := h
  refine ⟨⟨by rw [stepV_len]; exact hb.1, fun j hj => ?_⟩, fun s => ?_⟩
  · rw [rd_stepV cs k (by rw [hb.1]; exact hk)]
    have h1 := hb.2 j hj
    have h2 := hb.2 k hk
    split
    · rename_i e; subst e
      rcases hh with ⟨rfl, _, _, h3⟩ | ⟨rfl, _, _, h3⟩ <;> simp only [dl, Bool.false_eq_true, if_false, if_true] <;> omega
    · exact h1
  · unfold net
    rw [ovf_step l cs k (by rw [hb.1]; exact hk) fw s _ hk]
    unfold one
    rcases hh with ⟨rfl, rfl, rfl, _⟩ | ⟨rfl, rfl, rfl, _⟩
    · simp only [dl, Bool.false_eq_true, if_false]; (repeat' split) <;> omega
    · simp only [dl, if_true]; (repeat' split) <;> omega
theorem path_agree {l : List S76} {wo : Int} {cs cs' : List Int} {k0 : Nat} {a0 : Int} (hag : ∀ j : Nat, j ≠ k0 → rd cs' j = rd cs j) (h0 : a0 = (mv l k0).f0 ∨ a0 = (mv l k0).f1) : ∀ {steps : List S151} {vs : List Int} {a b : Int}, a0 ≠ a → a0 ∉ vs → Path l cs wo a steps vs b → Path l cs' wo a steps vs b
  | [], [], _, _, _, _, h => h
  | [], _ :: _, _, _, _, _, h => by cases h
  | _ :: _, [], _, _, _, _, h => by cases h
  | s :: ss, v :: vs, a, b, h1, h2, ⟨⟨k, hk, hed⟩, hrest⟩ => by
    have h3 : a0 ≠ v := fun e => h2 (by simp [e])
    have h4 : a0 ∉ vs := fun e => h2 (by simp [e])
    refine ⟨⟨k, hk, ?_⟩, path_agree hag h0 h3 h4 hrest⟩
    obtain ⟨e1, e2, e3⟩ := hed
    have hkk : k ≠ k0 := by
      intro e
      subst e
      rcases e3 with ⟨_, g1, g2, _⟩ | ⟨_, g1, g2, _⟩ <;> rcases h0 with h0 | h0
      · exact h1 (h0.trans g1.symm)
      · exact h3 (h0.trans g2.symm)
      · exact h3 (h0.trans g2.symm)
      · exact h1 (h0.trans g1.symm)
    refine ⟨e1, e2, ?_⟩
    rw [hag k hkk]
    exact e3
theorem push_path {l : List S76} {wo : Int} : ∀ {steps : List S151} {vs : List Int} {a b : Int} {cs : List Int}, InB l cs → Path l cs wo a steps vs b → vs.Nodup → a ∉ vs →
    InB l (walkG cs steps) ∧ (∀ s : Nat, net l (walkG cs steps) s = net l cs s - one (a = s) + one (b = s)) ∧ (∀ j : Nat, (j : Int) = wo → rd (walkG cs steps) j = rd cs j)
  | [], [], a, b, cs, hb, h, _, _ => by
    have h : a = b := h
    subst h
    exact ⟨hb, fun s => by rw [walkG]; omega, fun _ _ => rfl⟩
  | [], _ :: _, _, _, _, _, h, _, _ => by cases h
  | _ :: _, [], _, _, _, _, h, _, _ => by cases h
  | s :: ss, v :: vs, a, b, cs, hb, ⟨⟨k, hk, hed⟩, hrest⟩, hnd, ha => by
    obtain ⟨hv, hnd'⟩ := List.nodup_cons.1 hnd
    have hs : s = ⟨k, s.f1⟩ := by cases s; simp at hk; simp [hk]
    obtain ⟨hb1, hn1⟩ := ed_step hb hed
    have hkl : k < cs.length := by rw [hb.1]; exact hed.1
    have hag : ∀ j : Nat, j ≠ k → rd (stepV cs ⟨k, s.f1⟩) j = rd cs j := fun j hj => by rw [rd_stepV cs k hkl, if_neg hj]
    have h0 : a = (mv l k).f0 ∨ a = (mv l k).f1 := by rcases hed.2.2 with ⟨_, g, _, _⟩ | ⟨_, g, _, _⟩ <;> simp [g]
    have hp := path_agree hag h0 (fun e => ha (by simp [e])) (fun e => ha (by simp [e])) hrest
    obtain ⟨r1, r2, r3⟩ := push_path hb1 hp hnd' hv
    rw [walkG, hs]
    refine ⟨r1, fun t => ?_, fun j hj => ?_⟩
    · rw [r2 t, hn1 t]; omega
    · rw [r3 j hj, hag j (fun e => hed.2.1 (by rw [← e]; exact hj))]
theorem path_moves {l : List S76} {wo : Int} {cs : List Int} : ∀ {steps : List S151} {vs : List Int} {a b : Int}, Path l cs wo a steps vs b → ∀ s ∈ steps, 0 ≤ s.f0 ∧ s.f0 < l.length
  | [], [], _, _, _, s, h => by cases h
  | [], _ :: _, _, _, h, _, _ => by cases h
  | _ :: _, [], _, _, h, _, _ => by cases h
  | t :: ss, v :: vs, a, b, ⟨⟨k, hk, hed⟩, hrest⟩, s, hs => by
    rcases List.mem_cons.1 hs with rfl | hs
    · have := hed.1; omega
    · exact path_moves hrest s hs
/-- All that comes in, comes out. -/
def sumN (f : Nat → Int) : Nat → Int
  | 0 => 0
  | n + 1 => sumN f n + f n
theorem sumN_one (N : Nat) (a : Int) (h : 0 ≤ a ∧ a < N) : sumN (fun s => one (a = (s : Int))) N = 1 := by
  induction N with
  | zero => omega
  | succ N ih =>
    unfold sumN
    by_cases hN : a = N
    · have : sumN (fun s => one (a = (s : Int))) N = 0 := by
        have hz : ∀ n, n ≤ N → sumN (fun s => one (a = (s : Int))) n = 0 := fun n => by
          induction n with
          | zero => intro _; rfl
          | succ n ih2 => intro hn; unfold sumN; rw [ih2 (by omega)]; simp only [one]; rw [if_neg (by omega)]; rfl
        exact hz N (Nat.le_refl _)
      rw [this]; simp [one, hN]
    · rw [ih (by omega)]; simp [one, hN]
theorem sumN_add (f g : Nat → Int) : ∀ n, sumN (fun s => f s + g s) n = sumN f n + sumN g n
  | 0 => rfl
  | n + 1 => by unfold sumN; rw [sumN_add f g n]; omega
theorem sumN_sub (f g : Nat → Int) : ∀ n, sumN (fun s => f s - g s) n = sumN f n - sumN g n
  | 0 => rfl
  | n + 1 => by unfold sumN; rw [sumN_sub f g n]; omega
theorem sumN_mul (c : Int) (f : Nat → Int) : ∀ n, sumN (fun s => c * f s) n = c * sumN f n
  | 0 => by simp [sumN]
  | n + 1 => by unfold sumN; rw [sumN_mul c f n, Int.mul_add]
theorem sumN_congr {f g : Nat → Int} : ∀ n, (∀ s, s < n → f s = g s) → sumN f n = sumN g n
  | 0, _ => rfl
  | n + 1, h => by unfold sumN; rw [sumN_congr n (fun s hs => h s (by omega)), h n (by omega)]
theorem sumN_le {f g : Nat → Int} : ∀ n, (∀ s, s < n → f s ≤ g s) → sumN f n ≤ sumN g n
  | 0, _ => Int.le_refl _
  | n + 1, h => by unfold sumN; have := sumN_le n (fun s hs => h s (by omega)); have := h n (by omega); omega
theorem net_sum {l : List S76} {N : Nat} (hm : ∀ k, k < l.length → (0 ≤ (mv l k).f0 ∧ (mv l k).f0 < N) ∧ (0 ≤ (mv l k).f1 ∧ (mv l k).f1 < N)) (cs : List Int) : ∀ n, n ≤ l.length → sumN (ovf l cs n) N = 0
  | 0, _ => by
    have : ∀ M, sumN (ovf l cs 0) M = 0 := fun M => by
      induction M with
      | zero => rfl
      | succ M ih => unfold sumN; rw [ih]; rfl
    exact this N
  | n + 1, h => by
    have ih := net_sum hm cs n (by omega)
    obtain ⟨h0, h1⟩ := hm n (by omega)
    have e : sumN (ovf l cs (n + 1)) N = sumN (fun s => (ovf l cs n s + rd cs n * one ((mv l n).f1 = (s : Int))) - rd cs n * one ((mv l n).f0 = (s : Int))) N := by
      refine sumN_congr N fun s _ => ?_
      show ovf l cs n s + (if (mv l n).f1 = s then rd cs n else 0) - (if (mv l n).f0 = s then rd cs n else 0) = _
      unfold one
      split <;> split <;> simp
    rw [e, sumN_sub, sumN_add, sumN_mul, sumN_mul, sumN_one N _ h0, sumN_one N _ h1, ih]
    omega
end Go.Proofs.B
