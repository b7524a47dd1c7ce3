/- Regions that draw their order: what leaves the world alone is taken first; the rest comes as its edges let it. -/
import Derived.Test.YtpfoleggapngoaaG2
import Derived.Maps.AppendAt
import Derived.Test.YtpfoleggapngoaaWWords
set_option linter.unusedVariables false
set_option linter.unusedSimpArgs false
namespace Go.Proofs.G
open Go Go.RowKit
attribute [local semireducible] GC GL

section
variable {r : Option Nat} {P : Program} {ops : Array Oper} {Q : Exit → Act → World → Prop} {E : List Nat} {C : World → Prop}

/-- One operation, in a frame: it yields, or calls what returns. -/
def opS (P : Program) (o : Oper) (a : Act) (w : World) (K : Act → World → Prop) : Prop :=
  match (execOp a.eval o).run P w with
  | .ok (.value v) w' => K (a.put o.dst v) w'
  | .ok .skip w' => K (a.put o.dst undef) w'
  | .ok (.enter f args) w' => Calls P f args w' (fun e w'' => ∃ v, e = .returned v ∧ K (a.put o.dst v) w'')
  | _ => False
def noDefer (o : Oper) : Bool := match o.op with | .defer _ => false | _ => true
def opT (P : Program) (ops : Array Oper) (i : Nat) (K : Act → World → Prop) (a : Act) (w : World) : Prop :=
  match ops[i]? with
  | none => K a w
  | some o => if Region.wanted o (yielded ops a.tmps) = true then noDefer o = true ∧ opS P o a w K else K (a.put o.dst undef) w
theorem opS_mono {o : Oper} {a : Act} {w : World} {K K' : Act → World → Prop} (hK : ∀ a w, K a w → K' a w) (h : opS P o a w K) : opS P o a w K' := by
  unfold opS at *
  split at h
  · exact hK _ _ h
  · exact hK _ _ h
  · exact h.mono fun e w'' ⟨v, he, hk⟩ => ⟨v, he, hK _ _ hk⟩
  · exact h.elim
theorem opT_mono {i : Nat} {a : Act} {w : World} {K K' : Act → World → Prop} (hK : ∀ a w, K a w → K' a w) (h : opT P ops i K a w) : opT P ops i K' a w := by
  unfold opT at *
  split
  · rename_i ho; rw [ho] at h; exact hK _ _ h
  · rename_i o ho
    rw [ho] at h
    simp only at h
    split
    · rename_i hw; rw [if_pos hw] at h; exact ⟨h.1, opS_mono hK h.2⟩
    · rename_i hw; rw [if_neg hw] at h; exact hK _ _ h
theorem opT_in {i : Nat} {a : Act} {w : World} {K : Act → World → Prop} (h : opT P ops i K a w) : wpOpIn (FR r) 0 P ops Q i K a w := by
  unfold opT at h
  unfold wpOpIn
  split
  · rename_i ho; rw [ho] at h; exact h
  · rename_i o ho
    rw [ho] at h
    simp only at h
    split
    · rename_i hw
      rw [if_pos hw] at h
      refine ⟨fun _ _ => trivial, ?_⟩
      obtain ⟨hnd, h⟩ := h
      rw [Oper.semAt_eq _ _ _ (fun c hc => by simp [noDefer, hc] at hnd)]
      unfold opS at h
      split at h
      · rename_i v w' hr; rw [hr]; exact h
      · rename_i w' hr; rw [hr]; exact h
      · rename_i f args w' hr
        rw [hr]
        exact ⟨(fun hx => by cases hx), (calls_in r _ h).mono fun e w'' ⟨v, he, hk⟩ => by subst he; exact hk⟩
      · exact h.elim
    · rename_i hw
      rw [if_neg hw] at h
      exact ⟨fun _ _ => trivial, h⟩

/-- No barrier has come up. -/
def live (E : List Nat) (L : Array Bool) : Prop := ∀ e ∈ E, L.getD e true = false
def wpT (P : Program) (ops : Array Oper) (Q : Exit → Act → World → Prop) (E : List Nat) (C : World → Prop) : Nat → Array Bool → Act → World → Prop
  | 0, L, a, w => (live E L → C w) ∧ Region.ready .any ops L = [] ∧ Q .normal a w
  | k + 1, L, a, w => (live E L → C w) ∧ (Region.ready .any ops L = [] → Q .normal a w) ∧
      ∀ i ∈ Region.ready .any ops L, opT P ops i (fun a' w' => wpT P ops Q E C k (L.setIfInBounds i true) a' w') a w
theorem wpT_live {k : Nat} {L : Array Bool} {a : Act} {w : World} (h : wpT P ops Q E C k L a w) : live E L → C w := by
  cases k with
  | zero => exact h.1
  | succ k => exact h.1
theorem wpT_any : ∀ (k : Nat) (L : Array Bool) (a : Act) (w : World), wpT P ops Q E C k L a w → wpAnyIn (FR r) 0 P .any ops Q k L a w
  | 0, _, _, _, h => h.2
  | k + 1, L, a, w, h => ⟨h.2.1, fun i hi => opT_in (opT_mono (fun a' w' h' => wpT_any k _ a' w' h') (h.2.2 i hi))⟩

/-! ### Who waits for whom -/
def anc (ops : Array Oper) : Nat → Nat → Nat → Bool
  | 0, _, _ => false
  | k + 1, e, i => match ops[e]? with
    | none => false
    | some o => o.after.toList.any fun d => Region.binds .any d && (d.on == i || anc ops k d.on i)
def closed (ops : Array Oper) (L : Array Bool) : Prop :=
  L.size = ops.size ∧ ∀ e o, ops[e]? = some o → L.getD e true = true → ∀ d ∈ o.after, Region.binds .any d = true → L.getD d.on false = true
theorem closed_start : closed ops (Array.replicate ops.size false) := by
  refine ⟨by simp, fun e o ho hl => ?_⟩
  have := (Array.getElem?_eq_some_iff.1 ho).1
  simp [Array.getD_eq_getD_getElem?, this] at hl
theorem closed_step {L : Array Bool} {i : Nat} (h : closed ops L) (hi : i ∈ Region.ready .any ops L) : closed ops (L.setIfInBounds i true) := by
  refine ⟨by simpa using h.1, fun e o ho hl d hd hb => ?_⟩
  refine getD_set_true ?_
  by_cases hei : i = e
  · subst hei
    obtain ⟨_, o', ho', hall⟩ := mem_ready.1 hi
    rw [ho] at ho'
    injection ho' with ho'
    subst ho'
    exact hall d hd hb
  · rw [getD_set_ne true hei] at hl
    exact h.2 e o ho hl d hd hb
theorem getD_both {L : Array Bool} {i : Nat} (hi : i < L.size) : L.getD i true = L.getD i false := by simp [Array.getD_eq_getD_getElem?, hi]
theorem lt_of_getD {L : Array Bool} {i : Nat} (h : L.getD i false = true) : i < L.size := by
  rcases Nat.lt_or_ge i L.size with h' | h'
  · exact h'
  · simp [Array.getD_eq_getD_getElem?, Array.getElem?_eq_none h'] at h
theorem anc_listed {L : Array Bool} (h : closed ops L) : ∀ (k e i : Nat), anc ops k e i = true → L.getD e true = true → L.getD i false = true
  | 0, _, _, ha, _ => by simp [anc] at ha
  | k + 1, e, i, ha, hl => by
    unfold anc at ha
    cases ho : ops[e]? with
    | none => rw [ho] at ha; simp at ha
    | some o =>
      rw [ho] at ha
      obtain ⟨d, hd, hx⟩ := List.any_eq_true.1 ha
      simp only [Bool.and_eq_true, Bool.or_eq_true, beq_iff_eq] at hx
      have hdl := h.2 e o ho hl d (by simpa using hd) hx.1
      rcases hx.2 with hx | hx
      · rw [← hx]; exact hdl
      · exact anc_listed h k d.on i hx (by rw [getD_both (lt_of_getD hdl)]; exact hdl)

/-- In frame a the operation leaves v, and the world, wherever C holds. -/
def Quiet (P : Program) (C : World → Prop) (o : Oper) (a : Act) (v : Value) : Prop :=
  ∀ w, C w → match (execOp a.eval o).run P w with
    | .ok (.value u) w' => w' = w ∧ u = v
    | .ok .skip w' => w' = w ∧ v = undef
    | .ok (.enter f args) w' => w' = w ∧ Calls P f args w (fun e w'' => e = .returned v ∧ w'' = w)
    | _ => False
def YQ (P : Program) (ops : Array Oper) (C : World → Prop) (o : Oper) (v : Value) (a : Act) : Prop :=
  (Region.wanted o (yielded ops a.tmps) = true ∧ noDefer o = true ∧ Quiet P C o a v) ∨ (Region.wanted o (yielded ops a.tmps) = false ∧ v = undef)
theorem YQ.opT {i : Nat} {o : Oper} {v : Value} {a : Act} {w : World} (hi : ops[i]? = some o) (hy : YQ P ops C o v a) (hC : C w) {K : Act → World → Prop} (h : K (a.put o.dst v) w) : opT P ops i K a w := by
  unfold Go.Proofs.G.opT
  rw [hi]
  rcases hy with ⟨hw, hnd, hq⟩ | ⟨hw, rfl⟩
  · simp only [hw, if_true]
    refine ⟨hnd, ?_⟩
    have hq := hq w hC
    unfold opS
    split at hq
    · rename_i u w' hr; obtain ⟨rfl, rfl⟩ := hq; exact h
    · rename_i w' hr; obtain ⟨rfl, rfl⟩ := hq; exact h
    · rename_i f args w' hr
      obtain ⟨rfl, hc⟩ := hq
      exact hc.mono fun e w'' ⟨he, hw''⟩ => by subst hw''; exact ⟨v, he, h⟩
    · exact hq.elim
  · simp only [hw, Bool.false_eq_true, if_false]; exact h
theorem YQ.of_same {o : Oper} {v : Value} {a a' : Act} (hy : YQ P ops C o v a) (he : execOp a'.eval o = execOp a.eval o) (hw : Region.wanted o (yielded ops a'.tmps) = Region.wanted o (yielded ops a.tmps)) : YQ P ops C o v a' := by
  unfold YQ Quiet at *
  rw [he, hw]
  exact hy
/-- One operation apart from the quiet one. -/
theorem opT_put {j : Nat} {oi oj : Oper} {v : Value} (hj : ops[j]? = some oj) (hap : oi.apart ops oj = true) (hsi : ∀ cs b, oi.op ≠ .select cs b) (hsj : ∀ cs b, oj.op ≠ .select cs b) {K : Act → World → Prop} {a : Act} {w : World}
    (hy : YQ P ops C oi v a) (h : opT P ops j K (a.put oi.dst v) w) : opT P ops j (fun a' w' => YQ P ops C oi v a' ∧ K (a'.put oi.dst v) w') a w := by
  obtain ⟨h1, h2, h3⟩ := Oper.apart_spec hap
  have keep : ∀ u, YQ P ops C oi v (a.put oj.dst u) := fun u => hy.of_same (execOp_put oi hsi a oj.dst u h3) (wanted_put oi a oj.dst u h3)
  unfold opT at *
  simp only [hj] at *
  rw [wanted_put oj a oi.dst v h1] at h
  split
  · rename_i hw
    rw [if_pos hw] at h
    refine ⟨h.1, ?_⟩
    have h := h.2
    unfold opS at *
    rw [execOp_put oj hsj a oi.dst v h1] at h
    split at h
    · rename_i u w' hr; exact ⟨keep u, by rw [← Act.put_comm a v u h2]; exact h⟩
    · rename_i w' hr; exact ⟨keep _, by rw [← Act.put_comm a v undef h2]; exact h⟩
    · rename_i f args w' hr
      exact h.mono fun e w'' ⟨u, he, hk⟩ => ⟨u, he, keep u, by rw [← Act.put_comm a v u h2]; exact hk⟩
    · exact h.elim
  · rename_i hw
    rw [if_neg hw] at h
    exact ⟨keep _, by rw [← Act.put_comm a v undef h2]; exact h⟩

/-- **What is quiet may be taken first.** -/
theorem wpT_first {i fa : Nat} {oi : Oper} {v : Value} (hi : ops[i]? = some oi) (hsel : ∀ (j : Nat) (o : Oper) cs b, ops[j]? = some o → o.op ≠ .select cs b) (hE : ∀ e ∈ E, anc ops fa e i = true ∧ e ≠ i) :
    ∀ (fuel : Nat) (L : Array Bool) (a : Act) (w : World), closed ops L →
      (∀ j oj, ops[j]? = some oj → j ≠ i → L.getD j true = false → (∀ e ∈ oj.after, Region.binds .any e = true → e.on ≠ i) → oi.apart ops oj = true) →
      i ∈ Region.ready .any ops L → YQ P ops C oi v a → wpT P ops Q E C fuel (L.setIfInBounds i true) (a.put oi.dst v) w → wpT P ops Q E C (fuel + 1) L a w := by
  have hliv : ∀ L, closed ops L → L.getD i true = false → live E L ∧ live E (L.setIfInBounds i true) := by
    intro L hc hu
    have h1 : live E L := fun e he => by
      cases hx : L.getD e true with
      | false => rfl
      | true =>
        have := anc_listed hc fa e i (hE e he).1 hx
        rw [← getD_both (lt_of_getD this), hu] at this
        cases this
    exact ⟨h1, fun e he => by rw [getD_set_ne true (Ne.symm (hE e he).2)]; exact h1 e he⟩
  intro fuel
  induction fuel with
  | zero =>
    intro L a w hc hfree hr hy H
    have hC : C w := H.1 (hliv L hc (mem_ready.1 hr).1).2
    refine ⟨fun _ => hC, fun h => (by rw [h] at hr; cases hr), fun j hj => ?_⟩
    by_cases hji : j = i
    · subst hji; exact hy.opT hi hC H
    · have := ready_mono hj hji
      rw [H.2.1] at this
      cases this
  | succ fuel ih =>
    intro L a w hc hfree hr hy H
    have hC : C w := H.1 (hliv L hc (mem_ready.1 hr).1).2
    refine ⟨fun _ => hC, fun h => (by rw [h] at hr; cases hr), fun j hj => ?_⟩
    by_cases hji : j = i
    · subst hji; exact hy.opT hi hC H
    · have h1 := H.2.2 j (ready_mono hj hji)
      obtain ⟨hjun, oj, hoj, hall⟩ := mem_ready.1 hj
      have hnot : ∀ e ∈ oj.after, Region.binds .any e = true → e.on ≠ i := fun e he hb heq => by
        have h1 := hall e he hb
        have h0 := (mem_ready.1 hr).1
        rw [heq] at h1
        rw [← getD_both (lt_of_getD h1), h0] at h1
        cases h1
      have h2 := opT_put hoj (hfree j oj hoj hji hjun hnot) (fun cs b => hsel i oi cs b hi) (fun cs b => hsel j oj cs b hoj) hy h1
      have hfree' : ∀ k ok, ops[k]? = some ok → k ≠ i → (L.setIfInBounds j true).getD k true = false →
          (∀ e ∈ ok.after, Region.binds .any e = true → e.on ≠ i) → oi.apart ops ok = true := fun k ok hk hki hun hno => by
        refine hfree k ok hk hki ?_ hno
        by_cases hjk : j = k
        · subst hjk; exact hjun
        · rw [getD_set_ne true hjk] at hun; exact hun
      refine opT_mono (fun a' w' h3 => ih (L.setIfInBounds j true) a' w' (closed_step hc hj) hfree' (ready_mono hr (Ne.symm hji)) h3.1 ?_) h2
      rw [Array.setIfInBounds_comm _ _ hji]
      exact h3.2
/-- The same for what doesn't look at the world at all. -/
theorem wpT_pure {i : Nat} {oi : Oper} {v : Value} (hi : ops[i]? = some oi) (hsel : ∀ (j : Nat) (o : Oper) cs b, ops[j]? = some o → o.op ≠ .select cs b) (hE : ∀ e ∈ E, e ≠ i) :
    ∀ (fuel : Nat) (L : Array Bool) (a : Act) (w : World), closed ops L →
      (∀ j oj, ops[j]? = some oj → j ≠ i → L.getD j true = false → (∀ e ∈ oj.after, Region.binds .any e = true → e.on ≠ i) → oi.apart ops oj = true) →
      i ∈ Region.ready .any ops L → YQ P ops (fun _ => True) oi v a → wpT P ops Q E C fuel (L.setIfInBounds i true) (a.put oi.dst v) w → wpT P ops Q E C (fuel + 1) L a w := by
  have hliv : ∀ L, live E L → live E (L.setIfInBounds i true) := fun L h e he => by rw [getD_set_ne true (Ne.symm (hE e he))]; exact h e he
  intro fuel
  induction fuel with
  | zero =>
    intro L a w hc hfree hr hy H
    refine ⟨fun hl => H.1 (hliv L hl), fun h => (by rw [h] at hr; cases hr), fun j hj => ?_⟩
    by_cases hji : j = i
    · subst hji; exact hy.opT hi trivial H
    · have := ready_mono hj hji
      rw [H.2.1] at this
      cases this
  | succ fuel ih =>
    intro L a w hc hfree hr hy H
    refine ⟨fun hl => H.1 (hliv L hl), fun h => (by rw [h] at hr; cases hr), fun j hj => ?_⟩
    by_cases hji : j = i
    · subst hji; exact hy.opT hi trivial H
    · have h1 := H.2.2 j (ready_mono hj hji)
      obtain ⟨hjun, oj, hoj, hall⟩ := mem_ready.1 hj
      have hnot : ∀ e ∈ oj.after, Region.binds .any e = true → e.on ≠ i := fun e he hb heq => by
        have h1 := hall e he hb
        have h0 := (mem_ready.1 hr).1
        rw [heq] at h1
        rw [← getD_both (lt_of_getD h1), h0] at h1
        cases h1
      have h2 := opT_put hoj (hfree j oj hoj hji hjun hnot) (fun cs b => hsel i oi cs b hi) (fun cs b => hsel j oj cs b hoj) hy h1
      have hfree' : ∀ k ok, ops[k]? = some ok → k ≠ i → (L.setIfInBounds j true).getD k true = false →
          (∀ e ∈ ok.after, Region.binds .any e = true → e.on ≠ i) → oi.apart ops ok = true := fun k ok hk hki hun hno => by
        refine hfree k ok hk hki ?_ hno
        by_cases hjk : j = k
        · subst hjk; exact hjun
        · rw [getD_set_ne true hjk] at hun; exact hun
      refine opT_mono (fun a' w' h3 => ih (L.setIfInBounds j true) a' w' (closed_step hc hj) hfree' (ready_mono hr (Ne.symm hji)) h3.1 ?_) h2
      rw [Array.setIfInBounds_comm _ _ hji]
      exact h3.2
end

/-! ### In frames told by functions -/
/-- A quiet run: in whatever world of C the same value, and no change. -/
def QR (P : Program) (C : World → Prop) (s : Sem Next) (v : Value) : Prop := ∀ w, C w → match s.run P w with
      | .ok (.value u) w' => w' = w ∧ u = v
      | .ok .skip w' => w' = w ∧ v = undef
      | .ok (.enter f args) w' => w' = w ∧ Calls P f args w (fun e w'' => e = .returned v ∧ w'' = w)
      | _ => False
def GD (P : Program) (N : Nat) (ds : List Deferred) (ops : Array Oper) (Q : Exit → Act → World → Prop) (E : List Nat) (C : World → Prop) (k : Nat) (L : Array Bool) (σ : Nat → Value) (w : World) : Prop :=
  ∀ a, St N ds σ a → closed ops L → wpT P ops Q E C k L a w
section
variable {r : Option Nat} {P : Program} {N : Nat} {ds : List Deferred} {Q : Exit → Act → World → Prop} {σ : Nat → Value} {w : World} {E : List Nat} {C : World → Prop}
theorem GD_start {id : Nat} {l : List Oper} (n : Nat) (E : List Nat) (C : World → Prop) (hm : P.follows .mixedOrders = true) (hn : l.length = n)
    (h : GD P N ds l.toArray Q E C n (Array.replicate n false) σ (w.drewN 1)) : GC r P N ds (.region id l.toArray true) Q σ w := by
  subst hn
  intro a ha
  refine wpIn_region_any hm (wpT_any (E := E) (C := C) _ _ _ _ ?_)
  have h2 := h a ha (by simpa using closed_start (ops := l.toArray))
  rw [List.size_toArray]
  exact h2
variable {ops : Array Oper} {k : Nat} {L : Array Bool}
/-- Take a quiet operation first. -/
theorem GD_take {o : Oper} {v : Value} (i : Nat) (hi : ops[i]? = some o) (hsel : Region.noSelect ops = true) (hr : (Region.ready .any ops L).contains i = true) (hf : Region.free .any ops L i = true)
    (hE : (E.all fun e => anc ops 40 e i && !(e == i)) = true) (hd : dstok N o.dst = true)
    (hw : Region.wanted o (yl ops σ) = true) (hnd : noDefer o = true)
    (hq : QR P C (execOp (ev σ) o) v)
    (h : GD P N ds ops Q E C k (L.setIfInBounds i true) (updo σ o.dst v) w) : GD P N ds ops Q E C (k + 1) L σ w := by
  intro a ha hc
  have hr' : i ∈ Region.ready .any ops L := by simpa using hr
  refine wpT_first (fa := 40) hi (Region.noSelect_spec hsel) (fun e he => ?_) k L a w hc (Region.free_spec hi hf) hr' (.inl ⟨by rw [ha.yl]; exact hw, hnd, ?_⟩) (h _ (ha.put _ _ hd) (closed_step hc hr'))
  · have := List.all_eq_true.1 hE e he
    simpa using this
  · unfold Quiet; rw [ha.eval]; exact hq
/-- Take what doesn't look at the world. -/
theorem GD_pure {o : Oper} {v : Value} (i : Nat) (hi : ops[i]? = some o) (hsel : Region.noSelect ops = true) (hr : (Region.ready .any ops L).contains i = true) (hf : Region.free .any ops L i = true)
    (hE : (E.all fun e => !(e == i)) = true) (hd : dstok N o.dst = true)
    (hw : Region.wanted o (yl ops σ) = true) (hnd : noDefer o = true)
    (hq : QR P (fun _ => True) (execOp (ev σ) o) v)
    (h : GD P N ds ops Q E C k (L.setIfInBounds i true) (updo σ o.dst v) w) : GD P N ds ops Q E C (k + 1) L σ w := by
  intro a ha hc
  have hr' : i ∈ Region.ready .any ops L := by simpa using hr
  refine wpT_pure hi (Region.noSelect_spec hsel) (fun e he => ?_) k L a w hc (Region.free_spec hi hf) hr' (.inl ⟨by rw [ha.yl]; exact hw, hnd, ?_⟩) (h _ (ha.put _ _ hd) (closed_step hc hr'))
  · have := List.all_eq_true.1 hE e he
    simpa using this
  · unfold Quiet; rw [ha.eval]; exact hq
/-- A guard that says no. -/
theorem GD_off {o : Oper} (i : Nat) (hi : ops[i]? = some o) (hsel : Region.noSelect ops = true) (hr : (Region.ready .any ops L).contains i = true) (hf : Region.free .any ops L i = true)
    (hE : (E.all fun e => !(e == i)) = true) (hd : dstok N o.dst = true)
    (hw : Region.wanted o (yl ops σ) = false)
    (h : GD P N ds ops Q E C k (L.setIfInBounds i true) (updo σ o.dst undef) w) : GD P N ds ops Q E C (k + 1) L σ w := by
  intro a ha hc
  have hr' : i ∈ Region.ready .any ops L := by simpa using hr
  refine wpT_pure hi (Region.noSelect_spec hsel) (fun e he => ?_) k L a w hc (Region.free_spec hi hf) hr' (.inr ⟨by rw [ha.yl]; exact hw, rfl⟩) (h _ (ha.put _ _ hd) (closed_step hc hr'))
  have := List.all_eq_true.1 hE e he
  simpa using this
/-- The one that alone is ready. -/
theorem GD_only {o : Oper} (i : Nat) (hi : ops[i]? = some o) (hr : Region.ready .any ops L = [i]) (hC : live E L → C w) (hw : Region.wanted o (yl ops σ) = true) (hnd : noDefer o = true)
    (h : ∀ a, St N ds σ a → closed ops (L.setIfInBounds i true) → match (execOp (ev σ) o).run P w with
      | .ok (.value v) w' => wpT P ops Q E C k (L.setIfInBounds i true) (a.put o.dst v) w'
      | .ok .skip w' => wpT P ops Q E C k (L.setIfInBounds i true) (a.put o.dst undef) w'
      | .ok (.enter f args) w' => Calls P f args w' (fun e w'' => ∃ v, e = .returned v ∧ wpT P ops Q E C k (L.setIfInBounds i true) (a.put o.dst v) w'')
      | _ => False) : GD P N ds ops Q E C (k + 1) L σ w := by
  intro a ha hc
  refine ⟨hC, fun h0 => (by rw [hr] at h0; cases h0), fun j hj => ?_⟩
  rw [hr] at hj
  obtain rfl := List.mem_singleton.1 hj
  unfold opT
  rw [hi]
  simp only [ha.yl, hw, if_true]
  refine ⟨hnd, ?_⟩
  unfold opS
  rw [ha.eval]
  exact h a ha (closed_step hc (by rw [hr]; exact List.mem_singleton.2 rfl))
theorem GD_val {o : Oper} {v : Value} {w' : World} (i : Nat) (hi : ops[i]? = some o) (hr : Region.ready .any ops L = [i]) (hC : live E L → C w) (hw : Region.wanted o (yl ops σ) = true) (hnd : noDefer o = true) (hd : dstok N o.dst = true)
    (hrun : (execOp (ev σ) o).run P w = .ok (.value v) w') (h : GD P N ds ops Q E C k (L.setIfInBounds i true) (updo σ o.dst v) w') : GD P N ds ops Q E C (k + 1) L σ w :=
  GD_only i hi hr hC hw hnd fun a ha hc => by rw [hrun]; exact h _ (ha.put _ _ hd) hc
theorem GD_unit {o : Oper} {w' : World} (i : Nat) (hi : ops[i]? = some o) (hr : Region.ready .any ops L = [i]) (hC : live E L → C w) (hw : Region.wanted o (yl ops σ) = true) (hnd : noDefer o = true) (hd : dstok N o.dst = true)
    (hrun : (execOp (ev σ) o).run P w = .ok .skip w') (h : GD P N ds ops Q E C k (L.setIfInBounds i true) (updo σ o.dst undef) w') : GD P N ds ops Q E C (k + 1) L σ w :=
  GD_only i hi hr hC hw hnd fun a ha hc => by rw [hrun]; exact h _ (ha.put _ _ hd) hc
theorem GD_enter {o : Oper} {f : FuncId} {args : Array Value} {w1 : World} {R : Ending → World → Prop} (i : Nat) (hi : ops[i]? = some o) (hr : Region.ready .any ops L = [i]) (hC : live E L → C w) (hw : Region.wanted o (yl ops σ) = true) (hnd : noDefer o = true) (hd : dstok N o.dst = true)
    (hrun : (execOp (ev σ) o).run P w = .ok (.enter f args) w1) (hc : Calls P f args w1 R) (h : ∀ e w', R e w' → ∃ v, e = .returned v ∧ GD P N ds ops Q E C k (L.setIfInBounds i true) (updo σ o.dst v) w') : GD P N ds ops Q E C (k + 1) L σ w :=
  GD_only i hi hr hC hw hnd fun a ha hcl => by
    rw [hrun]
    exact hc.mono fun e w' he => by
      obtain ⟨v, hv, hk⟩ := h e w' he
      exact ⟨v, hv, hk _ (ha.put _ _ hd) hcl⟩
theorem GD_end (hr : Region.ready .any ops L = []) (hC : live E L → C w) (h : ∀ a, St N ds σ a → Q .normal a w) : GD P N ds ops Q E C k L σ w := by
  intro a ha hc
  cases k with
  | zero => exact ⟨hC, hr, h a ha⟩
  | succ k => exact ⟨hC, fun _ => h a ha, fun i hi => by rw [hr] at hi; cases hi⟩
end
attribute [irreducible] GD
end Go.Proofs.G

/- What an operation's run gives, for regions that draw. -/
set_option linter.unusedVariables false
set_option linter.unusedSimpArgs false
namespace Go.Proofs.G
open Go Go.RowKit
section
variable {P : Program} {σ : Nat → Value} {w : World} {C : World → Prop} {ty : TypeId} {pos : String} {after : Array Edge} {gd : Option (Nat × Bool)} {dst : Option Nat} {x y : Operand} {t t' e : TypeId}
theorem qv {o : Oper} {v : Value} {ρ : Operand → Value} (h : ∀ w, C w → (execOp ρ o).run P w = .ok (.value v) w) : QR P C (execOp ρ o) v := fun w hC => by rw [h w hC]; exact ⟨rfl, rfl⟩
theorem qc {o : Oper} {v : Value} {ρ : Operand → Value} {f : FuncId} {args : Array Value} (h : ∀ w, C w → (execOp ρ o).run P w = .ok (.enter f args) w) (hc : ∀ w, C w → Calls P f args w (fun e w'' => e = .returned v ∧ w'' = w)) : QR P C (execOp ρ o) v := fun w hC => by rw [h w hC]; exact ⟨rfl, hc w hC⟩
theorem r_move : (execOp (ev σ) ⟨dst, .move x, ty, pos, after, gd⟩).run P w = .ok (.value (ev σ x)) w := rfl
theorem r_assign : (execOp (ev σ) ⟨dst, .assign x, ty, pos, after, gd⟩).run P w = .ok (.value (ev σ x)) w := rfl
theorem r_not {b : Bool} (hx : ev σ x = .bool b) : (execOp (ev σ) ⟨dst, .unOp .not t x, ty, pos, after, gd⟩).run P w = .ok (.value (.bool (!b))) w := by simp [execOp, hx, Op.unary]
theorem r_pickT {c : Operand} (hc : ev σ c = .bool true) : (execOp (ev σ) ⟨dst, .pick c x y, ty, pos, after, gd⟩).run P w = .ok (.value (ev σ x)) w := by simp [execOp, hc, asBool]
theorem r_pickF {c : Operand} (hc : ev σ c = .bool false) : (execOp (ev σ) ⟨dst, .pick c x y, ty, pos, after, gd⟩).run P w = .ok (.value (ev σ y)) w := by simp [execOp, hc, asBool]
theorem r_extract {vs : Array Value} {i : Nat} {v : Value} (hx : ev σ x = .tuple vs) (hv : vs[i]? = some v) : (execOp (ev σ) ⟨dst, .extract x i, ty, pos, after, gd⟩).run P w = .ok (.value v) w := by simp [execOp, hx, Instr.extract, hv]
theorem r_makeFunc {fn : Fn} {first captured : Array Operand} : (execOp (ev σ) ⟨dst, .makeFunc fn first captured, ty, pos, after, gd⟩).run P w = .ok (.value (.func fn (first.map (ev σ)) (captured.map (ev σ)))) w := by simp [execOp, Instr.makeFunc]
section
variable {a b : Int} (hx : ev σ x = .int .i64 a) (hy : ev σ y = .int .i64 b)
include hx hy
theorem r_add (hr : -9223372036854775808 ≤ a + b ∧ a + b ≤ 9223372036854775807) : (execOp (ev σ) ⟨dst, .binOp .add t x y t', ty, pos, after, gd⟩).run P w = .ok (.value (.int .i64 (a + b))) w := by simp [execOp, eqGuard, binOp, hx, hy, Op.intArith, IntWalk.i64_in _ hr]
theorem r_addw : (execOp (ev σ) ⟨dst, .binOp .add t x y t', ty, pos, after, gd⟩).run P w = .ok (.value (.int .i64 (wrap64 (a + b)))) w := by simp [execOp, eqGuard, binOp, hx, hy, Op.intArith, IntWalk.i64_left]
theorem r_sub (hr : -9223372036854775808 ≤ a - b ∧ a - b ≤ 9223372036854775807) : (execOp (ev σ) ⟨dst, .binOp .sub t x y t', ty, pos, after, gd⟩).run P w = .ok (.value (.int .i64 (a - b))) w := by simp [execOp, eqGuard, binOp, hx, hy, Op.intArith, IntWalk.i64_in _ hr]
theorem r_subw : (execOp (ev σ) ⟨dst, .binOp .sub t x y t', ty, pos, after, gd⟩).run P w = .ok (.value (.int .i64 (wrap64 (a - b)))) w := by simp [execOp, eqGuard, binOp, hx, hy, Op.intArith, IntWalk.i64_left]
theorem r_lssT (c : a < b) : (execOp (ev σ) ⟨dst, .binOp .lss t x y t', ty, pos, after, gd⟩).run P w = .ok (.value (.bool true)) w := by simp [execOp, eqGuard, binOp, hx, hy, Op.intCmp, c]
theorem r_lssF (c : ¬ (a < b)) : (execOp (ev σ) ⟨dst, .binOp .lss t x y t', ty, pos, after, gd⟩).run P w = .ok (.value (.bool false)) w := by simp [execOp, eqGuard, binOp, hx, hy, Op.intCmp]; omega
theorem r_leqT (c : a ≤ b) : (execOp (ev σ) ⟨dst, .binOp .leq t x y t', ty, pos, after, gd⟩).run P w = .ok (.value (.bool true)) w := by simp [execOp, eqGuard, binOp, hx, hy, Op.intCmp, c]
theorem r_leqF (c : ¬ (a ≤ b)) : (execOp (ev σ) ⟨dst, .binOp .leq t x y t', ty, pos, after, gd⟩).run P w = .ok (.value (.bool false)) w := by simp [execOp, eqGuard, binOp, hx, hy, Op.intCmp]; omega
theorem r_gtrT (c : b < a) : (execOp (ev σ) ⟨dst, .binOp .gtr t x y t', ty, pos, after, gd⟩).run P w = .ok (.value (.bool true)) w := by simp [execOp, eqGuard, binOp, hx, hy, Op.intCmp, c]
theorem r_gtrF (c : ¬ (b < a)) : (execOp (ev σ) ⟨dst, .binOp .gtr t x y t', ty, pos, after, gd⟩).run P w = .ok (.value (.bool false)) w := by simp [execOp, eqGuard, binOp, hx, hy, Op.intCmp]; omega
theorem r_geqT (c : b ≤ a) : (execOp (ev σ) ⟨dst, .binOp .geq t x y t', ty, pos, after, gd⟩).run P w = .ok (.value (.bool true)) w := by simp [execOp, eqGuard, binOp, hx, hy, Op.intCmp, c]
theorem r_geqF (c : ¬ (b ≤ a)) : (execOp (ev σ) ⟨dst, .binOp .geq t x y t', ty, pos, after, gd⟩).run P w = .ok (.value (.bool false)) w := by simp [execOp, eqGuard, binOp, hx, hy, Op.intCmp]; omega
theorem r_eqlT (c : a = b) : (execOp (ev σ) ⟨dst, .binOp .eql t x y t', ty, pos, after, gd⟩).run P w = .ok (.value (.bool true)) w := by simp [execOp, eqGuard, binOp, hx, hy, Op.intCmp, c]
theorem r_eqlF (c : ¬ (a = b)) : (execOp (ev σ) ⟨dst, .binOp .eql t x y t', ty, pos, after, gd⟩).run P w = .ok (.value (.bool false)) w := by simp [execOp, eqGuard, binOp, hx, hy, Op.intCmp]; omega
theorem r_neqT (c : a ≠ b) : (execOp (ev σ) ⟨dst, .binOp .neq t x y t', ty, pos, after, gd⟩).run P w = .ok (.value (.bool true)) w := by simp [execOp, eqGuard, binOp, hx, hy, Op.intCmp, c]
theorem r_neqF (c : ¬ (a ≠ b)) : (execOp (ev σ) ⟨dst, .binOp .neq t x y t', ty, pos, after, gd⟩).run P w = .ok (.value (.bool false)) w := by simp [execOp, eqGuard, binOp, hx, hy, Op.intCmp]; omega
end
theorem r_fieldAddr {f off : Nat} {ad ad' : Addr} (hf : ∀ w a, (Instr.fieldAt t (.pointer (some a)) f).run P w = .ok (.pointer (some (a.add off))) w) (hx : ev σ x = .pointer (some ad)) (ha : ad.add off = ad') :
    (execOp (ev σ) ⟨dst, .fieldAddr t x f, ty, pos, after, gd⟩).run P w = .ok (.value (.pointer (some ad'))) w := by simp [execOp, hx, hf, ha]
theorem r_fieldAddrB {f off g o : Nat} (hf : ∀ w a, (Instr.fieldAt t (.pointer (some a)) f).run P w = .ok (.pointer (some (a.add off))) w) (hx : ev σ x = .pointer (some ⟨g, o, none⟩)) :
    (execOp (ev σ) ⟨dst, .fieldAddr t x f, ty, pos, after, gd⟩).run P w = .ok (.value (.pointer (some ⟨g, o + off, none⟩))) w := r_fieldAddr hf hx (add_lit _ _ _)
theorem r_indexS {k : IntKind} {i : Int} {ad : Addr} {len cap sz n : Nat} (hu : P.underlying t = some (.slice e)) (hsz : (P.info? e).map (·.size) = some sz) (hx : ev σ x = .slice (some ad) len cap) (hy : ev σ y = .int k i)
    (h0 : 0 ≤ i) (h1 : i < len) (hn : i.toNat * sz = n) : (execOp (ev σ) ⟨dst, .indexAddr t x y, ty, pos, after, gd⟩).run P w = .ok (.value (.pointer (some (ad.add n)))) w := by
  obtain ⟨i', hi, hzz⟩ := Option.map_eq_some_iff.1 hsz
  simp [execOp, hx, hy, Instr.indexAt, asIntOf, run_underlying hu, h0, h1, sizeOf, typeInfo, hi, hzz, hn]
theorem r_indexA {k : IntKind} {i : Int} {ad ad' : Addr} {len sz : Nat} (hu : P.underlying t = some (.array len e)) (hsz : (P.info? e).map (·.size) = some sz) (hx : ev σ x = .pointer (some ad)) (hy : ev σ y = .int k i)
    (h0 : 0 ≤ i) (h1 : i < len) (hn : ad.add (i.toNat * sz) = ad') : (execOp (ev σ) ⟨dst, .indexAddr t x y, ty, pos, after, gd⟩).run P w = .ok (.value (.pointer (some ad'))) w := by
  obtain ⟨i', hi, hzz⟩ := Option.map_eq_some_iff.1 hsz
  simp [execOp, hx, hy, Instr.indexAt, asIntOf, run_underlying hu, Instr.sureAddr, h0, h1, sizeOf, typeInfo, hi, hzz, hn]
theorem r_load1 {ad : Addr} {v : Value} {dsc : TypeDesc} (hx : ev σ x = .pointer (some ad)) (ht : P.underlying t = some dsc) (hc : w.cell? ad = some v) (hs : isAggD dsc = false := by rfl) :
    (execOp (ev σ) ⟨dst, .load t x, ty, pos, after, gd⟩).run P w = .ok (.value v) w := by
  have := run_isAgg (w := w) ht
  rw [hs] at this
  simp [execOp, hx, Instr.loadAt, Instr.sureAddr, loadVar, this, load, hc, Result.andThen, Sem.run]
theorem r_loadA {ad : Addr} {l : List Value} {dsc : TypeDesc} (hx : ev σ x = .pointer (some ad)) (ht : P.underlying t = some dsc) (hsz : (P.info? t).map (·.size) = some l.length)
    (hc : ∀ j v, l[j]? = some v → w.cell? (ad.add j) = some v) (hs : isAggD dsc = true := by rfl) :
    (execOp (ev σ) ⟨dst, .load t x, ty, pos, after, gd⟩).run P w = .ok (.value (.agg l.toArray)) w := by
  obtain ⟨i, hi, hzz⟩ := Option.map_eq_some_iff.1 hsz
  have h1 := run_isAgg (w := w) ht
  rw [hs] at h1
  have h2 := run_loadCells_list (P := P) (w := w) ad l hc
  simp [execOp, hx, Instr.loadAt, Instr.sureAddr, loadVar, h1, sizeOf, typeInfo, hi, hzz, h2, Result.andThen]
theorem r_len {A : Option Addr} {n c : Nat} (hu : P.underlying t = some (.slice e)) (hx : ev σ x = .slice A n c) :
    (execOp (ev σ) ⟨dst, .call { callee := .builtin .len, args := #[x], argTypes := #[t] }, ty, pos, after, gd⟩).run P w = .ok (.value (.int .i64 n)) w := by
  simp [execOp, resolve, hx, invoke, builtin, Builtin.len_, run_underlying hu, goInt]
theorem r_max {a b m : Int} {ts : Array TypeId} (hx : ev σ x = .int .i64 a) (hy : ev σ y = .int .i64 b) (hm : max a b = m) :
    (execOp (ev σ) ⟨dst, .call { callee := .builtin .max, args := #[x, y], argTypes := ts }, ty, pos, after, gd⟩).run P w = .ok (.value (.int .i64 m)) w := by
  have : (if b > a then b else a) = m := by rw [← hm]; split <;> omega
  simp [execOp, resolve, hx, hy, invoke, builtin, Builtin.max_, Builtin.max2, this]
theorem r_build {parts : Array (Nat × Operand)} {v : Value} (hrun : (Instr.build t (parts.map fun (i, x) => (i, ev σ x))).run P w = .ok v w) :
    (execOp (ev σ) ⟨dst, .build t parts, ty, pos, after, gd⟩).run P w = .ok (.value v) w := by simp only [execOp]; rw [Sem.run_bind, hrun]; rfl
theorem r_slice3 {A : Option Addr} {len cap n m : Nat} {a b : Int} {kx ky : Operand} (hu : P.underlying t = some (.slice e)) (hsz : ∃ i, P.info? e = some i) (hx : ev σ x = .slice A len cap) (ha : ev σ kx = .int .i64 a) (hb : ev σ ky = .int .i64 b)
    (hn : a = (n : Int)) (hm : b = (m : Int)) (h1 : n ≤ m) (h2 : m ≤ cap) : (execOp (ev σ) ⟨dst, .slice t x none (some kx) (some ky), ty, pos, after, gd⟩).run P w = .ok (.value (.slice A n m)) w := by
  obtain ⟨i, hi⟩ := hsz
  subst hn hm
  have h1' : (n : Int) ≤ (m : Int) := by omega
  have h2' : (m : Int) ≤ (cap : Int) := by omega
  have hA : (A.map fun y => y.add 0) = A := by cases A <;> simp [Addr.add]
  simp [execOp, hx, ha, hb, Instr.sliceAt, Instr.slice, run_underlying hu, Instr.sliceBounds, Instr.sliceBound, asIntOf, h1', h2', h1, h2, sizeOf, typeInfo, hi, hA]
theorem r_call {f : FuncId} {args : List Operand} {ts : Array TypeId} {vals : List Value} (he : ∀ args w, (callFunc f args).run P w = .ok (.enter f args) w) (hv : args.map (ev σ) = vals) :
    (execOp (ev σ) ⟨dst, .call { callee := .value (.func f), args := args.toArray, argTypes := ts }, ty, pos, after, gd⟩).run P w = .ok (.enter f vals.toArray) w := by simp [execOp, resolve, ev, Deferred.ofValue, invoke, hv, he]
theorem r_callv {f : FuncId} {args : List Operand} {ts : Array TypeId} {first captured vals : List Value} (he : ∀ args w, (callFunc f args).run P w = .ok (.enter f args) w)
    (hx : ev σ x = .func (.func f) first.toArray captured.toArray) (hv : first ++ args.map (ev σ) ++ captured = vals) :
    (execOp (ev σ) ⟨dst, .call { callee := .value x, args := args.toArray, argTypes := ts }, ty, pos, after, gd⟩).run P w = .ok (.enter f vals.toArray) w := by
  have : (first.toArray ++ args.toArray.map (ev σ)) ++ captured.toArray = vals.toArray := by rw [← hv]; simp
  simp only [execOp, resolve, hx, Deferred.ofValue, Sem.run_bind, Sem.run_pure, invoke]
  simp only [Result.andThen]
  rw [this, he]
theorem r_alloc {z : Value} (hz : (P.info? t).map (·.zero) = some (some z)) : (execOp (ev σ) ⟨dst, .alloc t, ty, pos, after, gd⟩).run P w = .ok (.value (.pointer (some ⟨w.heap.size, 0, none⟩))) (w.alloc (.cells z.cells t)) := by
  obtain ⟨i, hi, hzz⟩ := Option.map_eq_some_iff.1 hz
  simp [execOp, Instr.alloc, zeroValue, typeInfo, hi, hzz, newVar, newRow]
theorem r_buildSlice {parts : Array (Nat × Operand)} {len : Nat} {cells : Array Value} (hrun : (Instr.buildSlice t len (parts.map fun (i, x) => (i, ev σ x))).run P w = .ok (.slice (some ⟨w.heap.size, 0, none⟩) len len) (w.alloc (.cells cells e))) :
    (execOp (ev σ) ⟨dst, .buildSlice t len parts, ty, pos, after, gd⟩).run P w = .ok (.value (.slice (some ⟨w.heap.size, 0, none⟩) len len)) (w.alloc (.cells cells e)) := by simp only [execOp]; rw [Sem.run_bind, hrun]; rfl
theorem r_lookup {v : Value} {ok : Bool} (hrun : (Instr.lookup t (ev σ x) (ev σ y) ok).run P w = .ok v w) : (execOp (ev σ) ⟨dst, .lookup t x y ok, ty, pos, after, gd⟩).run P w = .ok (.value v) w := by simp only [execOp]; rw [Sem.run_bind, hrun]; rfl
end
end Go.Proofs.G

/- Rows told by kinds. -/
set_option linter.unusedVariables false
set_option linter.unusedSimpArgs false
namespace Go.Proofs.G
open Go Go.RowKit Go.Proofs.YtpfoleggapngoaaW.PrintWords
theorem retb {b b' : Bool} (h : b = b') : Ending.returned (.bool b) = .returned (.bool b') := by rw [h]
theorem reti {a b : Int} (h : a = b) : Ending.returned (.int .i64 a) = .returned (.int .i64 b) := by rw [h]
theorem cellAt {w : World} {g j : Nat} {cs : Array Value} {t : TypeId} {fr : Nat × Nat} {v : Value} (hb : w.heap[g]? = some (.cells cs t fr)) (hj : cs[j]? = some v) : w.cell? ⟨g, j, none⟩ = some v := (cell_of_row w g j cs t fr hb).trans hj
theorem cellsAt {w : World} {g : Nat} {l : List Value} {t : TypeId} {fr : Nat × Nat} (hb : w.heap[g]? = some (.cells l.toArray t fr)) : ∀ j v, l[j]? = some v → w.cell? ((⟨g, 0, none⟩ : Addr).add j) = some v := fun j v hj => by
  rw [add_lit, Nat.zero_add]; exact cellAt hb (by simpa using hj)
theorem add0 (g n : Nat) : (⟨g, 0, none⟩ : Addr).add (n * 1) = ⟨g, n, none⟩ := by rw [add_lit, Nat.mul_one, Nat.zero_add]
theorem Ch.R {α : Type} {d : Kd α} {e base : Nat} {ok S : Nat → Prop} {w w' : World} {v : Value} {xs : List α} (hc : Ch S w w') (h : d.R e w base ok v xs) (hS : ∀ k, ok k → ¬ S k) : d.R e w' base ok v xs :=
  Kd.R_step h (fun k ho hlt => hc.blk k hlt (hS k ho))
theorem Ch.C {α : Type} {d : Kd α} {w w' : World} {A : Option Addr} {n : Nat} {xs : List α} (hc : Ch nob w w') (h : d.C w A n xs) : d.C w' A n xs := Kd.C_below h (hc.below (Nat.le_refl _) (fun _ _ => id))
/-- Which block is no row's own: by its type. -/
theorem R_ne {α : Type} {d : Kd α} {e base : Nat} {ok : Nat → Prop} {w : World} {v : Value} {xs : List α} (h : d.R e w base ok v xs) {g t : Nat} {cells : Array Value} {fr : Nat × Nat} (hb : w.heap[g]? = some (.cells cells t fr)) (ht : e ≠ t) : some g ≠ v.ownBlock := by
  intro he
  obtain ⟨inner, ho⟩ := Kd.R_own h
  obtain ⟨cells', hc⟩ := own_typed ho g he.symm
  rw [hc] at hb
  injection hb with hb
  injection hb with _ hb _
  exact ht hb
section
variable {r : Option Nat} {P : Program} {N : Nat} {ds : List Deferred} {Q : Exit → Act → World → Prop} {σ : Nat → Value} {w : World}
variable {ops : Array Oper} {rest : List Oper} {ty : TypeId} {pos : String} {after : Array Edge} {gd : Option (Nat × Bool)} {d : Nat} {x y : Operand} {t e : TypeId} {dst : Option Nat}
theorem run_appendR {α : Type} (k : Kd α) {z : Value} {bytes base : Nat} (ht : P.underlying t = some (.slice e)) (hinfo : (P.info? e).map (fun i => (i.zero, i.size, i.bytes)) = some (some z, k.sz, bytes)) (hz : z.cells.size = k.sz) (hs0 : 0 < k.sz)
    {v : Value} {xs : List α} {p : α} {cs : List Value} {ok okp : Nat → Prop} {g c : Nat} {te : TypeId} {fr : Nat × Nat} (HO : k.R e w base ok v xs) (hg : w.heap[g]? = some (.cells cs.toArray te fr)) (hp : k.M w base okp p cs) (hokp : ∀ k, okp k → ok k ∧ some k ≠ v.ownBlock)
    (hfresh : ∀ k, w.heap.size ≤ k → ok k) (hbase : base ≤ w.heap.size) (hl : (xs.length + 1) * bytes ≤ 140737488355328) (hm : xs.length + 1 ≤ maxLen) (hx : ev σ x = v) (hy : ev σ y = .slice (some ⟨g, 0, none⟩) 1 c) :
    ∃ v' w', (execOp (ev σ) ⟨dst, .call { callee := .builtin .append, args := #[x, y], argTypes := #[t, t] }, ty, pos, after, gd⟩).run P w = .ok (.value v') w' ∧ k.R e w' base ok v' (xs ++ [p]) ∧ w.grownBy w' v.ownBlock ∧
      (v'.ownBlock = v.ownBlock ∨ v'.ownBlock = some w.heap.size) := by
  obtain ⟨i0, hi, hzz⟩ := Option.map_eq_some_iff.1 hinfo
  simp only [Prod.mk.injEq] at hzz
  obtain ⟨hz0, hz1, hz2⟩ := hzz
  obtain ⟨h0, inner, hown, hr⟩ := HO
  have hcl := k.K_len (k.K_of_M hp)
  obtain ⟨v', w', hrun, r1, r2, r3, r4⟩ := run_append_own_at (P := P) w base t ty e i0 z k.sz bytes ht hi hz0 hz1 hz2 hz hs0 v xs.length inner hown ⟨g, 0, none⟩ 1 c cs (by rw [hcl, Nat.one_mul]) (cellsAt hg) (k.K_one (k.K_of_M hp)) hm hl hbase
  refine ⟨v', w', by simp [execOp, resolve, invoke, builtin, hx, hy, hrun], Kd.R_appended h0 hr hp hokp hfresh r1 r2 (by rcases r4 with r4 | r4; exact .inl r4; exact .inr ⟨_, r4, Nat.le_refl _⟩), r2, r4⟩
/-- append(row, x): a row of one's own, told by a kind; x's cells lie in a block. -/
theorem g_appendR {α : Type} (k : Kd α) {z : Value} {bytes base : Nat} (ht : P.underlying t = some (.slice e)) (hinfo : (P.info? e).map (fun i => (i.zero, i.size, i.bytes)) = some (some z, k.sz, bytes)) (hz : z.cells.size = k.sz) (hs0 : 0 < k.sz)
    {v : Value} {xs : List α} {p : α} {cs : List Value} {ok okp : Nat → Prop} {g c : Nat} {te : TypeId} {fr : Nat × Nat} (HO : k.R e w base ok v xs) (hg : w.heap[g]? = some (.cells cs.toArray te fr)) (hp : k.M w base okp p cs) (hokp : ∀ k, okp k → ok k ∧ some k ≠ v.ownBlock)
    (hfresh : ∀ k, w.heap.size ≤ k → ok k) (hbase : base ≤ w.heap.size) (hl : (xs.length + 1) * bytes ≤ 140737488355328) (hm : xs.length + 1 ≤ maxLen) (hx : ev σ x = v) (hy : ev σ y = .slice (some ⟨g, 0, none⟩) 1 c)
    (hw : Region.wanted ⟨some d, .call { callee := .builtin .append, args := #[x, y], argTypes := #[t, t] }, ty, pos, after, gd⟩ (yl ops σ) = true := by rfl) (hd : Nat.blt d N = true := by rfl)
    (h : ∀ v' w', k.R e w' base ok v' (xs ++ [p]) → w.grownBy w' v.ownBlock → (v'.ownBlock = v.ownBlock ∨ v'.ownBlock = some w.heap.size) → GL r P N ds ops Q rest (upd σ d v') w') :
    GL r P N ds ops Q (⟨some d, .call { callee := .builtin .append, args := #[x, y], argTypes := #[t, t] }, ty, pos, after, gd⟩ :: rest) σ w := by
  obtain ⟨v', w', hrun, r1, r2, r3⟩ := run_appendR (P := P) (dst := some d) (ty := ty) (pos := pos) (after := after) (gd := gd) k ht hinfo hz hs0 HO hg hp hokp hfresh hbase hl hm hx hy
  exact GL_val hw (by intro c hc; cases hc) hrun hd (h v' w' r1 r2 r3)
theorem set1 (f : Nat → Value) (v : Value) : (Array.map f (Array.range 1)).setIfInBounds 0 v = #[v] := by
  apply Array.ext
  · simp
  · intro i h1 h2
    simp at h1
    subst h1
    simp
/-- A literal of one element of one cell. -/
theorem run_buildSlice1 {i : TypeInfo} {z v : Value} (ht : P.underlying t = some (.slice e)) (hi : P.info? e = some i) (hz : i.zero = some z) (hs : i.size = 1) (hzs : z.cells.size = 1) (hv : v.oneCell' = true) :
    (Instr.buildSlice t 1 #[(0, v)]).run P w = .ok (.slice (some ⟨w.heap.size, 0, none⟩) 1 1) (w.alloc (.cells #[v] e)) := by
  have hc : v.cells = #[v] := by cases v <;> first | rfl | simp [Value.oneCell'] at hv
  simp [Instr.buildSlice, run_underlying ht, sizeOf, zeroValue, typeInfo, hi, hz, hs, hzs, Instr.fill, hc, newRow]
  congr 2
  exact set1 _ _
end
end Go.Proofs.G
