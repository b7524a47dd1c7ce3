/- G: a part of an element of a row of one's own is written; what a struct compares to. -/
import Derived.Test.YtpfoleggapngoaaGd
set_option linter.unusedVariables false
set_option linter.unusedSimpArgs false
namespace Go.Proofs.G
open Go Go.RowKit Go.Proofs Go.Proofs.YtpfoleggapngoaaW.PrintWords
theorem R_okT {α : Type} {d : Kd α} {e base : Nat} {ok : Nat → Prop} {w : World} {v : Value} {xs : List α} (h : d.R e w base ok v xs) : d.R e w base (fun _ => True) v xs := by
  obtain ⟨h0, inner, hown, hr⟩ := h
  exact ⟨fun k hk => trivial, inner, hown, hr.imp_ (fun p c hq => d.M_mono (fun k hk => ⟨trivial, hk.2⟩) hq)⟩
theorem add_blk (ad : Addr) (n : Nat) : (ad.add n).block = ad.block := by unfold Addr.add; split <;> rfl
theorem R_okS2 {α : Type} {enc : α → Value} {h1 : ∀ x, (enc x).oneCell' = true} {e base : Nat} {ok ok' : Nat → Prop} {w : World} {v : Value} {xs : List α} (h : (Kd.scalar enc h1).R e w base ok v xs) (hok : ∀ k, v.ownBlock = some k → ok' k) : (Kd.scalar enc h1).R e w base ok' v xs := Kd.R_of_own (Kd.own_of_R h) hok
/-- A row of what lies in its cells alone keeps, where another block turns. -/
theorem C_flat {α : Type} {d : Kd α} {w w' : World} {A : Option Addr} {n : Nat} {xs : List α} (hflat : ∀ (w1 w2 : World) x cs, d.K w1 x cs → d.K w2 x cs) (hC : d.C w A n xs) {row : Option Nat} (hg : w.grownBy w' row) (hne : ∀ ad, A = some ad → some ad.block ≠ row) : d.C w' A n xs := by
  refine ⟨hC.1, hC.2.1, fun hn => ?_⟩
  obtain ⟨ad, e, hc⟩ := hC.2.2 hn
  refine ⟨ad, e, fun j p hj => ?_⟩
  obtain ⟨c, h1, h2, h3⟩ := hc j p hj
  refine ⟨c, h1, hflat w w' p c h2, fun i u hu => ?_⟩
  refine (Ch.of_grown hg).cell (h3 i u hu) ?_
  rw [show (ad.add (j * d.sz + i)).block = ad.block by unfold Addr.add; split <;> rfl]
  exact hne ad e
/-- A row of what lies in its cells alone: any blocks that it may use. -/
theorem R_flat {α : Type} {d : Kd α} (hflat : ∀ (w1 w2 : World) (b1 b2 : Nat) (o1 o2 : Nat → Prop) x cs, d.M w1 b1 o1 x cs → d.M w2 b2 o2 x cs) {e base : Nat} {ok ok' : Nat → Prop} {w : World} {v : Value} {xs : List α} (h : d.R e w base ok v xs) (hok : ∀ k, v.ownBlock = some k → ok' k) : d.R e w base ok' v xs := by
  obtain ⟨h0, inner, hown, hr⟩ := h
  exact ⟨hok, inner, hown, hr.imp_ (fun p c hq => hflat _ _ _ _ _ _ _ _ hq)⟩
/-- Two rows of other types: the one keeps where the other grows; or where a block of another type is written. -/
theorem R_apartG {α β : Type} {d : Kd α} {d2 : Kd β} (hflat : ∀ (w1 w2 : World) (b1 b2 : Nat) (o1 o2 : Nat → Prop) x cs, d.M w1 b1 o1 x cs → d.M w2 b2 o2 x cs) {e e2 base base2 : Nat} {ok2 : Nat → Prop} {w w' : World} {v v2 : Value} {xs : List α} {ys : List β} (h : d.R e w base (fun _ => True) v xs) (h2 : d2.R e2 w base2 ok2 v2 ys) (hne : e2 ≠ e) (hg : w.grownBy w' v2.ownBlock) : d.R e w' base (fun _ => True) v xs := by
  have h3 : d.R e w base (fun q => some q ≠ v2.ownBlock) v xs := R_flat hflat h (fun q hq => by
    obtain ⟨_, ho⟩ := Kd.R_own h
    obtain ⟨cl, hcl⟩ := own_typed ho q hq
    exact ne_own h2 hcl hne)
  exact R_okT (rG h3 hg (fun q hq => hq))
theorem R_apartP {α : Type} {d : Kd α} (hflat : ∀ (w1 w2 : World) (b1 b2 : Nat) (o1 o2 : Nat → Prop) x cs, d.M w1 b1 o1 x cs → d.M w2 b2 o2 x cs) {e base : Nat} {w w' : World} {v : Value} {xs : List α} (h : d.R e w base (fun _ => True) v xs) {g t : Nat} {o' : Obj} {cells : Array Value} {fr : Nat × Nat} (hp : Put w w' g o') (hb : w.heap[g]? = some (.cells cells t fr)) (hne : e ≠ t) : d.R e w' base (fun _ => True) v xs := by
  have h3 : d.R e w base (fun q => q ≠ g) v xs := R_flat hflat h (fun q hq e => ne_own h hb hne (by rw [hq, e]))
  exact R_okT (rP h3 hp (fun q hq => hq))
theorem flatInt : ∀ (w1 w2 : World) (b1 b2 : Nat) (o1 o2 : Nat → Prop) x cs, (Kd.int .i64).M w1 b1 o1 x cs → (Kd.int .i64).M w2 b2 o2 x cs := fun _ _ _ _ _ _ _ _ h => h
/-- A row's blocks lie above its base. -/
theorem R_above {α : Type} {d : Kd α} {e base : Nat} {ok : Nat → Prop} {w : World} {v : Value} {xs : List α} (h : d.R e w base ok v xs) : d.R e w base (fun k => ok k ∧ base ≤ k) v xs := by
  have hb := Kd.R_base h
  obtain ⟨h0, inner, hown, hr⟩ := h
  exact ⟨fun k hk => ⟨h0 k hk, hb k hk⟩, inner, hown, hr.imp_ (fun p c hq => d.M_mono (fun k hk => ⟨⟨hk.1.1, hk.2.1⟩, hk.1.2⟩) (d.M_bound hq))⟩
section
variable {P : Program} {σ : Nat → Value} {w : World} {ty : TypeId} {pos : String} {after : Array Edge} {gd : Option (Nat × Bool)} {dst : Option Nat} {x y : Operand} {t t' e : TypeId}
/-- An index into a row whose place is told by an equation. -/
theorem r_indexH {kk : IntKind} {i : Int} {A : Option Addr} {ad : Addr} {len cap sz n : Nat} (hu : P.underlying t = some (.slice e)) (hsz : (P.info? e).map (·.size) = some sz) (hA : A = some ad) (hx : ev σ x = .slice A len cap) (hy : ev σ y = .int kk i)
    (h0 : 0 ≤ i) (h1 : i < len) (hn : i.toNat * sz = n) : (execOp (ev σ) ⟨dst, .indexAddr t x y, ty, pos, after, gd⟩).run P w = .ok (.value (.pointer (some (ad.add n)))) w :=
  r_indexS hu hsz (hx.trans (by rw [hA])) hy h0 h1 hn
theorem run_storeSeg {α : Type} (d : Kd α) {base g n cap : Nat} {ok okp : Nat → Prop} {xs : List α} (HO : d.R e w base ok (.slice (some ⟨g, 0, none⟩) n cap) xs) {i j o : Nat} (hi : i < n) (ho : i * d.sz + j = o) {u : Value} {seg c : List Value} {x' : α}
    (hu : u.cells.toList = seg) (ht : (P.info? t).map (·.size) = some seg.length) (h1 : ∀ q ∈ seg, q.oneCell' = true) (hcl : c.length = d.sz) (hcc : ∀ q v, c[q]? = some v → w.cell? ⟨g, i * d.sz + q, none⟩ = some v) (hj : j + seg.length ≤ d.sz)
    (hM : d.M w base okp x' (c.take j ++ seg ++ c.drop (j + seg.length))) (hokp : ∀ k, okp k → ok k ∧ k ≠ g) (hx : ev σ x = .pointer (some ⟨g, o, none⟩)) (hy : ev σ y = u) :
    ∃ w', (execOp (ev σ) ⟨dst, .store t x y, ty, pos, after, gd⟩).run P w = .ok .skip w' ∧ d.R e w' base ok (.slice (some ⟨g, 0, none⟩) n cap) (xs.set i x') ∧ w.grownBy w' (some g) := by
  subst ho
  have hs := Kd.R_seg HO (i : Int) (by omega) (by omega) (c := c) (seg := seg) (j := j) (x' := x') hcl (by rw [Int.toNat_natCast]; exact hcc) hj hM hokp
  rw [Int.toNat_natCast] at hs
  refine ⟨_, ?_, hs.1, hs.2⟩
  have hnx := (Kd.R_reads' HO).1
  obtain ⟨_, inner, hown, hr⟩ := HO
  have hin : inner.length = n * d.sz := by rw [hr.1, hnx]
  rcases hown.2 with ⟨hv, _⟩ | ⟨g', cap', cur, hv, hb, hh, hnc, hcm, hcs, _⟩
  · cases hv
  injection hv with ha _ hc
  injection ha with ha
  injection ha with hg
  subst hg; subst hc
  have hfit : i * d.sz + j + seg.length ≤ cur.size := by
    have h2 : n * d.sz ≤ cap * d.sz := Nat.mul_le_mul_right _ (by omega)
    have h3 : i * d.sz + d.sz ≤ n * d.sz := by rw [← Nat.succ_mul]; exact Nat.mul_le_mul_right _ hi
    omega
  have := run_store_run (P := P) t u seg hh hu ht hfit h1
  simp [execOp, hx, hy, this]
variable {r : Option Nat} {N : Nat} {ds : List Deferred} {Q : Exit → Act → World → Prop} {ops : Array Oper} {rest : List Oper}
theorem g_indexH {d : Nat} {kk : IntKind} {i : Int} {A : Option Addr} {ad : Addr} {len cap sz n : Nat} (hu : P.underlying t = some (.slice e)) (hsz : (P.info? e).map (·.size) = some sz) (hA : A = some ad) (hx : ev σ x = .slice A len cap) (hy : ev σ y = .int kk i)
    (h0 : 0 ≤ i) (h1 : i < len) (hn : i.toNat * sz = n)
    (hw : Region.wanted ⟨some d, .indexAddr t x y, ty, pos, after, gd⟩ (yl ops σ) = true := by rfl) (hd : Nat.blt d N = true := by rfl) (h : GL r P N ds ops Q rest (upd σ d (.pointer (some (ad.add n)))) w) :
    GL r P N ds ops Q (⟨some d, .indexAddr t x y, ty, pos, after, gd⟩ :: rest) σ w :=
  GL_val hw (by intro c hc; cases hc) (r_indexH hu hsz hA hx hy h0 h1 hn) hd h
theorem g_storeSeg {α : Type} (d : Kd α) {base g n cap : Nat} {ok okp : Nat → Prop} {xs : List α} (HO : d.R e w base ok (.slice (some ⟨g, 0, none⟩) n cap) xs) {i j o : Nat} (hi : i < n) (ho : i * d.sz + j = o) {u : Value} {seg c : List Value} {x' : α}
    (hu : u.cells.toList = seg) (ht : (P.info? t).map (·.size) = some seg.length) (h1 : ∀ q ∈ seg, q.oneCell' = true) (hcl : c.length = d.sz) (hcc : ∀ q v, c[q]? = some v → w.cell? ⟨g, i * d.sz + q, none⟩ = some v) (hj : j + seg.length ≤ d.sz)
    (hM : d.M w base okp x' (c.take j ++ seg ++ c.drop (j + seg.length))) (hokp : ∀ k, okp k → ok k ∧ k ≠ g) (hx : ev σ x = .pointer (some ⟨g, o, none⟩)) (hy : ev σ y = u)
    (hw : Region.wanted ⟨none, .store t x y, ty, pos, after, gd⟩ (yl ops σ) = true := by rfl)
    (h : ∀ w', d.R e w' base ok (.slice (some ⟨g, 0, none⟩) n cap) (xs.set i x') → w.grownBy w' (some g) → GL r P N ds ops Q rest σ w') : GL r P N ds ops Q (⟨none, .store t x y, ty, pos, after, gd⟩ :: rest) σ w := by
  obtain ⟨w', hr, hR, hg⟩ := run_storeSeg (σ := σ) (P := P) (dst := none) (ty := ty) (pos := pos) (after := after) (gd := gd) (x := x) (y := y) d HO hi ho hu ht h1 hcl hcc hj hM hokp hx hy
  exact GL_unit hw (by intro c hc; cases hc) hr rfl (h w' hR hg)
theorem GO_storeSeg {E : List Nat} {C : World → Prop} {k : Nat} {L : Array Bool} {α : Type} (d : Kd α) {base g n cap : Nat} {ok okp : Nat → Prop} {xs : List α} {q : Nat} (hq : ops[q]? = some ⟨none, .store t x y, ty, pos, after, gd⟩)
    (hw : Region.wanted ⟨none, .store t x y, ty, pos, after, gd⟩ (yl ops σ) = true) (HO : d.R e w base ok (.slice (some ⟨g, 0, none⟩) n cap) xs) {i j o : Nat} (hi : i < n) (ho : i * d.sz + j = o) {u : Value} {seg c : List Value} {x' : α}
    (hu : u.cells.toList = seg) (ht : (P.info? t).map (·.size) = some seg.length) (h1 : ∀ q ∈ seg, q.oneCell' = true) (hcl : c.length = d.sz) (hcc : ∀ q v, c[q]? = some v → w.cell? ⟨g, i * d.sz + q, none⟩ = some v) (hj : j + seg.length ≤ d.sz)
    (hM : d.M w base okp x' (c.take j ++ seg ++ c.drop (j + seg.length))) (hokp : ∀ k, okp k → ok k ∧ k ≠ g) (hx : ev σ x = .pointer (some ⟨g, o, none⟩)) (hy : ev σ y = u)
    (h : ∀ w', d.R e w' base ok (.slice (some ⟨g, 0, none⟩) n cap) (xs.set i x') → w.grownBy w' (some g) → GD P N ds ops Q E C k (L.setIfInBounds q true) σ w') : GO P N ds ops Q E C k L q σ w := by
  obtain ⟨w', hr, hR, hg⟩ := run_storeSeg (σ := σ) (P := P) (dst := none) (ty := ty) (pos := pos) (after := after) (gd := gd) (x := x) (y := y) d HO hi ho hu ht h1 hcl hcc hj hM hokp hx hy
  exact GO_unit hq hw rfl rfl hr (h w' hR hg)
end
end Go.Proofs.G
