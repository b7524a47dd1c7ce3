/- barrel: Set's inner function. -/
import Derived.Test.YtpfoleggapngoaaB21
set_option linter.unusedVariables false
set_option linter.unusedSimpArgs false
set_option maxRecDepth 10000
namespace Go.Proofs.B
open Go Go.RowKit Go.Proofs Go.Proofs.G Go.Proofs.F Go.Proofs.YtpfoleggapngoaaW.PrintWords
abbrev Val1 := { v : Value // v.oneCell' = true }
abbrev kVal : Kd Val1 := Kd.scalar (fun x => x.1) (fun x => x.2)
/-- A list of lists, laid by the program. -/
def Lst (w : World) (v : Value) (ls : List (List Int)) : Prop := ∃ vs : List Val1, vs.length = ls.length ∧ kVal.R 22 w 0 (fun _ => True) v vs ∧ ∀ (j : Nat) (x : Val1) (l : List Int), vs[j]? = some x → ls[j]? = some l → RTi w x.1 l
theorem Lst.kp {w w' : World} {v : Value} {ls : List (List Int)} (h : Lst w v ls) (hk : Kp w w') : Lst w' v ls := by
  obtain ⟨vs, h1, h2, h3⟩ := h
  exact ⟨vs, h1, R_kp (by decide) h2 hk, fun j x l hx hl => (h3 j x l hx hl).kp hk⟩
theorem Lst.nil (w : World) : Lst w (.slice none 0 0) [] := ⟨[], rfl, Kd.R_nil _ _ _ _ _, fun j x l hx => by simp at hx⟩
theorem Lst.form {w : World} {v : Value} {ls : List (List Int)} (h : Lst w v ls) : ∃ A c, v = .slice A ls.length c ∧ ls.length ≤ c ∧ ∃ vs : List Val1, vs.length = ls.length ∧ kVal.C w A ls.length vs ∧ ∀ (j : Nat) (x : Val1) (l : List Int), vs[j]? = some x → ls[j]? = some l → RTi w x.1 l := by
  obtain ⟨vs, h1, h2, h3⟩ := h
  obtain ⟨A, c, h4, h5, h6⟩ := Kd.R_reads h2
  rw [h1] at h4 h5 h6
  exact ⟨A, c, h4, h5, vs, h1, h6, h3⟩
theorem Lst.one {w : World} {v : Value} {ls : List (List Int)} (h : Lst w v ls) : v.oneCell' = true := by
  obtain ⟨A, c, h4, _⟩ := h.form
  rw [h4]; rfl
theorem Lst.C {w : World} {v : Value} {ls : List (List Int)} (h : Lst w v ls) : ∃ A c, v = .slice A ls.length c ∧ ls.length ≤ c ∧ kRow.C w A ls.length ls := by
  obtain ⟨A, c, h4, h5, vs, h1, h6, h3⟩ := h.form
  refine ⟨A, c, h4, h5, rfl, h6.2.1, fun hp => ?_⟩
  obtain ⟨ad, e, hc⟩ := h6.2.2 hp
  refine ⟨ad, e, fun j l hl => ?_⟩
  have hj : j < vs.length := by have := (List.getElem?_eq_some_iff.1 hl).1; omega
  obtain ⟨cs, h7, h8, h9⟩ := hc j _ (List.getElem?_eq_getElem hj)
  obtain ⟨A', c', h10, h11, h12⟩ := Kd.R_reads (h3 j _ l (List.getElem?_eq_getElem hj) hl)
  have h8' : cs = [vs[j].1] := h8
  subst h8'
  exact ⟨[vs[j].1], rfl, ⟨A', c', by rw [h10], h11, h12⟩, h9⟩
def MI (n : Nat) (isB : List Int → Bool) (gM : Nat) (w : World) : Prop := ∃ es clock, w.heap[gM]? = some (.map es clock) ∧ ∀ x ∈ es.toList, ∃ g ls, x.key = .agg (bs g) ∧ g.length = 10 ∧ Lst w x.val ls ∧ Best n isB g ls
theorem MI.step {n : Nat} {isB : List Int → Bool} {gM : Nat} {w w' : World} (h : MI n isB gM w) (hk : Kp w w') (hm : ∀ es clock, w.heap[gM]? = some (.map es clock) → w'.heap[gM]? = some (.map es clock)) : MI n isB gM w' := by
  obtain ⟨es, clock, h1, h2⟩ := h
  refine ⟨es, clock, hm _ _ h1, fun x hx => ?_⟩
  obtain ⟨g, ls, h3, h4, h5, h6⟩ := h2 x hx
  exact ⟨g, ls, h3, h4, h5.kp hk, h6⟩
theorem MI.bel {n : Nat} {isB : List Int → Bool} {gM : Nat} {w w' : World} (h : MI n isB gM w) (hb : Bel w w') : MI n isB gM w' := h.step (Kp.of hb) (fun _ _ hm => kB hm hb)
structure SE (A : Option Addr) (c n : Nat) (girth play : Int) (gmet gpile gself gM : Nat) (w : World) : Prop where
  KM1 : w.heap[gmet]? = some (.cells #[.map (some gM)] 106 (0, 0))
  KPl : w.heap[gpile]? = some (.cells #[.slice A n c, .int .i64 girth, .int .i64 play] 101 (0, 0))
  KSf : w.heap[gself]? = some (.cells #[.func (.func 68) #[] #[.pointer (some ⟨gmet, 0, none⟩), .pointer (some ⟨gpile, 0, none⟩), .pointer (some ⟨gself, 0, none⟩)]] 107 (0, 0))
theorem SE.kp {A : Option Addr} {c n : Nat} {girth play : Int} {gmet gpile gself gM : Nat} {w w' : World} (h : SE A c n girth play gmet gpile gself gM w) (hk : Kp w w') : SE A c n girth play gmet gpile gself gM w' :=
  ⟨hk.2 _ _ _ _ (by decide) h.KM1, hk.2 _ _ _ _ (by decide) h.KPl, hk.2 _ _ _ _ (by decide) h.KSf⟩
theorem Kp.of_ch {S : Nat → Prop} {w w' : World} (h : Ch S w w') (hS : ∀ (k : Nat) (cs : Array Value) (t : TypeId) (f : Nat × Nat), w.heap[k]? = some (Obj.cells cs t f) → t ≠ 25 → ¬ S k) : Kp w w' :=
  ⟨h.size, fun k cs t f ht hk => h.at_ hk (hS k cs t f hk ht)⟩
theorem Kp.of_map {w w' : World} {gM clock : Nat} {es : Array MapEntry} (h : Ch (fun k => k = gM) w w') (hM : w.heap[gM]? = some (.map es clock)) : Kp w w' := Kp.of_ch h (fun k cs t f hk _ e => ne_map hk hM e)
def allG (n : Nat) : List Bool := (List.range n).foldl (fun g j => g.set j true) (List.replicate 10 false)
theorem allG_succ (n : Nat) : allG (n + 1) = (allG n).set n true := by unfold allG; rw [List.range_succ, List.foldl_append]; rfl
theorem allG_len : ∀ n, (allG n).length = 10
  | 0 => rfl
  | n + 1 => by rw [allG_succ, List.length_set, allG_len n]
theorem allG_get : ∀ n j, n ≤ 10 → (allG n).getD j false = decide (j < n)
  | 0, j, _ => by
    show (List.replicate 10 false).getD j false = _
    by_cases h : j < 10
    · rw [List.getD_eq_getElem?_getD, List.getElem?_replicate, if_pos h]; simp
    · rw [List.getD_eq_getElem?_getD, List.getElem?_replicate, if_neg h]; simp
  | n + 1, j, h => by
    rw [allG_succ, getD_set _ _ _ _ (by rw [allG_len]; omega), allG_get n j (by omega)]
    split
    · rename_i e; simp [e]
    · simp; omega
theorem ext10 {g g' : List Bool} (h : g.length = 10) (h' : g'.length = 10) (he : ∀ k, g.getD k false = g'.getD k false) : g = g' := by
  refine List.ext_getElem (by omega) fun k h1 h2 => ?_
  have := he k
  simpa [List.getD_eq_getElem?_getD, h1, h2] using this
theorem bs_one (g : List Bool) : ∀ v ∈ bs g, v.oneCell' = true := by
  intro v hv
  simp only [bs, List.mem_toArray, List.mem_map] at hv
  obtain ⟨b, _, rfl⟩ := hv
  rfl
theorem info99b {g : List Bool} (h : g.length = 10) : (Try.prog.info? 99).map (·.size) = some (bs g).toList.length := by rw [show (bs g).toList.length = g.length by simp [bs], h]; exact info99
theorem info99c {g : List Bool} (h : g.length = 10) : (Try.prog.info? 99).map (·.size) = some (bs g).size := by rw [bs_size, h]; exact info99
theorem build99 (w : World) : (Instr.build 99 #[]).run Try.prog w = .ok (.agg (bs (List.replicate 10 false))) w := by kernel_rfl
theorem zero25 (w : World) : (zeroValue 25).run Try.prog w = .ok (.slice none 0 0) w := by kernel_rfl
theorem bs25 (w : World) (v : Value) (hv : v.oneCell' = true) : (Instr.buildSlice 25 1 #[(0, v)]).run Try.prog w = .ok (.slice (some ⟨w.heap.size, 0, none⟩) 1 1) (w.alloc (.cells #[v] 22)) := by
  obtain ⟨i, hi, h2⟩ := Option.map_eq_some_iff.1 zi22
  simp only [Prod.mk.injEq] at h2
  exact run_buildSlice1 Try.underlying25 hi h2.1 h2.2.1 rfl hv
theorem markG_snoc (g : List Bool) (s : List Int) (x : Int) : markG g (s ++ [x]) = (markG g s).set x.toNat true := by unfold markG; rw [List.foldl_append]; rfl
theorem pk_len {n : Nat} {isB : List Int → Bool} (hB : ∀ s, isB s = true → s ≠ []) : ∀ (l : List (List Int)) (g : List Bool), n ≤ g.length → Pk n isB g l → l.length ≤ left n g
  | [], _, _, _ => Nat.zero_le _
  | s :: l, g, hn, h => by
    have hs := h.1 s (by simp)
    have h1 := pk_len hB l (markG g s) (by rw [markG_len]; exact hn) (pk_out (a := []) hn h)
    cases s with
    | nil => exact absurd rfl (hB _ hs.2)
    | cons k ks =>
      have hk := hs.1.2 k (by simp)
      have h2 : left n (markG g (k :: ks)) < left n g := left_lt (fun j hj => (markG_get _ _ _ (hs.1.rng hn)).2 (.inl hj)) (f := k.toNat) (by omega) hk.2 ((markG_get _ _ _ (hs.1.rng hn)).2 (.inr (by rw [Int.toNat_of_nonneg hk.1.1]; simp)))
      simp only [List.length_cons]; omega
theorem left_le (n : Nat) (g : List Bool) : left n g ≤ n := by unfold left; exact Nat.le_trans (List.length_filter_le _ _) (by simp)
/-- Between two rounds. -/
def SJ (n : Nat) (isB : List Int → Bool) (g : List Bool) (gM g4 g12 b : Nat) (rc : Loop) (len0 : Nat) (w : World) (d : List (List Int)) (W : World) : Prop :=
  Ch (fun k => k = gM) w W ∧ MI n isB gM W ∧ W.heap[g4]? = some (.cells (bs g) 99 (0, 0)) ∧
  (∃ v ls, W.heap[g12]? = some (.cells #[v] 25 (0, 0)) ∧ Lst W v ls ∧ Pk n isB g ls ∧ len0 ≤ ls.length ∧ ∀ y ∈ d, ∃ m, Best n isB (markG g y) m ∧ m.length + 1 ≤ ls.length) ∧
  W.heap[b + 1]? = some (.loop rc) ∧ W.heap[b]? = some (.deferred (some []))
theorem SJ.bel {n : Nat} {isB : List Int → Bool} {g : List Bool} {gM g4 g12 b : Nat} {rc : Loop} {len0 : Nat} {w : World} {d : List (List Int)} {W W' : World} (h : SJ n isB g gM g4 g12 b rc len0 w d W) (hb : Bel W W') : SJ n isB g gM g4 g12 b rc len0 w d W' := by
  obtain ⟨h1, h2, h3, ⟨v, ls, h4, h5, h6⟩, h7, h8⟩ := h
  exact ⟨h1.bel hb, h2.bel hb, kB h3 hb, ⟨v, ls, kB h4 hb, h5.kp (Kp.of hb), h6⟩, kB h7 hb, kB h8 hb⟩
theorem rc_back {rc : Loop} (h1 : rc.state = .ready) (h2 : rc.pending = none) : ({ { rc with state := .busy } with state := .ready, pending := none } : Loop) = rc := by
  cases rc; simp_all
set_option maxHeartbeats 8000000 in
theorem setOn_c (A : Option Addr) (c : Nat) (ws : List Int) (girth play : Int) (hb : ∀ x ∈ ws, 0 ≤ x ∧ x ≤ 1000) (hn : ws.length ≤ 10) (hgi : 0 ≤ girth ∧ girth ≤ 100000) (hpl : 0 ≤ play ∧ play ≤ 100000) (gmet gpile gself gM : Nat) :
    ∀ (n : Nat) (g : List Bool) (w : World), left ws.length g < n → g.length = 10 → (∀ k, ws.length ≤ k → g.getD k false = false) → SE A c ws.length girth play gmet gpile gself gM w → MI ws.length (isBarrelL ws girth play) gM w → (Kd.int .i64).C w A ws.length ws →
    Calls Try.prog 68 #[.agg (bs g), .pointer (some ⟨gmet, 0, none⟩), .pointer (some ⟨gpile, 0, none⟩), .pointer (some ⟨gself, 0, none⟩)] w fun e w' => ∃ v ls, e = .returned v ∧ Lst w' v ls ∧ Best ws.length (isBarrelL ws girth play) g ls ∧ Ch (fun k => k = gM) w w' ∧ MI ws.length (isBarrelL ws girth play) gM w' := by
  intro n
  induction n with
  | zero => intro g w h; omega
  | succ n ih =>
    intro g w hlt hgl hgn hse hmi hC
    have hB0 : ∀ s, isBarrelL ws girth play s = true → s ≠ [] := fun s => isBarrel_pos
    have hM0 : ∃ es clock, w.heap[gM]? = some (.map es clock) := by obtain ⟨es, clock, h, _⟩ := hmi; exact ⟨es, clock, h⟩
    have hgMlt : gM < w.heap.size := by obtain ⟨es, clock, h⟩ := hM0; exact blt h
    refine G_enterM (l := [.agg (bs g), .pointer (some ⟨gmet, 0, none⟩), .pointer (some ⟨gpile, 0, none⟩), .pointer (some ⟨gself, 0, none⟩)]) Try.func68 rfl rfl ?_
    refine Sq (Rg ?_)
    refine g_box rfl (h := fun g4 w4 N4 => ?_)
    have K4 := N4.at_
    have hB4 := Bel.of_new N4
    have K4a : w4.heap[g4]? = some (.cells (bs g) 99 (0, 0)) := K4
    refine As (Nl (Tn (Sq (Sq (Rg (L1 Try.underlying106 (cellAt (hse.kp (Kp.of hB4)).KM1 rfl) rfl ?_))))))
    refine g_loadA rfl Try.underlying99 (info99b hgl) (l := (bs g).toList) (cellsAt K4a) (h := ?_)
    obtain ⟨kl, hkl⟩ := key99 g hgl
    obtain ⟨v21, b21, hrun21, hc21⟩ : ∃ v b, (Instr.lookup 106 (.map (some gM)) (.agg (bs g)) true).run Try.prog w4 = .ok (.tuple #[v, .bool b]) w4 ∧ (b = true → ∃ ls, Lst w4 v ls ∧ Best ws.length (isBarrelL ws girth play) g ls) := by
      obtain ⟨es, clock, hM4, hes⟩ := hmi.bel hB4
      have hkeys : ∀ x ∈ es.toList, ∃ l, keyOf Try.prog 99 x.key = some l := fun x hx => by
        obtain ⟨g', ls, h1, h2, _⟩ := hes x hx
        rw [h1]; exact key99 g' h2
      rcases lookup_run K99 Try.underlying106 (zero25 _) hM4 hkeys hkl true with ⟨x, hx, hk, hr⟩ | ⟨_, hr⟩
      · obtain ⟨g', ls, h1, h2, h3, h4⟩ := hes x hx
        have e : g' = g := bs_inj (by rw [h1] at hk; injection hk)
        subst e
        exact ⟨x.val, true, hr, fun _ => ⟨ls, h3, h4⟩⟩
      · exact ⟨_, false, hr, fun h => by cases h⟩
    refine g_v (r_lookup hrun21) (h := ?_)
    refine Mv (Xt rfl rfl (Xt rfl rfl (As (As (Nl (Tn (Sq (Rg (Mv (Nl (Tn ?_)))))))))))
    cases q24 : b21 with
    | true =>
      refine Ct rfl (Sq (Rg (Mv (As (Nl (Tn (Rt (Tr ?_))))))))
      obtain ⟨ls, h1, h2⟩ := hc21 q24
      exact retM0 rfl ⟨v21, ls, rfl, h1, h2, (Ch.of_below hB4).mono (fun _ _ h => h.elim), hmi.bel hB4⟩
    | false =>
      refine Cf rfl (Sk (Tn (Sq (Rg ?_))))
      refine g_bld (build99 _) rfl (h := ?_)
      refine g_alloc (z := .agg (bs (List.replicate 10 false))) (by kernel_rfl) (h := fun g8 w8 N8 => ?_)
      have K8 := N8.at_
      refine g_storeA rfl rfl info99 K8 rfl (bs_one _) (h := fun w8s P8 => ?_)
      have K8a : w8s.heap[g8]? = some (.cells (bs (List.replicate 10 false)) 99 (0, 0)) := P8.at_
      have hg8 : w.heap.size ≤ g8 := Nat.le_trans hB4.size N8.ge
      have hB8 := (hB4.new N8).put P8 hg8
      have h48 : g4 ≠ g8 := N8.ne K4a
      have K4b := kP (kN K4a N8) P8 h48
      refine Nl (Tn (Sq (Sq (Rg (Fb f101_0 rfl (Fb f24_0 rfl (L1 Try.underlying22 (cellAt (hse.kp (Kp.of hB8)).KPl rfl) rfl (Ln Try.underlying22 rfl (Mv (Nl (Tn (Bk ?_))))))))))))
      refine GC_loop (fun m σ w' => ∃ (k : Nat) (τ : Nat → Value), σ = upd (upd (upd (upd (upd (upd (upd τ 1 (.pointer (some ⟨gmet, 0, none⟩))) 2 (.pointer (some ⟨gpile, 0, none⟩))) 3 (.pointer (some ⟨gself, 0, none⟩))) 4 (.pointer (some ⟨g4, 0, none⟩))) 8 (.pointer (some ⟨g8, 0, none⟩))) 30 (.int .i64 ws.length)) 31 (.int .i64 k) ∧ k ≤ ws.length ∧ m = ws.length - k ∧ w'.heap[g8]? = some (.cells (bs (allG k)) 99 (0, 0)) ∧ w'.heap[g4]? = some (.cells (bs g) 99 (0, 0)) ∧ Bel w w') (ws.length) ⟨0, _, has rfl (has rfl (has rfl (has rfl (has rfl (has rfl (has rfl rfl)))))), Nat.zero_le _, rfl, K8a, K4b, hB8⟩ ?_
      rintro m _ wl ⟨k, τ, rfl, hk, rfl, K8l, K4l, hBl⟩
      refine Sq (Rg ?_)
      refine g_lss rfl rfl (h1 := fun c32 => ?_) (h2 := fun c32 => ?_)
      · skip
        refine Nl (Tn (Sq (Ct rfl (Sk (Tn (Sq (Bk (Sq (Rg ?_)))))))))
        have hkl : k < ws.length := by omega
        refine Mv (As (Nl (Tn (Rg (Mv ?_)))))
        refine g_indexA Try.underlying99 info4 rfl rfl (by omega) (by omega) (add0 _ _) (h := ?_)
        refine g_store1 rfl rfl info4 K8l (by rw [bs_size, allG_len]; omega) (h := fun w9 P9 => ?_)
        refine Nl (Bn (Tn (Rg ?_)))
        refine g_add rfl rfl (by omega) (h := ?_)
        refine Mv (Nl ?_)
        exact round_end (ws.length - (k + 1)) (by omega) ⟨k + 1, _, has rfl (has rfl (has rfl (has rfl (has rfl (has rfl (has rfl rfl)))))), hkl, rfl, by rw [allG_succ, ← bs_set]; exact P9.at_, kP K4l P9 h48, hBl.put P9 hg8⟩
      · skip
        refine Nl (Tn (Sq (Cf rfl (Xi (Tx (Tx (Bs (Tn (Sq (Sq (Rg ?_)))))))))))
        obtain rfl : k = ws.length := by omega
        refine g_loadA rfl Try.underlying99 (info99b hgl) (l := (bs g).toList) (cellsAt K4l) (h := ?_)
        refine g_loadA rfl Try.underlying99 (info99b (allG_len _)) (l := (bs (allG ws.length)).toList) (cellsAt K8l) (h := ?_)
        obtain ⟨lb, hlb⟩ := key99 (allG ws.length) (allG_len _)
        refine g_eqlA (m := 5) (by decide) (by kernel_rfl) (by kernel_rfl) wide99 (by kernel_rfl) hkl hlb rfl rfl (h1 := fun c39 => ?_) (h2 := fun c39 => ?_)
        · skip
          refine Nl (Tn (Ct rfl (Sq (Rg (As (Nl (Tn (Rt (Tr ?_)))))))))
          have hge : g = allG ws.length := bs_inj c39
          exact retM0 rfl ⟨_, [], rfl, Lst.nil _, best_all hB0 (fun k hk => by rw [hge, allG_get _ _ hn]; simpa using hk), (Ch.of_below hBl).mono (fun _ _ h => h.elim), hmi.bel hBl⟩
        · skip
          obtain ⟨f0, hf0, hgf0⟩ : ∃ f, f < ws.length ∧ g.getD f false = false := by
            by_cases h : ∃ f, f < ws.length ∧ g.getD f false = false
            · exact h
            · refine absurd (congrArg bs (ext10 hgl (allG_len _) fun k => ?_)) c39
              rw [allG_get _ _ hn]
              by_cases hk : k < ws.length
              · cases hq : g.getD k false with
                | true => simp [hk]
                | false => exact absurd ⟨k, hk, hq⟩ h
              · rw [hgn k (by omega)]; simp [hk]
          refine Nl (Tn (Cf rfl (Sk (Tn (Sq (Rg (As (Nl (Tn (Sq (Bk ?_)))))))))))
          refine GC_loop (fun m σ w' => ∃ (f : Nat) (τ : Nat → Value), σ = upd (upd (upd (upd (upd τ 1 (.pointer (some ⟨gmet, 0, none⟩))) 2 (.pointer (some ⟨gpile, 0, none⟩))) 3 (.pointer (some ⟨gself, 0, none⟩))) 4 (.pointer (some ⟨g4, 0, none⟩))) 10 (.int .i64 f) ∧ f ≤ f0 ∧ m = f0 - f ∧ (∀ j, j < f → g.getD j false = true) ∧ w' = wl) (f0) ⟨0, _, has rfl (has rfl (has rfl (has rfl (has rfl rfl)))), Nat.zero_le _, rfl, fun j hj => absurd hj (Nat.not_lt_zero _), rfl⟩ ?_
          rintro m _ _ ⟨f, τ, rfl, hff, rfl, hlow, rfl⟩
          refine Sq (Sq (Rg (Mv ?_)))
          refine g_indexA Try.underlying99 info4 rfl rfl (by omega) (by omega) (add0 _ _) (h := ?_)
          refine L1 Try.underlying4 (cellAt K4l (bs_get (by rw [hgl]; omega))) rfl (Nl (Tn ?_))
          cases q42 : g.getD (f : Int).toNat false with
          | true =>
            refine Ct rfl (Sk (Tn (Bk (Rg (Mv ?_)))))
            refine g_add rfl rfl (by omega) (h := ?_)
            refine As (Nl (Bn ?_))
            have hne : f ≠ f0 := fun e => by subst e; rw [Int.toNat_natCast, hgf0] at q42; cases q42
            exact round_end (f0 - (f + 1)) (by omega) ⟨f + 1, _, has rfl (has rfl (has rfl (has rfl (has rfl rfl)))), by omega, rfl, fun j hj => by
              by_cases e : j = f
              · subst e; exact q42
              · exact hlow j (by omega), rfl⟩
          | false =>
            have hf : f < ws.length := by omega
            have hgf : g.getD f false = false := q42
            refine Cf rfl (Xi (Tx (Tx (Bs (Tn (Sq (Rg ?_)))))))
            refine g_loadA rfl Try.underlying99 (info99b hgl) (l := (bs g).toList) (cellsAt K4l) (h := ?_)
            refine g_alloc (z := .agg (bs (List.replicate 10 false))) (by kernel_rfl) (h := fun g11 w11 N11 => ?_)
            have K11 := N11.at_
            refine g_storeA (cells := bs g) rfl rfl (info99c hgl) K11 (by rw [bs_size, hgl]; rfl) (bs_one _) (h := fun w15 P15 => ?_)
            have K11a : w15.heap[g11]? = some (.cells (bs g) 99 (0, 0)) := P15.at_
            have hg11 : w.heap.size ≤ g11 := Nat.le_trans hBl.size N11.ge
            have hB15 := (hBl.new N11).put P15 hg11
            have h411 : g4 ≠ g11 := N11.ne K4l
            have K4c := kP (kN K4l N11) P15 h411
            refine Nl (Tn (Sq (Rg (Mv ?_))))
            refine g_indexA Try.underlying99 info4 rfl rfl (by omega) (by omega) (add0 _ _) (h := ?_)
            refine g_store1 rfl rfl info4 K11a (by rw [bs_size, hgl]; omega) (h := fun w16 P16 => ?_)
            have K11b : w16.heap[g11]? = some (.cells (bs (g.set f true)) 99 (0, 0)) := by rw [← bs_set]; exact P16.at_
            have hB16 := hB15.put P16 hg11
            have K4d := kP K4c P16 h411
            have hget : ∀ k, g.getD k false = true → (g.set f true).getD k false = true := fun k hk => by rw [getD_set _ _ _ _ (by omega)]; split; rfl; exact hk
            refine Nl (Tn (Sq (Rg (L1 Try.underlying107 (cellAt (hse.kp (Kp.of hB16)).KSf rfl) rfl ?_))))
            refine g_loadA rfl Try.underlying99 (info99b (by rw [List.length_set]; exact hgl)) (l := (bs (g.set f true)).toList) (cellsAt K11b) (h := ?_)
            refine g_callv he68 rfl rfl (ih (g.set f true) w16 (by have := left_lt hget hf hgf (by rw [getD_set _ _ _ _ (by omega), if_pos rfl]); omega) (by rw [List.length_set]; exact hgl) (fun k hk => by rw [getD_set _ _ _ _ (by omega), if_neg (by omega)]; exact hgn k hk) (hse.kp (Kp.of hB16)) (hmi.bel hB16) (Kd.C_below hC hB16)) (h := ?_)
            rintro e w50 ⟨v50, ls0, rfl, hL0, hbest0, hch50, hmi50⟩
            refine ⟨_, rfl, ?_⟩
            have hCh50 : Ch (fun k => k = gM) w w50 := ((Ch.of_below hB16).mono (fun _ _ h => h.elim)).more hch50
            obtain ⟨es0, clock0, hM0⟩ := hM0
            have hKp50 : Kp w16 w50 := Kp.of_map hch50 (kB hM0 hB16)
            have K4e := hKp50.2 _ _ _ _ (by decide) K4d
            have hse50 := (hse.kp (Kp.of hB16)).kp hKp50
            refine g_alloc (z := .slice none 0 0) (by kernel_rfl) (h := fun g12 w12 N12 => ?_)
            have K12 := N12.at_
            have K12a : w12.heap[g12]? = some (.cells #[.slice none 0 0] 25 (0, 0)) := K12
            refine g_store1 rfl rfl info25 K12a (by decide) (h1 := hL0.one) (h := fun w17 P17 => ?_)
            have hg12 : w.heap.size ≤ g12 := Nat.le_trans hCh50.size N12.ge
            have hB17 : Bel w50 w17 := (Bel.of_new N12).put P17 N12.ge
            have KB17 : w17.heap[g12]? = some (.cells #[v50] 25 (0, 0)) := P17.at_
            refine Nl (Tn (Sq (Sq (Rg ?_))))
            refine g_loadA rfl Try.underlying101 info101 (l := [.slice A ws.length c, .int .i64 girth, .int .i64 play]) (cellsAt (hse50.kp (Kp.of hB17)).KPl) (h := ?_)
            refine Mv ?_
            refine g_loadA rfl Try.underlying99 (info99b hgl) (l := (bs g).toList) (cellsAt (kB K4e hB17)) (h := ?_)
            refine g_call he69 rfl (iterMake_c A c ws.length girth play g f _) (h := ?_)
            rintro e w54 ⟨gP, gG, gF, rfl, hb54, KP, KG, KF⟩
            refine ⟨_, rfl, ?_⟩
            have hB54 := hB17.bel hb54
            refine Nl (Tn (Bk ?_))
            refine GC_range (first := []) (captured := [.pointer (some ⟨gP, 0, none⟩), .pointer (some ⟨gG, 0, none⟩), .pointer (some ⟨gF, 0, none⟩)]) he93 rfl (fun rc wa wb b Nb Nlp hst hpe hpa hasg hbo hSt => ?_)
            have hBb : Bel w54 wb := (Bel.of_new Nb).new Nlp
            have hB50b : Bel w50 wb := hB54.bel hBb
            have hbge : w.heap.size ≤ b := Nat.le_trans hCh50.size (Nat.le_trans hB54.size Nb.ge)
            have hpk0 : Pk ws.length (isBarrelL ws girth play) g ls0 := pk_mono hbest0.1 hget
            have hJ0 : SJ ws.length (isBarrelL ws girth play) g gM g4 g12 b rc ls0.length w [] wb := ⟨hCh50.bel hB50b, hmi50.bel hB50b, kB K4e hB50b, ⟨v50, ls0, kB (kB KB17 hb54) hBb, hL0.kp (Kp.of hB50b), hpk0, Nat.le_refl _, fun y hy => by simp at hy⟩, Nlp.at_, kN Nb.at_ Nlp⟩
            refine Calls.mono (iter_c (J := SJ ws.length (isBarrelL ws girth play) g gM g4 g12 b rc ls0.length w) (A := A) (c := c) (ws := ws) (girth := girth) (play := play) (g := g) (l := b + 1) (fun d W W' h hb => h.bel hb) (fun d W h => scalarC_map hC hM0 h.1) (fun d y v W hJd hv hr hBy => ?_) hb hn hgi hpl hgl gP gG gF f hf hgf wb hJ0 (kB KP hBb) (kB KG hBb) (kB KF hBb)) ?_
            · skip
              obtain ⟨hCh, hMI, K4w, ⟨vb, lsb, KB, hLb, hPb, hlb, hdb⟩, hlw, hbw⟩ := hJd
              have hypos : 0 < y.length := List.length_pos_iff.2 (hB0 y hBy)
              obtain ⟨gy, cy, rfl, _, _, _⟩ := Kd.R_form hv hypos
              have hyl : y.length ≤ 100 := by
                obtain ⟨hw1, hw2⟩ := hr
                have h2 : ∀ (m : Nat), m < y.length → (m : Int) ≤ rd y m := fun m => by
                  induction m with
                  | zero => intro h; exact (hw2 _ (rd_mem (xs := y) (i := ((0 : Nat) : Int)) (by omega) (by omega))).1.1
                  | succ m ih =>
                    intro h
                    have h2 := ih (by omega)
                    have h3 := List.pairwise_iff_getElem.1 hw1 m (m + 1) (by omega) h (by omega)
                    rw [rd_nat y m (by omega)] at h2
                    rw [rd_nat y (m + 1) h]
                    omega
                have h3 := h2 (y.length - 1) (by omega)
                have h4 := (hw2 _ (rd_mem (xs := y) (i := ((y.length - 1 : Nat) : Int)) (by omega) (by omega))).1
                omega
              refine Yc_of hlw hpa rfl hSt ?_
              rw [hasg, hbo]
              refine Rg (As (Nl ?_))
              refine fun a13 ha13 => ⟨rc, hlw, hst, _, ha13, fun w2 P2 => ?_⟩
              have hC2 : Ch (fun k => k = b + 1) W w2 := P2.ch
              have hKl : ∀ {W'}, Ch (fun k => k = b + 1) W W' → Kp W W' := fun h => Kp.of_ch h (fun k cs t f hk _ e => ne_loop hk hlw e)
              refine Bk (Sq (Rg ?_))
              refine g_loadA rfl Try.underlying99 (info99b hgl) (l := (bs g).toList) (cellsAt ((hKl hC2).2 _ _ _ _ (by decide) K4w)) (h := ?_)
              refine g_alloc (z := .agg (bs (List.replicate 10 false))) (by kernel_rfl) (h := fun g14 w14 N14 => ?_)
              have K14 := N14.at_
              refine g_storeA (cells := bs g) rfl rfl (info99c hgl) K14 (by rw [bs_size, hgl]; rfl) (bs_one _) (h := fun w20 P20 => ?_)
              have K14a : w20.heap[g14]? = some (.cells (bs g) 99 (0, 0)) := P20.at_
              have hB20 : Bel w2 w20 := (Bel.of_new N14).put P20 N14.ge
              have hg14 : w2.heap.size ≤ g14 := N14.ge
              refine Nl (Tn (Sq (Sq (Rg (Mv (Ln Try.underlying22 rfl (Mv (Nl (Tn (Bk ?_))))))))))
              refine GC_loop (fun m σ w' => ∃ (j : Nat) (τ : Nat → Value), σ = upd (upd (upd (upd (upd (upd (upd τ 3 (.pointer (some ⟨gself, 0, none⟩))) 12 (.pointer (some ⟨g12, 0, none⟩))) 13 (.slice (some ⟨gy, 0, none⟩) y.length cy)) 14 (.pointer (some ⟨g14, 0, none⟩))) 57 (.slice (some ⟨gy, 0, none⟩) y.length cy)) 58 (.int .i64 y.length)) 59 (.int .i64 j) ∧ j ≤ y.length ∧ m = y.length - j ∧ w'.heap[g14]? = some (.cells (bs (markG g (y.take j))) 99 (0, 0)) ∧ Bel w2 w') (y.length) ⟨0, _, has rfl (has rfl (has rfl (has rfl (has rfl (has rfl (has rfl rfl)))))), Nat.zero_le _, rfl, K14a, hB20⟩ ?_
              rintro m _ wj ⟨j, τj, rfl, hj, rfl, K14j, hBj⟩
              have hCj : Ch (fun k => k = b + 1) W wj := hC2.bel hBj
              refine Sq (Rg ?_)
              refine g_lss rfl rfl (h1 := fun c60 => ?_) (h2 := fun c60 => ?_)
              · skip
                refine Nl (Tn (Sq (Ct rfl (Sk (Tn (Sq (Bk (Sq (Rg ?_)))))))))
                have hjl : j < y.length := by omega
                have h62 := (Kd.R_celln (0 : Int) (hv.kp (hKl hCj)) (j : Int) (by omega) (by omega)).1
                have hyj := (hr.2 _ (rd_mem (xs := y) (i := (j : Int)) (by omega) (by omega))).1
                refine g_indexO Try.underlying22 info3 rfl rfl  (by omega) (by omega) (Nat.mul_one _) (h := ?_)
                refine L1 Try.underlying3 (h62) rfl (As (Nl (Tn (Rg (Mv ?_)))))
                change GL _ _ _ _ _ _ _ (upd _ 63 (.int .i64 (rd y j))) _
                refine g_indexA Try.underlying99 info4 rfl rfl (by exact hyj.1) (by have := hyj.2; show rd y j < 10; omega) (add0 _ _) (h := ?_)
                refine g_store1 rfl rfl info4 K14j (by rw [bs_size, markG_len, hgl]; show (rd y j).toNat < 10; omega) (h := fun w24 P24 => ?_)
                refine Nl (Bn (Tn (Rg ?_)))
                refine g_add rfl rfl (by omega) (h := ?_)
                refine Mv (Nl ?_)
                exact round_end (y.length - (j + 1)) (by omega) ⟨j + 1, _, has rfl (has rfl (has rfl (has rfl (has rfl (has rfl (has rfl rfl)))))), hjl, rfl, by
                  rw [List.take_succ_eq_append_getElem hjl, markG_snoc, ← bs_set, ← rd_nat y j hjl]; exact P24.at_, hBj.put P24 hg14⟩
              · skip
                refine Nl (Tn (Sq (Cf rfl (Xi (Tx (Tx (Bs (Tn (Sq (Rg ?_))))))))))
                obtain rfl : j = y.length := by omega
                rw [List.take_length] at K14j
                have hseW := (hse50.kp (Kp.of hB50b))
                have hKj := hKl hCj
                have hM2 : ∃ es clock, W.heap[gM]? = some (.map es clock) := by obtain ⟨es, clock, h, _⟩ := hMI; exact ⟨es, clock, h⟩
                obtain ⟨esW, clockW, hMW⟩ := hM2
                have hgMb : gM ≠ b + 1 := fun e => by rw [e, hlw] at hMW; cases hMW
                have hMj : wj.heap[gM]? = some (.map esW clockW) := hCj.at_ hMW hgMb
                have hmij : MI ws.length (isBarrelL ws girth play) gM wj := hMI.step hKj (fun es clock h => hCj.at_ h hgMb)
                have hseJ : SE A c ws.length girth play gmet gpile gself gM wj := by
                  have h1 : Kp w W := Kp.of_map hCh hM0
                  exact (hse.kp h1).kp hKj
                have hyne : ∃ k ∈ y, g.getD k.toNat false = false ∧ k.toNat < ws.length := ⟨_, rd_mem (xs := y) (i := ((0 : Nat) : Int)) (by omega) (by omega), (hr.2 _ (rd_mem (xs := y) (i := ((0 : Nat) : Int)) (by omega) (by omega))).2, by have := (hr.2 _ (rd_mem (xs := y) (i := ((0 : Nat) : Int)) (by omega) (by omega))).1; omega⟩
                have hleft : left ws.length (markG g y) < left ws.length g := by
                  obtain ⟨k, hk, h1, h2⟩ := hyne
                  exact left_lt (fun j hj => (markG_get _ _ _ (hr.rng (by omega))).2 (.inl hj)) h2 h1 ((markG_get _ _ _ (hr.rng (by omega))).2 (.inr (by rw [Int.toNat_of_nonneg (hr.2 k hk).1.1]; exact hk)))
                have hgn2 : ∀ k, ws.length ≤ k → (markG g y).getD k false = false := fun k hk => (markG_false (hr.rng (by omega))).2 ⟨hgn k hk, fun h => by have := (hr.2 _ h).1; omega⟩
                refine L1 Try.underlying107 (cellAt hseJ.KSf rfl) rfl ?_
                refine g_loadA rfl Try.underlying99 (info99b (by rw [markG_len]; exact hgl)) (l := (bs (markG g y)).toList) (cellsAt K14j) (h := ?_)
                refine g_callv he68 rfl rfl (ih (markG g y) wj (by omega) (by rw [markG_len]; exact hgl) hgn2 hseJ hmij (scalarC_map hC hM0 (by
                  refine hCh.trans hCj (fun _ _ h => h) (fun k hk e => ?_)
                  omega))) (h := ?_)
                rintro e w68 ⟨v68, m68, rfl, hL68, hbest68, hch68, hmi68⟩
                refine ⟨_, rfl, ?_⟩
                obtain ⟨A68, c68, rfl, hle68, vs68, hvl68, hC68, hrt68⟩ := hL68.form
                obtain ⟨Ab, cb, rfl, hleb, _⟩ := hLb.form
                have hK68 : Kp wj w68 := Kp.of_map hch68 hMj
                have hKW : Kp W w68 := hKj.trans hK68
                have hCW : Ch (fun k => k = gM) w w68 := (hCh.trans hCj (fun _ _ h => h) (fun k hk e => by omega)).more hch68
                have KB68 : w68.heap[g12]? = some (.cells #[.slice Ab lsb.length cb] 25 (0, 0)) := hch68.at_ (hCj.at_ KB (ne_loop KB hlw)) (ne_map (hCj.at_ KB (ne_loop KB hlw)) hMj)
                have hl2 : w2.heap[b + 1]? = some (.loop { rc with state := .busy }) := P2.at_
                have hl68 : w68.heap[b + 1]? = some (.loop { rc with state := .busy }) := hch68.at_ (kB hl2 hBj) (fun e => hgMb e.symm)
                have hbb : b ≠ b + 1 := Nat.ne_of_lt (Nat.lt_succ_self b)
                have hm68 : m68.length ≤ 10 := Nat.le_trans (pk_len hB0 _ _ (by rw [markG_len]; omega) hbest68.1) (Nat.le_trans (left_le _ _) hn)
                refine As (Nl (Tn (Sq (Rg (Mv (Ln Try.underlying25 rfl ?_))))))
                refine g_add rfl rfl (by omega) (h := ?_)
                refine L1 Try.underlying25 (cellAt KB68 rfl) rfl (Ln Try.underlying25 rfl ?_)
                refine g_gtr rfl rfl (h1 := fun c74 => ?_) (h2 := fun c74 => ?_)
                · skip
                  have hv1 : (Value.slice (some ⟨gy, 0, none⟩) y.length cy).oneCell' = true := rfl
                  refine Nl (Tn (Ct rfl (Rg (Mv ?_))))
                  refine g_lit1 bs25 rfl rfl (h := fun g76 w76 N76 => ?_)
                  have HR76 : kVal.R 22 w76 0 (fun _ => True) (.slice (some ⟨g76, 0, none⟩) 1 1) [(⟨.slice (some ⟨gy, 0, none⟩) y.length cy, hv1⟩ : Val1)] := Kd.R_of_own ⟨rfl, .inr ⟨g76, 1, _, rfl, Nat.zero_le _, N76.at_, Nat.le_refl _, by decide, rfl, rfl⟩⟩ (fun _ _ => trivial)
                  refine Mv ?_
                  refine g_appendRows kVal Try.underlying25 zi22 rfl (by decide) (by decide) (okp := fun _ => False) HR76 (Kd.C_below hC68 (Bel.of_new N76)) (fun x cs h => h) (fun _ h => h.elim) (fun _ _ => trivial) (Nat.zero_le _) (by simp only [List.length_singleton]; omega) rfl rfl (h := fun v78 w78 HR78 hg78 hat78 => ?_)
                  have hB78 : Bel w68 w78 := (Bel.of_new N76).grown hg78 (fun q hq => by
                    have : q = g76 := by simpa [Value.ownBlock] using hq.symm
                    have := N76.ge; omega)
                  have hone78 : v78.oneCell' = true := by obtain ⟨A78, c78, e, _⟩ := Kd.R_reads HR78; rw [e]; rfl
                  refine g_store1 rfl rfl info25 (kB KB68 hB78) (Nat.zero_lt_one) (h1 := hone78) (h := fun w28 P28 => ?_)
                  have hg12b : g12 ≠ b + 1 := ne_loop KB hlw
                  have hK28 : Kp w68 w28 := (Kp.of hB78).trans (Kp.put P28 (kB KB68 hB78) (fun cs t f e => by injection e with _ e _; exact e.symm))
                  have hgW : w.heap.size ≤ g12 := hg12
                  have hLnew : Lst w28 v78 (y :: m68) := ⟨⟨.slice (some ⟨gy, 0, none⟩) y.length cy, hv1⟩ :: vs68, by simp [hvl68], R_kp (by decide) HR78 (Kp.put P28 (kB KB68 hB78) (fun cs t f e => by injection e with _ e _; exact e.symm)), fun j x l hx hl => by
                    cases j with
                    | zero => injection hx with hx; injection hl with hl; subst hx; subst hl; exact (hv.kp hKW).kp hK28
                    | succ j => exact (hrt68 j x l (by simpa using hx) (by simpa using hl)).kp hK28⟩
                  have h412 : g4 ≠ g12 := fun e => by rw [e, KB] at K4w; injection K4w with K4w; injection K4w with _ K4w _; exact absurd K4w (by decide)
                  have hl28 : w28.heap[b + 1]? = some (.loop { rc with state := .busy }) := kP (kB hl68 hB78) P28 hg12b.symm
                  refine Nl (Bn ?_)
                  refine round_on hl28 (fun w9 P9 => ?_)
                  rw [rc_back hst hpe] at P9
                  have hK9 : Kp w28 w9 := Kp.put P9 hl28 (fun cs t f e => by cases e)
                  have hCA : Ch (fun k => k = gM) w w9 := (((hCW.bel hB78).own P28 hgW).own P9 (by omega))
                  have hMI9 : MI ws.length (isBarrelL ws girth play) gM w9 := hmi68.step ((hK28.trans hK9)) (fun es clock h => kP (kP (kB h hB78) P28 (fun e => by rw [← e] at KB68; rw [h] at KB68; cases KB68)) P9 (fun e => by rw [e, hl68] at h; cases h))
                  refine ⟨rfl, ⟨hCA, hMI9, kP (kP (kB (hch68.at_ (hCj.at_ K4w (ne_loop K4w hlw)) (ne_map (hCj.at_ K4w (ne_loop K4w hlw)) hMj)) hB78) P28 h412) P9 (ne_loop K4w hlw), ⟨v78, _, kP P28.at_ P9 hg12b, hLnew.kp hK9, pk_cons (by omega) hr hBy hbest68.1, by simp only [List.length_cons]; omega, fun y' hy' => ?_⟩, P9.at_, kP (kP (kB (hch68.at_ (hCj.at_ hbw hbb) (fun e => by rw [e, hMW] at hbw; cases hbw)) hB78) P28 (fun e => by rw [e, KB] at hbw; cases hbw)) P9 hbb⟩, ?_⟩
                  · rcases List.mem_append.1 hy' with h | h
                    · obtain ⟨m, h1, h2⟩ := hdb y' h
                      exact ⟨m, h1, by simp only [List.length_cons]; omega⟩
                    · rw [List.mem_singleton.1 h]
                      exact ⟨m68, hbest68, Nat.le_refl _⟩
                  · exact (hKW.trans hK28).trans hK9
                · skip
                  refine Nl (Tn (Cf rfl (Sk (Bn ?_))))
                  refine round_on hl68 (fun w9 P9 => ?_)
                  rw [rc_back hst hpe] at P9
                  have hK9 : Kp w68 w9 := Kp.put P9 hl68 (fun cs t f e => by cases e)
                  have hCA : Ch (fun k => k = gM) w w9 := hCW.own P9 (by omega)
                  have hMI9 : MI ws.length (isBarrelL ws girth play) gM w9 := hmi68.step hK9 (fun es clock h => kP h P9 (fun e => by rw [e, hl68] at h; cases h))
                  refine ⟨rfl, ⟨hCA, hMI9, kP (hch68.at_ (hCj.at_ K4w (ne_loop K4w hlw)) (ne_map (hCj.at_ K4w (ne_loop K4w hlw)) hMj)) P9 (ne_loop K4w hlw), ⟨_, lsb, kP KB68 P9 (ne_loop KB hlw), hLb.kp (hKW.trans hK9), hPb, hlb, fun y' hy' => ?_⟩, P9.at_, kP (hch68.at_ (hCj.at_ hbw hbb) (fun e => by rw [e, hMW] at hbw; cases hbw)) P9 hbb⟩, hKW.trans hK9⟩
                  rcases List.mem_append.1 hy' with h | h
                  · exact hdb y' h
                  · rw [List.mem_singleton.1 h]
                    exact ⟨m68, hbest68, by omega⟩
            · skip
              rintro e W ⟨ys, rfl, hJW, hall⟩
              obtain ⟨hCh, hMI, K4w, ⟨vb, lsb, KB, hLb, hPb, hlb, hdb⟩, hlw, hbw⟩ := hJW
              refine ⟨_, rc, rfl, hlw, by rw [hst]; decide, hpe, fun w4 P4 => ?_⟩
              have hK4 : Kp W w4 := Kp.put P4 hlw (fun cs t f e => by cases e)
              have hKw : Kp w W := Kp.of_map hCh hM0
              have hC4 : Ch (fun k => k = gM) w w4 := hCh.own P4 (by omega)
              have hse4 := (hse.kp hKw).kp hK4
              have hmi4 : MI ws.length (isBarrelL ws girth play) gM w4 := hMI.step hK4 (fun es clock h => kP h P4 (fun e => by rw [e, hlw] at h; cases h))
              have K4z := hK4.2 _ _ _ _ (by decide) K4w
              have KBz := kP KB P4 (ne_loop KB hlw)
              have hLz := hLb.kp hK4
              have hbz := kP hbw P4 (Nat.ne_of_lt (Nat.lt_succ_self b))
              have hbest : Best ws.length (isBarrelL ws girth play) g lsb := best_step hB0 (by omega) hf hgf hlow hPb hbest0 hlb (fun ks hr hB => hdb _ (hall ks hr hB))
              obtain ⟨es4, clock4, hM4, hes4⟩ := hmi4
              have hkeys4 : ∀ x ∈ es4.toList, ∃ l, keyOf Try.prog 99 x.key = some l := fun x hx => by
                obtain ⟨g', ls, h1, h2, _⟩ := hes4 x hx
                rw [h1]; exact key99 g' h2
              refine Bn (Tn (Sq (Rg (L1 Try.underlying106 (cellAt hse4.KM1 rfl) rfl ?_))))
              refine g_loadA rfl Try.underlying99 (info99b hgl) (l := (bs g).toList) (cellsAt K4z) (h := ?_)
              refine L1 Try.underlying25 (cellAt KBz rfl) rfl ?_
              refine g_mapUpdate K99 Try.underlying106 hM4 hkeys4 hkl rfl rfl rfl (h := fun es5 clock5 w5 P5 hes5 => ?_)
              have hK5 : Kp w4 w5 := Kp.put P5 hM4 (fun cs t f e => by cases e)
              have KB5 := kP KBz P5 (ne_map KBz hM4)
              have hb5 := kP hbz P5 (fun e => by rw [e, hM4] at hbz; cases hbz)
              refine Nl (Tn (Sq (Rg (L1 Try.underlying25 (cellAt KB5 rfl) rfl (As (Nl (Tn (Rt ?_))))))))
              exact retM1 rfl hb5 (fun w6 P6 => by
                have hK6 : Kp w5 w6 := Kp.put P6 hb5 (fun cs t f e => by cases e)
                have hbM : gM ≠ b := fun e => by rw [← e, hM4] at hbz; cases hbz
                refine ⟨vb, lsb, rfl, (hLz.kp hK5).kp hK6, hbest, (hC4.more P5.ch).own P6 hbge, es5, clock5, kP P5.at_ P6 hbM, fun x hx => ?_⟩
                rcases hes5 x hx with h | ⟨h1, h2⟩
                · obtain ⟨g', ls, h1, h2, h3, h4⟩ := hes4 x h
                  exact ⟨g', ls, h1, h2, (h3.kp hK5).kp hK6, h4⟩
                · exact ⟨g, lsb, h1, hgl, by rw [h2]; exact (hLz.kp hK5).kp hK6, hbest⟩)
end Go.Proofs.B

/- barrel: Set. -/
set_option linter.unusedVariables false
set_option linter.unusedSimpArgs false
set_option maxRecDepth 10000
namespace Go.Proofs.B
open Go Go.RowKit Go.Proofs Go.Proofs.G Go.Proofs.F Go.Proofs.YtpfoleggapngoaaW.PrintWords
def g0 : List Bool := List.replicate 10 false
theorem g0_get (k : Nat) : g0.getD k false = false := by
  show (allG 0).getD k false = false
  rw [allG_get 0 k (by omega)]; simp
/-- What Set answers. -/
def SetRes (ws : List Int) (girth play : Int) (e : Ending) (w' : World) : Prop :=
  (¬ PileOk ws girth play ∧ e = .returned (.tuple #[.slice none 0 0, .int .i64 60])) ∨
  (PileOk ws girth play ∧ Best ws.length (isBarrelL ws girth play) g0 [] ∧ e = .returned (.tuple #[.slice none 0 0, .int .i64 4])) ∨
  (PileOk ws girth play ∧ ∃ ls A', ls ≠ [] ∧ Best ws.length (isBarrelL ws girth play) g0 ls ∧ kRow.C w' A' ls.length ls ∧ e = .returned (.tuple #[.slice A' ls.length ls.length, .int .i64 0]))
theorem ret2i' (v : Value) {x y : Int} (h2 : x = y) : Ending.returned (.tuple #[v, .int .i64 x]) = .returned (.tuple #[v, .int .i64 y]) := by rw [h2]
set_option maxHeartbeats 2000000 in
theorem set_c (A : Option Addr) (c : Nat) (ws : List Int) (girth play : Int) (w : World) (hw : (Kd.int .i64).C w A ws.length ws) :
    Calls Try.prog 20 #[.agg #[.slice A ws.length c, .int .i64 girth, .int .i64 play]] w fun e w' => SetRes ws girth play e w' ∧ Bel w w' := by
  refine G_enter (l := [.agg #[.slice A ws.length c, .int .i64 girth, .int .i64 play]]) Try.func20 rfl rfl ?_
  refine Sq (Rg ?_)
  refine g_box rfl (h := fun g1 w1 N1 => ?_)
  have K1 := N1.at_
  have hB1 := Bel.of_new N1
  have K1a : w1.heap[g1]? = some (.cells #[.slice A ws.length c, .int .i64 girth, .int .i64 play] 24 (0, 0)) := K1
  refine As (As (Nl (Tn (Sq (Sq (Rg ?_))))))
  refine g_loadA rfl Try.underlying24 info24 (l := [.slice A ws.length c, .int .i64 girth, .int .i64 play]) (cellsAt K1a) (h := ?_)
  refine g_call he18 rfl (checkPile_c A c ws girth play _ (Kd.C_below hw hB1)) (h := ?_)
  rintro e w10 ⟨rfl, hb10⟩
  refine ⟨_, rfl, ?_⟩
  have hB10 := hB1.bel hb10
  have K1b := kB K1a hb10
  refine As (Nl (Tn (Sq (Rg (Mv ?_)))))
  have hp : checkPile ws girth play = if PileOk ws girth play then 0 else 60 := rfl
  refine g_neq rfl rfl (h1 := fun c12 => ?_) (h2 := fun c12 => ?_)
  · skip
    refine Nl (Tn (Ct rfl (Sq (Rg (Mv (As (As (Nl (Tn (Rt (Tr ?_)))))))))))
    have hn : ¬ PileOk ws girth play := fun h => by rw [if_pos h] at hp; exact c12 hp
    rw [if_neg hn] at hp
    exact ret2 rfl ⟨.inl ⟨hn, ret2i' _ hp⟩, hB10⟩
  · skip
    have hok : PileOk ws girth play := by by_cases h : PileOk ws girth play; exact h; rw [if_neg h] at hp; rw [hp] at c12; exact absurd c12 (by decide)
    have hok' := hok
    obtain ⟨⟨hn1, hn2⟩, hg, hpl, hwide⟩ := hok'
    have hws : ∀ x ∈ ws, 0 ≤ x ∧ x ≤ 1000 := fun x hx => by have := List.all_eq_true.1 hwide x hx; simp [wideB] at this; omega
    refine Nl (Tn (Cf rfl (Sk (Tn (Sq (Rg ?_))))))
    refine g_loadA rfl Try.underlying24 info24 (l := [.slice A ws.length c, .int .i64 girth, .int .i64 play]) (cellsAt K1b) (h := ?_)
    refine g_bld (build101 _ _ _ _) rfl (h := ?_)
    refine g_alloc (z := .agg #[.slice none 0 0, .int .i64 0, .int .i64 0]) (by kernel_rfl) (h := fun g5 w5 N5 => ?_)
    have K5 := N5.at_
    refine g_storeA rfl rfl info101 K5 rfl (by simp [Value.oneCell']) (h := fun w5s P5 => ?_)
    have K5a : w5s.heap[g5]? = some (.cells #[.slice A ws.length c, .int .i64 girth, .int .i64 play] 101 (0, 0)) := P5.at_
    have hB5 := (hB10.new N5).put P5 (Nat.le_trans hB10.size N5.ge)
    refine Nl (Tn (Sq (Rg ?_)))
    refine g_makeMap (h := fun gM w16 N16 => ?_)
    have K5b := kN K5a N16
    have hB16 := hB5.new N16
    refine g_alloc (z := .map none) (by kernel_rfl) (h := fun g6 w6 N6 => ?_)
    have K6 := N6.at_
    have K6a : w6.heap[g6]? = some (.cells #[.map none] 106 (0, 0)) := K6
    refine g_store1 rfl rfl info106 K6a (by decide) (h := fun w6s P7 => ?_)
    have hB7 := (hB16.new N6).put P7 (Nat.le_trans hB16.size N6.ge)
    have K5c := kP (kN K5b N6) P7 (N6.ne K5b)
    have K6b : w6s.heap[g6]? = some (.cells #[.map (some gM)] 106 (0, 0)) := P7.at_
    have KM7 := kP (kN N16.at_ N6) P7 (N6.ne N16.at_)
    refine Nl (Tn (Sq (Rg ?_)))
    refine g_alloc (z := .nilFunc) (by kernel_rfl) (h := fun g7 w7 N7 => ?_)
    have K7 := N7.at_
    have K7a : w7.heap[g7]? = some (.cells #[.nilFunc] 107 (0, 0)) := K7
    refine Nl (Tn (Sq (Rg (Mf ?_))))
    refine g_store1 rfl rfl info107 K7a (by decide) (h := fun w8 P8 => ?_)
    have hB8 := (hB7.new N7).put P8 (Nat.le_trans hB7.size N7.ge)
    have hse : SE A c ws.length girth play g6 g5 g7 gM w8 := ⟨kP (kN K6b N7) P8 (N7.ne K6b), kP (kN K5c N7) P8 (N7.ne K5c), P8.at_⟩
    have KM8 := kP (kN KM7 N7) P8 (N7.ne KM7)
    have hgMw : w.heap.size ≤ gM := Nat.le_trans hB5.size N16.ge
    refine Nl (Tn (Sq (Rg (L1 Try.underlying107 (cellAt hse.KSf rfl) rfl ?_))))
    refine g_bld (build99 _) rfl (h := ?_)
    refine g_callv he68 rfl rfl (setOn_c A c ws girth play hws (by omega) (by omega) (by omega) g6 g5 g7 gM (left ws.length g0 + 1) g0 w8 (Nat.lt_succ_self _) rfl (fun k _ => g0_get k) hse ⟨_, _, KM8, fun x hx => by simp at hx⟩ (Kd.C_below hw hB8)) (h := ?_)
    rintro e w20 ⟨v20, ls, rfl, hL20, hbest, hch20, _⟩
    refine ⟨_, rfl, ?_⟩
    have hB20 : Bel w w20 := hch20.step hB8 hB8.size (fun i hi h => by omega)
    obtain ⟨A20, c20, rfl, hle20, hC20⟩ := hL20.C
    refine As (Nl (Tn (Sq (Sq (Rg (Mv (Ln Try.underlying25 rfl ?_)))))))
    refine g_eql rfl rfl (h1 := fun c23 => ?_) (h2 := fun c23 => ?_)
    · skip
      refine Nl (Tn (Ct rfl (Sq (Rg (As (As (Nl (Tn (Rt (Tr ?_))))))))))
      have hl0 : ls = [] := List.length_eq_zero_iff.1 (by omega)
      subst hl0
      exact ret2 rfl ⟨.inr (.inl ⟨hok, hbest, rfl⟩), hB20⟩
    · skip
      refine Nl (Tn (Cf rfl (Sk (Tn (Sq (Rg (Mv (Mv (Ln Try.underlying25 rfl (Mv (Ln Try.underlying25 rfl ?_)))))))))))
      refine g_v (r_slice3 Try.underlying25 inf22 rfl rfl rfl rfl rfl (Nat.le_refl _) hle20) (h := ?_)
      refine As (As (Nl (Tn (Rt ?_))))
      exact ret2 rfl ⟨.inr (.inr ⟨hok, ls, A20, fun h => by subst h; exact c23 rfl, hbest, hC20, rfl⟩), hB20⟩
end Go.Proofs.B
