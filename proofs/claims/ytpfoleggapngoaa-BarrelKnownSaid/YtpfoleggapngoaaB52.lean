/- barrel: rows of rows for BarrelKnown, and their literals. -/
import Derived.Test.YtpfoleggapngoaaB51
set_option linter.unusedVariables false
set_option linter.unusedSimpArgs false
set_option maxRecDepth 10000
namespace Go.Proofs.B
open Go Go.RowKit Go.Proofs Go.Proofs.G Go.Proofs.F Go.Proofs.T Go.Proofs.YtpfoleggapngoaaW.PrintWords
theorem build24_0 (w : World) : (Instr.build 24 #[]).run Try.prog w = .ok (.agg #[.slice none 0 0, .int .i64 0, .int .i64 0]) w := by kernel_rfl
theorem build49_0 (w : World) : (Instr.build 49 #[]).run Try.prog w = .ok (.agg #[.int .i64 0, .slice none 0 0]) w := by kernel_rfl
theorem bs92_6 (w : World) (A1 A2 A3 A4 A5 : Option Addr) : (Instr.buildSlice 92 6 #[(0, .agg #[.slice none 0 0, .int .i64 0, .int .i64 0]), (1, .agg #[.slice A1 7 7, .int .i64 100, .int .i64 10]), (2, .agg #[.slice A2 7 7, .int .i64 100, .int .i64 10]), (3, .agg #[.slice A3 7 7, .int .i64 100, .int .i64 10]), (4, .agg #[.slice A4 7 7, .int .i64 100, .int .i64 10]), (5, .agg #[.slice A5 7 7, .int .i64 100, .int .i64 10])]).run Try.prog w = .ok (.slice (some ⟨w.heap.size, 0, none⟩) 6 6) (w.alloc (.cells #[.slice none 0 0, .int .i64 0, .int .i64 0, .slice A1 7 7, .int .i64 100, .int .i64 10, .slice A2 7 7, .int .i64 100, .int .i64 10, .slice A3 7 7, .int .i64 100, .int .i64 10, .slice A4 7 7, .int .i64 100, .int .i64 10, .slice A5 7 7, .int .i64 100, .int .i64 10] 24)) := by kernel_rfl
theorem bs25_1 (w : World) (A : Option Addr) (n c : Nat) : (Instr.buildSlice 25 1 #[(0, .slice A n c)]).run Try.prog w = .ok (.slice (some ⟨w.heap.size, 0, none⟩) 1 1) (w.alloc (.cells #[.slice A n c] 22)) := by kernel_rfl
theorem bs93_6 (w : World) (A0 A1 A2 A3 A4 A5 : Option Addr) (n0 c0 n1 c1 n2 c2 n3 c3 n4 c4 n5 c5 : Nat) : (Instr.buildSlice 93 6 #[(0, .slice A0 n0 c0), (1, .slice A1 n1 c1), (2, .slice A2 n2 c2), (3, .slice A3 n3 c3), (4, .slice A4 n4 c4), (5, .slice A5 n5 c5)]).run Try.prog w = .ok (.slice (some ⟨w.heap.size, 0, none⟩) 6 6) (w.alloc (.cells #[.slice A0 n0 c0, .slice A1 n1 c1, .slice A2 n2 c2, .slice A3 n3 c3, .slice A4 n4 c4, .slice A5 n5 c5] 25)) := by kernel_rfl
theorem bs95_6 (w : World) (A0 A1 A2 A3 A4 A5 : Option Addr) (n0 c0 n1 c1 n2 c2 n3 c3 n4 c4 n5 c5 : Nat) : (Instr.buildSlice 95 6 #[(0, .slice A0 n0 c0), (1, .slice A1 n1 c1), (2, .slice A2 n2 c2), (3, .slice A3 n3 c3), (4, .slice A4 n4 c4), (5, .slice A5 n5 c5)]).run Try.prog w = .ok (.slice (some ⟨w.heap.size, 0, none⟩) 6 6) (w.alloc (.cells #[.slice A0 n0 c0, .slice A1 n1 c1, .slice A2 n2 c2, .slice A3 n3 c3, .slice A4 n4 c4, .slice A5 n5 c5] 35)) := by kernel_rfl
theorem bs97_5 (w : World) (A1 A2 A3 A4 : Option Addr) : (Instr.buildSlice 97 5 #[(0, .agg #[.int .i64 0, .slice none 0 0]), (1, .agg #[.int .i64 3, .slice A1 4 4]), (2, .agg #[.int .i64 3, .slice A2 4 4]), (3, .agg #[.int .i64 3, .slice A3 4 4]), (4, .agg #[.int .i64 3, .slice A4 4 4])]).run Try.prog w = .ok (.slice (some ⟨w.heap.size, 0, none⟩) 5 5) (w.alloc (.cells #[.int .i64 0, .slice none 0 0, .int .i64 3, .slice A1 4 4, .int .i64 3, .slice A2 4 4, .int .i64 3, .slice A3 4 4, .int .i64 3, .slice A4 4 4] 49)) := by kernel_rfl
theorem bs22_3 (w : World) (a b c : Int) : (Instr.buildSlice 22 3 #[(0, .int .i64 a), (1, .int .i64 b), (2, .int .i64 c)]).run Try.prog w = .ok (.slice (some ⟨w.heap.size, 0, none⟩) 3 3) (w.alloc (.cells #[.int .i64 a, .int .i64 b, .int .i64 c] 3)) := by kernel_rfl
theorem litC1 {w : World} {x : List Int} {A : Option Addr} {c g : Nat} {t : TypeId} {f : Nat × Nat} (h : (Kd.int .i64).C w A x.length x) (l : x.length ≤ c) (K : w.heap[g]? = some (.cells #[.slice A x.length c] t f)) : kRow.C w (some ⟨g, 0, none⟩) 1 [x] := by
  refine ⟨rfl, by omega, fun _ => ⟨_, rfl, fun j p hj => ?_⟩⟩
  match j, hj with
  | 0, hj =>
    obtain rfl : x = p := by simpa using hj
    refine ⟨[.slice A x.length c], rfl, ⟨_, _, rfl, l, h⟩, fun i u hu => ?_⟩
    cases i with
    | zero => injection hu with hu; subst hu; rw [add_lit]; exact cellAt K rfl
    | succ i => simp at hu
  | j + 1, hj => simp at hj
/-! ### Rows that are not right -/
def PB (w : World) (g : Nat) : Prop := ∀ i : Nat, i < 6 → ∃ A c ws girth play, (∀ j v, [Value.slice A ws.length c, .int .i64 girth, .int .i64 play][j]? = some v → w.cell? (((⟨g, 0, none⟩ : Addr).add (i * 3)).add j) = some v) ∧ (Kd.int .i64).C w A ws.length ws ∧ ¬ PileOk ws girth play
def WB (w : World) (g : Nat) : Prop := ∀ i : Nat, i < 6 → ∃ B d l, w.cell? ((⟨g, 0, none⟩ : Addr).add i) = some (.slice B l.length d) ∧ kRow.C w B l.length l ∧ areBarrels pileL 100 10 l = false
def YB (w : World) (g : Nat) : Prop := ∀ i : Nat, i < 6 → ∃ A c y, w.cell? ((⟨g, 0, none⟩ : Addr).add i) = some (.slice A y.length c) ∧ k70.C w A y.length y ∧ yardOk y = false
def BB (w : World) (g : Nat) : Prop := ∀ i : Nat, i < 5 → ∃ n A c l, (∀ j v, [Value.int .i64 n, .slice A l.length c][j]? = some v → w.cell? (((⟨g, 0, none⟩ : Addr).add (i * 2)).add j) = some v) ∧ k76.C w A l.length l ∧ bookOk n l = false
theorem PB.bel {w w' : World} {g : Nat} (h : PB w g) (hB : Bel w w') : PB w' g := fun i hi => by
  obtain ⟨A, c, ws, girth, play, h1, h2, h3⟩ := h i hi
  exact ⟨A, c, ws, girth, play, fun j v hj => hB.cellk (h1 j v hj), Kd.C_below h2 hB, h3⟩
theorem WB.bel {w w' : World} {g : Nat} (h : WB w g) (hB : Bel w w') : WB w' g := fun i hi => by
  obtain ⟨B, d, l, h1, h2, h3⟩ := h i hi
  exact ⟨B, d, l, hB.cellk h1, Kd.C_below h2 hB, h3⟩
theorem YB.bel {w w' : World} {g : Nat} (h : YB w g) (hB : Bel w w') : YB w' g := fun i hi => by
  obtain ⟨A, c, y, h1, h2, h3⟩ := h i hi
  exact ⟨A, c, y, hB.cellk h1, Kd.C_below h2 hB, h3⟩
theorem BB.bel {w w' : World} {g : Nat} (h : BB w g) (hB : Bel w w') : BB w' g := fun i hi => by
  obtain ⟨n, A, c, l, h1, h2, h3⟩ := h i hi
  exact ⟨n, A, c, l, fun j v hj => hB.cellk (h1 j v hj), Kd.C_below h2 hB, h3⟩
theorem at3 {w : World} {g o : Nat} {cells : Array Value} {t : TypeId} {f : Nat × Nat} {a b c : Value} (K : w.heap[g]? = some (.cells cells t f)) (h0 : cells[o]? = some a) (h1 : cells[o + 1]? = some b) (h2 : cells[o + 2]? = some c) : ∀ j v, [a, b, c][j]? = some v → w.cell? (((⟨g, 0, none⟩ : Addr).add o).add j) = some v := fun j v hj => by
  have e : ((⟨g, 0, none⟩ : Addr).add o).add j = ⟨g, o + j, none⟩ := by rw [add_lit, add_lit, Nat.zero_add]
  rw [e]
  match j, hj with
  | 0, hj => injection hj with hj; subst hj; exact cellAt K h0
  | 1, hj => injection hj with hj; subst hj; exact cellAt K h1
  | 2, hj => injection hj with hj; subst hj; exact cellAt K h2
  | j + 3, hj => simp at hj
theorem at2 {w : World} {g o : Nat} {cells : Array Value} {t : TypeId} {f : Nat × Nat} {a b : Value} (K : w.heap[g]? = some (.cells cells t f)) (h0 : cells[o]? = some a) (h1 : cells[o + 1]? = some b) : ∀ j v, [a, b][j]? = some v → w.cell? (((⟨g, 0, none⟩ : Addr).add o).add j) = some v := fun j v hj => by
  have e : ((⟨g, 0, none⟩ : Addr).add o).add j = ⟨g, o + j, none⟩ := by rw [add_lit, add_lit, Nat.zero_add]
  rw [e]
  match j, hj with
  | 0, hj => injection hj with hj; subst hj; exact cellAt K h0
  | 1, hj => injection hj with hj; subst hj; exact cellAt K h1
  | j + 2, hj => simp at hj
theorem at1 {w : World} {g o : Nat} {cells : Array Value} {t : TypeId} {f : Nat × Nat} {a : Value} (K : w.heap[g]? = some (.cells cells t f)) (h0 : cells[o]? = some a) : w.cell? ((⟨g, 0, none⟩ : Addr).add o) = some a := by
  have e : ((⟨g, 0, none⟩ : Addr).add o) = ⟨g, o, none⟩ := by rw [add_lit, Nat.zero_add]
  rw [e]
  exact cellAt K h0
end Go.Proofs.B
