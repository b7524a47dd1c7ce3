/- barrel: the keys of its maps. -/
import Derived.Test.YtpfoleggapngoaaG9
import Derived.Test.YtpfoleggapngoaaB5
set_option linter.unusedVariables false
set_option linter.unusedSimpArgs false
set_option maxRecDepth 10000
namespace Go.Proofs.B
open Go Go.RowKit Go.Proofs Go.Proofs.G Go.Proofs.F Go.Proofs.YtpfoleggapngoaaW.PrintWords
theorem szTry : ∃ n, Try.prog.types.size + 1 = n + 4 := ⟨Try.prog.types.size - 3, by kernel_rfl⟩
theorem wide127 : (match Try.prog.underlying 127 with | some (.array _ _) | some (.struct _) => true | _ => false) = true := by kernel_rfl
theorem wide111 : (match Try.prog.underlying 111 with | some (.array _ _) | some (.struct _) => true | _ => false) = true := by kernel_rfl
theorem wide99 : (match Try.prog.underlying 99 with | some (.array _ _) | some (.struct _) => true | _ => false) = true := by kernel_rfl
theorem K127 : Maps.Keyed Try.prog 127 := Maps.Keyed.of_law (deep_law (m := 5) (by decide) (by kernel_rfl) (by kernel_rfl) wide127)
theorem K99 : Maps.Keyed Try.prog 99 := Maps.Keyed.of_law (deep_law (m := 5) (by decide) (by kernel_rfl) (by kernel_rfl) wide99)
theorem cells127 : Try.prog.cellsOf 127 = 5 := by kernel_rfl
theorem cells111 : Try.prog.cellsOf 111 = 4 := by kernel_rfl
theorem cells99 : Try.prog.cellsOf 99 = 10 := by kernel_rfl
theorem cells3 : Try.prog.cellsOf 3 = 1 := by kernel_rfl
theorem cells4 : Try.prog.cellsOf 4 = 1 := by kernel_rfl
theorem kt127 : Try.prog.keyType 127 = true := by kernel_rfl
theorem kt111 : Try.prog.keyType 111 = true := by kernel_rfl
theorem kt99 : Try.prog.keyType 99 = true := by kernel_rfl
theorem wfi {n : Int} (h : -1000000 ≤ n ∧ n ≤ 1000000) : (Lit.int .i64 n).wf = true := by simp [Lit.wf, IntKind.min, IntKind.max, IntKind.signed, IntKind.bits]; omega
theorem kl3 (d : Nat) (n : Int) (h : -1000000 ≤ n ∧ n ≤ 1000000) : Try.prog.keyLits (d + 1) 3 [.int .i64 n] = some [.int .i64 n] := by
  simp [Program.keyLits, Try.underlying3, wfi h]
theorem kl4 (d : Nat) (b : Bool) : Try.prog.keyLits (d + 1) 4 [.bool b] = some [.bool b] := by simp [Program.keyLits, Try.underlying4]
theorem kl111 (d : Nat) (f : Nat → Int) (h : ∀ i, i < 4 → -1000000 ≤ f i ∧ f i ≤ 1000000) : Try.prog.keyLits (d + 2) 111 (isF f).toList = some [.int .i64 (f 0), .int .i64 (f 1), .int .i64 (f 2), .int .i64 (f 3)] := by
  simp [Program.keyLits, Try.underlying111, Try.underlying3, cells111, cells3, isF, List.range, List.range.loop, wfi (h 0 (by decide)), wfi (h 1 (by decide)), wfi (h 2 (by decide)), wfi (h 3 (by decide))]
def mom (m : Int) (f : Nat → Int) : Array Value := #[.int .i64 m, .int .i64 (f 0), .int .i64 (f 1), .int .i64 (f 2), .int .i64 (f 3)]
theorem key111 (f : Nat → Int) (h : ∀ i, i < 4 → -1000000 ≤ f i ∧ f i ≤ 1000000) : ∃ l, keyOf Try.prog 111 (.agg (isF f)) = some l := by
  obtain ⟨n, hn⟩ := szTry
  unfold keyOf
  simp only [Try.underlying111, kt111, Value.formed, cells111, Value.cells]
  rw [hn, show n + 4 = (n + 2) + 2 from rfl, kl111 (n + 2) f h]
  simp [isF]
theorem key127 (m : Int) (f : Nat → Int) (hm : -1000000 ≤ m ∧ m ≤ 1000000) (h : ∀ i, i < 4 → -1000000 ≤ f i ∧ f i ≤ 1000000) : ∃ l, keyOf Try.prog 127 (.agg (mom m f)) = some l := by
  obtain ⟨n, hn⟩ := szTry
  unfold keyOf
  simp only [Try.underlying127, kt127, Value.formed, cells127, Value.cells]
  rw [hn, show n + 4 = (n + 3) + 1 from rfl]
  simp [Program.keyLits, Try.underlying127, Try.underlying111, Try.underlying3, cells127, cells111, cells3, mom, List.range, List.range.loop, wfi hm, wfi (h 0 (by decide)), wfi (h 1 (by decide)), wfi (h 2 (by decide)), wfi (h 3 (by decide))]
theorem kl99 (d : Nat) (g : List Bool) (hg : g.length = 10) : ∃ l, Try.prog.keyLits (d + 2) 99 (bs g).toList = some l := by
  match g, hg with
  | [b0, b1, b2, b3, b4, b5, b6, b7, b8, b9], _ =>
    exact ⟨[.bool b0, .bool b1, .bool b2, .bool b3, .bool b4, .bool b5, .bool b6, .bool b7, .bool b8, .bool b9], by simp [Program.keyLits, Try.underlying4, Try.underlying99, cells99, cells4, bs, List.range, List.range.loop, kl4 d]⟩
theorem key99 (g : List Bool) (hg : g.length = 10) : ∃ l, keyOf Try.prog 99 (.agg (bs g)) = some l := by
  obtain ⟨n, hn⟩ := szTry
  obtain ⟨l, hl⟩ := kl99 (n + 2) g hg
  unfold keyOf
  simp only [Try.underlying99, kt99, Value.formed, cells99, Value.cells]
  rw [hn, show n + 4 = (n + 2) + 2 from rfl, hl]
  simp [bs, hg]
theorem bs_inj {g g' : List Bool} (h : bs g = bs g') : g = g' := by
  have : (g.map Value.bool) = g'.map Value.bool := by simpa [bs] using h
  exact List.map_inj_right (fun a b h => by injection h) |>.1 this
theorem isF_inj {f g : Nat → Int} (h : isF f = isF g) : ∀ i, i < 4 → f i = g i := by
  simp [isF] at h
  intro i hi
  match i, hi with
  | 0, _ => exact h.1
  | 1, _ => exact h.2.1
  | 2, _ => exact h.2.2.1
  | 3, _ => exact h.2.2.2
end Go.Proofs.B
