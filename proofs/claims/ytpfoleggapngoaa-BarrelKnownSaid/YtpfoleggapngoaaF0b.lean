/- Facts of the program: sizes, fields, entries. Printed by facts.py. -/
import Derived.Test.YtpfoleggapngoaaG5
import Derived.Test.YtpfoleggapngoaaProg
set_option linter.unusedVariables false
namespace Go.Proofs.F
open Go Go.RowKit Go.Proofs Go.Proofs.G
theorem info2 : (Try.prog.info? 2).map (·.size) = some 1 := by kernel_rfl
theorem inf2 : ∃ i, Try.prog.info? 2 = some i := by obtain ⟨i, hi, _⟩ := Option.map_eq_some_iff.1 info2; exact ⟨i, hi⟩
theorem info3 : (Try.prog.info? 3).map (·.size) = some 1 := by kernel_rfl
theorem inf3 : ∃ i, Try.prog.info? 3 = some i := by obtain ⟨i, hi, _⟩ := Option.map_eq_some_iff.1 info3; exact ⟨i, hi⟩
theorem info4 : (Try.prog.info? 4).map (·.size) = some 1 := by kernel_rfl
theorem inf4 : ∃ i, Try.prog.info? 4 = some i := by obtain ⟨i, hi, _⟩ := Option.map_eq_some_iff.1 info4; exact ⟨i, hi⟩
theorem info5 : (Try.prog.info? 5).map (·.size) = some 1 := by kernel_rfl
theorem inf5 : ∃ i, Try.prog.info? 5 = some i := by obtain ⟨i, hi, _⟩ := Option.map_eq_some_iff.1 info5; exact ⟨i, hi⟩
theorem info9 : (Try.prog.info? 9).map (·.size) = some 1 := by kernel_rfl
theorem inf9 : ∃ i, Try.prog.info? 9 = some i := by obtain ⟨i, hi, _⟩ := Option.map_eq_some_iff.1 info9; exact ⟨i, hi⟩
theorem info12 : (Try.prog.info? 12).map (·.size) = some 1 := by kernel_rfl
theorem inf12 : ∃ i, Try.prog.info? 12 = some i := by obtain ⟨i, hi, _⟩ := Option.map_eq_some_iff.1 info12; exact ⟨i, hi⟩
theorem info13 : (Try.prog.info? 13).map (·.size) = some 2 := by kernel_rfl
theorem inf13 : ∃ i, Try.prog.info? 13 = some i := by obtain ⟨i, hi, _⟩ := Option.map_eq_some_iff.1 info13; exact ⟨i, hi⟩
theorem info20 : (Try.prog.info? 20).map (·.size) = some 1 := by kernel_rfl
theorem inf20 : ∃ i, Try.prog.info? 20 = some i := by obtain ⟨i, hi, _⟩ := Option.map_eq_some_iff.1 info20; exact ⟨i, hi⟩
theorem info21 : (Try.prog.info? 21).map (·.size) = some 1 := by kernel_rfl
theorem inf21 : ∃ i, Try.prog.info? 21 = some i := by obtain ⟨i, hi, _⟩ := Option.map_eq_some_iff.1 info21; exact ⟨i, hi⟩
theorem info22 : (Try.prog.info? 22).map (·.size) = some 1 := by kernel_rfl
theorem inf22 : ∃ i, Try.prog.info? 22 = some i := by obtain ⟨i, hi, _⟩ := Option.map_eq_some_iff.1 info22; exact ⟨i, hi⟩
theorem info23 : (Try.prog.info? 23).map (·.size) = some 3 := by kernel_rfl
theorem inf23 : ∃ i, Try.prog.info? 23 = some i := by obtain ⟨i, hi, _⟩ := Option.map_eq_some_iff.1 info23; exact ⟨i, hi⟩
theorem info24 : (Try.prog.info? 24).map (·.size) = some 3 := by kernel_rfl
theorem inf24 : ∃ i, Try.prog.info? 24 = some i := by obtain ⟨i, hi, _⟩ := Option.map_eq_some_iff.1 info24; exact ⟨i, hi⟩
theorem f24_0 : ∀ w a, (Instr.fieldAt 24 (.pointer (some a)) 0).run Try.prog w = .ok (.pointer (some (a.add 0))) w := run_fieldAt (f := 0) (off := 0) (sz := 0) Try.underlying24 rfl rfl (by kernel_rfl)
theorem f24_1 : ∀ w a, (Instr.fieldAt 24 (.pointer (some a)) 1).run Try.prog w = .ok (.pointer (some (a.add 1))) w := run_fieldAt (f := 1) (off := 1) (sz := 0) Try.underlying24 rfl rfl (by kernel_rfl)
theorem f24_2 : ∀ w a, (Instr.fieldAt 24 (.pointer (some a)) 2).run Try.prog w = .ok (.pointer (some (a.add 2))) w := run_fieldAt (f := 2) (off := 2) (sz := 0) Try.underlying24 rfl rfl (by kernel_rfl)
theorem info25 : (Try.prog.info? 25).map (·.size) = some 1 := by kernel_rfl
theorem inf25 : ∃ i, Try.prog.info? 25 = some i := by obtain ⟨i, hi, _⟩ := Option.map_eq_some_iff.1 info25; exact ⟨i, hi⟩
theorem info26 : (Try.prog.info? 26).map (·.size) = some 1 := by kernel_rfl
theorem inf26 : ∃ i, Try.prog.info? 26 = some i := by obtain ⟨i, hi, _⟩ := Option.map_eq_some_iff.1 info26; exact ⟨i, hi⟩
theorem info28 : (Try.prog.info? 28).map (·.size) = some 1 := by kernel_rfl
theorem inf28 : ∃ i, Try.prog.info? 28 = some i := by obtain ⟨i, hi, _⟩ := Option.map_eq_some_iff.1 info28; exact ⟨i, hi⟩
theorem info29 : (Try.prog.info? 29).map (·.size) = some 1 := by kernel_rfl
theorem inf29 : ∃ i, Try.prog.info? 29 = some i := by obtain ⟨i, hi, _⟩ := Option.map_eq_some_iff.1 info29; exact ⟨i, hi⟩
theorem info31 : (Try.prog.info? 31).map (·.size) = some 1 := by kernel_rfl
theorem inf31 : ∃ i, Try.prog.info? 31 = some i := by obtain ⟨i, hi, _⟩ := Option.map_eq_some_iff.1 info31; exact ⟨i, hi⟩
theorem info32 : (Try.prog.info? 32).map (·.size) = some 1 := by kernel_rfl
theorem inf32 : ∃ i, Try.prog.info? 32 = some i := by obtain ⟨i, hi, _⟩ := Option.map_eq_some_iff.1 info32; exact ⟨i, hi⟩
theorem info33 : (Try.prog.info? 33).map (·.size) = some 1 := by kernel_rfl
theorem inf33 : ∃ i, Try.prog.info? 33 = some i := by obtain ⟨i, hi, _⟩ := Option.map_eq_some_iff.1 info33; exact ⟨i, hi⟩
theorem info34 : (Try.prog.info? 34).map (·.size) = some 1 := by kernel_rfl
theorem inf34 : ∃ i, Try.prog.info? 34 = some i := by obtain ⟨i, hi, _⟩ := Option.map_eq_some_iff.1 info34; exact ⟨i, hi⟩
theorem info35 : (Try.prog.info? 35).map (·.size) = some 1 := by kernel_rfl
theorem inf35 : ∃ i, Try.prog.info? 35 = some i := by obtain ⟨i, hi, _⟩ := Option.map_eq_some_iff.1 info35; exact ⟨i, hi⟩
theorem info37 : (Try.prog.info? 37).map (·.size) = some 1 := by kernel_rfl
theorem inf37 : ∃ i, Try.prog.info? 37 = some i := by obtain ⟨i, hi, _⟩ := Option.map_eq_some_iff.1 info37; exact ⟨i, hi⟩
theorem info38 : (Try.prog.info? 38).map (·.size) = some 1 := by kernel_rfl
theorem inf38 : ∃ i, Try.prog.info? 38 = some i := by obtain ⟨i, hi, _⟩ := Option.map_eq_some_iff.1 info38; exact ⟨i, hi⟩
theorem info39 : (Try.prog.info? 39).map (·.size) = some 1 := by kernel_rfl
theorem inf39 : ∃ i, Try.prog.info? 39 = some i := by obtain ⟨i, hi, _⟩ := Option.map_eq_some_iff.1 info39; exact ⟨i, hi⟩
theorem info40 : (Try.prog.info? 40).map (·.size) = some 1 := by kernel_rfl
theorem inf40 : ∃ i, Try.prog.info? 40 = some i := by obtain ⟨i, hi, _⟩ := Option.map_eq_some_iff.1 info40; exact ⟨i, hi⟩
theorem info42 : (Try.prog.info? 42).map (·.size) = some 1 := by kernel_rfl
theorem inf42 : ∃ i, Try.prog.info? 42 = some i := by obtain ⟨i, hi, _⟩ := Option.map_eq_some_iff.1 info42; exact ⟨i, hi⟩
theorem info44 : (Try.prog.info? 44).map (·.size) = some 1 := by kernel_rfl
theorem inf44 : ∃ i, Try.prog.info? 44 = some i := by obtain ⟨i, hi, _⟩ := Option.map_eq_some_iff.1 info44; exact ⟨i, hi⟩
theorem info45 : (Try.prog.info? 45).map (·.size) = some 1 := by kernel_rfl
theorem inf45 : ∃ i, Try.prog.info? 45 = some i := by obtain ⟨i, hi, _⟩ := Option.map_eq_some_iff.1 info45; exact ⟨i, hi⟩
theorem info46 : (Try.prog.info? 46).map (·.size) = some 1 := by kernel_rfl
theorem inf46 : ∃ i, Try.prog.info? 46 = some i := by obtain ⟨i, hi, _⟩ := Option.map_eq_some_iff.1 info46; exact ⟨i, hi⟩
theorem info47 : (Try.prog.info? 47).map (·.size) = some 1 := by kernel_rfl
theorem inf47 : ∃ i, Try.prog.info? 47 = some i := by obtain ⟨i, hi, _⟩ := Option.map_eq_some_iff.1 info47; exact ⟨i, hi⟩
theorem info48 : (Try.prog.info? 48).map (·.size) = some 2 := by kernel_rfl
theorem inf48 : ∃ i, Try.prog.info? 48 = some i := by obtain ⟨i, hi, _⟩ := Option.map_eq_some_iff.1 info48; exact ⟨i, hi⟩
theorem info49 : (Try.prog.info? 49).map (·.size) = some 2 := by kernel_rfl
theorem inf49 : ∃ i, Try.prog.info? 49 = some i := by obtain ⟨i, hi, _⟩ := Option.map_eq_some_iff.1 info49; exact ⟨i, hi⟩
theorem f49_0 : ∀ w a, (Instr.fieldAt 49 (.pointer (some a)) 0).run Try.prog w = .ok (.pointer (some (a.add 0))) w := run_fieldAt (f := 0) (off := 0) (sz := 0) Try.underlying49 rfl rfl (by kernel_rfl)
theorem f49_1 : ∀ w a, (Instr.fieldAt 49 (.pointer (some a)) 1).run Try.prog w = .ok (.pointer (some (a.add 1))) w := run_fieldAt (f := 1) (off := 1) (sz := 0) Try.underlying49 rfl rfl (by kernel_rfl)
theorem info50 : (Try.prog.info? 50).map (·.size) = some 1 := by kernel_rfl
theorem inf50 : ∃ i, Try.prog.info? 50 = some i := by obtain ⟨i, hi, _⟩ := Option.map_eq_some_iff.1 info50; exact ⟨i, hi⟩
theorem info51 : (Try.prog.info? 51).map (·.size) = some 1 := by kernel_rfl
theorem inf51 : ∃ i, Try.prog.info? 51 = some i := by obtain ⟨i, hi, _⟩ := Option.map_eq_some_iff.1 info51; exact ⟨i, hi⟩
theorem info52 : (Try.prog.info? 52).map (·.size) = some 1 := by kernel_rfl
theorem inf52 : ∃ i, Try.prog.info? 52 = some i := by obtain ⟨i, hi, _⟩ := Option.map_eq_some_iff.1 info52; exact ⟨i, hi⟩
theorem info54 : (Try.prog.info? 54).map (·.size) = some 1 := by kernel_rfl
theorem inf54 : ∃ i, Try.prog.info? 54 = some i := by obtain ⟨i, hi, _⟩ := Option.map_eq_some_iff.1 info54; exact ⟨i, hi⟩
theorem info55 : (Try.prog.info? 55).map (·.size) = some 1 := by kernel_rfl
theorem inf55 : ∃ i, Try.prog.info? 55 = some i := by obtain ⟨i, hi, _⟩ := Option.map_eq_some_iff.1 info55; exact ⟨i, hi⟩
theorem info56 : (Try.prog.info? 56).map (·.size) = some 1 := by kernel_rfl
theorem inf56 : ∃ i, Try.prog.info? 56 = some i := by obtain ⟨i, hi, _⟩ := Option.map_eq_some_iff.1 info56; exact ⟨i, hi⟩
theorem info57 : (Try.prog.info? 57).map (·.size) = some 2 := by kernel_rfl
theorem inf57 : ∃ i, Try.prog.info? 57 = some i := by obtain ⟨i, hi, _⟩ := Option.map_eq_some_iff.1 info57; exact ⟨i, hi⟩
theorem info58 : (Try.prog.info? 58).map (·.size) = some 1 := by kernel_rfl
theorem inf58 : ∃ i, Try.prog.info? 58 = some i := by obtain ⟨i, hi, _⟩ := Option.map_eq_some_iff.1 info58; exact ⟨i, hi⟩
theorem info59 : (Try.prog.info? 59).map (·.size) = some 1 := by kernel_rfl
theorem inf59 : ∃ i, Try.prog.info? 59 = some i := by obtain ⟨i, hi, _⟩ := Option.map_eq_some_iff.1 info59; exact ⟨i, hi⟩
theorem info60 : (Try.prog.info? 60).map (·.size) = some 1 := by kernel_rfl
theorem inf60 : ∃ i, Try.prog.info? 60 = some i := by obtain ⟨i, hi, _⟩ := Option.map_eq_some_iff.1 info60; exact ⟨i, hi⟩
theorem info61 : (Try.prog.info? 61).map (·.size) = some 1 := by kernel_rfl
theorem inf61 : ∃ i, Try.prog.info? 61 = some i := by obtain ⟨i, hi, _⟩ := Option.map_eq_some_iff.1 info61; exact ⟨i, hi⟩
theorem info62 : (Try.prog.info? 62).map (·.size) = some 1 := by kernel_rfl
theorem inf62 : ∃ i, Try.prog.info? 62 = some i := by obtain ⟨i, hi, _⟩ := Option.map_eq_some_iff.1 info62; exact ⟨i, hi⟩
theorem info63 : (Try.prog.info? 63).map (·.size) = some 1 := by kernel_rfl
theorem inf63 : ∃ i, Try.prog.info? 63 = some i := by obtain ⟨i, hi, _⟩ := Option.map_eq_some_iff.1 info63; exact ⟨i, hi⟩
theorem info64 : (Try.prog.info? 64).map (·.size) = some 1 := by kernel_rfl
theorem inf64 : ∃ i, Try.prog.info? 64 = some i := by obtain ⟨i, hi, _⟩ := Option.map_eq_some_iff.1 info64; exact ⟨i, hi⟩
theorem info65 : (Try.prog.info? 65).map (·.size) = some 1 := by kernel_rfl
theorem inf65 : ∃ i, Try.prog.info? 65 = some i := by obtain ⟨i, hi, _⟩ := Option.map_eq_some_iff.1 info65; exact ⟨i, hi⟩
theorem info66 : (Try.prog.info? 66).map (·.size) = some 1 := by kernel_rfl
theorem inf66 : ∃ i, Try.prog.info? 66 = some i := by obtain ⟨i, hi, _⟩ := Option.map_eq_some_iff.1 info66; exact ⟨i, hi⟩
theorem info67 : (Try.prog.info? 67).map (·.size) = some 2 := by kernel_rfl
theorem inf67 : ∃ i, Try.prog.info? 67 = some i := by obtain ⟨i, hi, _⟩ := Option.map_eq_some_iff.1 info67; exact ⟨i, hi⟩
theorem info68 : (Try.prog.info? 68).map (·.size) = some 2 := by kernel_rfl
theorem inf68 : ∃ i, Try.prog.info? 68 = some i := by obtain ⟨i, hi, _⟩ := Option.map_eq_some_iff.1 info68; exact ⟨i, hi⟩
theorem f68_0 : ∀ w a, (Instr.fieldAt 68 (.pointer (some a)) 0).run Try.prog w = .ok (.pointer (some (a.add 0))) w := run_fieldAt (f := 0) (off := 0) (sz := 0) Try.underlying68 rfl rfl (by kernel_rfl)
theorem f68_1 : ∀ w a, (Instr.fieldAt 68 (.pointer (some a)) 1).run Try.prog w = .ok (.pointer (some (a.add 1))) w := run_fieldAt (f := 1) (off := 1) (sz := 0) Try.underlying68 rfl rfl (by kernel_rfl)
theorem info69 : (Try.prog.info? 69).map (·.size) = some 5 := by kernel_rfl
theorem inf69 : ∃ i, Try.prog.info? 69 = some i := by obtain ⟨i, hi, _⟩ := Option.map_eq_some_iff.1 info69; exact ⟨i, hi⟩
theorem info70 : (Try.prog.info? 70).map (·.size) = some 5 := by kernel_rfl
theorem inf70 : ∃ i, Try.prog.info? 70 = some i := by obtain ⟨i, hi, _⟩ := Option.map_eq_some_iff.1 info70; exact ⟨i, hi⟩
theorem f70_0 : ∀ w a, (Instr.fieldAt 70 (.pointer (some a)) 0).run Try.prog w = .ok (.pointer (some (a.add 0))) w := run_fieldAt (f := 0) (off := 0) (sz := 0) Try.underlying70 rfl rfl (by kernel_rfl)
theorem f70_1 : ∀ w a, (Instr.fieldAt 70 (.pointer (some a)) 1).run Try.prog w = .ok (.pointer (some (a.add 1))) w := run_fieldAt (f := 1) (off := 1) (sz := 0) Try.underlying70 rfl rfl (by kernel_rfl)
theorem f70_2 : ∀ w a, (Instr.fieldAt 70 (.pointer (some a)) 2).run Try.prog w = .ok (.pointer (some (a.add 2))) w := run_fieldAt (f := 2) (off := 2) (sz := 0) Try.underlying70 rfl rfl (by kernel_rfl)
theorem f70_3 : ∀ w a, (Instr.fieldAt 70 (.pointer (some a)) 3).run Try.prog w = .ok (.pointer (some (a.add 3))) w := run_fieldAt (f := 3) (off := 3) (sz := 1) Try.underlying70 rfl rfl (by kernel_rfl)
theorem info71 : (Try.prog.info? 71).map (·.size) = some 1 := by kernel_rfl
theorem inf71 : ∃ i, Try.prog.info? 71 = some i := by obtain ⟨i, hi, _⟩ := Option.map_eq_some_iff.1 info71; exact ⟨i, hi⟩
theorem info72 : (Try.prog.info? 72).map (·.size) = some 4 := by kernel_rfl
theorem inf72 : ∃ i, Try.prog.info? 72 = some i := by obtain ⟨i, hi, _⟩ := Option.map_eq_some_iff.1 info72; exact ⟨i, hi⟩
theorem info73 : (Try.prog.info? 73).map (·.size) = some 1 := by kernel_rfl
theorem inf73 : ∃ i, Try.prog.info? 73 = some i := by obtain ⟨i, hi, _⟩ := Option.map_eq_some_iff.1 info73; exact ⟨i, hi⟩
theorem info74 : (Try.prog.info? 74).map (·.size) = some 1 := by kernel_rfl
theorem inf74 : ∃ i, Try.prog.info? 74 = some i := by obtain ⟨i, hi, _⟩ := Option.map_eq_some_iff.1 info74; exact ⟨i, hi⟩
theorem info75 : (Try.prog.info? 75).map (·.size) = some 4 := by kernel_rfl
theorem inf75 : ∃ i, Try.prog.info? 75 = some i := by obtain ⟨i, hi, _⟩ := Option.map_eq_some_iff.1 info75; exact ⟨i, hi⟩
theorem info76 : (Try.prog.info? 76).map (·.size) = some 4 := by kernel_rfl
theorem inf76 : ∃ i, Try.prog.info? 76 = some i := by obtain ⟨i, hi, _⟩ := Option.map_eq_some_iff.1 info76; exact ⟨i, hi⟩
theorem f76_0 : ∀ w a, (Instr.fieldAt 76 (.pointer (some a)) 0).run Try.prog w = .ok (.pointer (some (a.add 0))) w := run_fieldAt (f := 0) (off := 0) (sz := 0) Try.underlying76 rfl rfl (by kernel_rfl)
theorem f76_1 : ∀ w a, (Instr.fieldAt 76 (.pointer (some a)) 1).run Try.prog w = .ok (.pointer (some (a.add 1))) w := run_fieldAt (f := 1) (off := 1) (sz := 0) Try.underlying76 rfl rfl (by kernel_rfl)
theorem f76_2 : ∀ w a, (Instr.fieldAt 76 (.pointer (some a)) 2).run Try.prog w = .ok (.pointer (some (a.add 2))) w := run_fieldAt (f := 2) (off := 2) (sz := 1) Try.underlying76 rfl rfl (by kernel_rfl)
theorem info77 : (Try.prog.info? 77).map (·.size) = some 1 := by kernel_rfl
theorem inf77 : ∃ i, Try.prog.info? 77 = some i := by obtain ⟨i, hi, _⟩ := Option.map_eq_some_iff.1 info77; exact ⟨i, hi⟩
theorem info78 : (Try.prog.info? 78).map (·.size) = some 1 := by kernel_rfl
theorem inf78 : ∃ i, Try.prog.info? 78 = some i := by obtain ⟨i, hi, _⟩ := Option.map_eq_some_iff.1 info78; exact ⟨i, hi⟩
theorem info79 : (Try.prog.info? 79).map (·.size) = some 1 := by kernel_rfl
theorem inf79 : ∃ i, Try.prog.info? 79 = some i := by obtain ⟨i, hi, _⟩ := Option.map_eq_some_iff.1 info79; exact ⟨i, hi⟩
theorem info80 : (Try.prog.info? 80).map (·.size) = some 1 := by kernel_rfl
theorem inf80 : ∃ i, Try.prog.info? 80 = some i := by obtain ⟨i, hi, _⟩ := Option.map_eq_some_iff.1 info80; exact ⟨i, hi⟩
theorem info82 : (Try.prog.info? 82).map (·.size) = some 1 := by kernel_rfl
theorem inf82 : ∃ i, Try.prog.info? 82 = some i := by obtain ⟨i, hi, _⟩ := Option.map_eq_some_iff.1 info82; exact ⟨i, hi⟩
theorem info83 : (Try.prog.info? 83).map (·.size) = some 1 := by kernel_rfl
theorem inf83 : ∃ i, Try.prog.info? 83 = some i := by obtain ⟨i, hi, _⟩ := Option.map_eq_some_iff.1 info83; exact ⟨i, hi⟩
theorem info85 : (Try.prog.info? 85).map (·.size) = some 1 := by kernel_rfl
theorem inf85 : ∃ i, Try.prog.info? 85 = some i := by obtain ⟨i, hi, _⟩ := Option.map_eq_some_iff.1 info85; exact ⟨i, hi⟩
theorem info86 : (Try.prog.info? 86).map (·.size) = some 1 := by kernel_rfl
theorem inf86 : ∃ i, Try.prog.info? 86 = some i := by obtain ⟨i, hi, _⟩ := Option.map_eq_some_iff.1 info86; exact ⟨i, hi⟩
theorem info87 : (Try.prog.info? 87).map (·.size) = some 1 := by kernel_rfl
theorem inf87 : ∃ i, Try.prog.info? 87 = some i := by obtain ⟨i, hi, _⟩ := Option.map_eq_some_iff.1 info87; exact ⟨i, hi⟩
theorem info88 : (Try.prog.info? 88).map (·.size) = some 3 := by kernel_rfl
theorem inf88 : ∃ i, Try.prog.info? 88 = some i := by obtain ⟨i, hi, _⟩ := Option.map_eq_some_iff.1 info88; exact ⟨i, hi⟩
theorem info89 : (Try.prog.info? 89).map (·.size) = some 1 := by kernel_rfl
theorem inf89 : ∃ i, Try.prog.info? 89 = some i := by obtain ⟨i, hi, _⟩ := Option.map_eq_some_iff.1 info89; exact ⟨i, hi⟩
theorem info90 : (Try.prog.info? 90).map (·.size) = some 1 := by kernel_rfl
theorem inf90 : ∃ i, Try.prog.info? 90 = some i := by obtain ⟨i, hi, _⟩ := Option.map_eq_some_iff.1 info90; exact ⟨i, hi⟩
theorem info91 : (Try.prog.info? 91).map (·.size) = some 1 := by kernel_rfl
theorem inf91 : ∃ i, Try.prog.info? 91 = some i := by obtain ⟨i, hi, _⟩ := Option.map_eq_some_iff.1 info91; exact ⟨i, hi⟩
theorem info92 : (Try.prog.info? 92).map (·.size) = some 1 := by kernel_rfl
theorem inf92 : ∃ i, Try.prog.info? 92 = some i := by obtain ⟨i, hi, _⟩ := Option.map_eq_some_iff.1 info92; exact ⟨i, hi⟩
theorem info93 : (Try.prog.info? 93).map (·.size) = some 1 := by kernel_rfl
theorem inf93 : ∃ i, Try.prog.info? 93 = some i := by obtain ⟨i, hi, _⟩ := Option.map_eq_some_iff.1 info93; exact ⟨i, hi⟩
theorem info94 : (Try.prog.info? 94).map (·.size) = some 1 := by kernel_rfl
theorem inf94 : ∃ i, Try.prog.info? 94 = some i := by obtain ⟨i, hi, _⟩ := Option.map_eq_some_iff.1 info94; exact ⟨i, hi⟩
theorem info95 : (Try.prog.info? 95).map (·.size) = some 1 := by kernel_rfl
theorem inf95 : ∃ i, Try.prog.info? 95 = some i := by obtain ⟨i, hi, _⟩ := Option.map_eq_some_iff.1 info95; exact ⟨i, hi⟩
theorem info96 : (Try.prog.info? 96).map (·.size) = some 1 := by kernel_rfl
theorem inf96 : ∃ i, Try.prog.info? 96 = some i := by obtain ⟨i, hi, _⟩ := Option.map_eq_some_iff.1 info96; exact ⟨i, hi⟩
theorem info97 : (Try.prog.info? 97).map (·.size) = some 1 := by kernel_rfl
theorem inf97 : ∃ i, Try.prog.info? 97 = some i := by obtain ⟨i, hi, _⟩ := Option.map_eq_some_iff.1 info97; exact ⟨i, hi⟩
theorem info98 : (Try.prog.info? 98).map (·.size) = some 10 := by kernel_rfl
theorem inf98 : ∃ i, Try.prog.info? 98 = some i := by obtain ⟨i, hi, _⟩ := Option.map_eq_some_iff.1 info98; exact ⟨i, hi⟩
theorem info99 : (Try.prog.info? 99).map (·.size) = some 10 := by kernel_rfl
theorem inf99 : ∃ i, Try.prog.info? 99 = some i := by obtain ⟨i, hi, _⟩ := Option.map_eq_some_iff.1 info99; exact ⟨i, hi⟩
theorem info100 : (Try.prog.info? 100).map (·.size) = some 3 := by kernel_rfl
theorem inf100 : ∃ i, Try.prog.info? 100 = some i := by obtain ⟨i, hi, _⟩ := Option.map_eq_some_iff.1 info100; exact ⟨i, hi⟩
theorem info101 : (Try.prog.info? 101).map (·.size) = some 3 := by kernel_rfl
theorem inf101 : ∃ i, Try.prog.info? 101 = some i := by obtain ⟨i, hi, _⟩ := Option.map_eq_some_iff.1 info101; exact ⟨i, hi⟩
theorem f101_0 : ∀ w a, (Instr.fieldAt 101 (.pointer (some a)) 0).run Try.prog w = .ok (.pointer (some (a.add 0))) w := run_fieldAt (f := 0) (off := 0) (sz := 2) Try.underlying101 rfl rfl (by kernel_rfl)
theorem info102 : (Try.prog.info? 102).map (·.size) = some 1 := by kernel_rfl
theorem inf102 : ∃ i, Try.prog.info? 102 = some i := by obtain ⟨i, hi, _⟩ := Option.map_eq_some_iff.1 info102; exact ⟨i, hi⟩
theorem info103 : (Try.prog.info? 103).map (·.size) = some 1 := by kernel_rfl
theorem inf103 : ∃ i, Try.prog.info? 103 = some i := by obtain ⟨i, hi, _⟩ := Option.map_eq_some_iff.1 info103; exact ⟨i, hi⟩
theorem info104 : (Try.prog.info? 104).map (·.size) = some 1 := by kernel_rfl
theorem inf104 : ∃ i, Try.prog.info? 104 = some i := by obtain ⟨i, hi, _⟩ := Option.map_eq_some_iff.1 info104; exact ⟨i, hi⟩
theorem info105 : (Try.prog.info? 105).map (·.size) = some 1 := by kernel_rfl
theorem inf105 : ∃ i, Try.prog.info? 105 = some i := by obtain ⟨i, hi, _⟩ := Option.map_eq_some_iff.1 info105; exact ⟨i, hi⟩
theorem info106 : (Try.prog.info? 106).map (·.size) = some 1 := by kernel_rfl
theorem inf106 : ∃ i, Try.prog.info? 106 = some i := by obtain ⟨i, hi, _⟩ := Option.map_eq_some_iff.1 info106; exact ⟨i, hi⟩
theorem info107 : (Try.prog.info? 107).map (·.size) = some 1 := by kernel_rfl
theorem inf107 : ∃ i, Try.prog.info? 107 = some i := by obtain ⟨i, hi, _⟩ := Option.map_eq_some_iff.1 info107; exact ⟨i, hi⟩
theorem info109 : (Try.prog.info? 109).map (·.size) = some 1 := by kernel_rfl
theorem inf109 : ∃ i, Try.prog.info? 109 = some i := by obtain ⟨i, hi, _⟩ := Option.map_eq_some_iff.1 info109; exact ⟨i, hi⟩
theorem info110 : (Try.prog.info? 110).map (·.size) = some 1 := by kernel_rfl
theorem inf110 : ∃ i, Try.prog.info? 110 = some i := by obtain ⟨i, hi, _⟩ := Option.map_eq_some_iff.1 info110; exact ⟨i, hi⟩
theorem info111 : (Try.prog.info? 111).map (·.size) = some 4 := by kernel_rfl
theorem inf111 : ∃ i, Try.prog.info? 111 = some i := by obtain ⟨i, hi, _⟩ := Option.map_eq_some_iff.1 info111; exact ⟨i, hi⟩
theorem info112 : (Try.prog.info? 112).map (·.size) = some 1 := by kernel_rfl
theorem inf112 : ∃ i, Try.prog.info? 112 = some i := by obtain ⟨i, hi, _⟩ := Option.map_eq_some_iff.1 info112; exact ⟨i, hi⟩
theorem info114 : (Try.prog.info? 114).map (·.size) = some 1 := by kernel_rfl
theorem inf114 : ∃ i, Try.prog.info? 114 = some i := by obtain ⟨i, hi, _⟩ := Option.map_eq_some_iff.1 info114; exact ⟨i, hi⟩
theorem info115 : (Try.prog.info? 115).map (·.size) = some 1 := by kernel_rfl
theorem inf115 : ∃ i, Try.prog.info? 115 = some i := by obtain ⟨i, hi, _⟩ := Option.map_eq_some_iff.1 info115; exact ⟨i, hi⟩
theorem info116 : (Try.prog.info? 116).map (·.size) = some 1 := by kernel_rfl
theorem inf116 : ∃ i, Try.prog.info? 116 = some i := by obtain ⟨i, hi, _⟩ := Option.map_eq_some_iff.1 info116; exact ⟨i, hi⟩
theorem f116_0 : ∀ w a, (Instr.fieldAt 116 (.pointer (some a)) 0).run Try.prog w = .ok (.pointer (some (a.add 0))) w := run_fieldAt (f := 0) (off := 0) (sz := 0) Try.underlying116 rfl rfl (by kernel_rfl)
theorem info117 : (Try.prog.info? 117).map (·.size) = some 1 := by kernel_rfl
theorem inf117 : ∃ i, Try.prog.info? 117 = some i := by obtain ⟨i, hi, _⟩ := Option.map_eq_some_iff.1 info117; exact ⟨i, hi⟩
theorem info119 : (Try.prog.info? 119).map (·.size) = some 1 := by kernel_rfl
theorem inf119 : ∃ i, Try.prog.info? 119 = some i := by obtain ⟨i, hi, _⟩ := Option.map_eq_some_iff.1 info119; exact ⟨i, hi⟩
theorem info120 : (Try.prog.info? 120).map (·.size) = some 5 := by kernel_rfl
theorem inf120 : ∃ i, Try.prog.info? 120 = some i := by obtain ⟨i, hi, _⟩ := Option.map_eq_some_iff.1 info120; exact ⟨i, hi⟩
theorem info121 : (Try.prog.info? 121).map (·.size) = some 5 := by kernel_rfl
theorem inf121 : ∃ i, Try.prog.info? 121 = some i := by obtain ⟨i, hi, _⟩ := Option.map_eq_some_iff.1 info121; exact ⟨i, hi⟩
theorem f121_0 : ∀ w a, (Instr.fieldAt 121 (.pointer (some a)) 0).run Try.prog w = .ok (.pointer (some (a.add 0))) w := run_fieldAt (f := 0) (off := 0) (sz := 4) Try.underlying121 rfl rfl (by kernel_rfl)
theorem info122 : (Try.prog.info? 122).map (·.size) = some 1 := by kernel_rfl
theorem inf122 : ∃ i, Try.prog.info? 122 = some i := by obtain ⟨i, hi, _⟩ := Option.map_eq_some_iff.1 info122; exact ⟨i, hi⟩
theorem info123 : (Try.prog.info? 123).map (·.size) = some 1 := by kernel_rfl
theorem inf123 : ∃ i, Try.prog.info? 123 = some i := by obtain ⟨i, hi, _⟩ := Option.map_eq_some_iff.1 info123; exact ⟨i, hi⟩
theorem info124 : (Try.prog.info? 124).map (·.size) = some 1 := by kernel_rfl
theorem inf124 : ∃ i, Try.prog.info? 124 = some i := by obtain ⟨i, hi, _⟩ := Option.map_eq_some_iff.1 info124; exact ⟨i, hi⟩
theorem info125 : (Try.prog.info? 125).map (·.size) = some 1 := by kernel_rfl
theorem inf125 : ∃ i, Try.prog.info? 125 = some i := by obtain ⟨i, hi, _⟩ := Option.map_eq_some_iff.1 info125; exact ⟨i, hi⟩
theorem info126 : (Try.prog.info? 126).map (·.size) = some 5 := by kernel_rfl
theorem inf126 : ∃ i, Try.prog.info? 126 = some i := by obtain ⟨i, hi, _⟩ := Option.map_eq_some_iff.1 info126; exact ⟨i, hi⟩
theorem info127 : (Try.prog.info? 127).map (·.size) = some 5 := by kernel_rfl
theorem inf127 : ∃ i, Try.prog.info? 127 = some i := by obtain ⟨i, hi, _⟩ := Option.map_eq_some_iff.1 info127; exact ⟨i, hi⟩
theorem f127_0 : ∀ w a, (Instr.fieldAt 127 (.pointer (some a)) 0).run Try.prog w = .ok (.pointer (some (a.add 0))) w := run_fieldAt (f := 0) (off := 0) (sz := 0) Try.underlying127 rfl rfl (by kernel_rfl)
theorem f127_1 : ∀ w a, (Instr.fieldAt 127 (.pointer (some a)) 1).run Try.prog w = .ok (.pointer (some (a.add 1))) w := run_fieldAt (f := 1) (off := 1) (sz := 3) Try.underlying127 rfl rfl (by kernel_rfl)
theorem info128 : (Try.prog.info? 128).map (·.size) = some 1 := by kernel_rfl
theorem inf128 : ∃ i, Try.prog.info? 128 = some i := by obtain ⟨i, hi, _⟩ := Option.map_eq_some_iff.1 info128; exact ⟨i, hi⟩
theorem info129 : (Try.prog.info? 129).map (·.size) = some 2 := by kernel_rfl
theorem inf129 : ∃ i, Try.prog.info? 129 = some i := by obtain ⟨i, hi, _⟩ := Option.map_eq_some_iff.1 info129; exact ⟨i, hi⟩
theorem info130 : (Try.prog.info? 130).map (·.size) = some 2 := by kernel_rfl
theorem inf130 : ∃ i, Try.prog.info? 130 = some i := by obtain ⟨i, hi, _⟩ := Option.map_eq_some_iff.1 info130; exact ⟨i, hi⟩
theorem f130_0 : ∀ w a, (Instr.fieldAt 130 (.pointer (some a)) 0).run Try.prog w = .ok (.pointer (some (a.add 0))) w := run_fieldAt (f := 0) (off := 0) (sz := 1) Try.underlying130 rfl rfl (by kernel_rfl)
theorem info131 : (Try.prog.info? 131).map (·.size) = some 1 := by kernel_rfl
theorem inf131 : ∃ i, Try.prog.info? 131 = some i := by obtain ⟨i, hi, _⟩ := Option.map_eq_some_iff.1 info131; exact ⟨i, hi⟩
theorem info133 : (Try.prog.info? 133).map (·.size) = some 1 := by kernel_rfl
theorem inf133 : ∃ i, Try.prog.info? 133 = some i := by obtain ⟨i, hi, _⟩ := Option.map_eq_some_iff.1 info133; exact ⟨i, hi⟩
theorem info134 : (Try.prog.info? 134).map (·.size) = some 1 := by kernel_rfl
theorem inf134 : ∃ i, Try.prog.info? 134 = some i := by obtain ⟨i, hi, _⟩ := Option.map_eq_some_iff.1 info134; exact ⟨i, hi⟩
theorem info135 : (Try.prog.info? 135).map (·.size) = some 1 := by kernel_rfl
theorem inf135 : ∃ i, Try.prog.info? 135 = some i := by obtain ⟨i, hi, _⟩ := Option.map_eq_some_iff.1 info135; exact ⟨i, hi⟩
theorem info136 : (Try.prog.info? 136).map (·.size) = some 1 := by kernel_rfl
theorem inf136 : ∃ i, Try.prog.info? 136 = some i := by obtain ⟨i, hi, _⟩ := Option.map_eq_some_iff.1 info136; exact ⟨i, hi⟩
theorem info137 : (Try.prog.info? 137).map (·.size) = some 1 := by kernel_rfl
theorem inf137 : ∃ i, Try.prog.info? 137 = some i := by obtain ⟨i, hi, _⟩ := Option.map_eq_some_iff.1 info137; exact ⟨i, hi⟩
theorem info138 : (Try.prog.info? 138).map (·.size) = some 4 := by kernel_rfl
theorem inf138 : ∃ i, Try.prog.info? 138 = some i := by obtain ⟨i, hi, _⟩ := Option.map_eq_some_iff.1 info138; exact ⟨i, hi⟩
theorem info139 : (Try.prog.info? 139).map (·.size) = some 4 := by kernel_rfl
theorem inf139 : ∃ i, Try.prog.info? 139 = some i := by obtain ⟨i, hi, _⟩ := Option.map_eq_some_iff.1 info139; exact ⟨i, hi⟩
theorem f139_0 : ∀ w a, (Instr.fieldAt 139 (.pointer (some a)) 0).run Try.prog w = .ok (.pointer (some (a.add 0))) w := run_fieldAt (f := 0) (off := 0) (sz := 3) Try.underlying139 rfl rfl (by kernel_rfl)
theorem info140 : (Try.prog.info? 140).map (·.size) = some 1 := by kernel_rfl
theorem inf140 : ∃ i, Try.prog.info? 140 = some i := by obtain ⟨i, hi, _⟩ := Option.map_eq_some_iff.1 info140; exact ⟨i, hi⟩
theorem info141 : (Try.prog.info? 141).map (·.size) = some 1 := by kernel_rfl
theorem inf141 : ∃ i, Try.prog.info? 141 = some i := by obtain ⟨i, hi, _⟩ := Option.map_eq_some_iff.1 info141; exact ⟨i, hi⟩
theorem info142 : (Try.prog.info? 142).map (·.size) = some 1 := by kernel_rfl
theorem inf142 : ∃ i, Try.prog.info? 142 = some i := by obtain ⟨i, hi, _⟩ := Option.map_eq_some_iff.1 info142; exact ⟨i, hi⟩
theorem info143 : (Try.prog.info? 143).map (·.size) = some 1 := by kernel_rfl
theorem inf143 : ∃ i, Try.prog.info? 143 = some i := by obtain ⟨i, hi, _⟩ := Option.map_eq_some_iff.1 info143; exact ⟨i, hi⟩
theorem info144 : (Try.prog.info? 144).map (·.size) = some 1 := by kernel_rfl
theorem inf144 : ∃ i, Try.prog.info? 144 = some i := by obtain ⟨i, hi, _⟩ := Option.map_eq_some_iff.1 info144; exact ⟨i, hi⟩
theorem info145 : (Try.prog.info? 145).map (·.size) = some 1 := by kernel_rfl
theorem inf145 : ∃ i, Try.prog.info? 145 = some i := by obtain ⟨i, hi, _⟩ := Option.map_eq_some_iff.1 info145; exact ⟨i, hi⟩
theorem info146 : (Try.prog.info? 146).map (·.size) = some 1 := by kernel_rfl
theorem inf146 : ∃ i, Try.prog.info? 146 = some i := by obtain ⟨i, hi, _⟩ := Option.map_eq_some_iff.1 info146; exact ⟨i, hi⟩
theorem info147 : (Try.prog.info? 147).map (·.size) = some 1 := by kernel_rfl
theorem inf147 : ∃ i, Try.prog.info? 147 = some i := by obtain ⟨i, hi, _⟩ := Option.map_eq_some_iff.1 info147; exact ⟨i, hi⟩
theorem info149 : (Try.prog.info? 149).map (·.size) = some 1 := by kernel_rfl
theorem inf149 : ∃ i, Try.prog.info? 149 = some i := by obtain ⟨i, hi, _⟩ := Option.map_eq_some_iff.1 info149; exact ⟨i, hi⟩
theorem info150 : (Try.prog.info? 150).map (·.size) = some 2 := by kernel_rfl
theorem inf150 : ∃ i, Try.prog.info? 150 = some i := by obtain ⟨i, hi, _⟩ := Option.map_eq_some_iff.1 info150; exact ⟨i, hi⟩
theorem info151 : (Try.prog.info? 151).map (·.size) = some 2 := by kernel_rfl
theorem inf151 : ∃ i, Try.prog.info? 151 = some i := by obtain ⟨i, hi, _⟩ := Option.map_eq_some_iff.1 info151; exact ⟨i, hi⟩
theorem f151_0 : ∀ w a, (Instr.fieldAt 151 (.pointer (some a)) 0).run Try.prog w = .ok (.pointer (some (a.add 0))) w := run_fieldAt (f := 0) (off := 0) (sz := 0) Try.underlying151 rfl rfl (by kernel_rfl)
theorem f151_1 : ∀ w a, (Instr.fieldAt 151 (.pointer (some a)) 1).run Try.prog w = .ok (.pointer (some (a.add 1))) w := run_fieldAt (f := 1) (off := 1) (sz := 0) Try.underlying151 rfl rfl (by kernel_rfl)
theorem info152 : (Try.prog.info? 152).map (·.size) = some 1 := by kernel_rfl
theorem inf152 : ∃ i, Try.prog.info? 152 = some i := by obtain ⟨i, hi, _⟩ := Option.map_eq_some_iff.1 info152; exact ⟨i, hi⟩
theorem info154 : (Try.prog.info? 154).map (·.size) = some 1 := by kernel_rfl
theorem inf154 : ∃ i, Try.prog.info? 154 = some i := by obtain ⟨i, hi, _⟩ := Option.map_eq_some_iff.1 info154; exact ⟨i, hi⟩
theorem info160 : (Try.prog.info? 160).map (·.size) = some 1 := by kernel_rfl
theorem inf160 : ∃ i, Try.prog.info? 160 = some i := by obtain ⟨i, hi, _⟩ := Option.map_eq_some_iff.1 info160; exact ⟨i, hi⟩
theorem info164 : (Try.prog.info? 164).map (·.size) = some 1 := by kernel_rfl
theorem inf164 : ∃ i, Try.prog.info? 164 = some i := by obtain ⟨i, hi, _⟩ := Option.map_eq_some_iff.1 info164; exact ⟨i, hi⟩
theorem he3 : ∀ args w, (callFunc 3 args).run Try.prog w = .ok (.enter 3 args) w := enters Try.func3 (by kernel_rfl) rfl
theorem he4 : ∀ args w, (callFunc 4 args).run Try.prog w = .ok (.enter 4 args) w := enters Try.func4 (by kernel_rfl) rfl
theorem he5 : ∀ args w, (callFunc 5 args).run Try.prog w = .ok (.enter 5 args) w := enters Try.func5 (by kernel_rfl) rfl
theorem he6 : ∀ args w, (callFunc 6 args).run Try.prog w = .ok (.enter 6 args) w := enters Try.func6 (by kernel_rfl) rfl
theorem he7 : ∀ args w, (callFunc 7 args).run Try.prog w = .ok (.enter 7 args) w := enters Try.func7 (by kernel_rfl) rfl
theorem he8 : ∀ args w, (callFunc 8 args).run Try.prog w = .ok (.enter 8 args) w := enters Try.func8 (by kernel_rfl) rfl
theorem he9 : ∀ args w, (callFunc 9 args).run Try.prog w = .ok (.enter 9 args) w := enters Try.func9 (by kernel_rfl) rfl
theorem he10 : ∀ args w, (callFunc 10 args).run Try.prog w = .ok (.enter 10 args) w := enters Try.func10 (by kernel_rfl) rfl
theorem he11 : ∀ args w, (callFunc 11 args).run Try.prog w = .ok (.enter 11 args) w := enters Try.func11 (by kernel_rfl) rfl
theorem he12 : ∀ args w, (callFunc 12 args).run Try.prog w = .ok (.enter 12 args) w := enters Try.func12 (by kernel_rfl) rfl
theorem he13 : ∀ args w, (callFunc 13 args).run Try.prog w = .ok (.enter 13 args) w := enters Try.func13 (by kernel_rfl) rfl
theorem he14 : ∀ args w, (callFunc 14 args).run Try.prog w = .ok (.enter 14 args) w := enters Try.func14 (by kernel_rfl) rfl
theorem he15 : ∀ args w, (callFunc 15 args).run Try.prog w = .ok (.enter 15 args) w := enters Try.func15 (by kernel_rfl) rfl
theorem he16 : ∀ args w, (callFunc 16 args).run Try.prog w = .ok (.enter 16 args) w := enters Try.func16 (by kernel_rfl) rfl
theorem he17 : ∀ args w, (callFunc 17 args).run Try.prog w = .ok (.enter 17 args) w := enters Try.func17 (by kernel_rfl) rfl
theorem he18 : ∀ args w, (callFunc 18 args).run Try.prog w = .ok (.enter 18 args) w := enters Try.func18 (by kernel_rfl) rfl
theorem he19 : ∀ args w, (callFunc 19 args).run Try.prog w = .ok (.enter 19 args) w := enters Try.func19 (by kernel_rfl) rfl
theorem he20 : ∀ args w, (callFunc 20 args).run Try.prog w = .ok (.enter 20 args) w := enters Try.func20 (by kernel_rfl) rfl
theorem he21 : ∀ args w, (callFunc 21 args).run Try.prog w = .ok (.enter 21 args) w := enters Try.func21 (by kernel_rfl) rfl
theorem he22 : ∀ args w, (callFunc 22 args).run Try.prog w = .ok (.enter 22 args) w := enters Try.func22 (by kernel_rfl) rfl
theorem he23 : ∀ args w, (callFunc 23 args).run Try.prog w = .ok (.enter 23 args) w := enters Try.func23 (by kernel_rfl) rfl
theorem he24 : ∀ args w, (callFunc 24 args).run Try.prog w = .ok (.enter 24 args) w := enters Try.func24 (by kernel_rfl) rfl
theorem he25 : ∀ args w, (callFunc 25 args).run Try.prog w = .ok (.enter 25 args) w := enters Try.func25 (by kernel_rfl) rfl
theorem he26 : ∀ args w, (callFunc 26 args).run Try.prog w = .ok (.enter 26 args) w := enters Try.func26 (by kernel_rfl) rfl
theorem he27 : ∀ args w, (callFunc 27 args).run Try.prog w = .ok (.enter 27 args) w := enters Try.func27 (by kernel_rfl) rfl
theorem he28 : ∀ args w, (callFunc 28 args).run Try.prog w = .ok (.enter 28 args) w := enters Try.func28 (by kernel_rfl) rfl
theorem he29 : ∀ args w, (callFunc 29 args).run Try.prog w = .ok (.enter 29 args) w := enters Try.func29 (by kernel_rfl) rfl
theorem he30 : ∀ args w, (callFunc 30 args).run Try.prog w = .ok (.enter 30 args) w := enters Try.func30 (by kernel_rfl) rfl
theorem he31 : ∀ args w, (callFunc 31 args).run Try.prog w = .ok (.enter 31 args) w := enters Try.func31 (by kernel_rfl) rfl
theorem he32 : ∀ args w, (callFunc 32 args).run Try.prog w = .ok (.enter 32 args) w := enters Try.func32 (by kernel_rfl) rfl
theorem he33 : ∀ args w, (callFunc 33 args).run Try.prog w = .ok (.enter 33 args) w := enters Try.func33 (by kernel_rfl) rfl
theorem he34 : ∀ args w, (callFunc 34 args).run Try.prog w = .ok (.enter 34 args) w := enters Try.func34 (by kernel_rfl) rfl
theorem he35 : ∀ args w, (callFunc 35 args).run Try.prog w = .ok (.enter 35 args) w := enters Try.func35 (by kernel_rfl) rfl
theorem he36 : ∀ args w, (callFunc 36 args).run Try.prog w = .ok (.enter 36 args) w := enters Try.func36 (by kernel_rfl) rfl
theorem he37 : ∀ args w, (callFunc 37 args).run Try.prog w = .ok (.enter 37 args) w := enters Try.func37 (by kernel_rfl) rfl
theorem he38 : ∀ args w, (callFunc 38 args).run Try.prog w = .ok (.enter 38 args) w := enters Try.func38 (by kernel_rfl) rfl
theorem he39 : ∀ args w, (callFunc 39 args).run Try.prog w = .ok (.enter 39 args) w := enters Try.func39 (by kernel_rfl) rfl
theorem he40 : ∀ args w, (callFunc 40 args).run Try.prog w = .ok (.enter 40 args) w := enters Try.func40 (by kernel_rfl) rfl
theorem he41 : ∀ args w, (callFunc 41 args).run Try.prog w = .ok (.enter 41 args) w := enters Try.func41 (by kernel_rfl) rfl
theorem he42 : ∀ args w, (callFunc 42 args).run Try.prog w = .ok (.enter 42 args) w := enters Try.func42 (by kernel_rfl) rfl
theorem he43 : ∀ args w, (callFunc 43 args).run Try.prog w = .ok (.enter 43 args) w := enters Try.func43 (by kernel_rfl) rfl
theorem he44 : ∀ args w, (callFunc 44 args).run Try.prog w = .ok (.enter 44 args) w := enters Try.func44 (by kernel_rfl) rfl
theorem he45 : ∀ args w, (callFunc 45 args).run Try.prog w = .ok (.enter 45 args) w := enters Try.func45 (by kernel_rfl) rfl
theorem he46 : ∀ args w, (callFunc 46 args).run Try.prog w = .ok (.enter 46 args) w := enters Try.func46 (by kernel_rfl) rfl
theorem he47 : ∀ args w, (callFunc 47 args).run Try.prog w = .ok (.enter 47 args) w := enters Try.func47 (by kernel_rfl) rfl
theorem he48 : ∀ args w, (callFunc 48 args).run Try.prog w = .ok (.enter 48 args) w := enters Try.func48 (by kernel_rfl) rfl
theorem he49 : ∀ args w, (callFunc 49 args).run Try.prog w = .ok (.enter 49 args) w := enters Try.func49 (by kernel_rfl) rfl
theorem he50 : ∀ args w, (callFunc 50 args).run Try.prog w = .ok (.enter 50 args) w := enters Try.func50 (by kernel_rfl) rfl
theorem he51 : ∀ args w, (callFunc 51 args).run Try.prog w = .ok (.enter 51 args) w := enters Try.func51 (by kernel_rfl) rfl
theorem he52 : ∀ args w, (callFunc 52 args).run Try.prog w = .ok (.enter 52 args) w := enters Try.func52 (by kernel_rfl) rfl
theorem he53 : ∀ args w, (callFunc 53 args).run Try.prog w = .ok (.enter 53 args) w := enters Try.func53 (by kernel_rfl) rfl
theorem he54 : ∀ args w, (callFunc 54 args).run Try.prog w = .ok (.enter 54 args) w := enters Try.func54 (by kernel_rfl) rfl
theorem he55 : ∀ args w, (callFunc 55 args).run Try.prog w = .ok (.enter 55 args) w := enters Try.func55 (by kernel_rfl) rfl
theorem he56 : ∀ args w, (callFunc 56 args).run Try.prog w = .ok (.enter 56 args) w := enters Try.func56 (by kernel_rfl) rfl
theorem he57 : ∀ args w, (callFunc 57 args).run Try.prog w = .ok (.enter 57 args) w := enters Try.func57 (by kernel_rfl) rfl
theorem he58 : ∀ args w, (callFunc 58 args).run Try.prog w = .ok (.enter 58 args) w := enters Try.func58 (by kernel_rfl) rfl
theorem he59 : ∀ args w, (callFunc 59 args).run Try.prog w = .ok (.enter 59 args) w := enters Try.func59 (by kernel_rfl) rfl
theorem he60 : ∀ args w, (callFunc 60 args).run Try.prog w = .ok (.enter 60 args) w := enters Try.func60 (by kernel_rfl) rfl
theorem he61 : ∀ args w, (callFunc 61 args).run Try.prog w = .ok (.enter 61 args) w := enters Try.func61 (by kernel_rfl) rfl
theorem he62 : ∀ args w, (callFunc 62 args).run Try.prog w = .ok (.enter 62 args) w := enters Try.func62 (by kernel_rfl) rfl
theorem he63 : ∀ args w, (callFunc 63 args).run Try.prog w = .ok (.enter 63 args) w := enters Try.func63 (by kernel_rfl) rfl
theorem he64 : ∀ args w, (callFunc 64 args).run Try.prog w = .ok (.enter 64 args) w := enters Try.func64 (by kernel_rfl) rfl
theorem he65 : ∀ args w, (callFunc 65 args).run Try.prog w = .ok (.enter 65 args) w := enters Try.func65 (by kernel_rfl) rfl
theorem he66 : ∀ args w, (callFunc 66 args).run Try.prog w = .ok (.enter 66 args) w := enters Try.func66 (by kernel_rfl) rfl
theorem he67 : ∀ args w, (callFunc 67 args).run Try.prog w = .ok (.enter 67 args) w := enters Try.func67 (by kernel_rfl) rfl
theorem he68 : ∀ args w, (callFunc 68 args).run Try.prog w = .ok (.enter 68 args) w := enters Try.func68 (by kernel_rfl) rfl
theorem he69 : ∀ args w, (callFunc 69 args).run Try.prog w = .ok (.enter 69 args) w := enters Try.func69 (by kernel_rfl) rfl
theorem he70 : ∀ args w, (callFunc 70 args).run Try.prog w = .ok (.enter 70 args) w := enters Try.func70 (by kernel_rfl) rfl
theorem he71 : ∀ args w, (callFunc 71 args).run Try.prog w = .ok (.enter 71 args) w := enters Try.func71 (by kernel_rfl) rfl
theorem he72 : ∀ args w, (callFunc 72 args).run Try.prog w = .ok (.enter 72 args) w := enters Try.func72 (by kernel_rfl) rfl
theorem he73 : ∀ args w, (callFunc 73 args).run Try.prog w = .ok (.enter 73 args) w := enters Try.func73 (by kernel_rfl) rfl
theorem he74 : ∀ args w, (callFunc 74 args).run Try.prog w = .ok (.enter 74 args) w := enters Try.func74 (by kernel_rfl) rfl
theorem he75 : ∀ args w, (callFunc 75 args).run Try.prog w = .ok (.enter 75 args) w := enters Try.func75 (by kernel_rfl) rfl
theorem he76 : ∀ args w, (callFunc 76 args).run Try.prog w = .ok (.enter 76 args) w := enters Try.func76 (by kernel_rfl) rfl
theorem he77 : ∀ args w, (callFunc 77 args).run Try.prog w = .ok (.enter 77 args) w := enters Try.func77 (by kernel_rfl) rfl
theorem he78 : ∀ args w, (callFunc 78 args).run Try.prog w = .ok (.enter 78 args) w := enters Try.func78 (by kernel_rfl) rfl
theorem he79 : ∀ args w, (callFunc 79 args).run Try.prog w = .ok (.enter 79 args) w := enters Try.func79 (by kernel_rfl) rfl
theorem he80 : ∀ args w, (callFunc 80 args).run Try.prog w = .ok (.enter 80 args) w := enters Try.func80 (by kernel_rfl) rfl
theorem he81 : ∀ args w, (callFunc 81 args).run Try.prog w = .ok (.enter 81 args) w := enters Try.func81 (by kernel_rfl) rfl
theorem he82 : ∀ args w, (callFunc 82 args).run Try.prog w = .ok (.enter 82 args) w := enters Try.func82 (by kernel_rfl) rfl
theorem he83 : ∀ args w, (callFunc 83 args).run Try.prog w = .ok (.enter 83 args) w := enters Try.func83 (by kernel_rfl) rfl
theorem he84 : ∀ args w, (callFunc 84 args).run Try.prog w = .ok (.enter 84 args) w := enters Try.func84 (by kernel_rfl) rfl
theorem he85 : ∀ args w, (callFunc 85 args).run Try.prog w = .ok (.enter 85 args) w := enters Try.func85 (by kernel_rfl) rfl
theorem he86 : ∀ args w, (callFunc 86 args).run Try.prog w = .ok (.enter 86 args) w := enters Try.func86 (by kernel_rfl) rfl
theorem he87 : ∀ args w, (callFunc 87 args).run Try.prog w = .ok (.enter 87 args) w := enters Try.func87 (by kernel_rfl) rfl
theorem he88 : ∀ args w, (callFunc 88 args).run Try.prog w = .ok (.enter 88 args) w := enters Try.func88 (by kernel_rfl) rfl
theorem he89 : ∀ args w, (callFunc 89 args).run Try.prog w = .ok (.enter 89 args) w := enters Try.func89 (by kernel_rfl) rfl
theorem he90 : ∀ args w, (callFunc 90 args).run Try.prog w = .ok (.enter 90 args) w := enters Try.func90 (by kernel_rfl) rfl
theorem he91 : ∀ args w, (callFunc 91 args).run Try.prog w = .ok (.enter 91 args) w := enters Try.func91 (by kernel_rfl) rfl
theorem he92 : ∀ args w, (callFunc 92 args).run Try.prog w = .ok (.enter 92 args) w := enters Try.func92 (by kernel_rfl) rfl
theorem he93 : ∀ args w, (callFunc 93 args).run Try.prog w = .ok (.enter 93 args) w := enters Try.func93 (by kernel_rfl) rfl
theorem he94 : ∀ args w, (callFunc 94 args).run Try.prog w = .ok (.enter 94 args) w := enters Try.func94 (by kernel_rfl) rfl
theorem he95 : ∀ args w, (callFunc 95 args).run Try.prog w = .ok (.enter 95 args) w := enters Try.func95 (by kernel_rfl) rfl
theorem he96 : ∀ args w, (callFunc 96 args).run Try.prog w = .ok (.enter 96 args) w := enters Try.func96 (by kernel_rfl) rfl
theorem he97 : ∀ args w, (callFunc 97 args).run Try.prog w = .ok (.enter 97 args) w := enters Try.func97 (by kernel_rfl) rfl
theorem he98 : ∀ args w, (callFunc 98 args).run Try.prog w = .ok (.enter 98 args) w := enters Try.func98 (by kernel_rfl) rfl
theorem he99 : ∀ args w, (callFunc 99 args).run Try.prog w = .ok (.enter 99 args) w := enters Try.func99 (by kernel_rfl) rfl
end Go.Proofs.F
