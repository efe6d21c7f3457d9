import Derived.Test.YtpagjhigaicfpaaDoorEx5
import Derived.Test.YtpagjhigaicfpaaDoorProg
import Derived.KernelRfl
set_option linter.unusedSectionVars false
set_option linter.unusedVariables false
set_option linter.unusedSimpArgs false
set_option linter.unusedVariables false
set_option linter.unusedSimpArgs false
set_option maxRecDepth 100000
set_option maxHeartbeats 4000000
set_option pp.maxSteps 400
namespace Go.Av
open Go Go.Proofs
@[go_sem] theorem af35 : allFld Tryd.prog 35 = true := by kernel_rfl
@[go_sem] theorem af37 : allFld Tryd.prog 37 = true := by kernel_rfl
@[go_sem] theorem ag3 : aggOf Tryd.prog 3 = some false := by kernel_rfl
@[go_sem] theorem ag35 : aggOf Tryd.prog 35 = some true := by kernel_rfl
@[go_sem] theorem ag37 : aggOf Tryd.prog 37 = some true := by kernel_rfl
@[go_sem] theorem ag5 : aggOf Tryd.prog 5 = some false := by kernel_rfl
@[go_sem] theorem ag53 : aggOf Tryd.prog 53 = some false := by kernel_rfl
@[go_sem] theorem ag9 : aggOf Tryd.prog 9 = some false := by kernel_rfl
@[go_sem] theorem bl35 : isBldT Tryd.prog 35 = none := by kernel_rfl
@[go_sem] theorem bl37 : isBldT Tryd.prog 37 = none := by kernel_rfl
@[go_sem] theorem bl80 : isBldT Tryd.prog 80 = some 5 := by kernel_rfl
@[go_sem] theorem el23 : elOf Tryd.prog 23 = some ⟨37, 3, true, 32⟩ := by kernel_rfl
@[go_sem] theorem el28 : elOf Tryd.prog 28 = some ⟨35, 3, true, 32⟩ := by kernel_rfl
@[go_sem] theorem el45 : elOf Tryd.prog 45 = some ⟨9, 1, false, 16⟩ := by kernel_rfl
@[go_sem] theorem el53 : elOf Tryd.prog 53 = some ⟨5, 1, false, 1⟩ := by kernel_rfl
@[go_sem] theorem fd35_0 : fldOf Tryd.prog 35 0 = some (0, 1, false) := by kernel_rfl
@[go_sem] theorem fd35_1 : fldOf Tryd.prog 35 1 = some (1, 1, false) := by kernel_rfl
@[go_sem] theorem fd35_2 : fldOf Tryd.prog 35 2 = some (2, 1, false) := by kernel_rfl
@[go_sem] theorem fd37_0 : fldOf Tryd.prog 37 0 = some (0, 1, false) := by kernel_rfl
@[go_sem] theorem fd37_1 : fldOf Tryd.prog 37 1 = some (1, 1, false) := by kernel_rfl
@[go_sem] theorem fd37_2 : fldOf Tryd.prog 37 2 = some (2, 1, false) := by kernel_rfl
@[go_sem] theorem fd80_1 : fldOf Tryd.prog 80 1 = some (1, 1, false) := by kernel_rfl
@[go_sem] theorem fl37 : flatSt Tryd.prog 37 = some [4, 1, 4] := by kernel_rfl
theorem hf11 : Tryd.prog.funcs[11]? = some Tryd.f11 := by kernel_rfl
theorem hf12 : Tryd.prog.funcs[12]? = some Tryd.f12 := by kernel_rfl
theorem hf13 : Tryd.prog.funcs[13]? = some Tryd.f13 := by kernel_rfl
theorem hf14 : Tryd.prog.funcs[14]? = some Tryd.f14 := by kernel_rfl
theorem hf15 : Tryd.prog.funcs[15]? = some Tryd.f15 := by kernel_rfl
theorem hf16 : Tryd.prog.funcs[16]? = some Tryd.f16 := by kernel_rfl
theorem hf17 : Tryd.prog.funcs[17]? = some Tryd.f17 := by kernel_rfl
theorem hf18 : Tryd.prog.funcs[18]? = some Tryd.f18 := by kernel_rfl
theorem hf19 : Tryd.prog.funcs[19]? = some Tryd.f19 := by kernel_rfl
theorem hf20 : Tryd.prog.funcs[20]? = some Tryd.f20 := by kernel_rfl
theorem hf21 : Tryd.prog.funcs[21]? = some Tryd.f21 := by kernel_rfl
theorem hf23 : Tryd.prog.funcs[23]? = some Tryd.f23 := by kernel_rfl
theorem hf24 : Tryd.prog.funcs[24]? = some Tryd.f24 := by kernel_rfl
theorem hf25 : Tryd.prog.funcs[25]? = some Tryd.f25 := by kernel_rfl
theorem hf26 : Tryd.prog.funcs[26]? = some Tryd.f26 := by kernel_rfl
theorem hf27 : Tryd.prog.funcs[27]? = some Tryd.f27 := by kernel_rfl
theorem hf28 : Tryd.prog.funcs[28]? = some Tryd.f28 := by kernel_rfl
theorem hf3 : Tryd.prog.funcs[3]? = some Tryd.f3 := by kernel_rfl
theorem hf30 : Tryd.prog.funcs[30]? = some Tryd.f30 := by kernel_rfl
theorem hf31 : Tryd.prog.funcs[31]? = some Tryd.f31 := by kernel_rfl
theorem hf32 : Tryd.prog.funcs[32]? = some Tryd.f32 := by kernel_rfl
theorem hf33 : Tryd.prog.funcs[33]? = some Tryd.f33 := by kernel_rfl
theorem hf34 : Tryd.prog.funcs[34]? = some Tryd.f34 := by kernel_rfl
theorem hf35 : Tryd.prog.funcs[35]? = some Tryd.f35 := by kernel_rfl
theorem hf36 : Tryd.prog.funcs[36]? = some Tryd.f36 := by kernel_rfl
theorem hf4 : Tryd.prog.funcs[4]? = some Tryd.f4 := by kernel_rfl
theorem hf41 : Tryd.prog.funcs[41]? = some Tryd.f41 := by kernel_rfl
theorem hf47 : Tryd.prog.funcs[47]? = some Tryd.f47 := by kernel_rfl
theorem hf5 : Tryd.prog.funcs[5]? = some Tryd.f5 := by kernel_rfl
theorem hf6 : Tryd.prog.funcs[6]? = some Tryd.f6 := by kernel_rfl
theorem hf7 : Tryd.prog.funcs[7]? = some Tryd.f7 := by kernel_rfl
theorem hf8 : Tryd.prog.funcs[8]? = some Tryd.f8 := by kernel_rfl
theorem hf9 : Tryd.prog.funcs[9]? = some Tryd.f9 := by kernel_rfl
@[go_sem] theorem io3 : intOf? Tryd.prog 3 = some .i64 := by kernel_rfl
@[go_sem] theorem io5 : intOf? Tryd.prog 5 = some .u8 := by kernel_rfl
@[go_sem] theorem kd23 : kindOf Tryd.prog 23 = 2 := by kernel_rfl
@[go_sem] theorem kd25 : kindOf Tryd.prog 25 = 3 := by kernel_rfl
@[go_sem] theorem kd28 : kindOf Tryd.prog 28 = 2 := by kernel_rfl
@[go_sem] theorem kd3 : kindOf Tryd.prog 3 = 4 := by kernel_rfl
@[go_sem] theorem kd4 : kindOf Tryd.prog 4 = 6 := by kernel_rfl
@[go_sem] theorem kd45 : kindOf Tryd.prog 45 = 2 := by kernel_rfl
@[go_sem] theorem kd47 : kindOf Tryd.prog 47 = 4 := by kernel_rfl
@[go_sem] theorem kd5 : kindOf Tryd.prog 5 = 4 := by kernel_rfl
@[go_sem] theorem kd53 : kindOf Tryd.prog 53 = 2 := by kernel_rfl
@[go_sem] theorem kd9 : kindOf Tryd.prog 9 = 1 := by kernel_rfl
theorem ok11 : fOk Tryd.prog 11 2 = true := by kernel_rfl
theorem ok12 : fOk Tryd.prog 12 1 = true := by kernel_rfl
theorem ok13 : fOk Tryd.prog 13 1 = true := by kernel_rfl
theorem ok14 : fOk Tryd.prog 14 1 = true := by kernel_rfl
theorem ok15 : fOk Tryd.prog 15 1 = true := by kernel_rfl
theorem ok16 : fOk Tryd.prog 16 1 = true := by kernel_rfl
theorem ok17 : fOk Tryd.prog 17 2 = true := by kernel_rfl
theorem ok18 : fOk Tryd.prog 18 1 = true := by kernel_rfl
theorem ok19 : fOk Tryd.prog 19 1 = true := by kernel_rfl
theorem ok20 : fOk Tryd.prog 20 2 = true := by kernel_rfl
theorem ok21 : fOk Tryd.prog 21 1 = true := by kernel_rfl
theorem ok23 : fOk Tryd.prog 23 1 = true := by kernel_rfl
theorem ok24 : fOk Tryd.prog 24 2 = true := by kernel_rfl
theorem ok25 : fOk Tryd.prog 25 1 = true := by kernel_rfl
theorem ok26 : fOk Tryd.prog 26 1 = true := by kernel_rfl
theorem ok27 : fOk Tryd.prog 27 3 = true := by kernel_rfl
theorem ok28 : fOk Tryd.prog 28 1 = true := by kernel_rfl
theorem ok3 : fOk Tryd.prog 3 1 = true := by kernel_rfl
theorem ok30 : fOk Tryd.prog 30 1 = true := by kernel_rfl
theorem ok31 : fOk Tryd.prog 31 2 = true := by kernel_rfl
theorem ok32 : fOk Tryd.prog 32 1 = true := by kernel_rfl
theorem ok33 : fOk Tryd.prog 33 1 = true := by kernel_rfl
theorem ok34 : fOk Tryd.prog 34 1 = true := by kernel_rfl
theorem ok35 : fOk Tryd.prog 35 1 = true := by kernel_rfl
theorem ok36 : fOk Tryd.prog 36 1 = true := by kernel_rfl
theorem ok4 : fOk Tryd.prog 4 1 = true := by kernel_rfl
theorem ok41 : fOk Tryd.prog 41 1 = true := by kernel_rfl
theorem ok47 : fOk Tryd.prog 47 2 = true := by kernel_rfl
theorem ok5 : fOk Tryd.prog 5 1 = true := by kernel_rfl
theorem ok6 : fOk Tryd.prog 6 3 = true := by kernel_rfl
theorem ok7 : fOk Tryd.prog 7 0 = true := by kernel_rfl
theorem ok8 : fOk Tryd.prog 8 1 = true := by kernel_rfl
theorem ok9 : fOk Tryd.prog 9 1 = true := by kernel_rfl
@[go_sem] theorem sz3 : szOf Tryd.prog 3 = some 1 := by kernel_rfl
@[go_sem] theorem sz35 : szOf Tryd.prog 35 = some 3 := by kernel_rfl
@[go_sem] theorem sz37 : szOf Tryd.prog 37 = some 3 := by kernel_rfl
@[go_sem] theorem sz5 : szOf Tryd.prog 5 = some 1 := by kernel_rfl
@[go_sem] theorem sz53 : szOf Tryd.prog 53 = some 1 := by kernel_rfl
@[go_sem] theorem sz9 : szOf Tryd.prog 9 = some 1 := by kernel_rfl
@[go_sem] theorem u853 : u8El Tryd.prog 53 = true := by kernel_rfl
@[go_sem] theorem ze35 : zeroOf Tryd.prog 35 = some [.int .u8 0, .str [], .int .i64 0] := by kernel_rfl
@[go_sem] theorem ze37 : zeroOf Tryd.prog 37 = some [.int .u8 0, .str [], .int .i64 0] := by kernel_rfl
@[go_sem] theorem ze80 : zeroOf Tryd.prog 80 = some [.nilp, .sl none []] := by kernel_rfl
end Go.Av

