import Derived.Test.YteeokchpojaaoaaGreatDoorEx5
import Derived.Test.YteeokchpojaaoaaGreatDoorProg
import Derived.KernelRfl
set_option linter.unusedSectionVars false
set_option linter.unusedVariables false
set_option linter.unusedSimpArgs false
set_option linter.unusedVariables false
set_option linter.unusedSimpArgs false
set_option maxRecDepth 100000
set_option maxHeartbeats 4000000
set_option pp.maxSteps 400
namespace Go.Av
open Go Go.Proofs
@[go_sem] theorem af36 : allFld Tryz.prog 36 = true := by kernel_rfl
@[go_sem] theorem af40 : allFld Tryz.prog 40 = true := by kernel_rfl
@[go_sem] theorem af43 : allFld Tryz.prog 43 = true := by kernel_rfl
@[go_sem] theorem af52 : allFld Tryz.prog 52 = true := by kernel_rfl
@[go_sem] theorem af68 : allFld Tryz.prog 68 = true := by kernel_rfl
@[go_sem] theorem af76 : allFld Tryz.prog 76 = true := by kernel_rfl
@[go_sem] theorem af80 : allFld Tryz.prog 80 = true := by kernel_rfl
@[go_sem] theorem ag3 : aggOf Tryz.prog 3 = some false := by kernel_rfl
@[go_sem] theorem ag33 : aggOf Tryz.prog 33 = some false := by kernel_rfl
@[go_sem] theorem ag34 : aggOf Tryz.prog 34 = some false := by kernel_rfl
@[go_sem] theorem ag36 : aggOf Tryz.prog 36 = some true := by kernel_rfl
@[go_sem] theorem ag38 : aggOf Tryz.prog 38 = some false := by kernel_rfl
@[go_sem] theorem ag4 : aggOf Tryz.prog 4 = some false := by kernel_rfl
@[go_sem] theorem ag40 : aggOf Tryz.prog 40 = some true := by kernel_rfl
@[go_sem] theorem ag43 : aggOf Tryz.prog 43 = some true := by kernel_rfl
@[go_sem] theorem ag5 : aggOf Tryz.prog 5 = some false := by kernel_rfl
@[go_sem] theorem ag52 : aggOf Tryz.prog 52 = some true := by kernel_rfl
@[go_sem] theorem ag66 : aggOf Tryz.prog 66 = some false := by kernel_rfl
@[go_sem] theorem ag9 : aggOf Tryz.prog 9 = some false := by kernel_rfl
@[go_sem] theorem ar76 : arrOf Tryz.prog 76 = some 6 := by kernel_rfl
@[go_sem] theorem bl36 : isBldT Tryz.prog 36 = none := by kernel_rfl
@[go_sem] theorem bl40 : isBldT Tryz.prog 40 = none := by kernel_rfl
@[go_sem] theorem bl43 : isBldT Tryz.prog 43 = none := by kernel_rfl
@[go_sem] theorem bl52 : isBldT Tryz.prog 52 = none := by kernel_rfl
@[go_sem] theorem el100 : elOf Tryz.prog 100 = some ⟨5, 1, false, 1⟩ := by kernel_rfl
@[go_sem] theorem el23 : elOf Tryz.prog 23 = some ⟨36, 5, true, 96⟩ := by kernel_rfl
@[go_sem] theorem el28 : elOf Tryz.prog 28 = some ⟨40, 5, true, 96⟩ := by kernel_rfl
@[go_sem] theorem el33 : elOf Tryz.prog 33 = some ⟨3, 1, false, 8⟩ := by kernel_rfl
@[go_sem] theorem el34 : elOf Tryz.prog 34 = some ⟨52, 3, true, 24⟩ := by kernel_rfl
@[go_sem] theorem el38 : elOf Tryz.prog 38 = some ⟨43, 3, true, 24⟩ := by kernel_rfl
@[go_sem] theorem el66 : elOf Tryz.prog 66 = some ⟨9, 1, false, 16⟩ := by kernel_rfl
@[go_sem] theorem fd36_0 : fldOf Tryz.prog 36 0 = some (0, 1, false) := by kernel_rfl
@[go_sem] theorem fd36_1 : fldOf Tryz.prog 36 1 = some (1, 1, false) := by kernel_rfl
@[go_sem] theorem fd36_2 : fldOf Tryz.prog 36 2 = some (2, 1, false) := by kernel_rfl
@[go_sem] theorem fd36_3 : fldOf Tryz.prog 36 3 = some (3, 1, false) := by kernel_rfl
@[go_sem] theorem fd36_4 : fldOf Tryz.prog 36 4 = some (4, 1, false) := by kernel_rfl
@[go_sem] theorem fd40_0 : fldOf Tryz.prog 40 0 = some (0, 1, false) := by kernel_rfl
@[go_sem] theorem fd40_1 : fldOf Tryz.prog 40 1 = some (1, 1, false) := by kernel_rfl
@[go_sem] theorem fd40_2 : fldOf Tryz.prog 40 2 = some (2, 1, false) := by kernel_rfl
@[go_sem] theorem fd40_3 : fldOf Tryz.prog 40 3 = some (3, 1, false) := by kernel_rfl
@[go_sem] theorem fd40_4 : fldOf Tryz.prog 40 4 = some (4, 1, false) := by kernel_rfl
@[go_sem] theorem fd43_0 : fldOf Tryz.prog 43 0 = some (0, 1, false) := by kernel_rfl
@[go_sem] theorem fd43_1 : fldOf Tryz.prog 43 1 = some (1, 1, false) := by kernel_rfl
@[go_sem] theorem fd43_2 : fldOf Tryz.prog 43 2 = some (2, 1, false) := by kernel_rfl
@[go_sem] theorem fd52_0 : fldOf Tryz.prog 52 0 = some (0, 1, false) := by kernel_rfl
@[go_sem] theorem fd52_1 : fldOf Tryz.prog 52 1 = some (1, 1, false) := by kernel_rfl
@[go_sem] theorem fd52_2 : fldOf Tryz.prog 52 2 = some (2, 1, false) := by kernel_rfl
@[go_sem] theorem fd68_0 : fldOf Tryz.prog 68 0 = some (0, 5, true) := by kernel_rfl
@[go_sem] theorem fd68_1 : fldOf Tryz.prog 68 1 = some (5, 1, false) := by kernel_rfl
@[go_sem] theorem fd68_2 : fldOf Tryz.prog 68 2 = some (6, 1, false) := by kernel_rfl
@[go_sem] theorem fd80_0 : fldOf Tryz.prog 80 0 = some (0, 5, true) := by kernel_rfl
@[go_sem] theorem fd80_1 : fldOf Tryz.prog 80 1 = some (5, 1, false) := by kernel_rfl
@[go_sem] theorem fd80_2 : fldOf Tryz.prog 80 2 = some (6, 1, false) := by kernel_rfl
@[go_sem] theorem fl52 : flatSt Tryz.prog 52 = some [4, 4, 4] := by kernel_rfl
theorem hf10 : Tryz.prog.funcs[10]? = some Tryz.f10 := by kernel_rfl
theorem hf103 : Tryz.prog.funcs[103]? = some Tryz.f103 := by kernel_rfl
theorem hf107 : Tryz.prog.funcs[107]? = some Tryz.f107 := by kernel_rfl
theorem hf11 : Tryz.prog.funcs[11]? = some Tryz.f11 := by kernel_rfl
theorem hf12 : Tryz.prog.funcs[12]? = some Tryz.f12 := by kernel_rfl
theorem hf13 : Tryz.prog.funcs[13]? = some Tryz.f13 := by kernel_rfl
theorem hf14 : Tryz.prog.funcs[14]? = some Tryz.f14 := by kernel_rfl
theorem hf15 : Tryz.prog.funcs[15]? = some Tryz.f15 := by kernel_rfl
theorem hf16 : Tryz.prog.funcs[16]? = some Tryz.f16 := by kernel_rfl
theorem hf17 : Tryz.prog.funcs[17]? = some Tryz.f17 := by kernel_rfl
theorem hf18 : Tryz.prog.funcs[18]? = some Tryz.f18 := by kernel_rfl
theorem hf20 : Tryz.prog.funcs[20]? = some Tryz.f20 := by kernel_rfl
theorem hf21 : Tryz.prog.funcs[21]? = some Tryz.f21 := by kernel_rfl
theorem hf23 : Tryz.prog.funcs[23]? = some Tryz.f23 := by kernel_rfl
theorem hf25 : Tryz.prog.funcs[25]? = some Tryz.f25 := by kernel_rfl
theorem hf26 : Tryz.prog.funcs[26]? = some Tryz.f26 := by kernel_rfl
theorem hf27 : Tryz.prog.funcs[27]? = some Tryz.f27 := by kernel_rfl
theorem hf28 : Tryz.prog.funcs[28]? = some Tryz.f28 := by kernel_rfl
theorem hf29 : Tryz.prog.funcs[29]? = some Tryz.f29 := by kernel_rfl
theorem hf3 : Tryz.prog.funcs[3]? = some Tryz.f3 := by kernel_rfl
theorem hf30 : Tryz.prog.funcs[30]? = some Tryz.f30 := by kernel_rfl
theorem hf32 : Tryz.prog.funcs[32]? = some Tryz.f32 := by kernel_rfl
theorem hf35 : Tryz.prog.funcs[35]? = some Tryz.f35 := by kernel_rfl
theorem hf36 : Tryz.prog.funcs[36]? = some Tryz.f36 := by kernel_rfl
theorem hf37 : Tryz.prog.funcs[37]? = some Tryz.f37 := by kernel_rfl
theorem hf38 : Tryz.prog.funcs[38]? = some Tryz.f38 := by kernel_rfl
theorem hf4 : Tryz.prog.funcs[4]? = some Tryz.f4 := by kernel_rfl
theorem hf43 : Tryz.prog.funcs[43]? = some Tryz.f43 := by kernel_rfl
theorem hf44 : Tryz.prog.funcs[44]? = some Tryz.f44 := by kernel_rfl
theorem hf45 : Tryz.prog.funcs[45]? = some Tryz.f45 := by kernel_rfl
theorem hf46 : Tryz.prog.funcs[46]? = some Tryz.f46 := by kernel_rfl
theorem hf5 : Tryz.prog.funcs[5]? = some Tryz.f5 := by kernel_rfl
theorem hf53 : Tryz.prog.funcs[53]? = some Tryz.f53 := by kernel_rfl
theorem hf54 : Tryz.prog.funcs[54]? = some Tryz.f54 := by kernel_rfl
theorem hf55 : Tryz.prog.funcs[55]? = some Tryz.f55 := by kernel_rfl
theorem hf59 : Tryz.prog.funcs[59]? = some Tryz.f59 := by kernel_rfl
theorem hf6 : Tryz.prog.funcs[6]? = some Tryz.f6 := by kernel_rfl
theorem hf60 : Tryz.prog.funcs[60]? = some Tryz.f60 := by kernel_rfl
theorem hf61 : Tryz.prog.funcs[61]? = some Tryz.f61 := by kernel_rfl
theorem hf7 : Tryz.prog.funcs[7]? = some Tryz.f7 := by kernel_rfl
theorem hf71 : Tryz.prog.funcs[71]? = some Tryz.f71 := by kernel_rfl
theorem hf72 : Tryz.prog.funcs[72]? = some Tryz.f72 := by kernel_rfl
theorem hf73 : Tryz.prog.funcs[73]? = some Tryz.f73 := by kernel_rfl
theorem hf8 : Tryz.prog.funcs[8]? = some Tryz.f8 := by kernel_rfl
theorem hf86 : Tryz.prog.funcs[86]? = some Tryz.f86 := by kernel_rfl
theorem hf95 : Tryz.prog.funcs[95]? = some Tryz.f95 := by kernel_rfl
@[go_sem] theorem io109 : intOf? Tryz.prog 109 = some .u64 := by kernel_rfl
@[go_sem] theorem io3 : intOf? Tryz.prog 3 = some .i64 := by kernel_rfl
@[go_sem] theorem io5 : intOf? Tryz.prog 5 = some .u8 := by kernel_rfl
@[go_sem] theorem kd100 : kindOf Tryz.prog 100 = 2 := by kernel_rfl
@[go_sem] theorem kd109 : kindOf Tryz.prog 109 = 4 := by kernel_rfl
@[go_sem] theorem kd23 : kindOf Tryz.prog 23 = 2 := by kernel_rfl
@[go_sem] theorem kd25 : kindOf Tryz.prog 25 = 3 := by kernel_rfl
@[go_sem] theorem kd28 : kindOf Tryz.prog 28 = 2 := by kernel_rfl
@[go_sem] theorem kd3 : kindOf Tryz.prog 3 = 4 := by kernel_rfl
@[go_sem] theorem kd33 : kindOf Tryz.prog 33 = 2 := by kernel_rfl
@[go_sem] theorem kd34 : kindOf Tryz.prog 34 = 2 := by kernel_rfl
@[go_sem] theorem kd38 : kindOf Tryz.prog 38 = 2 := by kernel_rfl
@[go_sem] theorem kd4 : kindOf Tryz.prog 4 = 6 := by kernel_rfl
@[go_sem] theorem kd5 : kindOf Tryz.prog 5 = 4 := by kernel_rfl
@[go_sem] theorem kd56 : kindOf Tryz.prog 56 = 4 := by kernel_rfl
@[go_sem] theorem kd66 : kindOf Tryz.prog 66 = 2 := by kernel_rfl
@[go_sem] theorem kd76 : kindOf Tryz.prog 76 = 0 := by kernel_rfl
@[go_sem] theorem kd9 : kindOf Tryz.prog 9 = 1 := by kernel_rfl
theorem ok10 : fOk Tryz.prog 10 2 = true := by kernel_rfl
theorem ok103 : fOk Tryz.prog 103 2 = true := by kernel_rfl
theorem ok107 : fOk Tryz.prog 107 2 = true := by kernel_rfl
theorem ok11 : fOk Tryz.prog 11 1 = true := by kernel_rfl
theorem ok12 : fOk Tryz.prog 12 1 = true := by kernel_rfl
theorem ok13 : fOk Tryz.prog 13 1 = true := by kernel_rfl
theorem ok14 : fOk Tryz.prog 14 1 = true := by kernel_rfl
theorem ok15 : fOk Tryz.prog 15 1 = true := by kernel_rfl
theorem ok16 : fOk Tryz.prog 16 1 = true := by kernel_rfl
theorem ok17 : fOk Tryz.prog 17 1 = true := by kernel_rfl
theorem ok18 : fOk Tryz.prog 18 1 = true := by kernel_rfl
theorem ok20 : fOk Tryz.prog 20 1 = true := by kernel_rfl
theorem ok21 : fOk Tryz.prog 21 1 = true := by kernel_rfl
theorem ok23 : fOk Tryz.prog 23 2 = true := by kernel_rfl
theorem ok25 : fOk Tryz.prog 25 1 = true := by kernel_rfl
theorem ok26 : fOk Tryz.prog 26 1 = true := by kernel_rfl
theorem ok27 : fOk Tryz.prog 27 1 = true := by kernel_rfl
theorem ok28 : fOk Tryz.prog 28 1 = true := by kernel_rfl
theorem ok29 : fOk Tryz.prog 29 0 = true := by kernel_rfl
theorem ok3 : fOk Tryz.prog 3 1 = true := by kernel_rfl
theorem ok30 : fOk Tryz.prog 30 2 = true := by kernel_rfl
theorem ok32 : fOk Tryz.prog 32 2 = true := by kernel_rfl
theorem ok35 : fOk Tryz.prog 35 2 = true := by kernel_rfl
theorem ok36 : fOk Tryz.prog 36 1 = true := by kernel_rfl
theorem ok37 : fOk Tryz.prog 37 1 = true := by kernel_rfl
theorem ok38 : fOk Tryz.prog 38 1 = true := by kernel_rfl
theorem ok4 : fOk Tryz.prog 4 2 = true := by kernel_rfl
theorem ok43 : fOk Tryz.prog 43 1 = true := by kernel_rfl
theorem ok44 : fOk Tryz.prog 44 1 = true := by kernel_rfl
theorem ok45 : fOk Tryz.prog 45 1 = true := by kernel_rfl
theorem ok46 : fOk Tryz.prog 46 2 = true := by kernel_rfl
theorem ok5 : fOk Tryz.prog 5 2 = true := by kernel_rfl
theorem ok53 : fOk Tryz.prog 53 1 = true := by kernel_rfl
theorem ok54 : fOk Tryz.prog 54 1 = true := by kernel_rfl
theorem ok55 : fOk Tryz.prog 55 1 = true := by kernel_rfl
theorem ok59 : fOk Tryz.prog 59 2 = true := by kernel_rfl
theorem ok6 : fOk Tryz.prog 6 0 = true := by kernel_rfl
theorem ok60 : fOk Tryz.prog 60 1 = true := by kernel_rfl
theorem ok61 : fOk Tryz.prog 61 2 = true := by kernel_rfl
theorem ok7 : fOk Tryz.prog 7 1 = true := by kernel_rfl
theorem ok71 : fOk Tryz.prog 71 1 = true := by kernel_rfl
theorem ok72 : fOk Tryz.prog 72 1 = true := by kernel_rfl
theorem ok73 : fOk Tryz.prog 73 2 = true := by kernel_rfl
theorem ok8 : fOk Tryz.prog 8 1 = true := by kernel_rfl
theorem ok86 : fOk Tryz.prog 86 1 = true := by kernel_rfl
theorem ok95 : fOk Tryz.prog 95 2 = true := by kernel_rfl
@[go_sem] theorem pt36_0 : partOf Tryz.prog 36 0 = some (0, 1, false) := by kernel_rfl
@[go_sem] theorem pt36_1 : partOf Tryz.prog 36 1 = some (1, 1, false) := by kernel_rfl
@[go_sem] theorem pt36_2 : partOf Tryz.prog 36 2 = some (2, 1, false) := by kernel_rfl
@[go_sem] theorem pt36_3 : partOf Tryz.prog 36 3 = some (3, 1, false) := by kernel_rfl
@[go_sem] theorem pt36_4 : partOf Tryz.prog 36 4 = some (4, 1, false) := by kernel_rfl
@[go_sem] theorem pt40_0 : partOf Tryz.prog 40 0 = some (0, 1, false) := by kernel_rfl
@[go_sem] theorem pt43_0 : partOf Tryz.prog 43 0 = some (0, 1, false) := by kernel_rfl
@[go_sem] theorem pt43_2 : partOf Tryz.prog 43 2 = some (2, 1, false) := by kernel_rfl
@[go_sem] theorem pt52_0 : partOf Tryz.prog 52 0 = some (0, 1, false) := by kernel_rfl
@[go_sem] theorem pt52_1 : partOf Tryz.prog 52 1 = some (1, 1, false) := by kernel_rfl
@[go_sem] theorem pt52_2 : partOf Tryz.prog 52 2 = some (2, 1, false) := by kernel_rfl
@[go_sem] theorem pt68_0 : partOf Tryz.prog 68 0 = some (0, 5, true) := by kernel_rfl
@[go_sem] theorem pt68_1 : partOf Tryz.prog 68 1 = some (5, 1, false) := by kernel_rfl
@[go_sem] theorem pt76_0 : partOf Tryz.prog 76 0 = some (0, 1, false) := by kernel_rfl
@[go_sem] theorem pt76_1 : partOf Tryz.prog 76 1 = some (1, 1, false) := by kernel_rfl
@[go_sem] theorem pt76_2 : partOf Tryz.prog 76 2 = some (2, 1, false) := by kernel_rfl
@[go_sem] theorem pt76_3 : partOf Tryz.prog 76 3 = some (3, 1, false) := by kernel_rfl
@[go_sem] theorem pt76_4 : partOf Tryz.prog 76 4 = some (4, 1, false) := by kernel_rfl
@[go_sem] theorem pt76_5 : partOf Tryz.prog 76 5 = some (5, 1, false) := by kernel_rfl
@[go_sem] theorem pt80_0 : partOf Tryz.prog 80 0 = some (0, 5, true) := by kernel_rfl
@[go_sem] theorem pt80_1 : partOf Tryz.prog 80 1 = some (5, 1, false) := by kernel_rfl
@[go_sem] theorem sz3 : szOf Tryz.prog 3 = some 1 := by kernel_rfl
@[go_sem] theorem sz33 : szOf Tryz.prog 33 = some 1 := by kernel_rfl
@[go_sem] theorem sz34 : szOf Tryz.prog 34 = some 1 := by kernel_rfl
@[go_sem] theorem sz36 : szOf Tryz.prog 36 = some 5 := by kernel_rfl
@[go_sem] theorem sz38 : szOf Tryz.prog 38 = some 1 := by kernel_rfl
@[go_sem] theorem sz4 : szOf Tryz.prog 4 = some 1 := by kernel_rfl
@[go_sem] theorem sz40 : szOf Tryz.prog 40 = some 5 := by kernel_rfl
@[go_sem] theorem sz43 : szOf Tryz.prog 43 = some 3 := by kernel_rfl
@[go_sem] theorem sz5 : szOf Tryz.prog 5 = some 1 := by kernel_rfl
@[go_sem] theorem sz52 : szOf Tryz.prog 52 = some 3 := by kernel_rfl
@[go_sem] theorem sz66 : szOf Tryz.prog 66 = some 1 := by kernel_rfl
@[go_sem] theorem sz9 : szOf Tryz.prog 9 = some 1 := by kernel_rfl
@[go_sem] theorem u8100 : u8El Tryz.prog 100 = true := by kernel_rfl
@[go_sem] theorem ze36 : zeroOf Tryz.prog 36 = some [.str [], .sl none [], .sl none [], .str [], .str []] := by kernel_rfl
@[go_sem] theorem ze40 : zeroOf Tryz.prog 40 = some [.str [], .sl none [], .sl none [], .str [], .str []] := by kernel_rfl
@[go_sem] theorem ze43 : zeroOf Tryz.prog 43 = some [.int .u8 0, .int .i64 0, .int .i64 0] := by kernel_rfl
@[go_sem] theorem ze52 : zeroOf Tryz.prog 52 = some [.int .u8 0, .int .i64 0, .int .i64 0] := by kernel_rfl
@[go_sem] theorem ze68 : zeroOf Tryz.prog 68 = some [.str [], .sl none [], .sl none [], .str [], .str [], .sl none [], .bool false] := by kernel_rfl
@[go_sem] theorem ze76 : zeroOf Tryz.prog 76 = some [.str [], .str [], .str [], .str [], .str [], .str []] := by kernel_rfl
@[go_sem] theorem ze80 : zeroOf Tryz.prog 80 = some [.str [], .sl none [], .sl none [], .str [], .str [], .sl none [], .bool false] := by kernel_rfl
end Go.Av

