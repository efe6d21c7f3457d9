import Derived.Test.YtmedpledgchipaaGreatDoorEx9
import Derived.Test.YtmedpledgchipaaGreatDoorProg
import Derived.KernelRfl
set_option linter.unusedSectionVars false
set_option linter.unusedVariables false
set_option linter.unusedSimpArgs false
set_option linter.unnecessarySimpa false
set_option maxRecDepth 100000
set_option maxHeartbeats 4000000
namespace Go.Av
open Go Go.Proofs
@[go_sem] theorem ae215 : arrE Tryz.prog 215 = some (21, 2) := by kernel_rfl
@[go_sem] theorem ae53 : arrE Tryz.prog 53 = some (2, 1) := by kernel_rfl
@[go_sem] theorem af108 : allFld Tryz.prog 108 = true := by kernel_rfl
@[go_sem] theorem af116 : allFld Tryz.prog 116 = true := by kernel_rfl
@[go_sem] theorem af122 : allFld Tryz.prog 122 = true := by kernel_rfl
@[go_sem] theorem af200 : allFld Tryz.prog 200 = true := by kernel_rfl
@[go_sem] theorem af205 : allFld Tryz.prog 205 = true := by kernel_rfl
@[go_sem] theorem af215 : allFld Tryz.prog 215 = true := by kernel_rfl
@[go_sem] theorem af37 : allFld Tryz.prog 37 = true := by kernel_rfl
@[go_sem] theorem af62 : allFld Tryz.prog 62 = true := by kernel_rfl
@[go_sem] theorem af63 : allFld Tryz.prog 63 = true := by kernel_rfl
@[go_sem] theorem af70 : allFld Tryz.prog 70 = true := by kernel_rfl
@[go_sem] theorem ag108 : aggOf Tryz.prog 108 = some true := by kernel_rfl
@[go_sem] theorem ag112 : aggOf Tryz.prog 112 = some false := by kernel_rfl
@[go_sem] theorem ag116 : aggOf Tryz.prog 116 = some true := by kernel_rfl
@[go_sem] theorem ag166 : aggOf Tryz.prog 166 = some false := by kernel_rfl
@[go_sem] theorem ag200 : aggOf Tryz.prog 200 = some true := by kernel_rfl
@[go_sem] theorem ag205 : aggOf Tryz.prog 205 = some true := by kernel_rfl
@[go_sem] theorem ag22 : aggOf Tryz.prog 22 = some false := by kernel_rfl
@[go_sem] theorem ag23 : aggOf Tryz.prog 23 = some false := by kernel_rfl
@[go_sem] theorem ag25 : aggOf Tryz.prog 25 = some true := by kernel_rfl
@[go_sem] theorem ag26 : aggOf Tryz.prog 26 = some false := by kernel_rfl
@[go_sem] theorem ag3 : aggOf Tryz.prog 3 = some false := by kernel_rfl
@[go_sem] theorem ag34 : aggOf Tryz.prog 34 = some false := by kernel_rfl
@[go_sem] theorem ag35 : aggOf Tryz.prog 35 = some false := by kernel_rfl
@[go_sem] theorem ag37 : aggOf Tryz.prog 37 = some true := by kernel_rfl
@[go_sem] theorem ag4 : aggOf Tryz.prog 4 = some false := by kernel_rfl
@[go_sem] theorem ag5 : aggOf Tryz.prog 5 = some false := by kernel_rfl
@[go_sem] theorem ag59 : aggOf Tryz.prog 59 = some true := by kernel_rfl
@[go_sem] theorem ag61 : aggOf Tryz.prog 61 = some true := by kernel_rfl
@[go_sem] theorem ag62 : aggOf Tryz.prog 62 = some true := by kernel_rfl
@[go_sem] theorem ag63 : aggOf Tryz.prog 63 = some true := by kernel_rfl
@[go_sem] theorem ag75 : aggOf Tryz.prog 75 = some false := by kernel_rfl
@[go_sem] theorem ag9 : aggOf Tryz.prog 9 = some false := by kernel_rfl
@[go_sem] theorem bl108 : isBldT Tryz.prog 108 = none := by kernel_rfl
@[go_sem] theorem bl116 : isBldT Tryz.prog 116 = none := by kernel_rfl
@[go_sem] theorem bl200 : isBldT Tryz.prog 200 = none := by kernel_rfl
@[go_sem] theorem bl205 : isBldT Tryz.prog 205 = none := by kernel_rfl
@[go_sem] theorem bl215 : isBldT Tryz.prog 215 = none := by kernel_rfl
@[go_sem] theorem bl37 : isBldT Tryz.prog 37 = none := by kernel_rfl
@[go_sem] theorem bl61 : isBldT Tryz.prog 61 = none := by kernel_rfl
@[go_sem] theorem bl62 : isBldT Tryz.prog 62 = none := by kernel_rfl
@[go_sem] theorem bl63 : isBldT Tryz.prog 63 = none := by kernel_rfl
@[go_sem] theorem el102 : elOf Tryz.prog 102 = some ⟨9, 1, false, 16⟩ := by kernel_rfl
@[go_sem] theorem el106 : elOf Tryz.prog 106 = some ⟨166, 1, false, 4⟩ := by kernel_rfl
@[go_sem] theorem el112 : elOf Tryz.prog 112 = some ⟨116, 3, true, 24⟩ := by kernel_rfl
@[go_sem] theorem el215 : elOf Tryz.prog 215 = none := by kernel_rfl
@[go_sem] theorem el22 : elOf Tryz.prog 22 = some ⟨59, 2, true, 24⟩ := by kernel_rfl
@[go_sem] theorem el23 : elOf Tryz.prog 23 = some ⟨61, 4, true, 48⟩ := by kernel_rfl
@[go_sem] theorem el26 : elOf Tryz.prog 26 = some ⟨5, 1, false, 1⟩ := by kernel_rfl
@[go_sem] theorem el34 : elOf Tryz.prog 34 = some ⟨62, 2, true, 24⟩ := by kernel_rfl
@[go_sem] theorem el35 : elOf Tryz.prog 35 = some ⟨63, 4, true, 48⟩ := by kernel_rfl
@[go_sem] theorem el53 : elOf Tryz.prog 53 = none := by kernel_rfl
@[go_sem] theorem el75 : elOf Tryz.prog 75 = some ⟨3, 1, false, 8⟩ := by kernel_rfl
@[go_sem] theorem fd116_0 : fldOf Tryz.prog 116 0 = some (0, 1, false) := by kernel_rfl
@[go_sem] theorem fd116_1 : fldOf Tryz.prog 116 1 = some (1, 1, false) := by kernel_rfl
@[go_sem] theorem fd116_2 : fldOf Tryz.prog 116 2 = some (2, 1, false) := by kernel_rfl
@[go_sem] theorem fd122_0 : fldOf Tryz.prog 122 0 = some (0, 1, false) := by kernel_rfl
@[go_sem] theorem fd122_1 : fldOf Tryz.prog 122 1 = some (1, 1, false) := by kernel_rfl
@[go_sem] theorem fd200_0 : fldOf Tryz.prog 200 0 = some (0, 1, false) := by kernel_rfl
@[go_sem] theorem fd200_1 : fldOf Tryz.prog 200 1 = some (1, 1, false) := by kernel_rfl
@[go_sem] theorem fd205_1 : fldOf Tryz.prog 205 1 = some (1, 1, false) := by kernel_rfl
@[go_sem] theorem fd25_0 : fldOf Tryz.prog 25 0 = some (0, 1, false) := by kernel_rfl
@[go_sem] theorem fd25_1 : fldOf Tryz.prog 25 1 = some (1, 1, false) := by kernel_rfl
@[go_sem] theorem fd25_2 : fldOf Tryz.prog 25 2 = some (2, 1, false) := by kernel_rfl
@[go_sem] theorem fd37_0 : fldOf Tryz.prog 37 0 = some (0, 1, false) := by kernel_rfl
@[go_sem] theorem fd37_1 : fldOf Tryz.prog 37 1 = some (1, 1, false) := by kernel_rfl
@[go_sem] theorem fd37_2 : fldOf Tryz.prog 37 2 = some (2, 1, false) := by kernel_rfl
@[go_sem] theorem fd59_1 : fldOf Tryz.prog 59 1 = some (1, 1, false) := by kernel_rfl
@[go_sem] theorem fd61_0 : fldOf Tryz.prog 61 0 = some (0, 1, false) := by kernel_rfl
@[go_sem] theorem fd61_1 : fldOf Tryz.prog 61 1 = some (1, 1, false) := by kernel_rfl
@[go_sem] theorem fd61_2 : fldOf Tryz.prog 61 2 = some (2, 1, false) := by kernel_rfl
@[go_sem] theorem fd61_3 : fldOf Tryz.prog 61 3 = some (3, 1, false) := by kernel_rfl
@[go_sem] theorem fd62_0 : fldOf Tryz.prog 62 0 = some (0, 1, false) := by kernel_rfl
@[go_sem] theorem fd62_1 : fldOf Tryz.prog 62 1 = some (1, 1, false) := by kernel_rfl
@[go_sem] theorem fd63_0 : fldOf Tryz.prog 63 0 = some (0, 1, false) := by kernel_rfl
@[go_sem] theorem fd63_1 : fldOf Tryz.prog 63 1 = some (1, 1, false) := by kernel_rfl
@[go_sem] theorem fd63_2 : fldOf Tryz.prog 63 2 = some (2, 1, false) := by kernel_rfl
@[go_sem] theorem fd63_3 : fldOf Tryz.prog 63 3 = some (3, 1, false) := by kernel_rfl
@[go_sem] theorem fd70_0 : fldOf Tryz.prog 70 0 = some (0, 1, false) := by kernel_rfl
@[go_sem] theorem fl62 : flatSt Tryz.prog 62 = some [4, 1] := by kernel_rfl
theorem hf10 : Tryz.prog.funcs[10]? = some Tryz.f10 := by kernel_rfl
theorem hf100 : Tryz.prog.funcs[100]? = some Tryz.f100 := by kernel_rfl
theorem hf101 : Tryz.prog.funcs[101]? = some Tryz.f101 := by kernel_rfl
theorem hf102 : Tryz.prog.funcs[102]? = some Tryz.f102 := by kernel_rfl
theorem hf103 : Tryz.prog.funcs[103]? = some Tryz.f103 := by kernel_rfl
theorem hf109 : Tryz.prog.funcs[109]? = some Tryz.f109 := by kernel_rfl
theorem hf11 : Tryz.prog.funcs[11]? = some Tryz.f11 := by kernel_rfl
theorem hf117 : Tryz.prog.funcs[117]? = some Tryz.f117 := by kernel_rfl
theorem hf118 : Tryz.prog.funcs[118]? = some Tryz.f118 := by kernel_rfl
theorem hf119 : Tryz.prog.funcs[119]? = some Tryz.f119 := by kernel_rfl
theorem hf120 : Tryz.prog.funcs[120]? = some Tryz.f120 := by kernel_rfl
theorem hf121 : Tryz.prog.funcs[121]? = some Tryz.f121 := by kernel_rfl
theorem hf13 : Tryz.prog.funcs[13]? = some Tryz.f13 := by kernel_rfl
theorem hf130 : Tryz.prog.funcs[130]? = some Tryz.f130 := by kernel_rfl
theorem hf131 : Tryz.prog.funcs[131]? = some Tryz.f131 := by kernel_rfl
theorem hf133 : Tryz.prog.funcs[133]? = some Tryz.f133 := by kernel_rfl
theorem hf134 : Tryz.prog.funcs[134]? = some Tryz.f134 := by kernel_rfl
theorem hf141 : Tryz.prog.funcs[141]? = some Tryz.f141 := by kernel_rfl
theorem hf142 : Tryz.prog.funcs[142]? = some Tryz.f142 := by kernel_rfl
theorem hf144 : Tryz.prog.funcs[144]? = some Tryz.f144 := by kernel_rfl
theorem hf149 : Tryz.prog.funcs[149]? = some Tryz.f149 := by kernel_rfl
theorem hf154 : Tryz.prog.funcs[154]? = some Tryz.f154 := by kernel_rfl
theorem hf155 : Tryz.prog.funcs[155]? = some Tryz.f155 := by kernel_rfl
theorem hf166 : Tryz.prog.funcs[166]? = some Tryz.f166 := by kernel_rfl
theorem hf19 : Tryz.prog.funcs[19]? = some Tryz.f19 := by kernel_rfl
theorem hf20 : Tryz.prog.funcs[20]? = some Tryz.f20 := by kernel_rfl
theorem hf21 : Tryz.prog.funcs[21]? = some Tryz.f21 := by kernel_rfl
theorem hf22 : Tryz.prog.funcs[22]? = some Tryz.f22 := by kernel_rfl
theorem hf23 : Tryz.prog.funcs[23]? = some Tryz.f23 := by kernel_rfl
theorem hf24 : Tryz.prog.funcs[24]? = some Tryz.f24 := by kernel_rfl
theorem hf25 : Tryz.prog.funcs[25]? = some Tryz.f25 := by kernel_rfl
theorem hf26 : Tryz.prog.funcs[26]? = some Tryz.f26 := by kernel_rfl
theorem hf27 : Tryz.prog.funcs[27]? = some Tryz.f27 := by kernel_rfl
theorem hf28 : Tryz.prog.funcs[28]? = some Tryz.f28 := by kernel_rfl
theorem hf30 : Tryz.prog.funcs[30]? = some Tryz.f30 := by kernel_rfl
theorem hf31 : Tryz.prog.funcs[31]? = some Tryz.f31 := by kernel_rfl
theorem hf32 : Tryz.prog.funcs[32]? = some Tryz.f32 := by kernel_rfl
theorem hf33 : Tryz.prog.funcs[33]? = some Tryz.f33 := by kernel_rfl
theorem hf41 : Tryz.prog.funcs[41]? = some Tryz.f41 := by kernel_rfl
theorem hf42 : Tryz.prog.funcs[42]? = some Tryz.f42 := by kernel_rfl
theorem hf43 : Tryz.prog.funcs[43]? = some Tryz.f43 := by kernel_rfl
theorem hf44 : Tryz.prog.funcs[44]? = some Tryz.f44 := by kernel_rfl
theorem hf46 : Tryz.prog.funcs[46]? = some Tryz.f46 := by kernel_rfl
theorem hf48 : Tryz.prog.funcs[48]? = some Tryz.f48 := by kernel_rfl
theorem hf49 : Tryz.prog.funcs[49]? = some Tryz.f49 := by kernel_rfl
theorem hf5 : Tryz.prog.funcs[5]? = some Tryz.f5 := by kernel_rfl
theorem hf50 : Tryz.prog.funcs[50]? = some Tryz.f50 := by kernel_rfl
theorem hf51 : Tryz.prog.funcs[51]? = some Tryz.f51 := by kernel_rfl
theorem hf52 : Tryz.prog.funcs[52]? = some Tryz.f52 := by kernel_rfl
theorem hf53 : Tryz.prog.funcs[53]? = some Tryz.f53 := by kernel_rfl
theorem hf54 : Tryz.prog.funcs[54]? = some Tryz.f54 := by kernel_rfl
theorem hf55 : Tryz.prog.funcs[55]? = some Tryz.f55 := by kernel_rfl
theorem hf56 : Tryz.prog.funcs[56]? = some Tryz.f56 := by kernel_rfl
theorem hf57 : Tryz.prog.funcs[57]? = some Tryz.f57 := by kernel_rfl
theorem hf58 : Tryz.prog.funcs[58]? = some Tryz.f58 := by kernel_rfl
theorem hf61 : Tryz.prog.funcs[61]? = some Tryz.f61 := by kernel_rfl
theorem hf62 : Tryz.prog.funcs[62]? = some Tryz.f62 := by kernel_rfl
theorem hf63 : Tryz.prog.funcs[63]? = some Tryz.f63 := by kernel_rfl
theorem hf64 : Tryz.prog.funcs[64]? = some Tryz.f64 := by kernel_rfl
theorem hf7 : Tryz.prog.funcs[7]? = some Tryz.f7 := by kernel_rfl
theorem hf79 : Tryz.prog.funcs[79]? = some Tryz.f79 := by kernel_rfl
theorem hf8 : Tryz.prog.funcs[8]? = some Tryz.f8 := by kernel_rfl
theorem hf80 : Tryz.prog.funcs[80]? = some Tryz.f80 := by kernel_rfl
theorem hf81 : Tryz.prog.funcs[81]? = some Tryz.f81 := by kernel_rfl
theorem hf82 : Tryz.prog.funcs[82]? = some Tryz.f82 := by kernel_rfl
theorem hf9 : Tryz.prog.funcs[9]? = some Tryz.f9 := by kernel_rfl
theorem hf90 : Tryz.prog.funcs[90]? = some Tryz.f90 := by kernel_rfl
theorem hf92 : Tryz.prog.funcs[92]? = some Tryz.f92 := by kernel_rfl
theorem hf93 : Tryz.prog.funcs[93]? = some Tryz.f93 := by kernel_rfl
theorem hf94 : Tryz.prog.funcs[94]? = some Tryz.f94 := by kernel_rfl
theorem hf95 : Tryz.prog.funcs[95]? = some Tryz.f95 := by kernel_rfl
theorem hf96 : Tryz.prog.funcs[96]? = some Tryz.f96 := by kernel_rfl
theorem hf97 : Tryz.prog.funcs[97]? = some Tryz.f97 := by kernel_rfl
theorem hf98 : Tryz.prog.funcs[98]? = some Tryz.f98 := by kernel_rfl
theorem hf99 : Tryz.prog.funcs[99]? = some Tryz.f99 := by kernel_rfl
@[go_sem] theorem io165 : intOf? Tryz.prog 165 = some .u64 := by kernel_rfl
@[go_sem] theorem io166 : intOf? Tryz.prog 166 = some .u32 := by kernel_rfl
@[go_sem] theorem io167 : intOf? Tryz.prog 167 = some .u64 := by kernel_rfl
@[go_sem] theorem io3 : intOf? Tryz.prog 3 = some .i64 := by kernel_rfl
@[go_sem] theorem io5 : intOf? Tryz.prog 5 = some .u8 := by kernel_rfl
@[go_sem] theorem kd102 : kindOf Tryz.prog 102 = 2 := by kernel_rfl
@[go_sem] theorem kd106 : kindOf Tryz.prog 106 = 2 := by kernel_rfl
@[go_sem] theorem kd112 : kindOf Tryz.prog 112 = 2 := by kernel_rfl
@[go_sem] theorem kd165 : kindOf Tryz.prog 165 = 4 := by kernel_rfl
@[go_sem] theorem kd166 : kindOf Tryz.prog 166 = 4 := by kernel_rfl
@[go_sem] theorem kd167 : kindOf Tryz.prog 167 = 4 := by kernel_rfl
@[go_sem] theorem kd22 : kindOf Tryz.prog 22 = 2 := by kernel_rfl
@[go_sem] theorem kd23 : kindOf Tryz.prog 23 = 2 := by kernel_rfl
@[go_sem] theorem kd26 : kindOf Tryz.prog 26 = 2 := by kernel_rfl
@[go_sem] theorem kd3 : kindOf Tryz.prog 3 = 4 := by kernel_rfl
@[go_sem] theorem kd32 : kindOf Tryz.prog 32 = 3 := by kernel_rfl
@[go_sem] theorem kd34 : kindOf Tryz.prog 34 = 2 := by kernel_rfl
@[go_sem] theorem kd35 : kindOf Tryz.prog 35 = 2 := by kernel_rfl
@[go_sem] theorem kd4 : kindOf Tryz.prog 4 = 6 := by kernel_rfl
@[go_sem] theorem kd5 : kindOf Tryz.prog 5 = 4 := by kernel_rfl
@[go_sem] theorem kd66 : kindOf Tryz.prog 66 = 4 := by kernel_rfl
@[go_sem] theorem kd68 : kindOf Tryz.prog 68 = 5 := by kernel_rfl
@[go_sem] theorem kd75 : kindOf Tryz.prog 75 = 2 := by kernel_rfl
@[go_sem] theorem kd78 : kindOf Tryz.prog 78 = 5 := by kernel_rfl
@[go_sem] theorem kd9 : kindOf Tryz.prog 9 = 1 := by kernel_rfl
theorem ok10 : fOk Tryz.prog 10 1 = true := by kernel_rfl
theorem ok100 : fOk Tryz.prog 100 1 = true := by kernel_rfl
theorem ok101 : fOk Tryz.prog 101 2 = true := by kernel_rfl
theorem ok102 : fOk Tryz.prog 102 3 = true := by kernel_rfl
theorem ok103 : fOk Tryz.prog 103 4 = true := by kernel_rfl
theorem ok109 : fOk Tryz.prog 109 2 = true := by kernel_rfl
theorem ok11 : fOk Tryz.prog 11 1 = true := by kernel_rfl
theorem ok117 : fOk Tryz.prog 117 2 = true := by kernel_rfl
theorem ok118 : fOk Tryz.prog 118 1 = true := by kernel_rfl
theorem ok119 : fOk Tryz.prog 119 1 = true := by kernel_rfl
theorem ok120 : fOk Tryz.prog 120 1 = true := by kernel_rfl
theorem ok121 : fOk Tryz.prog 121 1 = true := by kernel_rfl
theorem ok13 : fOk Tryz.prog 13 1 = true := by kernel_rfl
theorem ok130 : fOk Tryz.prog 130 2 = true := by kernel_rfl
theorem ok131 : fOk Tryz.prog 131 1 = true := by kernel_rfl
theorem ok133 : fOk Tryz.prog 133 1 = true := by kernel_rfl
theorem ok134 : fOk Tryz.prog 134 2 = true := by kernel_rfl
theorem ok141 : fOk Tryz.prog 141 2 = true := by kernel_rfl
theorem ok142 : fOk Tryz.prog 142 2 = true := by kernel_rfl
theorem ok144 : fOk Tryz.prog 144 1 = true := by kernel_rfl
theorem ok149 : fOk Tryz.prog 149 2 = true := by kernel_rfl
theorem ok154 : fOk Tryz.prog 154 2 = true := by kernel_rfl
theorem ok155 : fOk Tryz.prog 155 1 = true := by kernel_rfl
theorem ok166 : fOk Tryz.prog 166 1 = true := by kernel_rfl
theorem ok19 : fOk Tryz.prog 19 2 = true := by kernel_rfl
theorem ok20 : fOk Tryz.prog 20 1 = true := by kernel_rfl
theorem ok21 : fOk Tryz.prog 21 2 = true := by kernel_rfl
theorem ok22 : fOk Tryz.prog 22 1 = true := by kernel_rfl
theorem ok23 : fOk Tryz.prog 23 1 = true := by kernel_rfl
theorem ok24 : fOk Tryz.prog 24 4 = true := by kernel_rfl
theorem ok25 : fOk Tryz.prog 25 1 = true := by kernel_rfl
theorem ok26 : fOk Tryz.prog 26 2 = true := by kernel_rfl
theorem ok27 : fOk Tryz.prog 27 2 = true := by kernel_rfl
theorem ok28 : fOk Tryz.prog 28 1 = true := by kernel_rfl
theorem ok30 : fOk Tryz.prog 30 1 = true := by kernel_rfl
theorem ok31 : fOk Tryz.prog 31 2 = true := by kernel_rfl
theorem ok32 : fOk Tryz.prog 32 3 = true := by kernel_rfl
theorem ok33 : fOk Tryz.prog 33 1 = true := by kernel_rfl
theorem ok41 : fOk Tryz.prog 41 2 = true := by kernel_rfl
theorem ok42 : fOk Tryz.prog 42 3 = true := by kernel_rfl
theorem ok43 : fOk Tryz.prog 43 2 = true := by kernel_rfl
theorem ok44 : fOk Tryz.prog 44 1 = true := by kernel_rfl
theorem ok46 : fOk Tryz.prog 46 2 = true := by kernel_rfl
theorem ok48 : fOk Tryz.prog 48 2 = true := by kernel_rfl
theorem ok49 : fOk Tryz.prog 49 2 = true := by kernel_rfl
theorem ok5 : fOk Tryz.prog 5 3 = true := by kernel_rfl
theorem ok50 : fOk Tryz.prog 50 1 = true := by kernel_rfl
theorem ok51 : fOk Tryz.prog 51 2 = true := by kernel_rfl
theorem ok52 : fOk Tryz.prog 52 1 = true := by kernel_rfl
theorem ok53 : fOk Tryz.prog 53 1 = true := by kernel_rfl
theorem ok54 : fOk Tryz.prog 54 1 = true := by kernel_rfl
theorem ok55 : fOk Tryz.prog 55 2 = true := by kernel_rfl
theorem ok56 : fOk Tryz.prog 56 5 = true := by kernel_rfl
theorem ok57 : fOk Tryz.prog 57 5 = true := by kernel_rfl
theorem ok58 : fOk Tryz.prog 58 2 = true := by kernel_rfl
theorem ok61 : fOk Tryz.prog 61 2 = true := by kernel_rfl
theorem ok62 : fOk Tryz.prog 62 1 = true := by kernel_rfl
theorem ok63 : fOk Tryz.prog 63 1 = true := by kernel_rfl
theorem ok64 : fOk Tryz.prog 64 1 = true := by kernel_rfl
theorem ok7 : fOk Tryz.prog 7 1 = true := by kernel_rfl
theorem ok79 : fOk Tryz.prog 79 2 = true := by kernel_rfl
theorem ok8 : fOk Tryz.prog 8 0 = true := by kernel_rfl
theorem ok80 : fOk Tryz.prog 80 2 = true := by kernel_rfl
theorem ok81 : fOk Tryz.prog 81 1 = true := by kernel_rfl
theorem ok82 : fOk Tryz.prog 82 1 = true := by kernel_rfl
theorem ok9 : fOk Tryz.prog 9 3 = true := by kernel_rfl
theorem ok90 : fOk Tryz.prog 90 2 = true := by kernel_rfl
theorem ok92 : fOk Tryz.prog 92 2 = true := by kernel_rfl
theorem ok93 : fOk Tryz.prog 93 2 = true := by kernel_rfl
theorem ok94 : fOk Tryz.prog 94 1 = true := by kernel_rfl
theorem ok95 : fOk Tryz.prog 95 2 = true := by kernel_rfl
theorem ok96 : fOk Tryz.prog 96 1 = true := by kernel_rfl
theorem ok97 : fOk Tryz.prog 97 1 = true := by kernel_rfl
theorem ok98 : fOk Tryz.prog 98 1 = true := by kernel_rfl
theorem ok99 : fOk Tryz.prog 99 2 = true := by kernel_rfl
@[go_sem] theorem pt108_0 : partOf Tryz.prog 108 0 = some (0, 1, false) := by kernel_rfl
@[go_sem] theorem pt108_1 : partOf Tryz.prog 108 1 = some (1, 1, false) := by kernel_rfl
@[go_sem] theorem pt116_0 : partOf Tryz.prog 116 0 = some (0, 1, false) := by kernel_rfl
@[go_sem] theorem pt116_1 : partOf Tryz.prog 116 1 = some (1, 1, false) := by kernel_rfl
@[go_sem] theorem pt116_2 : partOf Tryz.prog 116 2 = some (2, 1, false) := by kernel_rfl
@[go_sem] theorem pt122_0 : partOf Tryz.prog 122 0 = some (0, 1, false) := by kernel_rfl
@[go_sem] theorem pt200_0 : partOf Tryz.prog 200 0 = some (0, 1, false) := by kernel_rfl
@[go_sem] theorem pt200_1 : partOf Tryz.prog 200 1 = some (1, 1, false) := by kernel_rfl
@[go_sem] theorem pt205_0 : partOf Tryz.prog 205 0 = some (0, 1, false) := by kernel_rfl
@[go_sem] theorem pt205_1 : partOf Tryz.prog 205 1 = some (1, 1, false) := by kernel_rfl
@[go_sem] theorem pt215_0 : partOf Tryz.prog 215 0 = some (0, 2, true) := by kernel_rfl
@[go_sem] theorem pt215_1 : partOf Tryz.prog 215 1 = some (2, 2, true) := by kernel_rfl
@[go_sem] theorem pt215_10 : partOf Tryz.prog 215 10 = some (20, 2, true) := by kernel_rfl
@[go_sem] theorem pt215_11 : partOf Tryz.prog 215 11 = some (22, 2, true) := by kernel_rfl
@[go_sem] theorem pt215_12 : partOf Tryz.prog 215 12 = some (24, 2, true) := by kernel_rfl
@[go_sem] theorem pt215_13 : partOf Tryz.prog 215 13 = some (26, 2, true) := by kernel_rfl
@[go_sem] theorem pt215_14 : partOf Tryz.prog 215 14 = some (28, 2, true) := by kernel_rfl
@[go_sem] theorem pt215_15 : partOf Tryz.prog 215 15 = some (30, 2, true) := by kernel_rfl
@[go_sem] theorem pt215_16 : partOf Tryz.prog 215 16 = some (32, 2, true) := by kernel_rfl
@[go_sem] theorem pt215_17 : partOf Tryz.prog 215 17 = some (34, 2, true) := by kernel_rfl
@[go_sem] theorem pt215_18 : partOf Tryz.prog 215 18 = some (36, 2, true) := by kernel_rfl
@[go_sem] theorem pt215_19 : partOf Tryz.prog 215 19 = some (38, 2, true) := by kernel_rfl
@[go_sem] theorem pt215_2 : partOf Tryz.prog 215 2 = some (4, 2, true) := by kernel_rfl
@[go_sem] theorem pt215_20 : partOf Tryz.prog 215 20 = some (40, 2, true) := by kernel_rfl
@[go_sem] theorem pt215_3 : partOf Tryz.prog 215 3 = some (6, 2, true) := by kernel_rfl
@[go_sem] theorem pt215_4 : partOf Tryz.prog 215 4 = some (8, 2, true) := by kernel_rfl
@[go_sem] theorem pt215_5 : partOf Tryz.prog 215 5 = some (10, 2, true) := by kernel_rfl
@[go_sem] theorem pt215_6 : partOf Tryz.prog 215 6 = some (12, 2, true) := by kernel_rfl
@[go_sem] theorem pt215_7 : partOf Tryz.prog 215 7 = some (14, 2, true) := by kernel_rfl
@[go_sem] theorem pt215_8 : partOf Tryz.prog 215 8 = some (16, 2, true) := by kernel_rfl
@[go_sem] theorem pt215_9 : partOf Tryz.prog 215 9 = some (18, 2, true) := by kernel_rfl
@[go_sem] theorem pt37_0 : partOf Tryz.prog 37 0 = some (0, 1, false) := by kernel_rfl
@[go_sem] theorem pt37_1 : partOf Tryz.prog 37 1 = some (1, 1, false) := by kernel_rfl
@[go_sem] theorem pt37_2 : partOf Tryz.prog 37 2 = some (2, 1, false) := by kernel_rfl
@[go_sem] theorem pt62_0 : partOf Tryz.prog 62 0 = some (0, 1, false) := by kernel_rfl
@[go_sem] theorem pt62_1 : partOf Tryz.prog 62 1 = some (1, 1, false) := by kernel_rfl
@[go_sem] theorem pt63_0 : partOf Tryz.prog 63 0 = some (0, 1, false) := by kernel_rfl
@[go_sem] theorem pt63_1 : partOf Tryz.prog 63 1 = some (1, 1, false) := by kernel_rfl
@[go_sem] theorem pt63_2 : partOf Tryz.prog 63 2 = some (2, 1, false) := by kernel_rfl
@[go_sem] theorem pt63_3 : partOf Tryz.prog 63 3 = some (3, 1, false) := by kernel_rfl
@[go_sem] theorem sz108 : szOf Tryz.prog 108 = some 2 := by kernel_rfl
@[go_sem] theorem sz112 : szOf Tryz.prog 112 = some 1 := by kernel_rfl
@[go_sem] theorem sz116 : szOf Tryz.prog 116 = some 3 := by kernel_rfl
@[go_sem] theorem sz166 : szOf Tryz.prog 166 = some 1 := by kernel_rfl
@[go_sem] theorem sz200 : szOf Tryz.prog 200 = some 2 := by kernel_rfl
@[go_sem] theorem sz205 : szOf Tryz.prog 205 = some 2 := by kernel_rfl
@[go_sem] theorem sz215 : szOf Tryz.prog 215 = some 42 := by kernel_rfl
@[go_sem] theorem sz22 : szOf Tryz.prog 22 = some 1 := by kernel_rfl
@[go_sem] theorem sz23 : szOf Tryz.prog 23 = some 1 := by kernel_rfl
@[go_sem] theorem sz25 : szOf Tryz.prog 25 = some 3 := by kernel_rfl
@[go_sem] theorem sz26 : szOf Tryz.prog 26 = some 1 := by kernel_rfl
@[go_sem] theorem sz3 : szOf Tryz.prog 3 = some 1 := by kernel_rfl
@[go_sem] theorem sz34 : szOf Tryz.prog 34 = some 1 := by kernel_rfl
@[go_sem] theorem sz35 : szOf Tryz.prog 35 = some 1 := by kernel_rfl
@[go_sem] theorem sz37 : szOf Tryz.prog 37 = some 3 := by kernel_rfl
@[go_sem] theorem sz4 : szOf Tryz.prog 4 = some 1 := by kernel_rfl
@[go_sem] theorem sz5 : szOf Tryz.prog 5 = some 1 := by kernel_rfl
@[go_sem] theorem sz59 : szOf Tryz.prog 59 = some 2 := by kernel_rfl
@[go_sem] theorem sz61 : szOf Tryz.prog 61 = some 4 := by kernel_rfl
@[go_sem] theorem sz62 : szOf Tryz.prog 62 = some 2 := by kernel_rfl
@[go_sem] theorem sz63 : szOf Tryz.prog 63 = some 4 := by kernel_rfl
@[go_sem] theorem sz75 : szOf Tryz.prog 75 = some 1 := by kernel_rfl
@[go_sem] theorem sz9 : szOf Tryz.prog 9 = some 1 := by kernel_rfl
@[go_sem] theorem u826 : u8El Tryz.prog 26 = true := by kernel_rfl
@[go_sem] theorem ze108 : zeroOf Tryz.prog 108 = some [.bool false, .sl none []] := by kernel_rfl
@[go_sem] theorem ze116 : zeroOf Tryz.prog 116 = some [.int .u8 0, .int .i64 0, .int .i64 0] := by kernel_rfl
@[go_sem] theorem ze122 : zeroOf Tryz.prog 122 = some [.sl none [], .bool false] := by kernel_rfl
@[go_sem] theorem ze200 : zeroOf Tryz.prog 200 = some [.sl none [], .sl none []] := by kernel_rfl
@[go_sem] theorem ze205 : zeroOf Tryz.prog 205 = some [.str [], .str []] := by kernel_rfl
@[go_sem] theorem ze215 : zeroOf Tryz.prog 215 = some [.str [], .str [], .str [], .str [], .str [], .str [], .str [], .str [], .str [], .str [], .str [], .str [], .str [], .str [], .str [], .str [], .str [], .str [], .str [], .str [], .str [], .str [], .str [], .str [], .str [], .str [], .str [], .str [], .str [], .str [], .str [], .str [], .str [], .str [], .str [], .str [], .str [], .str [], .str [], .str [], .str [], .str []] := by kernel_rfl
@[go_sem] theorem ze37 : zeroOf Tryz.prog 37 = some [.str [], .sl none [], .sl none []] := by kernel_rfl
@[go_sem] theorem ze61 : zeroOf Tryz.prog 61 = some [.int .i64 0, .int .i64 0, .int .i64 0, .sl none []] := by kernel_rfl
@[go_sem] theorem ze62 : zeroOf Tryz.prog 62 = some [.int .u8 0, .str []] := by kernel_rfl
@[go_sem] theorem ze63 : zeroOf Tryz.prog 63 = some [.int .i64 0, .int .i64 0, .int .i64 0, .sl none []] := by kernel_rfl
@[go_sem] theorem ze70 : zeroOf Tryz.prog 70 = some [.sl none []] := by kernel_rfl
end Go.Av

