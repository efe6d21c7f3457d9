import Derived.Test.YtphdekcijjgbeaaGreatDoorEx5
import Derived.Test.YtphdekcijjgbeaaGreatDoorProg
import Derived.KernelRfl
set_option linter.unusedSectionVars false
set_option linter.unusedVariables false
set_option linter.unusedSimpArgs false
set_option linter.unnecessarySimpa false
set_option maxRecDepth 100000
set_option maxHeartbeats 4000000
namespace Go.Av
open Go Go.Proofs
@[go_sem] theorem af143 : allFld Tryz.prog 143 = true := by kernel_rfl
@[go_sem] theorem af31 : allFld Tryz.prog 31 = true := by kernel_rfl
@[go_sem] theorem af46 : allFld Tryz.prog 46 = true := by kernel_rfl
@[go_sem] theorem af50 : allFld Tryz.prog 50 = true := by kernel_rfl
@[go_sem] theorem af57 : allFld Tryz.prog 57 = true := by kernel_rfl
@[go_sem] theorem af85 : allFld Tryz.prog 85 = true := by kernel_rfl
@[go_sem] theorem ag143 : aggOf Tryz.prog 143 = some true := by kernel_rfl
@[go_sem] theorem ag156 : aggOf Tryz.prog 156 = some false := by kernel_rfl
@[go_sem] theorem ag22 : aggOf Tryz.prog 22 = some false := by kernel_rfl
@[go_sem] theorem ag23 : aggOf Tryz.prog 23 = some false := by kernel_rfl
@[go_sem] theorem ag24 : aggOf Tryz.prog 24 = some false := by kernel_rfl
@[go_sem] theorem ag26 : aggOf Tryz.prog 26 = some true := by kernel_rfl
@[go_sem] theorem ag29 : aggOf Tryz.prog 29 = some false := by kernel_rfl
@[go_sem] theorem ag3 : aggOf Tryz.prog 3 = some false := by kernel_rfl
@[go_sem] theorem ag31 : aggOf Tryz.prog 31 = some true := by kernel_rfl
@[go_sem] theorem ag45 : aggOf Tryz.prog 45 = some true := by kernel_rfl
@[go_sem] theorem ag46 : aggOf Tryz.prog 46 = some true := by kernel_rfl
@[go_sem] theorem ag48 : aggOf Tryz.prog 48 = some false := by kernel_rfl
@[go_sem] theorem ag5 : aggOf Tryz.prog 5 = some false := by kernel_rfl
@[go_sem] theorem ag50 : aggOf Tryz.prog 50 = some true := by kernel_rfl
@[go_sem] theorem ag9 : aggOf Tryz.prog 9 = some false := by kernel_rfl
@[go_sem] theorem bl143 : isBldT Tryz.prog 143 = none := by kernel_rfl
@[go_sem] theorem bl31 : isBldT Tryz.prog 31 = none := by kernel_rfl
@[go_sem] theorem bl45 : isBldT Tryz.prog 45 = none := by kernel_rfl
@[go_sem] theorem bl46 : isBldT Tryz.prog 46 = none := by kernel_rfl
@[go_sem] theorem bl85 : isBldT Tryz.prog 85 = none := by kernel_rfl
@[go_sem] theorem el112 : elOf Tryz.prog 112 = some ⟨5, 1, false, 1⟩ := by kernel_rfl
@[go_sem] theorem el22 : elOf Tryz.prog 22 = some ⟨9, 1, false, 16⟩ := by kernel_rfl
@[go_sem] theorem el23 : elOf Tryz.prog 23 = some ⟨45, 5, true, 80⟩ := by kernel_rfl
@[go_sem] theorem el24 : elOf Tryz.prog 24 = some ⟨3, 1, false, 8⟩ := by kernel_rfl
@[go_sem] theorem el29 : elOf Tryz.prog 29 = some ⟨46, 5, true, 80⟩ := by kernel_rfl
@[go_sem] theorem el48 : elOf Tryz.prog 48 = some ⟨31, 5, true, 112⟩ := by kernel_rfl
@[go_sem] theorem el51 : elOf Tryz.prog 51 = some ⟨50, 4, true, 80⟩ := by kernel_rfl
@[go_sem] theorem el75 : elOf Tryz.prog 75 = some ⟨22, 1, false, 24⟩ := by kernel_rfl
@[go_sem] theorem el83 : elOf Tryz.prog 83 = some ⟨156, 1, false, 4⟩ := by kernel_rfl
@[go_sem] theorem fd26_0 : fldOf Tryz.prog 26 0 = some (0, 1, false) := by kernel_rfl
@[go_sem] theorem fd26_1 : fldOf Tryz.prog 26 1 = some (1, 1, false) := by kernel_rfl
@[go_sem] theorem fd26_2 : fldOf Tryz.prog 26 2 = some (2, 1, false) := by kernel_rfl
@[go_sem] theorem fd26_3 : fldOf Tryz.prog 26 3 = some (3, 1, false) := by kernel_rfl
@[go_sem] theorem fd26_4 : fldOf Tryz.prog 26 4 = some (4, 1, false) := by kernel_rfl
@[go_sem] theorem fd31_0 : fldOf Tryz.prog 31 0 = some (0, 1, false) := by kernel_rfl
@[go_sem] theorem fd31_1 : fldOf Tryz.prog 31 1 = some (1, 1, false) := by kernel_rfl
@[go_sem] theorem fd31_2 : fldOf Tryz.prog 31 2 = some (2, 1, false) := by kernel_rfl
@[go_sem] theorem fd31_3 : fldOf Tryz.prog 31 3 = some (3, 1, false) := by kernel_rfl
@[go_sem] theorem fd31_4 : fldOf Tryz.prog 31 4 = some (4, 1, false) := by kernel_rfl
@[go_sem] theorem fd45_0 : fldOf Tryz.prog 45 0 = some (0, 1, false) := by kernel_rfl
@[go_sem] theorem fd45_1 : fldOf Tryz.prog 45 1 = some (1, 1, false) := by kernel_rfl
@[go_sem] theorem fd45_2 : fldOf Tryz.prog 45 2 = some (2, 1, false) := by kernel_rfl
@[go_sem] theorem fd45_3 : fldOf Tryz.prog 45 3 = some (3, 1, false) := by kernel_rfl
@[go_sem] theorem fd45_4 : fldOf Tryz.prog 45 4 = some (4, 1, false) := by kernel_rfl
@[go_sem] theorem fd46_0 : fldOf Tryz.prog 46 0 = some (0, 1, false) := by kernel_rfl
@[go_sem] theorem fd46_1 : fldOf Tryz.prog 46 1 = some (1, 1, false) := by kernel_rfl
@[go_sem] theorem fd46_2 : fldOf Tryz.prog 46 2 = some (2, 1, false) := by kernel_rfl
@[go_sem] theorem fd46_3 : fldOf Tryz.prog 46 3 = some (3, 1, false) := by kernel_rfl
@[go_sem] theorem fd46_4 : fldOf Tryz.prog 46 4 = some (4, 1, false) := by kernel_rfl
@[go_sem] theorem fd50_0 : fldOf Tryz.prog 50 0 = some (0, 1, false) := by kernel_rfl
@[go_sem] theorem fd50_1 : fldOf Tryz.prog 50 1 = some (1, 1, false) := by kernel_rfl
@[go_sem] theorem fd50_2 : fldOf Tryz.prog 50 2 = some (2, 1, false) := by kernel_rfl
@[go_sem] theorem fd50_3 : fldOf Tryz.prog 50 3 = some (3, 1, false) := by kernel_rfl
@[go_sem] theorem fd57_0 : fldOf Tryz.prog 57 0 = some (0, 1, false) := by kernel_rfl
@[go_sem] theorem fd57_1 : fldOf Tryz.prog 57 1 = some (1, 1, false) := by kernel_rfl
theorem hf100 : Tryz.prog.funcs[100]? = some Tryz.f100 := by kernel_rfl
theorem hf101 : Tryz.prog.funcs[101]? = some Tryz.f101 := by kernel_rfl
theorem hf11 : Tryz.prog.funcs[11]? = some Tryz.f11 := by kernel_rfl
theorem hf113 : Tryz.prog.funcs[113]? = some Tryz.f113 := by kernel_rfl
theorem hf114 : Tryz.prog.funcs[114]? = some Tryz.f114 := by kernel_rfl
theorem hf12 : Tryz.prog.funcs[12]? = some Tryz.f12 := by kernel_rfl
theorem hf122 : Tryz.prog.funcs[122]? = some Tryz.f122 := by kernel_rfl
theorem hf123 : Tryz.prog.funcs[123]? = some Tryz.f123 := by kernel_rfl
theorem hf13 : Tryz.prog.funcs[13]? = some Tryz.f13 := by kernel_rfl
theorem hf137 : Tryz.prog.funcs[137]? = some Tryz.f137 := by kernel_rfl
theorem hf138 : Tryz.prog.funcs[138]? = some Tryz.f138 := by kernel_rfl
theorem hf14 : Tryz.prog.funcs[14]? = some Tryz.f14 := by kernel_rfl
theorem hf144 : Tryz.prog.funcs[144]? = some Tryz.f144 := by kernel_rfl
theorem hf146 : Tryz.prog.funcs[146]? = some Tryz.f146 := by kernel_rfl
theorem hf15 : Tryz.prog.funcs[15]? = some Tryz.f15 := by kernel_rfl
theorem hf16 : Tryz.prog.funcs[16]? = some Tryz.f16 := by kernel_rfl
theorem hf17 : Tryz.prog.funcs[17]? = some Tryz.f17 := by kernel_rfl
theorem hf18 : Tryz.prog.funcs[18]? = some Tryz.f18 := by kernel_rfl
theorem hf19 : Tryz.prog.funcs[19]? = some Tryz.f19 := by kernel_rfl
theorem hf20 : Tryz.prog.funcs[20]? = some Tryz.f20 := by kernel_rfl
theorem hf21 : Tryz.prog.funcs[21]? = some Tryz.f21 := by kernel_rfl
theorem hf22 : Tryz.prog.funcs[22]? = some Tryz.f22 := by kernel_rfl
theorem hf23 : Tryz.prog.funcs[23]? = some Tryz.f23 := by kernel_rfl
theorem hf24 : Tryz.prog.funcs[24]? = some Tryz.f24 := by kernel_rfl
theorem hf25 : Tryz.prog.funcs[25]? = some Tryz.f25 := by kernel_rfl
theorem hf26 : Tryz.prog.funcs[26]? = some Tryz.f26 := by kernel_rfl
theorem hf27 : Tryz.prog.funcs[27]? = some Tryz.f27 := by kernel_rfl
theorem hf29 : Tryz.prog.funcs[29]? = some Tryz.f29 := by kernel_rfl
theorem hf3 : Tryz.prog.funcs[3]? = some Tryz.f3 := by kernel_rfl
theorem hf30 : Tryz.prog.funcs[30]? = some Tryz.f30 := by kernel_rfl
theorem hf31 : Tryz.prog.funcs[31]? = some Tryz.f31 := by kernel_rfl
theorem hf32 : Tryz.prog.funcs[32]? = some Tryz.f32 := by kernel_rfl
theorem hf33 : Tryz.prog.funcs[33]? = some Tryz.f33 := by kernel_rfl
theorem hf34 : Tryz.prog.funcs[34]? = some Tryz.f34 := by kernel_rfl
theorem hf35 : Tryz.prog.funcs[35]? = some Tryz.f35 := by kernel_rfl
theorem hf37 : Tryz.prog.funcs[37]? = some Tryz.f37 := by kernel_rfl
theorem hf38 : Tryz.prog.funcs[38]? = some Tryz.f38 := by kernel_rfl
theorem hf39 : Tryz.prog.funcs[39]? = some Tryz.f39 := by kernel_rfl
theorem hf40 : Tryz.prog.funcs[40]? = some Tryz.f40 := by kernel_rfl
theorem hf41 : Tryz.prog.funcs[41]? = some Tryz.f41 := by kernel_rfl
theorem hf42 : Tryz.prog.funcs[42]? = some Tryz.f42 := by kernel_rfl
theorem hf44 : Tryz.prog.funcs[44]? = some Tryz.f44 := by kernel_rfl
theorem hf45 : Tryz.prog.funcs[45]? = some Tryz.f45 := by kernel_rfl
theorem hf46 : Tryz.prog.funcs[46]? = some Tryz.f46 := by kernel_rfl
theorem hf47 : Tryz.prog.funcs[47]? = some Tryz.f47 := by kernel_rfl
theorem hf48 : Tryz.prog.funcs[48]? = some Tryz.f48 := by kernel_rfl
theorem hf49 : Tryz.prog.funcs[49]? = some Tryz.f49 := by kernel_rfl
theorem hf5 : Tryz.prog.funcs[5]? = some Tryz.f5 := by kernel_rfl
theorem hf50 : Tryz.prog.funcs[50]? = some Tryz.f50 := by kernel_rfl
theorem hf51 : Tryz.prog.funcs[51]? = some Tryz.f51 := by kernel_rfl
theorem hf52 : Tryz.prog.funcs[52]? = some Tryz.f52 := by kernel_rfl
theorem hf53 : Tryz.prog.funcs[53]? = some Tryz.f53 := by kernel_rfl
theorem hf6 : Tryz.prog.funcs[6]? = some Tryz.f6 := by kernel_rfl
theorem hf60 : Tryz.prog.funcs[60]? = some Tryz.f60 := by kernel_rfl
theorem hf61 : Tryz.prog.funcs[61]? = some Tryz.f61 := by kernel_rfl
theorem hf62 : Tryz.prog.funcs[62]? = some Tryz.f62 := by kernel_rfl
theorem hf63 : Tryz.prog.funcs[63]? = some Tryz.f63 := by kernel_rfl
theorem hf64 : Tryz.prog.funcs[64]? = some Tryz.f64 := by kernel_rfl
theorem hf65 : Tryz.prog.funcs[65]? = some Tryz.f65 := by kernel_rfl
theorem hf66 : Tryz.prog.funcs[66]? = some Tryz.f66 := by kernel_rfl
theorem hf68 : Tryz.prog.funcs[68]? = some Tryz.f68 := by kernel_rfl
theorem hf7 : Tryz.prog.funcs[7]? = some Tryz.f7 := by kernel_rfl
theorem hf70 : Tryz.prog.funcs[70]? = some Tryz.f70 := by kernel_rfl
theorem hf71 : Tryz.prog.funcs[71]? = some Tryz.f71 := by kernel_rfl
theorem hf72 : Tryz.prog.funcs[72]? = some Tryz.f72 := by kernel_rfl
theorem hf73 : Tryz.prog.funcs[73]? = some Tryz.f73 := by kernel_rfl
theorem hf74 : Tryz.prog.funcs[74]? = some Tryz.f74 := by kernel_rfl
theorem hf75 : Tryz.prog.funcs[75]? = some Tryz.f75 := by kernel_rfl
theorem hf76 : Tryz.prog.funcs[76]? = some Tryz.f76 := by kernel_rfl
theorem hf77 : Tryz.prog.funcs[77]? = some Tryz.f77 := by kernel_rfl
theorem hf8 : Tryz.prog.funcs[8]? = some Tryz.f8 := by kernel_rfl
theorem hf83 : Tryz.prog.funcs[83]? = some Tryz.f83 := by kernel_rfl
theorem hf84 : Tryz.prog.funcs[84]? = some Tryz.f84 := by kernel_rfl
theorem hf85 : Tryz.prog.funcs[85]? = some Tryz.f85 := by kernel_rfl
theorem hf86 : Tryz.prog.funcs[86]? = some Tryz.f86 := by kernel_rfl
theorem hf87 : Tryz.prog.funcs[87]? = some Tryz.f87 := by kernel_rfl
theorem hf88 : Tryz.prog.funcs[88]? = some Tryz.f88 := by kernel_rfl
theorem hf9 : Tryz.prog.funcs[9]? = some Tryz.f9 := by kernel_rfl
theorem hf96 : Tryz.prog.funcs[96]? = some Tryz.f96 := by kernel_rfl
theorem hf98 : Tryz.prog.funcs[98]? = some Tryz.f98 := by kernel_rfl
theorem hf99 : Tryz.prog.funcs[99]? = some Tryz.f99 := by kernel_rfl
@[go_sem] theorem io130 : intOf? Tryz.prog 130 = some .u64 := by kernel_rfl
@[go_sem] theorem io156 : intOf? Tryz.prog 156 = some .u32 := by kernel_rfl
@[go_sem] theorem io158 : intOf? Tryz.prog 158 = some .u64 := by kernel_rfl
@[go_sem] theorem kd112 : kindOf Tryz.prog 112 = 2 := by kernel_rfl
@[go_sem] theorem kd130 : kindOf Tryz.prog 130 = 4 := by kernel_rfl
@[go_sem] theorem kd156 : kindOf Tryz.prog 156 = 4 := by kernel_rfl
@[go_sem] theorem kd158 : kindOf Tryz.prog 158 = 4 := by kernel_rfl
@[go_sem] theorem kd22 : kindOf Tryz.prog 22 = 2 := by kernel_rfl
@[go_sem] theorem kd23 : kindOf Tryz.prog 23 = 2 := by kernel_rfl
@[go_sem] theorem kd24 : kindOf Tryz.prog 24 = 2 := by kernel_rfl
@[go_sem] theorem kd29 : kindOf Tryz.prog 29 = 2 := by kernel_rfl
@[go_sem] theorem kd3 : kindOf Tryz.prog 3 = 4 := by kernel_rfl
@[go_sem] theorem kd34 : kindOf Tryz.prog 34 = 3 := by kernel_rfl
@[go_sem] theorem kd4 : kindOf Tryz.prog 4 = 6 := by kernel_rfl
@[go_sem] theorem kd48 : kindOf Tryz.prog 48 = 2 := by kernel_rfl
@[go_sem] theorem kd5 : kindOf Tryz.prog 5 = 4 := by kernel_rfl
@[go_sem] theorem kd51 : kindOf Tryz.prog 51 = 2 := by kernel_rfl
@[go_sem] theorem kd54 : kindOf Tryz.prog 54 = 4 := by kernel_rfl
@[go_sem] theorem kd75 : kindOf Tryz.prog 75 = 2 := by kernel_rfl
@[go_sem] theorem kd83 : kindOf Tryz.prog 83 = 2 := by kernel_rfl
@[go_sem] theorem kd9 : kindOf Tryz.prog 9 = 1 := by kernel_rfl
theorem ok100 : fOk Tryz.prog 100 1 = true := by kernel_rfl
theorem ok101 : fOk Tryz.prog 101 1 = true := by kernel_rfl
theorem ok11 : fOk Tryz.prog 11 2 = true := by kernel_rfl
theorem ok113 : fOk Tryz.prog 113 2 = true := by kernel_rfl
theorem ok114 : fOk Tryz.prog 114 2 = true := by kernel_rfl
theorem ok12 : fOk Tryz.prog 12 2 = true := by kernel_rfl
theorem ok122 : fOk Tryz.prog 122 1 = true := by kernel_rfl
theorem ok123 : fOk Tryz.prog 123 2 = true := by kernel_rfl
theorem ok13 : fOk Tryz.prog 13 2 = true := by kernel_rfl
theorem ok137 : fOk Tryz.prog 137 2 = true := by kernel_rfl
theorem ok138 : fOk Tryz.prog 138 1 = true := by kernel_rfl
theorem ok14 : fOk Tryz.prog 14 1 = true := by kernel_rfl
theorem ok144 : fOk Tryz.prog 144 2 = true := by kernel_rfl
theorem ok146 : fOk Tryz.prog 146 2 = true := by kernel_rfl
theorem ok15 : fOk Tryz.prog 15 1 = true := by kernel_rfl
theorem ok16 : fOk Tryz.prog 16 1 = true := by kernel_rfl
theorem ok17 : fOk Tryz.prog 17 1 = true := by kernel_rfl
theorem ok18 : fOk Tryz.prog 18 1 = true := by kernel_rfl
theorem ok19 : fOk Tryz.prog 19 1 = true := by kernel_rfl
theorem ok20 : fOk Tryz.prog 20 1 = true := by kernel_rfl
theorem ok21 : fOk Tryz.prog 21 2 = true := by kernel_rfl
theorem ok22 : fOk Tryz.prog 22 1 = true := by kernel_rfl
theorem ok23 : fOk Tryz.prog 23 6 = true := by kernel_rfl
theorem ok24 : fOk Tryz.prog 24 2 = true := by kernel_rfl
theorem ok25 : fOk Tryz.prog 25 2 = true := by kernel_rfl
theorem ok26 : fOk Tryz.prog 26 1 = true := by kernel_rfl
theorem ok27 : fOk Tryz.prog 27 4 = true := by kernel_rfl
theorem ok29 : fOk Tryz.prog 29 2 = true := by kernel_rfl
theorem ok3 : fOk Tryz.prog 3 2 = true := by kernel_rfl
theorem ok30 : fOk Tryz.prog 30 3 = true := by kernel_rfl
theorem ok31 : fOk Tryz.prog 31 2 = true := by kernel_rfl
theorem ok32 : fOk Tryz.prog 32 2 = true := by kernel_rfl
theorem ok33 : fOk Tryz.prog 33 2 = true := by kernel_rfl
theorem ok34 : fOk Tryz.prog 34 2 = true := by kernel_rfl
theorem ok35 : fOk Tryz.prog 35 3 = true := by kernel_rfl
theorem ok37 : fOk Tryz.prog 37 1 = true := by kernel_rfl
theorem ok38 : fOk Tryz.prog 38 2 = true := by kernel_rfl
theorem ok39 : fOk Tryz.prog 39 2 = true := by kernel_rfl
theorem ok40 : fOk Tryz.prog 40 2 = true := by kernel_rfl
theorem ok41 : fOk Tryz.prog 41 1 = true := by kernel_rfl
theorem ok42 : fOk Tryz.prog 42 1 = true := by kernel_rfl
theorem ok44 : fOk Tryz.prog 44 1 = true := by kernel_rfl
theorem ok45 : fOk Tryz.prog 45 1 = true := by kernel_rfl
theorem ok46 : fOk Tryz.prog 46 2 = true := by kernel_rfl
theorem ok47 : fOk Tryz.prog 47 1 = true := by kernel_rfl
theorem ok48 : fOk Tryz.prog 48 4 = true := by kernel_rfl
theorem ok49 : fOk Tryz.prog 49 2 = true := by kernel_rfl
theorem ok5 : fOk Tryz.prog 5 1 = true := by kernel_rfl
theorem ok50 : fOk Tryz.prog 50 1 = true := by kernel_rfl
theorem ok51 : fOk Tryz.prog 51 1 = true := by kernel_rfl
theorem ok52 : fOk Tryz.prog 52 1 = true := by kernel_rfl
theorem ok53 : fOk Tryz.prog 53 3 = true := by kernel_rfl
theorem ok6 : fOk Tryz.prog 6 0 = true := by kernel_rfl
theorem ok60 : fOk Tryz.prog 60 2 = true := by kernel_rfl
theorem ok61 : fOk Tryz.prog 61 2 = true := by kernel_rfl
theorem ok62 : fOk Tryz.prog 62 2 = true := by kernel_rfl
theorem ok63 : fOk Tryz.prog 63 1 = true := by kernel_rfl
theorem ok64 : fOk Tryz.prog 64 2 = true := by kernel_rfl
theorem ok65 : fOk Tryz.prog 65 1 = true := by kernel_rfl
theorem ok66 : fOk Tryz.prog 66 1 = true := by kernel_rfl
theorem ok68 : fOk Tryz.prog 68 2 = true := by kernel_rfl
theorem ok7 : fOk Tryz.prog 7 1 = true := by kernel_rfl
theorem ok70 : fOk Tryz.prog 70 2 = true := by kernel_rfl
theorem ok71 : fOk Tryz.prog 71 1 = true := by kernel_rfl
theorem ok72 : fOk Tryz.prog 72 2 = true := by kernel_rfl
theorem ok73 : fOk Tryz.prog 73 4 = true := by kernel_rfl
theorem ok74 : fOk Tryz.prog 74 1 = true := by kernel_rfl
theorem ok75 : fOk Tryz.prog 75 1 = true := by kernel_rfl
theorem ok76 : fOk Tryz.prog 76 1 = true := by kernel_rfl
theorem ok77 : fOk Tryz.prog 77 2 = true := by kernel_rfl
theorem ok8 : fOk Tryz.prog 8 1 = true := by kernel_rfl
theorem ok83 : fOk Tryz.prog 83 2 = true := by kernel_rfl
theorem ok84 : fOk Tryz.prog 84 2 = true := by kernel_rfl
theorem ok85 : fOk Tryz.prog 85 2 = true := by kernel_rfl
theorem ok86 : fOk Tryz.prog 86 2 = true := by kernel_rfl
theorem ok87 : fOk Tryz.prog 87 1 = true := by kernel_rfl
theorem ok88 : fOk Tryz.prog 88 1 = true := by kernel_rfl
theorem ok9 : fOk Tryz.prog 9 1 = true := by kernel_rfl
theorem ok96 : fOk Tryz.prog 96 2 = true := by kernel_rfl
theorem ok98 : fOk Tryz.prog 98 2 = true := by kernel_rfl
theorem ok99 : fOk Tryz.prog 99 1 = true := by kernel_rfl
@[go_sem] theorem pt143_0 : partOf Tryz.prog 143 0 = some (0, 1, false) := by kernel_rfl
@[go_sem] theorem pt143_1 : partOf Tryz.prog 143 1 = some (1, 1, false) := by kernel_rfl
@[go_sem] theorem pt31_0 : partOf Tryz.prog 31 0 = some (0, 1, false) := by kernel_rfl
@[go_sem] theorem pt31_1 : partOf Tryz.prog 31 1 = some (1, 1, false) := by kernel_rfl
@[go_sem] theorem pt31_2 : partOf Tryz.prog 31 2 = some (2, 1, false) := by kernel_rfl
@[go_sem] theorem pt31_3 : partOf Tryz.prog 31 3 = some (3, 1, false) := by kernel_rfl
@[go_sem] theorem pt31_4 : partOf Tryz.prog 31 4 = some (4, 1, false) := by kernel_rfl
@[go_sem] theorem pt46_0 : partOf Tryz.prog 46 0 = some (0, 1, false) := by kernel_rfl
@[go_sem] theorem pt46_1 : partOf Tryz.prog 46 1 = some (1, 1, false) := by kernel_rfl
@[go_sem] theorem pt46_2 : partOf Tryz.prog 46 2 = some (2, 1, false) := by kernel_rfl
@[go_sem] theorem pt46_3 : partOf Tryz.prog 46 3 = some (3, 1, false) := by kernel_rfl
@[go_sem] theorem pt46_4 : partOf Tryz.prog 46 4 = some (4, 1, false) := by kernel_rfl
@[go_sem] theorem pt50_0 : partOf Tryz.prog 50 0 = some (0, 1, false) := by kernel_rfl
@[go_sem] theorem pt50_1 : partOf Tryz.prog 50 1 = some (1, 1, false) := by kernel_rfl
@[go_sem] theorem pt50_3 : partOf Tryz.prog 50 3 = some (3, 1, false) := by kernel_rfl
@[go_sem] theorem pt57_0 : partOf Tryz.prog 57 0 = some (0, 1, false) := by kernel_rfl
@[go_sem] theorem pt85_0 : partOf Tryz.prog 85 0 = some (0, 1, false) := by kernel_rfl
@[go_sem] theorem pt85_1 : partOf Tryz.prog 85 1 = some (1, 1, false) := by kernel_rfl
@[go_sem] theorem sz143 : szOf Tryz.prog 143 = some 2 := by kernel_rfl
@[go_sem] theorem sz156 : szOf Tryz.prog 156 = some 1 := by kernel_rfl
@[go_sem] theorem sz22 : szOf Tryz.prog 22 = some 1 := by kernel_rfl
@[go_sem] theorem sz23 : szOf Tryz.prog 23 = some 1 := by kernel_rfl
@[go_sem] theorem sz24 : szOf Tryz.prog 24 = some 1 := by kernel_rfl
@[go_sem] theorem sz26 : szOf Tryz.prog 26 = some 5 := by kernel_rfl
@[go_sem] theorem sz29 : szOf Tryz.prog 29 = some 1 := by kernel_rfl
@[go_sem] theorem sz3 : szOf Tryz.prog 3 = some 1 := by kernel_rfl
@[go_sem] theorem sz31 : szOf Tryz.prog 31 = some 5 := by kernel_rfl
@[go_sem] theorem sz45 : szOf Tryz.prog 45 = some 5 := by kernel_rfl
@[go_sem] theorem sz46 : szOf Tryz.prog 46 = some 5 := by kernel_rfl
@[go_sem] theorem sz48 : szOf Tryz.prog 48 = some 1 := by kernel_rfl
@[go_sem] theorem sz5 : szOf Tryz.prog 5 = some 1 := by kernel_rfl
@[go_sem] theorem sz50 : szOf Tryz.prog 50 = some 4 := by kernel_rfl
@[go_sem] theorem sz85 : szOf Tryz.prog 85 = some 2 := by kernel_rfl
@[go_sem] theorem sz9 : szOf Tryz.prog 9 = some 1 := by kernel_rfl
@[go_sem] theorem u8112 : u8El Tryz.prog 112 = true := by kernel_rfl
@[go_sem] theorem ze143 : zeroOf Tryz.prog 143 = some [.bool false, .sl none []] := by kernel_rfl
@[go_sem] theorem ze3 : zeroOf Tryz.prog 3 = some [.int .i64 0] := by kernel_rfl
@[go_sem] theorem ze31 : zeroOf Tryz.prog 31 = some [.str [], .sl none [], .sl none [], .sl none [], .sl none []] := by kernel_rfl
@[go_sem] theorem ze45 : zeroOf Tryz.prog 45 = some [.int .u8 0, .str [], .int .i64 0, .sl none [], .sl none []] := by kernel_rfl
@[go_sem] theorem ze46 : zeroOf Tryz.prog 46 = some [.int .u8 0, .str [], .int .i64 0, .sl none [], .sl none []] := by kernel_rfl
@[go_sem] theorem ze50 : zeroOf Tryz.prog 50 = some [.str [], .str [], .sl none [], .sl none []] := by kernel_rfl
@[go_sem] theorem ze57 : zeroOf Tryz.prog 57 = some [.sl none [], .int .i64 0] := by kernel_rfl
@[go_sem] theorem ze85 : zeroOf Tryz.prog 85 = some [.bool false, .sl none []] := by kernel_rfl
end Go.Av

