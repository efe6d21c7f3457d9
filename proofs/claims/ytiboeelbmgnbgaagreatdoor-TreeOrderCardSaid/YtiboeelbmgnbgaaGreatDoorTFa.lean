import Derived.Test.YtiboeelbmgnbgaaGreatDoorEx5
import Derived.Test.YtiboeelbmgnbgaaGreatDoorProg
import Derived.KernelRfl
set_option linter.unusedSectionVars false
set_option linter.unusedVariables false
set_option linter.unusedSimpArgs false
set_option linter.unnecessarySimpa false
set_option linter.unusedVariables false
set_option linter.unusedSimpArgs false
set_option maxRecDepth 100000
set_option maxHeartbeats 4000000
set_option pp.maxSteps 400
namespace Go.Av
open Go Go.Proofs
@[go_sem] theorem af102 : allFld Tryz.prog 102 = true := by kernel_rfl
@[go_sem] theorem af177 : allFld Tryz.prog 177 = true := by kernel_rfl
@[go_sem] theorem af259 : allFld Tryz.prog 259 = true := by kernel_rfl
@[go_sem] theorem af35 : allFld Tryz.prog 35 = true := by kernel_rfl
@[go_sem] theorem af59 : allFld Tryz.prog 59 = true := by kernel_rfl
@[go_sem] theorem af81 : allFld Tryz.prog 81 = true := by kernel_rfl
@[go_sem] theorem ag177 : aggOf Tryz.prog 177 = some true := by kernel_rfl
@[go_sem] theorem ag22 : aggOf Tryz.prog 22 = some false := by kernel_rfl
@[go_sem] theorem ag23 : aggOf Tryz.prog 23 = some false := by kernel_rfl
@[go_sem] theorem ag24 : aggOf Tryz.prog 24 = some false := by kernel_rfl
@[go_sem] theorem ag259 : aggOf Tryz.prog 259 = some true := by kernel_rfl
@[go_sem] theorem ag26 : aggOf Tryz.prog 26 = some true := by kernel_rfl
@[go_sem] theorem ag272 : aggOf Tryz.prog 272 = some false := by kernel_rfl
@[go_sem] theorem ag3 : aggOf Tryz.prog 3 = some false := by kernel_rfl
@[go_sem] theorem ag33 : aggOf Tryz.prog 33 = some false := by kernel_rfl
@[go_sem] theorem ag35 : aggOf Tryz.prog 35 = some true := by kernel_rfl
@[go_sem] theorem ag5 : aggOf Tryz.prog 5 = some false := by kernel_rfl
@[go_sem] theorem ag52 : aggOf Tryz.prog 52 = some false := by kernel_rfl
@[go_sem] theorem ag54 : aggOf Tryz.prog 54 = some true := by kernel_rfl
@[go_sem] theorem ag59 : aggOf Tryz.prog 59 = some true := by kernel_rfl
@[go_sem] theorem ag78 : aggOf Tryz.prog 78 = some true := by kernel_rfl
@[go_sem] theorem ag79 : aggOf Tryz.prog 79 = some false := by kernel_rfl
@[go_sem] theorem ag81 : aggOf Tryz.prog 81 = some true := by kernel_rfl
@[go_sem] theorem ag9 : aggOf Tryz.prog 9 = some false := by kernel_rfl
@[go_sem] theorem bl177 : isBldT Tryz.prog 177 = none := by kernel_rfl
@[go_sem] theorem bl259 : isBldT Tryz.prog 259 = none := by kernel_rfl
@[go_sem] theorem bl35 : isBldT Tryz.prog 35 = none := by kernel_rfl
@[go_sem] theorem bl54 : isBldT Tryz.prog 54 = none := by kernel_rfl
@[go_sem] theorem bl59 : isBldT Tryz.prog 59 = none := by kernel_rfl
@[go_sem] theorem bl78 : isBldT Tryz.prog 78 = none := by kernel_rfl
@[go_sem] theorem bl81 : isBldT Tryz.prog 81 = none := by kernel_rfl
@[go_sem] theorem el148 : elOf Tryz.prog 148 = some ⟨5, 1, false, 1⟩ := by kernel_rfl
@[go_sem] theorem el168 : elOf Tryz.prog 168 = some ⟨22, 1, false, 24⟩ := by kernel_rfl
@[go_sem] theorem el175 : elOf Tryz.prog 175 = some ⟨272, 1, false, 4⟩ := by kernel_rfl
@[go_sem] theorem el22 : elOf Tryz.prog 22 = some ⟨9, 1, false, 16⟩ := by kernel_rfl
@[go_sem] theorem el23 : elOf Tryz.prog 23 = some ⟨78, 5, true, 80⟩ := by kernel_rfl
@[go_sem] theorem el24 : elOf Tryz.prog 24 = some ⟨3, 1, false, 8⟩ := by kernel_rfl
@[go_sem] theorem el33 : elOf Tryz.prog 33 = some ⟨59, 5, true, 80⟩ := by kernel_rfl
@[go_sem] theorem el40 : elOf Tryz.prog 40 = some ⟨54, 4, true, 80⟩ := by kernel_rfl
@[go_sem] theorem el43 : elOf Tryz.prog 43 = some ⟨81, 4, true, 80⟩ := by kernel_rfl
@[go_sem] theorem el52 : elOf Tryz.prog 52 = some ⟨26, 5, true, 112⟩ := by kernel_rfl
@[go_sem] theorem el79 : elOf Tryz.prog 79 = some ⟨35, 5, true, 112⟩ := by kernel_rfl
@[go_sem] theorem fd102_0 : fldOf Tryz.prog 102 0 = some (0, 1, false) := by kernel_rfl
@[go_sem] theorem fd102_1 : fldOf Tryz.prog 102 1 = some (1, 1, false) := by kernel_rfl
@[go_sem] theorem fd26_0 : fldOf Tryz.prog 26 0 = some (0, 1, false) := by kernel_rfl
@[go_sem] theorem fd26_1 : fldOf Tryz.prog 26 1 = some (1, 1, false) := by kernel_rfl
@[go_sem] theorem fd26_2 : fldOf Tryz.prog 26 2 = some (2, 1, false) := by kernel_rfl
@[go_sem] theorem fd26_3 : fldOf Tryz.prog 26 3 = some (3, 1, false) := by kernel_rfl
@[go_sem] theorem fd26_4 : fldOf Tryz.prog 26 4 = some (4, 1, false) := by kernel_rfl
@[go_sem] theorem fd35_0 : fldOf Tryz.prog 35 0 = some (0, 1, false) := by kernel_rfl
@[go_sem] theorem fd35_1 : fldOf Tryz.prog 35 1 = some (1, 1, false) := by kernel_rfl
@[go_sem] theorem fd35_2 : fldOf Tryz.prog 35 2 = some (2, 1, false) := by kernel_rfl
@[go_sem] theorem fd35_3 : fldOf Tryz.prog 35 3 = some (3, 1, false) := by kernel_rfl
@[go_sem] theorem fd35_4 : fldOf Tryz.prog 35 4 = some (4, 1, false) := by kernel_rfl
@[go_sem] theorem fd54_0 : fldOf Tryz.prog 54 0 = some (0, 1, false) := by kernel_rfl
@[go_sem] theorem fd54_1 : fldOf Tryz.prog 54 1 = some (1, 1, false) := by kernel_rfl
@[go_sem] theorem fd54_2 : fldOf Tryz.prog 54 2 = some (2, 1, false) := by kernel_rfl
@[go_sem] theorem fd54_3 : fldOf Tryz.prog 54 3 = some (3, 1, false) := by kernel_rfl
@[go_sem] theorem fd59_0 : fldOf Tryz.prog 59 0 = some (0, 1, false) := by kernel_rfl
@[go_sem] theorem fd59_1 : fldOf Tryz.prog 59 1 = some (1, 1, false) := by kernel_rfl
@[go_sem] theorem fd59_2 : fldOf Tryz.prog 59 2 = some (2, 1, false) := by kernel_rfl
@[go_sem] theorem fd59_3 : fldOf Tryz.prog 59 3 = some (3, 1, false) := by kernel_rfl
@[go_sem] theorem fd59_4 : fldOf Tryz.prog 59 4 = some (4, 1, false) := by kernel_rfl
@[go_sem] theorem fd78_0 : fldOf Tryz.prog 78 0 = some (0, 1, false) := by kernel_rfl
@[go_sem] theorem fd78_1 : fldOf Tryz.prog 78 1 = some (1, 1, false) := by kernel_rfl
@[go_sem] theorem fd78_2 : fldOf Tryz.prog 78 2 = some (2, 1, false) := by kernel_rfl
@[go_sem] theorem fd78_3 : fldOf Tryz.prog 78 3 = some (3, 1, false) := by kernel_rfl
@[go_sem] theorem fd78_4 : fldOf Tryz.prog 78 4 = some (4, 1, false) := by kernel_rfl
@[go_sem] theorem fd81_0 : fldOf Tryz.prog 81 0 = some (0, 1, false) := by kernel_rfl
@[go_sem] theorem fd81_1 : fldOf Tryz.prog 81 1 = some (1, 1, false) := by kernel_rfl
@[go_sem] theorem fd81_2 : fldOf Tryz.prog 81 2 = some (2, 1, false) := by kernel_rfl
@[go_sem] theorem fd81_3 : fldOf Tryz.prog 81 3 = some (3, 1, false) := by kernel_rfl
theorem hf100 : Tryz.prog.funcs[100]? = some Tryz.f100 := by kernel_rfl
theorem hf118 : Tryz.prog.funcs[118]? = some Tryz.f118 := by kernel_rfl
theorem hf119 : Tryz.prog.funcs[119]? = some Tryz.f119 := by kernel_rfl
theorem hf120 : Tryz.prog.funcs[120]? = some Tryz.f120 := by kernel_rfl
theorem hf121 : Tryz.prog.funcs[121]? = some Tryz.f121 := by kernel_rfl
theorem hf122 : Tryz.prog.funcs[122]? = some Tryz.f122 := by kernel_rfl
theorem hf123 : Tryz.prog.funcs[123]? = some Tryz.f123 := by kernel_rfl
theorem hf128 : Tryz.prog.funcs[128]? = some Tryz.f128 := by kernel_rfl
theorem hf129 : Tryz.prog.funcs[129]? = some Tryz.f129 := by kernel_rfl
theorem hf130 : Tryz.prog.funcs[130]? = some Tryz.f130 := by kernel_rfl
theorem hf131 : Tryz.prog.funcs[131]? = some Tryz.f131 := by kernel_rfl
theorem hf132 : Tryz.prog.funcs[132]? = some Tryz.f132 := by kernel_rfl
theorem hf133 : Tryz.prog.funcs[133]? = some Tryz.f133 := by kernel_rfl
theorem hf147 : Tryz.prog.funcs[147]? = some Tryz.f147 := by kernel_rfl
theorem hf163 : Tryz.prog.funcs[163]? = some Tryz.f163 := by kernel_rfl
theorem hf173 : Tryz.prog.funcs[173]? = some Tryz.f173 := by kernel_rfl
theorem hf175 : Tryz.prog.funcs[175]? = some Tryz.f175 := by kernel_rfl
theorem hf176 : Tryz.prog.funcs[176]? = some Tryz.f176 := by kernel_rfl
theorem hf177 : Tryz.prog.funcs[177]? = some Tryz.f177 := by kernel_rfl
theorem hf178 : Tryz.prog.funcs[178]? = some Tryz.f178 := by kernel_rfl
theorem hf179 : Tryz.prog.funcs[179]? = some Tryz.f179 := by kernel_rfl
theorem hf185 : Tryz.prog.funcs[185]? = some Tryz.f185 := by kernel_rfl
theorem hf186 : Tryz.prog.funcs[186]? = some Tryz.f186 := by kernel_rfl
theorem hf202 : Tryz.prog.funcs[202]? = some Tryz.f202 := by kernel_rfl
theorem hf208 : Tryz.prog.funcs[208]? = some Tryz.f208 := by kernel_rfl
theorem hf209 : Tryz.prog.funcs[209]? = some Tryz.f209 := by kernel_rfl
theorem hf210 : Tryz.prog.funcs[210]? = some Tryz.f210 := by kernel_rfl
theorem hf218 : Tryz.prog.funcs[218]? = some Tryz.f218 := by kernel_rfl
theorem hf219 : Tryz.prog.funcs[219]? = some Tryz.f219 := by kernel_rfl
theorem hf23 : Tryz.prog.funcs[23]? = some Tryz.f23 := by kernel_rfl
theorem hf24 : Tryz.prog.funcs[24]? = some Tryz.f24 := by kernel_rfl
theorem hf244 : Tryz.prog.funcs[244]? = some Tryz.f244 := by kernel_rfl
theorem hf246 : Tryz.prog.funcs[246]? = some Tryz.f246 := by kernel_rfl
theorem hf25 : Tryz.prog.funcs[25]? = some Tryz.f25 := by kernel_rfl
theorem hf250 : Tryz.prog.funcs[250]? = some Tryz.f250 := by kernel_rfl
theorem hf251 : Tryz.prog.funcs[251]? = some Tryz.f251 := by kernel_rfl
theorem hf26 : Tryz.prog.funcs[26]? = some Tryz.f26 := by kernel_rfl
theorem hf267 : Tryz.prog.funcs[267]? = some Tryz.f267 := by kernel_rfl
theorem hf271 : Tryz.prog.funcs[271]? = some Tryz.f271 := by kernel_rfl
theorem hf281 : Tryz.prog.funcs[281]? = some Tryz.f281 := by kernel_rfl
theorem hf29 : Tryz.prog.funcs[29]? = some Tryz.f29 := by kernel_rfl
theorem hf31 : Tryz.prog.funcs[31]? = some Tryz.f31 := by kernel_rfl
theorem hf32 : Tryz.prog.funcs[32]? = some Tryz.f32 := by kernel_rfl
theorem hf34 : Tryz.prog.funcs[34]? = some Tryz.f34 := by kernel_rfl
theorem hf36 : Tryz.prog.funcs[36]? = some Tryz.f36 := by kernel_rfl
theorem hf37 : Tryz.prog.funcs[37]? = some Tryz.f37 := by kernel_rfl
theorem hf63 : Tryz.prog.funcs[63]? = some Tryz.f63 := by kernel_rfl
theorem hf64 : Tryz.prog.funcs[64]? = some Tryz.f64 := by kernel_rfl
theorem hf65 : Tryz.prog.funcs[65]? = some Tryz.f65 := by kernel_rfl
theorem hf66 : Tryz.prog.funcs[66]? = some Tryz.f66 := by kernel_rfl
theorem hf71 : Tryz.prog.funcs[71]? = some Tryz.f71 := by kernel_rfl
theorem hf72 : Tryz.prog.funcs[72]? = some Tryz.f72 := by kernel_rfl
theorem hf73 : Tryz.prog.funcs[73]? = some Tryz.f73 := by kernel_rfl
theorem hf74 : Tryz.prog.funcs[74]? = some Tryz.f74 := by kernel_rfl
theorem hf77 : Tryz.prog.funcs[77]? = some Tryz.f77 := by kernel_rfl
theorem hf8 : Tryz.prog.funcs[8]? = some Tryz.f8 := by kernel_rfl
theorem hf82 : Tryz.prog.funcs[82]? = some Tryz.f82 := by kernel_rfl
theorem hf83 : Tryz.prog.funcs[83]? = some Tryz.f83 := by kernel_rfl
theorem hf84 : Tryz.prog.funcs[84]? = some Tryz.f84 := by kernel_rfl
@[go_sem] theorem io234 : intOf? Tryz.prog 234 = some .u64 := by kernel_rfl
@[go_sem] theorem io272 : intOf? Tryz.prog 272 = some .u32 := by kernel_rfl
@[go_sem] theorem io274 : intOf? Tryz.prog 274 = some .u64 := by kernel_rfl
@[go_sem] theorem kd148 : kindOf Tryz.prog 148 = 2 := by kernel_rfl
@[go_sem] theorem kd168 : kindOf Tryz.prog 168 = 2 := by kernel_rfl
@[go_sem] theorem kd175 : kindOf Tryz.prog 175 = 2 := by kernel_rfl
@[go_sem] theorem kd22 : kindOf Tryz.prog 22 = 2 := by kernel_rfl
@[go_sem] theorem kd23 : kindOf Tryz.prog 23 = 2 := by kernel_rfl
@[go_sem] theorem kd234 : kindOf Tryz.prog 234 = 4 := by kernel_rfl
@[go_sem] theorem kd24 : kindOf Tryz.prog 24 = 2 := by kernel_rfl
@[go_sem] theorem kd272 : kindOf Tryz.prog 272 = 4 := by kernel_rfl
@[go_sem] theorem kd274 : kindOf Tryz.prog 274 = 4 := by kernel_rfl
@[go_sem] theorem kd3 : kindOf Tryz.prog 3 = 4 := by kernel_rfl
@[go_sem] theorem kd30 : kindOf Tryz.prog 30 = 3 := by kernel_rfl
@[go_sem] theorem kd33 : kindOf Tryz.prog 33 = 2 := by kernel_rfl
@[go_sem] theorem kd4 : kindOf Tryz.prog 4 = 6 := by kernel_rfl
@[go_sem] theorem kd40 : kindOf Tryz.prog 40 = 2 := by kernel_rfl
@[go_sem] theorem kd43 : kindOf Tryz.prog 43 = 2 := by kernel_rfl
@[go_sem] theorem kd5 : kindOf Tryz.prog 5 = 4 := by kernel_rfl
@[go_sem] theorem kd52 : kindOf Tryz.prog 52 = 2 := by kernel_rfl
@[go_sem] theorem kd79 : kindOf Tryz.prog 79 = 2 := by kernel_rfl
@[go_sem] theorem kd86 : kindOf Tryz.prog 86 = 4 := by kernel_rfl
@[go_sem] theorem kd9 : kindOf Tryz.prog 9 = 1 := by kernel_rfl
theorem ok100 : fOk Tryz.prog 100 2 = true := by kernel_rfl
theorem ok118 : fOk Tryz.prog 118 1 = true := by kernel_rfl
theorem ok119 : fOk Tryz.prog 119 1 = true := by kernel_rfl
theorem ok120 : fOk Tryz.prog 120 2 = true := by kernel_rfl
theorem ok121 : fOk Tryz.prog 121 1 = true := by kernel_rfl
theorem ok122 : fOk Tryz.prog 122 4 = true := by kernel_rfl
theorem ok123 : fOk Tryz.prog 123 2 = true := by kernel_rfl
theorem ok128 : fOk Tryz.prog 128 2 = true := by kernel_rfl
theorem ok129 : fOk Tryz.prog 129 2 = true := by kernel_rfl
theorem ok130 : fOk Tryz.prog 130 2 = true := by kernel_rfl
theorem ok131 : fOk Tryz.prog 131 1 = true := by kernel_rfl
theorem ok132 : fOk Tryz.prog 132 2 = true := by kernel_rfl
theorem ok133 : fOk Tryz.prog 133 1 = true := by kernel_rfl
theorem ok147 : fOk Tryz.prog 147 2 = true := by kernel_rfl
theorem ok163 : fOk Tryz.prog 163 2 = true := by kernel_rfl
theorem ok173 : fOk Tryz.prog 173 1 = true := by kernel_rfl
theorem ok175 : fOk Tryz.prog 175 2 = true := by kernel_rfl
theorem ok176 : fOk Tryz.prog 176 1 = true := by kernel_rfl
theorem ok177 : fOk Tryz.prog 177 2 = true := by kernel_rfl
theorem ok178 : fOk Tryz.prog 178 4 = true := by kernel_rfl
theorem ok179 : fOk Tryz.prog 179 1 = true := by kernel_rfl
theorem ok185 : fOk Tryz.prog 185 2 = true := by kernel_rfl
theorem ok186 : fOk Tryz.prog 186 2 = true := by kernel_rfl
theorem ok202 : fOk Tryz.prog 202 2 = true := by kernel_rfl
theorem ok208 : fOk Tryz.prog 208 2 = true := by kernel_rfl
theorem ok209 : fOk Tryz.prog 209 1 = true := by kernel_rfl
theorem ok210 : fOk Tryz.prog 210 1 = true := by kernel_rfl
theorem ok218 : fOk Tryz.prog 218 2 = true := by kernel_rfl
theorem ok219 : fOk Tryz.prog 219 1 = true := by kernel_rfl
theorem ok23 : fOk Tryz.prog 23 1 = true := by kernel_rfl
theorem ok24 : fOk Tryz.prog 24 0 = true := by kernel_rfl
theorem ok244 : fOk Tryz.prog 244 2 = true := by kernel_rfl
theorem ok246 : fOk Tryz.prog 246 2 = true := by kernel_rfl
theorem ok25 : fOk Tryz.prog 25 1 = true := by kernel_rfl
theorem ok250 : fOk Tryz.prog 250 1 = true := by kernel_rfl
theorem ok251 : fOk Tryz.prog 251 2 = true := by kernel_rfl
theorem ok26 : fOk Tryz.prog 26 1 = true := by kernel_rfl
theorem ok267 : fOk Tryz.prog 267 2 = true := by kernel_rfl
theorem ok271 : fOk Tryz.prog 271 1 = true := by kernel_rfl
theorem ok281 : fOk Tryz.prog 281 2 = true := by kernel_rfl
theorem ok29 : fOk Tryz.prog 29 2 = true := by kernel_rfl
theorem ok31 : fOk Tryz.prog 31 2 = true := by kernel_rfl
theorem ok32 : fOk Tryz.prog 32 1 = true := by kernel_rfl
theorem ok34 : fOk Tryz.prog 34 1 = true := by kernel_rfl
theorem ok36 : fOk Tryz.prog 36 1 = true := by kernel_rfl
theorem ok37 : fOk Tryz.prog 37 1 = true := by kernel_rfl
theorem ok63 : fOk Tryz.prog 63 1 = true := by kernel_rfl
theorem ok64 : fOk Tryz.prog 64 2 = true := by kernel_rfl
theorem ok65 : fOk Tryz.prog 65 1 = true := by kernel_rfl
theorem ok66 : fOk Tryz.prog 66 6 = true := by kernel_rfl
theorem ok71 : fOk Tryz.prog 71 2 = true := by kernel_rfl
theorem ok72 : fOk Tryz.prog 72 3 = true := by kernel_rfl
theorem ok73 : fOk Tryz.prog 73 2 = true := by kernel_rfl
theorem ok74 : fOk Tryz.prog 74 2 = true := by kernel_rfl
theorem ok77 : fOk Tryz.prog 77 3 = true := by kernel_rfl
theorem ok8 : fOk Tryz.prog 8 1 = true := by kernel_rfl
theorem ok82 : fOk Tryz.prog 82 2 = true := by kernel_rfl
theorem ok83 : fOk Tryz.prog 83 1 = true := by kernel_rfl
theorem ok84 : fOk Tryz.prog 84 1 = true := by kernel_rfl
@[go_sem] theorem pt102_0 : partOf Tryz.prog 102 0 = some (0, 1, false) := by kernel_rfl
@[go_sem] theorem pt177_0 : partOf Tryz.prog 177 0 = some (0, 1, false) := by kernel_rfl
@[go_sem] theorem pt177_1 : partOf Tryz.prog 177 1 = some (1, 1, false) := by kernel_rfl
@[go_sem] theorem pt259_0 : partOf Tryz.prog 259 0 = some (0, 1, false) := by kernel_rfl
@[go_sem] theorem pt259_1 : partOf Tryz.prog 259 1 = some (1, 1, false) := by kernel_rfl
@[go_sem] theorem pt35_0 : partOf Tryz.prog 35 0 = some (0, 1, false) := by kernel_rfl
@[go_sem] theorem pt35_1 : partOf Tryz.prog 35 1 = some (1, 1, false) := by kernel_rfl
@[go_sem] theorem pt35_2 : partOf Tryz.prog 35 2 = some (2, 1, false) := by kernel_rfl
@[go_sem] theorem pt35_3 : partOf Tryz.prog 35 3 = some (3, 1, false) := by kernel_rfl
@[go_sem] theorem pt35_4 : partOf Tryz.prog 35 4 = some (4, 1, false) := by kernel_rfl
@[go_sem] theorem pt59_0 : partOf Tryz.prog 59 0 = some (0, 1, false) := by kernel_rfl
@[go_sem] theorem pt59_1 : partOf Tryz.prog 59 1 = some (1, 1, false) := by kernel_rfl
@[go_sem] theorem pt59_2 : partOf Tryz.prog 59 2 = some (2, 1, false) := by kernel_rfl
@[go_sem] theorem pt59_3 : partOf Tryz.prog 59 3 = some (3, 1, false) := by kernel_rfl
@[go_sem] theorem pt59_4 : partOf Tryz.prog 59 4 = some (4, 1, false) := by kernel_rfl
@[go_sem] theorem pt81_0 : partOf Tryz.prog 81 0 = some (0, 1, false) := by kernel_rfl
@[go_sem] theorem pt81_1 : partOf Tryz.prog 81 1 = some (1, 1, false) := by kernel_rfl
@[go_sem] theorem pt81_2 : partOf Tryz.prog 81 2 = some (2, 1, false) := by kernel_rfl
@[go_sem] theorem pt81_3 : partOf Tryz.prog 81 3 = some (3, 1, false) := by kernel_rfl
@[go_sem] theorem sz177 : szOf Tryz.prog 177 = some 2 := by kernel_rfl
@[go_sem] theorem sz22 : szOf Tryz.prog 22 = some 1 := by kernel_rfl
@[go_sem] theorem sz23 : szOf Tryz.prog 23 = some 1 := by kernel_rfl
@[go_sem] theorem sz24 : szOf Tryz.prog 24 = some 1 := by kernel_rfl
@[go_sem] theorem sz259 : szOf Tryz.prog 259 = some 2 := by kernel_rfl
@[go_sem] theorem sz26 : szOf Tryz.prog 26 = some 5 := by kernel_rfl
@[go_sem] theorem sz272 : szOf Tryz.prog 272 = some 1 := by kernel_rfl
@[go_sem] theorem sz3 : szOf Tryz.prog 3 = some 1 := by kernel_rfl
@[go_sem] theorem sz33 : szOf Tryz.prog 33 = some 1 := by kernel_rfl
@[go_sem] theorem sz35 : szOf Tryz.prog 35 = some 5 := by kernel_rfl
@[go_sem] theorem sz5 : szOf Tryz.prog 5 = some 1 := by kernel_rfl
@[go_sem] theorem sz52 : szOf Tryz.prog 52 = some 1 := by kernel_rfl
@[go_sem] theorem sz54 : szOf Tryz.prog 54 = some 4 := by kernel_rfl
@[go_sem] theorem sz59 : szOf Tryz.prog 59 = some 5 := by kernel_rfl
@[go_sem] theorem sz78 : szOf Tryz.prog 78 = some 5 := by kernel_rfl
@[go_sem] theorem sz79 : szOf Tryz.prog 79 = some 1 := by kernel_rfl
@[go_sem] theorem sz81 : szOf Tryz.prog 81 = some 4 := by kernel_rfl
@[go_sem] theorem sz9 : szOf Tryz.prog 9 = some 1 := by kernel_rfl
@[go_sem] theorem u8148 : u8El Tryz.prog 148 = true := by kernel_rfl
@[go_sem] theorem ze102 : zeroOf Tryz.prog 102 = some [.sl none [], .int .i64 0] := by kernel_rfl
@[go_sem] theorem ze177 : zeroOf Tryz.prog 177 = some [.bool false, .sl none []] := by kernel_rfl
@[go_sem] theorem ze259 : zeroOf Tryz.prog 259 = some [.bool false, .sl none []] := by kernel_rfl
@[go_sem] theorem ze3 : zeroOf Tryz.prog 3 = some [.int .i64 0] := by kernel_rfl
@[go_sem] theorem ze35 : zeroOf Tryz.prog 35 = some [.str [], .sl none [], .sl none [], .sl none [], .sl none []] := by kernel_rfl
@[go_sem] theorem ze54 : zeroOf Tryz.prog 54 = some [.str [], .str [], .sl none [], .sl none []] := by kernel_rfl
@[go_sem] theorem ze59 : zeroOf Tryz.prog 59 = some [.int .u8 0, .str [], .int .i64 0, .sl none [], .sl none []] := by kernel_rfl
@[go_sem] theorem ze78 : zeroOf Tryz.prog 78 = some [.int .u8 0, .str [], .int .i64 0, .sl none [], .sl none []] := by kernel_rfl
@[go_sem] theorem ze81 : zeroOf Tryz.prog 81 = some [.str [], .str [], .sl none [], .sl none []] := by kernel_rfl
end Go.Av

