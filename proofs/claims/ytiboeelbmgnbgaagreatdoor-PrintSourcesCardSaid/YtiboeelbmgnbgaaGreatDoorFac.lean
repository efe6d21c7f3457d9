import Derived.Test.YtiboeelbmgnbgaaGreatDoorEx5
import Derived.Test.YtiboeelbmgnbgaaGreatDoorProg
import Derived.KernelRfl
set_option linter.unusedSectionVars false
set_option linter.unusedVariables false
set_option linter.unusedSimpArgs false
set_option linter.unnecessarySimpa false
set_option maxRecDepth 100000
set_option maxHeartbeats 4000000
namespace Go.Av
open Go Go.Proofs
@[go_sem] theorem af102 : zEB Tryz.prog 102 = true := by kernel_rfl
@[go_sem] theorem af177 : zEB Tryz.prog 177 = true := by kernel_rfl
@[go_sem] theorem af250 : zEB Tryz.prog 250 = true := by kernel_rfl
@[go_sem] theorem af259 : zEB Tryz.prog 259 = true := by kernel_rfl
@[go_sem] theorem af35 : zEB Tryz.prog 35 = true := by kernel_rfl
@[go_sem] theorem af59 : zEB Tryz.prog 59 = true := by kernel_rfl
@[go_sem] theorem af74 : zEB Tryz.prog 74 = true := by kernel_rfl
@[go_sem] theorem af81 : zEB Tryz.prog 81 = true := by kernel_rfl
@[go_sem] theorem af91 : zEB Tryz.prog 91 = true := by kernel_rfl
@[go_sem] theorem af96 : zEB Tryz.prog 96 = true := by kernel_rfl
@[go_sem] theorem ag22 : zCj Tryz.prog 22 = some false := by kernel_rfl
@[go_sem] theorem ag23 : zCj Tryz.prog 23 = some false := by kernel_rfl
@[go_sem] theorem ag24 : zCj Tryz.prog 24 = some false := by kernel_rfl
@[go_sem] theorem ag259 : zCj Tryz.prog 259 = some true := by kernel_rfl
@[go_sem] theorem ag26 : zCj Tryz.prog 26 = some true := by kernel_rfl
@[go_sem] theorem ag272 : zCj Tryz.prog 272 = some false := by kernel_rfl
@[go_sem] theorem ag3 : zCj Tryz.prog 3 = some false := by kernel_rfl
@[go_sem] theorem ag33 : zCj Tryz.prog 33 = some false := by kernel_rfl
@[go_sem] theorem ag35 : zCj Tryz.prog 35 = some true := by kernel_rfl
@[go_sem] theorem ag5 : zCj Tryz.prog 5 = some false := by kernel_rfl
@[go_sem] theorem ag52 : zCj Tryz.prog 52 = some false := by kernel_rfl
@[go_sem] theorem ag54 : zCj Tryz.prog 54 = some true := by kernel_rfl
@[go_sem] theorem ag59 : zCj Tryz.prog 59 = some true := by kernel_rfl
@[go_sem] theorem ag70 : zCj Tryz.prog 70 = some false := by kernel_rfl
@[go_sem] theorem ag74 : zCj Tryz.prog 74 = some true := by kernel_rfl
@[go_sem] theorem ag78 : zCj Tryz.prog 78 = some true := by kernel_rfl
@[go_sem] theorem ag79 : zCj Tryz.prog 79 = some false := by kernel_rfl
@[go_sem] theorem ag81 : zCj Tryz.prog 81 = some true := by kernel_rfl
@[go_sem] theorem ag84 : zCj Tryz.prog 84 = some false := by kernel_rfl
@[go_sem] theorem ag9 : zCj Tryz.prog 9 = some false := by kernel_rfl
@[go_sem] theorem ag96 : zCj Tryz.prog 96 = some true := by kernel_rfl
@[go_sem] theorem ar250 : zM4 Tryz.prog 250 = some 5 := by kernel_rfl
@[go_sem] theorem bl177 : zEA Tryz.prog 177 = none := by kernel_rfl
@[go_sem] theorem bl259 : zEA Tryz.prog 259 = none := by kernel_rfl
@[go_sem] theorem bl35 : zEA Tryz.prog 35 = none := by kernel_rfl
@[go_sem] theorem bl54 : zEA Tryz.prog 54 = none := by kernel_rfl
@[go_sem] theorem bl59 : zEA Tryz.prog 59 = none := by kernel_rfl
@[go_sem] theorem bl74 : zEA Tryz.prog 74 = none := by kernel_rfl
@[go_sem] theorem bl78 : zEA Tryz.prog 78 = none := by kernel_rfl
@[go_sem] theorem bl81 : zEA Tryz.prog 81 = none := by kernel_rfl
@[go_sem] theorem bl96 : zEA Tryz.prog 96 = none := by kernel_rfl
@[go_sem] theorem el148 : elOf Tryz.prog 148 = some ⟨5, 1, false, 1⟩ := by kernel_rfl
@[go_sem] theorem el150 : elOf Tryz.prog 150 = some ⟨84, 1, false, 24⟩ := by kernel_rfl
@[go_sem] theorem el166 : elOf Tryz.prog 166 = some ⟨70, 1, false, 24⟩ := by kernel_rfl
@[go_sem] theorem el168 : elOf Tryz.prog 168 = some ⟨22, 1, false, 24⟩ := by kernel_rfl
@[go_sem] theorem el175 : elOf Tryz.prog 175 = some ⟨272, 1, false, 4⟩ := by kernel_rfl
@[go_sem] theorem el22 : elOf Tryz.prog 22 = some ⟨9, 1, false, 16⟩ := by kernel_rfl
@[go_sem] theorem el23 : elOf Tryz.prog 23 = some ⟨78, 5, true, 80⟩ := by kernel_rfl
@[go_sem] theorem el24 : elOf Tryz.prog 24 = some ⟨3, 1, false, 8⟩ := by kernel_rfl
@[go_sem] theorem el33 : elOf Tryz.prog 33 = some ⟨59, 5, true, 80⟩ := by kernel_rfl
@[go_sem] theorem el40 : elOf Tryz.prog 40 = some ⟨54, 4, true, 80⟩ := by kernel_rfl
@[go_sem] theorem el43 : elOf Tryz.prog 43 = some ⟨81, 4, true, 80⟩ := by kernel_rfl
@[go_sem] theorem el52 : elOf Tryz.prog 52 = some ⟨26, 5, true, 112⟩ := by kernel_rfl
@[go_sem] theorem el70 : elOf Tryz.prog 70 = some ⟨74, 3, true, 32⟩ := by kernel_rfl
@[go_sem] theorem el79 : elOf Tryz.prog 79 = some ⟨35, 5, true, 112⟩ := by kernel_rfl
@[go_sem] theorem el84 : elOf Tryz.prog 84 = some ⟨96, 3, true, 32⟩ := by kernel_rfl
@[go_sem] theorem fd102_0 : zBD Tryz.prog 102 0 = some (0, 1, false) := by kernel_rfl
@[go_sem] theorem fd102_1 : zBD Tryz.prog 102 1 = some (1, 1, false) := by kernel_rfl
@[go_sem] theorem fd26_0 : zBD Tryz.prog 26 0 = some (0, 1, false) := by kernel_rfl
@[go_sem] theorem fd26_1 : zBD Tryz.prog 26 1 = some (1, 1, false) := by kernel_rfl
@[go_sem] theorem fd26_2 : zBD Tryz.prog 26 2 = some (2, 1, false) := by kernel_rfl
@[go_sem] theorem fd26_3 : zBD Tryz.prog 26 3 = some (3, 1, false) := by kernel_rfl
@[go_sem] theorem fd26_4 : zBD Tryz.prog 26 4 = some (4, 1, false) := by kernel_rfl
@[go_sem] theorem fd35_0 : zBD Tryz.prog 35 0 = some (0, 1, false) := by kernel_rfl
@[go_sem] theorem fd35_1 : zBD Tryz.prog 35 1 = some (1, 1, false) := by kernel_rfl
@[go_sem] theorem fd35_2 : zBD Tryz.prog 35 2 = some (2, 1, false) := by kernel_rfl
@[go_sem] theorem fd35_3 : zBD Tryz.prog 35 3 = some (3, 1, false) := by kernel_rfl
@[go_sem] theorem fd35_4 : zBD Tryz.prog 35 4 = some (4, 1, false) := by kernel_rfl
@[go_sem] theorem fd54_0 : zBD Tryz.prog 54 0 = some (0, 1, false) := by kernel_rfl
@[go_sem] theorem fd54_1 : zBD Tryz.prog 54 1 = some (1, 1, false) := by kernel_rfl
@[go_sem] theorem fd54_2 : zBD Tryz.prog 54 2 = some (2, 1, false) := by kernel_rfl
@[go_sem] theorem fd54_3 : zBD Tryz.prog 54 3 = some (3, 1, false) := by kernel_rfl
@[go_sem] theorem fd59_0 : zBD Tryz.prog 59 0 = some (0, 1, false) := by kernel_rfl
@[go_sem] theorem fd59_1 : zBD Tryz.prog 59 1 = some (1, 1, false) := by kernel_rfl
@[go_sem] theorem fd59_2 : zBD Tryz.prog 59 2 = some (2, 1, false) := by kernel_rfl
@[go_sem] theorem fd59_3 : zBD Tryz.prog 59 3 = some (3, 1, false) := by kernel_rfl
@[go_sem] theorem fd59_4 : zBD Tryz.prog 59 4 = some (4, 1, false) := by kernel_rfl
@[go_sem] theorem fd74_0 : zBD Tryz.prog 74 0 = some (0, 1, false) := by kernel_rfl
@[go_sem] theorem fd74_1 : zBD Tryz.prog 74 1 = some (1, 1, false) := by kernel_rfl
@[go_sem] theorem fd74_2 : zBD Tryz.prog 74 2 = some (2, 1, false) := by kernel_rfl
@[go_sem] theorem fd78_0 : zBD Tryz.prog 78 0 = some (0, 1, false) := by kernel_rfl
@[go_sem] theorem fd78_1 : zBD Tryz.prog 78 1 = some (1, 1, false) := by kernel_rfl
@[go_sem] theorem fd78_2 : zBD Tryz.prog 78 2 = some (2, 1, false) := by kernel_rfl
@[go_sem] theorem fd78_3 : zBD Tryz.prog 78 3 = some (3, 1, false) := by kernel_rfl
@[go_sem] theorem fd78_4 : zBD Tryz.prog 78 4 = some (4, 1, false) := by kernel_rfl
@[go_sem] theorem fd81_0 : zBD Tryz.prog 81 0 = some (0, 1, false) := by kernel_rfl
@[go_sem] theorem fd81_1 : zBD Tryz.prog 81 1 = some (1, 1, false) := by kernel_rfl
@[go_sem] theorem fd81_2 : zBD Tryz.prog 81 2 = some (2, 1, false) := by kernel_rfl
@[go_sem] theorem fd81_3 : zBD Tryz.prog 81 3 = some (3, 1, false) := by kernel_rfl
@[go_sem] theorem fd91_0 : zBD Tryz.prog 91 0 = some (0, 5, true) := by kernel_rfl
@[go_sem] theorem fd91_1 : zBD Tryz.prog 91 1 = some (5, 1, false) := by kernel_rfl
@[go_sem] theorem fd96_0 : zBD Tryz.prog 96 0 = some (0, 1, false) := by kernel_rfl
@[go_sem] theorem fd96_1 : zBD Tryz.prog 96 1 = some (1, 1, false) := by kernel_rfl
@[go_sem] theorem fd96_2 : zBD Tryz.prog 96 2 = some (2, 1, false) := by kernel_rfl
theorem hf100 : Tryz.prog.funcs[100]? = some Tryz.f100 := by kernel_rfl
theorem hf102 : Tryz.prog.funcs[102]? = some Tryz.f102 := by kernel_rfl
theorem hf103 : Tryz.prog.funcs[103]? = some Tryz.f103 := by kernel_rfl
theorem hf105 : Tryz.prog.funcs[105]? = some Tryz.f105 := by kernel_rfl
theorem hf106 : Tryz.prog.funcs[106]? = some Tryz.f106 := by kernel_rfl
theorem hf107 : Tryz.prog.funcs[107]? = some Tryz.f107 := by kernel_rfl
theorem hf108 : Tryz.prog.funcs[108]? = some Tryz.f108 := by kernel_rfl
theorem hf109 : Tryz.prog.funcs[109]? = some Tryz.f109 := by kernel_rfl
theorem hf110 : Tryz.prog.funcs[110]? = some Tryz.f110 := by kernel_rfl
theorem hf111 : Tryz.prog.funcs[111]? = some Tryz.f111 := by kernel_rfl
theorem hf118 : Tryz.prog.funcs[118]? = some Tryz.f118 := by kernel_rfl
theorem hf119 : Tryz.prog.funcs[119]? = some Tryz.f119 := by kernel_rfl
theorem hf120 : Tryz.prog.funcs[120]? = some Tryz.f120 := by kernel_rfl
theorem hf121 : Tryz.prog.funcs[121]? = some Tryz.f121 := by kernel_rfl
theorem hf122 : Tryz.prog.funcs[122]? = some Tryz.f122 := by kernel_rfl
theorem hf123 : Tryz.prog.funcs[123]? = some Tryz.f123 := by kernel_rfl
theorem hf124 : Tryz.prog.funcs[124]? = some Tryz.f124 := by kernel_rfl
theorem hf125 : Tryz.prog.funcs[125]? = some Tryz.f125 := by kernel_rfl
theorem hf128 : Tryz.prog.funcs[128]? = some Tryz.f128 := by kernel_rfl
theorem hf129 : Tryz.prog.funcs[129]? = some Tryz.f129 := by kernel_rfl
theorem hf13 : Tryz.prog.funcs[13]? = some Tryz.f13 := by kernel_rfl
theorem hf130 : Tryz.prog.funcs[130]? = some Tryz.f130 := by kernel_rfl
theorem hf131 : Tryz.prog.funcs[131]? = some Tryz.f131 := by kernel_rfl
theorem hf132 : Tryz.prog.funcs[132]? = some Tryz.f132 := by kernel_rfl
theorem hf133 : Tryz.prog.funcs[133]? = some Tryz.f133 := by kernel_rfl
theorem hf139 : Tryz.prog.funcs[139]? = some Tryz.f139 := by kernel_rfl
theorem hf14 : Tryz.prog.funcs[14]? = some Tryz.f14 := by kernel_rfl
theorem hf141 : Tryz.prog.funcs[141]? = some Tryz.f141 := by kernel_rfl
theorem hf147 : Tryz.prog.funcs[147]? = some Tryz.f147 := by kernel_rfl
theorem hf148 : Tryz.prog.funcs[148]? = some Tryz.f148 := by kernel_rfl
theorem hf15 : Tryz.prog.funcs[15]? = some Tryz.f15 := by kernel_rfl
theorem hf150 : Tryz.prog.funcs[150]? = some Tryz.f150 := by kernel_rfl
theorem hf151 : Tryz.prog.funcs[151]? = some Tryz.f151 := by kernel_rfl
theorem hf152 : Tryz.prog.funcs[152]? = some Tryz.f152 := by kernel_rfl
theorem hf155 : Tryz.prog.funcs[155]? = some Tryz.f155 := by kernel_rfl
theorem hf156 : Tryz.prog.funcs[156]? = some Tryz.f156 := by kernel_rfl
theorem hf16 : Tryz.prog.funcs[16]? = some Tryz.f16 := by kernel_rfl
theorem hf161 : Tryz.prog.funcs[161]? = some Tryz.f161 := by kernel_rfl
theorem hf163 : Tryz.prog.funcs[163]? = some Tryz.f163 := by kernel_rfl
theorem hf164 : Tryz.prog.funcs[164]? = some Tryz.f164 := by kernel_rfl
theorem hf165 : Tryz.prog.funcs[165]? = some Tryz.f165 := by kernel_rfl
theorem hf166 : Tryz.prog.funcs[166]? = some Tryz.f166 := by kernel_rfl
theorem hf167 : Tryz.prog.funcs[167]? = some Tryz.f167 := by kernel_rfl
theorem hf168 : Tryz.prog.funcs[168]? = some Tryz.f168 := by kernel_rfl
theorem hf169 : Tryz.prog.funcs[169]? = some Tryz.f169 := by kernel_rfl
theorem hf173 : Tryz.prog.funcs[173]? = some Tryz.f173 := by kernel_rfl
theorem hf175 : Tryz.prog.funcs[175]? = some Tryz.f175 := by kernel_rfl
theorem hf176 : Tryz.prog.funcs[176]? = some Tryz.f176 := by kernel_rfl
theorem hf177 : Tryz.prog.funcs[177]? = some Tryz.f177 := by kernel_rfl
theorem hf178 : Tryz.prog.funcs[178]? = some Tryz.f178 := by kernel_rfl
theorem hf179 : Tryz.prog.funcs[179]? = some Tryz.f179 := by kernel_rfl
theorem hf180 : Tryz.prog.funcs[180]? = some Tryz.f180 := by kernel_rfl
theorem hf181 : Tryz.prog.funcs[181]? = some Tryz.f181 := by kernel_rfl
theorem hf182 : Tryz.prog.funcs[182]? = some Tryz.f182 := by kernel_rfl
theorem hf185 : Tryz.prog.funcs[185]? = some Tryz.f185 := by kernel_rfl
theorem hf186 : Tryz.prog.funcs[186]? = some Tryz.f186 := by kernel_rfl
theorem hf19 : Tryz.prog.funcs[19]? = some Tryz.f19 := by kernel_rfl
theorem hf196 : Tryz.prog.funcs[196]? = some Tryz.f196 := by kernel_rfl
theorem hf20 : Tryz.prog.funcs[20]? = some Tryz.f20 := by kernel_rfl
theorem hf202 : Tryz.prog.funcs[202]? = some Tryz.f202 := by kernel_rfl
theorem hf203 : Tryz.prog.funcs[203]? = some Tryz.f203 := by kernel_rfl
theorem hf204 : Tryz.prog.funcs[204]? = some Tryz.f204 := by kernel_rfl
theorem hf205 : Tryz.prog.funcs[205]? = some Tryz.f205 := by kernel_rfl
theorem hf206 : Tryz.prog.funcs[206]? = some Tryz.f206 := by kernel_rfl
theorem hf207 : Tryz.prog.funcs[207]? = some Tryz.f207 := by kernel_rfl
theorem hf208 : Tryz.prog.funcs[208]? = some Tryz.f208 := by kernel_rfl
theorem hf209 : Tryz.prog.funcs[209]? = some Tryz.f209 := by kernel_rfl
theorem hf21 : Tryz.prog.funcs[21]? = some Tryz.f21 := by kernel_rfl
theorem hf210 : Tryz.prog.funcs[210]? = some Tryz.f210 := by kernel_rfl
theorem hf218 : Tryz.prog.funcs[218]? = some Tryz.f218 := by kernel_rfl
theorem hf219 : Tryz.prog.funcs[219]? = some Tryz.f219 := by kernel_rfl
theorem hf22 : Tryz.prog.funcs[22]? = some Tryz.f22 := by kernel_rfl
theorem hf220 : Tryz.prog.funcs[220]? = some Tryz.f220 := by kernel_rfl
theorem hf221 : Tryz.prog.funcs[221]? = some Tryz.f221 := by kernel_rfl
theorem hf244 : Tryz.prog.funcs[244]? = some Tryz.f244 := by kernel_rfl
theorem hf245 : Tryz.prog.funcs[245]? = some Tryz.f245 := by kernel_rfl
theorem hf246 : Tryz.prog.funcs[246]? = some Tryz.f246 := by kernel_rfl
theorem hf250 : Tryz.prog.funcs[250]? = some Tryz.f250 := by kernel_rfl
theorem hf251 : Tryz.prog.funcs[251]? = some Tryz.f251 := by kernel_rfl
theorem hf26 : Tryz.prog.funcs[26]? = some Tryz.f26 := by kernel_rfl
theorem hf267 : Tryz.prog.funcs[267]? = some Tryz.f267 := by kernel_rfl
theorem hf268 : Tryz.prog.funcs[268]? = some Tryz.f268 := by kernel_rfl
theorem hf27 : Tryz.prog.funcs[27]? = some Tryz.f27 := by kernel_rfl
theorem hf271 : Tryz.prog.funcs[271]? = some Tryz.f271 := by kernel_rfl
theorem hf281 : Tryz.prog.funcs[281]? = some Tryz.f281 := by kernel_rfl
theorem hf37 : Tryz.prog.funcs[37]? = some Tryz.f37 := by kernel_rfl
theorem hf39 : Tryz.prog.funcs[39]? = some Tryz.f39 := by kernel_rfl
theorem hf4 : Tryz.prog.funcs[4]? = some Tryz.f4 := by kernel_rfl
theorem hf51 : Tryz.prog.funcs[51]? = some Tryz.f51 := by kernel_rfl
theorem hf52 : Tryz.prog.funcs[52]? = some Tryz.f52 := by kernel_rfl
theorem hf53 : Tryz.prog.funcs[53]? = some Tryz.f53 := by kernel_rfl
theorem hf54 : Tryz.prog.funcs[54]? = some Tryz.f54 := by kernel_rfl
theorem hf55 : Tryz.prog.funcs[55]? = some Tryz.f55 := by kernel_rfl
theorem hf57 : Tryz.prog.funcs[57]? = some Tryz.f57 := by kernel_rfl
theorem hf58 : Tryz.prog.funcs[58]? = some Tryz.f58 := by kernel_rfl
theorem hf59 : Tryz.prog.funcs[59]? = some Tryz.f59 := by kernel_rfl
theorem hf60 : Tryz.prog.funcs[60]? = some Tryz.f60 := by kernel_rfl
theorem hf61 : Tryz.prog.funcs[61]? = some Tryz.f61 := by kernel_rfl
theorem hf62 : Tryz.prog.funcs[62]? = some Tryz.f62 := by kernel_rfl
theorem hf63 : Tryz.prog.funcs[63]? = some Tryz.f63 := by kernel_rfl
theorem hf64 : Tryz.prog.funcs[64]? = some Tryz.f64 := by kernel_rfl
theorem hf65 : Tryz.prog.funcs[65]? = some Tryz.f65 := by kernel_rfl
theorem hf66 : Tryz.prog.funcs[66]? = some Tryz.f66 := by kernel_rfl
theorem hf67 : Tryz.prog.funcs[67]? = some Tryz.f67 := by kernel_rfl
theorem hf68 : Tryz.prog.funcs[68]? = some Tryz.f68 := by kernel_rfl
theorem hf69 : Tryz.prog.funcs[69]? = some Tryz.f69 := by kernel_rfl
theorem hf70 : Tryz.prog.funcs[70]? = some Tryz.f70 := by kernel_rfl
theorem hf82 : Tryz.prog.funcs[82]? = some Tryz.f82 := by kernel_rfl
theorem hf83 : Tryz.prog.funcs[83]? = some Tryz.f83 := by kernel_rfl
theorem hf84 : Tryz.prog.funcs[84]? = some Tryz.f84 := by kernel_rfl
theorem hf85 : Tryz.prog.funcs[85]? = some Tryz.f85 := by kernel_rfl
theorem hf86 : Tryz.prog.funcs[86]? = some Tryz.f86 := by kernel_rfl
@[go_sem] theorem io234 : intOf? Tryz.prog 234 = some .u64 := by kernel_rfl
@[go_sem] theorem io272 : intOf? Tryz.prog 272 = some .u32 := by kernel_rfl
@[go_sem] theorem io274 : intOf? Tryz.prog 274 = some .u64 := by kernel_rfl
@[go_sem] theorem io3 : intOf? Tryz.prog 3 = some .i64 := by kernel_rfl
@[go_sem] theorem zJt : kindOf Tryz.prog 148 = 2 := by kernel_rfl
@[go_sem] theorem kd150 : kindOf Tryz.prog 150 = 2 := by kernel_rfl
@[go_sem] theorem kd166 : kindOf Tryz.prog 166 = 2 := by kernel_rfl
@[go_sem] theorem kd168 : kindOf Tryz.prog 168 = 2 := by kernel_rfl
@[go_sem] theorem kd175 : kindOf Tryz.prog 175 = 2 := by kernel_rfl
@[go_sem] theorem kd22 : kindOf Tryz.prog 22 = 2 := by kernel_rfl
@[go_sem] theorem kd23 : kindOf Tryz.prog 23 = 2 := by kernel_rfl
@[go_sem] theorem kd234 : kindOf Tryz.prog 234 = 4 := by kernel_rfl
@[go_sem] theorem kd24 : kindOf Tryz.prog 24 = 2 := by kernel_rfl
@[go_sem] theorem kd250 : kindOf Tryz.prog 250 = 0 := by kernel_rfl
@[go_sem] theorem kd272 : kindOf Tryz.prog 272 = 4 := by kernel_rfl
@[go_sem] theorem kd274 : kindOf Tryz.prog 274 = 4 := by kernel_rfl
@[go_sem] theorem kd3 : kindOf Tryz.prog 3 = 4 := by kernel_rfl
@[go_sem] theorem kd30 : kindOf Tryz.prog 30 = 3 := by kernel_rfl
@[go_sem] theorem kd33 : kindOf Tryz.prog 33 = 2 := by kernel_rfl
@[go_sem] theorem kd4 : kindOf Tryz.prog 4 = 6 := by kernel_rfl
@[go_sem] theorem kd40 : kindOf Tryz.prog 40 = 2 := by kernel_rfl
@[go_sem] theorem kd43 : kindOf Tryz.prog 43 = 2 := by kernel_rfl
@[go_sem] theorem kd5 : kindOf Tryz.prog 5 = 4 := by kernel_rfl
@[go_sem] theorem kd52 : kindOf Tryz.prog 52 = 2 := by kernel_rfl
@[go_sem] theorem kd70 : kindOf Tryz.prog 70 = 2 := by kernel_rfl
@[go_sem] theorem kd79 : kindOf Tryz.prog 79 = 2 := by kernel_rfl
@[go_sem] theorem kd84 : kindOf Tryz.prog 84 = 2 := by kernel_rfl
@[go_sem] theorem kd86 : kindOf Tryz.prog 86 = 4 := by kernel_rfl
@[go_sem] theorem kd9 : kindOf Tryz.prog 9 = 1 := by kernel_rfl
theorem ok100 : fOk Tryz.prog 100 2 = true := by kernel_rfl
theorem ok102 : fOk Tryz.prog 102 1 = true := by kernel_rfl
theorem ok103 : fOk Tryz.prog 103 1 = true := by kernel_rfl
theorem ok105 : fOk Tryz.prog 105 1 = true := by kernel_rfl
theorem ok106 : fOk Tryz.prog 106 2 = true := by kernel_rfl
theorem ok107 : fOk Tryz.prog 107 1 = true := by kernel_rfl
theorem ok108 : fOk Tryz.prog 108 1 = true := by kernel_rfl
theorem ok109 : fOk Tryz.prog 109 3 = true := by kernel_rfl
theorem ok110 : fOk Tryz.prog 110 2 = true := by kernel_rfl
theorem ok111 : fOk Tryz.prog 111 2 = true := by kernel_rfl
theorem ok118 : fOk Tryz.prog 118 1 = true := by kernel_rfl
theorem ok119 : fOk Tryz.prog 119 1 = true := by kernel_rfl
theorem ok120 : fOk Tryz.prog 120 2 = true := by kernel_rfl
theorem ok121 : fOk Tryz.prog 121 1 = true := by kernel_rfl
theorem ok122 : fOk Tryz.prog 122 4 = true := by kernel_rfl
theorem ok123 : fOk Tryz.prog 123 2 = true := by kernel_rfl
theorem ok124 : fOk Tryz.prog 124 1 = true := by kernel_rfl
theorem ok125 : fOk Tryz.prog 125 1 = true := by kernel_rfl
theorem ok128 : fOk Tryz.prog 128 2 = true := by kernel_rfl
theorem ok129 : fOk Tryz.prog 129 2 = true := by kernel_rfl
theorem ok13 : fOk Tryz.prog 13 1 = true := by kernel_rfl
theorem ok130 : fOk Tryz.prog 130 2 = true := by kernel_rfl
theorem ok131 : fOk Tryz.prog 131 1 = true := by kernel_rfl
theorem ok132 : fOk Tryz.prog 132 2 = true := by kernel_rfl
theorem ok133 : fOk Tryz.prog 133 1 = true := by kernel_rfl
theorem ok139 : fOk Tryz.prog 139 1 = true := by kernel_rfl
theorem ok14 : fOk Tryz.prog 14 0 = true := by kernel_rfl
theorem ok141 : fOk Tryz.prog 141 1 = true := by kernel_rfl
theorem ok147 : fOk Tryz.prog 147 2 = true := by kernel_rfl
theorem ok148 : fOk Tryz.prog 148 1 = true := by kernel_rfl
theorem ok15 : fOk Tryz.prog 15 1 = true := by kernel_rfl
theorem ok150 : fOk Tryz.prog 150 1 = true := by kernel_rfl
theorem ok151 : fOk Tryz.prog 151 2 = true := by kernel_rfl
theorem ok152 : fOk Tryz.prog 152 1 = true := by kernel_rfl
theorem ok155 : fOk Tryz.prog 155 1 = true := by kernel_rfl
theorem ok156 : fOk Tryz.prog 156 1 = true := by kernel_rfl
theorem ok16 : fOk Tryz.prog 16 1 = true := by kernel_rfl
theorem ok161 : fOk Tryz.prog 161 1 = true := by kernel_rfl
theorem ok163 : fOk Tryz.prog 163 2 = true := by kernel_rfl
theorem ok164 : fOk Tryz.prog 164 2 = true := by kernel_rfl
theorem ok165 : fOk Tryz.prog 165 3 = true := by kernel_rfl
theorem ok166 : fOk Tryz.prog 166 4 = true := by kernel_rfl
theorem ok167 : fOk Tryz.prog 167 4 = true := by kernel_rfl
theorem ok168 : fOk Tryz.prog 168 1 = true := by kernel_rfl
theorem ok169 : fOk Tryz.prog 169 1 = true := by kernel_rfl
theorem ok173 : fOk Tryz.prog 173 1 = true := by kernel_rfl
theorem ok175 : fOk Tryz.prog 175 2 = true := by kernel_rfl
theorem ok176 : fOk Tryz.prog 176 1 = true := by kernel_rfl
theorem ok177 : fOk Tryz.prog 177 2 = true := by kernel_rfl
theorem ok178 : fOk Tryz.prog 178 4 = true := by kernel_rfl
theorem ok179 : fOk Tryz.prog 179 1 = true := by kernel_rfl
theorem ok180 : fOk Tryz.prog 180 1 = true := by kernel_rfl
theorem ok181 : fOk Tryz.prog 181 1 = true := by kernel_rfl
theorem ok182 : fOk Tryz.prog 182 2 = true := by kernel_rfl
theorem ok185 : fOk Tryz.prog 185 2 = true := by kernel_rfl
theorem ok186 : fOk Tryz.prog 186 2 = true := by kernel_rfl
theorem ok19 : fOk Tryz.prog 19 1 = true := by kernel_rfl
theorem ok196 : fOk Tryz.prog 196 1 = true := by kernel_rfl
theorem ok20 : fOk Tryz.prog 20 1 = true := by kernel_rfl
theorem ok202 : fOk Tryz.prog 202 2 = true := by kernel_rfl
theorem ok203 : fOk Tryz.prog 203 2 = true := by kernel_rfl
theorem ok204 : fOk Tryz.prog 204 3 = true := by kernel_rfl
theorem ok205 : fOk Tryz.prog 205 3 = true := by kernel_rfl
theorem ok206 : fOk Tryz.prog 206 2 = true := by kernel_rfl
theorem ok207 : fOk Tryz.prog 207 2 = true := by kernel_rfl
theorem ok208 : fOk Tryz.prog 208 2 = true := by kernel_rfl
theorem ok209 : fOk Tryz.prog 209 1 = true := by kernel_rfl
theorem ok21 : fOk Tryz.prog 21 1 = true := by kernel_rfl
theorem ok210 : fOk Tryz.prog 210 1 = true := by kernel_rfl
theorem ok218 : fOk Tryz.prog 218 2 = true := by kernel_rfl
theorem ok219 : fOk Tryz.prog 219 1 = true := by kernel_rfl
theorem ok22 : fOk Tryz.prog 22 1 = true := by kernel_rfl
theorem ok220 : fOk Tryz.prog 220 1 = true := by kernel_rfl
theorem ok221 : fOk Tryz.prog 221 1 = true := by kernel_rfl
theorem ok244 : fOk Tryz.prog 244 2 = true := by kernel_rfl
theorem ok245 : fOk Tryz.prog 245 3 = true := by kernel_rfl
theorem ok246 : fOk Tryz.prog 246 2 = true := by kernel_rfl
theorem ok250 : fOk Tryz.prog 250 1 = true := by kernel_rfl
theorem ok251 : fOk Tryz.prog 251 2 = true := by kernel_rfl
theorem ok26 : fOk Tryz.prog 26 1 = true := by kernel_rfl
theorem ok267 : fOk Tryz.prog 267 2 = true := by kernel_rfl
theorem ok268 : fOk Tryz.prog 268 3 = true := by kernel_rfl
theorem ok27 : fOk Tryz.prog 27 1 = true := by kernel_rfl
theorem ok271 : fOk Tryz.prog 271 1 = true := by kernel_rfl
theorem ok281 : fOk Tryz.prog 281 2 = true := by kernel_rfl
theorem ok37 : fOk Tryz.prog 37 1 = true := by kernel_rfl
theorem ok39 : fOk Tryz.prog 39 1 = true := by kernel_rfl
theorem ok4 : fOk Tryz.prog 4 1 = true := by kernel_rfl
theorem ok51 : fOk Tryz.prog 51 1 = true := by kernel_rfl
theorem ok52 : fOk Tryz.prog 52 1 = true := by kernel_rfl
theorem ok53 : fOk Tryz.prog 53 1 = true := by kernel_rfl
theorem ok54 : fOk Tryz.prog 54 1 = true := by kernel_rfl
theorem ok55 : fOk Tryz.prog 55 1 = true := by kernel_rfl
theorem ok57 : fOk Tryz.prog 57 3 = true := by kernel_rfl
theorem ok58 : fOk Tryz.prog 58 2 = true := by kernel_rfl
theorem ok59 : fOk Tryz.prog 59 2 = true := by kernel_rfl
theorem ok60 : fOk Tryz.prog 60 1 = true := by kernel_rfl
theorem ok61 : fOk Tryz.prog 61 2 = true := by kernel_rfl
theorem ok62 : fOk Tryz.prog 62 1 = true := by kernel_rfl
theorem ok63 : fOk Tryz.prog 63 1 = true := by kernel_rfl
theorem ok64 : fOk Tryz.prog 64 2 = true := by kernel_rfl
theorem ok65 : fOk Tryz.prog 65 1 = true := by kernel_rfl
theorem ok66 : fOk Tryz.prog 66 6 = true := by kernel_rfl
theorem ok67 : fOk Tryz.prog 67 2 = true := by kernel_rfl
theorem ok68 : fOk Tryz.prog 68 2 = true := by kernel_rfl
theorem ok69 : fOk Tryz.prog 69 1 = true := by kernel_rfl
theorem ok70 : fOk Tryz.prog 70 4 = true := by kernel_rfl
theorem ok82 : fOk Tryz.prog 82 2 = true := by kernel_rfl
theorem ok83 : fOk Tryz.prog 83 1 = true := by kernel_rfl
theorem ok84 : fOk Tryz.prog 84 1 = true := by kernel_rfl
theorem ok85 : fOk Tryz.prog 85 3 = true := by kernel_rfl
theorem ok86 : fOk Tryz.prog 86 1 = true := by kernel_rfl
@[go_sem] theorem pt102_0 : partOf Tryz.prog 102 0 = some (0, 1, false) := by kernel_rfl
@[go_sem] theorem pt177_0 : partOf Tryz.prog 177 0 = some (0, 1, false) := by kernel_rfl
@[go_sem] theorem pt177_1 : partOf Tryz.prog 177 1 = some (1, 1, false) := by kernel_rfl
@[go_sem] theorem pt250_0 : partOf Tryz.prog 250 0 = some (0, 1, false) := by kernel_rfl
@[go_sem] theorem pt250_1 : partOf Tryz.prog 250 1 = some (1, 1, false) := by kernel_rfl
@[go_sem] theorem pt250_2 : partOf Tryz.prog 250 2 = some (2, 1, false) := by kernel_rfl
@[go_sem] theorem pt250_3 : partOf Tryz.prog 250 3 = some (3, 1, false) := by kernel_rfl
@[go_sem] theorem pt250_4 : partOf Tryz.prog 250 4 = some (4, 1, false) := by kernel_rfl
@[go_sem] theorem pt259_0 : partOf Tryz.prog 259 0 = some (0, 1, false) := by kernel_rfl
@[go_sem] theorem pt259_1 : partOf Tryz.prog 259 1 = some (1, 1, false) := by kernel_rfl
@[go_sem] theorem pt35_0 : partOf Tryz.prog 35 0 = some (0, 1, false) := by kernel_rfl
@[go_sem] theorem pt35_1 : partOf Tryz.prog 35 1 = some (1, 1, false) := by kernel_rfl
@[go_sem] theorem pt35_2 : partOf Tryz.prog 35 2 = some (2, 1, false) := by kernel_rfl
@[go_sem] theorem pt35_3 : partOf Tryz.prog 35 3 = some (3, 1, false) := by kernel_rfl
@[go_sem] theorem pt35_4 : partOf Tryz.prog 35 4 = some (4, 1, false) := by kernel_rfl
@[go_sem] theorem pt59_0 : partOf Tryz.prog 59 0 = some (0, 1, false) := by kernel_rfl
@[go_sem] theorem pt59_1 : partOf Tryz.prog 59 1 = some (1, 1, false) := by kernel_rfl
@[go_sem] theorem pt59_2 : partOf Tryz.prog 59 2 = some (2, 1, false) := by kernel_rfl
@[go_sem] theorem pt59_3 : partOf Tryz.prog 59 3 = some (3, 1, false) := by kernel_rfl
@[go_sem] theorem pt59_4 : partOf Tryz.prog 59 4 = some (4, 1, false) := by kernel_rfl
@[go_sem] theorem pt74_0 : partOf Tryz.prog 74 0 = some (0, 1, false) := by kernel_rfl
@[go_sem] theorem pt74_1 : partOf Tryz.prog 74 1 = some (1, 1, false) := by kernel_rfl
@[go_sem] theorem pt81_0 : partOf Tryz.prog 81 0 = some (0, 1, false) := by kernel_rfl
@[go_sem] theorem pt81_1 : partOf Tryz.prog 81 1 = some (1, 1, false) := by kernel_rfl
@[go_sem] theorem pt81_2 : partOf Tryz.prog 81 2 = some (2, 1, false) := by kernel_rfl
@[go_sem] theorem pt81_3 : partOf Tryz.prog 81 3 = some (3, 1, false) := by kernel_rfl
@[go_sem] theorem pt91_0 : partOf Tryz.prog 91 0 = some (0, 5, true) := by kernel_rfl
@[go_sem] theorem pt96_0 : partOf Tryz.prog 96 0 = some (0, 1, false) := by kernel_rfl
@[go_sem] theorem pt96_1 : partOf Tryz.prog 96 1 = some (1, 1, false) := by kernel_rfl
@[go_sem] theorem sz177 : szOf Tryz.prog 177 = some 2 := by kernel_rfl
@[go_sem] theorem sz22 : szOf Tryz.prog 22 = some 1 := by kernel_rfl
@[go_sem] theorem sz23 : szOf Tryz.prog 23 = some 1 := by kernel_rfl
@[go_sem] theorem sz24 : szOf Tryz.prog 24 = some 1 := by kernel_rfl
@[go_sem] theorem sz259 : szOf Tryz.prog 259 = some 2 := by kernel_rfl
@[go_sem] theorem sz26 : szOf Tryz.prog 26 = some 5 := by kernel_rfl
@[go_sem] theorem sz272 : szOf Tryz.prog 272 = some 1 := by kernel_rfl
@[go_sem] theorem sz3 : szOf Tryz.prog 3 = some 1 := by kernel_rfl
@[go_sem] theorem sz33 : szOf Tryz.prog 33 = some 1 := by kernel_rfl
@[go_sem] theorem sz35 : szOf Tryz.prog 35 = some 5 := by kernel_rfl
@[go_sem] theorem sz5 : szOf Tryz.prog 5 = some 1 := by kernel_rfl
@[go_sem] theorem sz52 : szOf Tryz.prog 52 = some 1 := by kernel_rfl
@[go_sem] theorem sz54 : szOf Tryz.prog 54 = some 4 := by kernel_rfl
@[go_sem] theorem sz59 : szOf Tryz.prog 59 = some 5 := by kernel_rfl
@[go_sem] theorem sz70 : szOf Tryz.prog 70 = some 1 := by kernel_rfl
@[go_sem] theorem sz74 : szOf Tryz.prog 74 = some 3 := by kernel_rfl
@[go_sem] theorem sz78 : szOf Tryz.prog 78 = some 5 := by kernel_rfl
@[go_sem] theorem sz79 : szOf Tryz.prog 79 = some 1 := by kernel_rfl
@[go_sem] theorem sz81 : szOf Tryz.prog 81 = some 4 := by kernel_rfl
@[go_sem] theorem sz84 : szOf Tryz.prog 84 = some 1 := by kernel_rfl
@[go_sem] theorem sz9 : szOf Tryz.prog 9 = some 1 := by kernel_rfl
@[go_sem] theorem sz96 : szOf Tryz.prog 96 = some 3 := by kernel_rfl
@[go_sem] theorem u8148 : u8El Tryz.prog 148 = true := by kernel_rfl
@[go_sem] theorem ze102 : zeroOf Tryz.prog 102 = some [.sl none [], .int .i64 0] := by kernel_rfl
@[go_sem] theorem ze177 : zeroOf Tryz.prog 177 = some [.bool false, .sl none []] := by kernel_rfl
@[go_sem] theorem ze250 : zeroOf Tryz.prog 250 = some [.str [], .str [], .str [], .str [], .str []] := by kernel_rfl
@[go_sem] theorem ze259 : zeroOf Tryz.prog 259 = some [.bool false, .sl none []] := by kernel_rfl
@[go_sem] theorem ze35 : zeroOf Tryz.prog 35 = some [.str [], .sl none [], .sl none [], .sl none [], .sl none []] := by kernel_rfl
@[go_sem] theorem ze54 : zeroOf Tryz.prog 54 = some [.str [], .str [], .sl none [], .sl none []] := by kernel_rfl
@[go_sem] theorem ze59 : zeroOf Tryz.prog 59 = some [.int .u8 0, .str [], .int .i64 0, .sl none [], .sl none []] := by kernel_rfl
@[go_sem] theorem ze74 : zeroOf Tryz.prog 74 = some [.int .u8 0, .str [], .int .i64 0] := by kernel_rfl
@[go_sem] theorem ze78 : zeroOf Tryz.prog 78 = some [.int .u8 0, .str [], .int .i64 0, .sl none [], .sl none []] := by kernel_rfl
@[go_sem] theorem ze81 : zeroOf Tryz.prog 81 = some [.str [], .str [], .sl none [], .sl none []] := by kernel_rfl
@[go_sem] theorem ze91 : zeroOf Tryz.prog 91 = some [.str [], .sl none [], .sl none [], .sl none [], .sl none [], .sl none []] := by kernel_rfl
@[go_sem] theorem ze96 : zeroOf Tryz.prog 96 = some [.int .u8 0, .str [], .int .i64 0] := by kernel_rfl
end Go.Av

