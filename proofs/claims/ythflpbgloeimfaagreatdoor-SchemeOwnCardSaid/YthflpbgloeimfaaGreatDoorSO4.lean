/- What schemeOwn_calls, handed_and_shaped, own, laidOut, laid7, mx_of_shaped, arg_scheme needs, out of my texts, by a program (slim.py). -/
import Derived.Test.YthflpbgloeimfaaGreatDoorSO3
namespace Go.Proofs
open Go.Shelf
set_option linter.unusedVariables false
set_option linter.unusedSimpArgs false
def Tryz.lays170_ren : Go.Shelf.Ren := ⟨fun | 170 => 49 | n => n, fun | 70 => 66 | 3 => 3 | 0 => 0 | 72 => 69 | 37 => 67 | 5 => 5 | n => n, fun | n => n⟩
theorem Tryz.lays170 : Go.Proofs.Lays.n170 Tryz.prog Tryz.lays170_ren := {
 mixed := by kernel_rfl
 f170 := Tryz.func49.trans (congrArg some (by kernel_rfl))
 t0 := Tryz.underlying0
 a0 := Tryz.isAgg0
 z0 := Tryz.sizeOf0
 v0 := Tryz.zeroValue0
 t3 := Tryz.underlying3
 a3 := Tryz.isAgg3
 z3 := Tryz.sizeOf3
 v3 := Tryz.zeroValue3
 t37 := Tryz.underlying67
 a37 := Tryz.isAgg67
 z37 := Tryz.sizeOf67
 v37 := Tryz.zeroValue67
 t70 := Tryz.underlying66
 a70 := Tryz.isAgg66
 z70 := Tryz.sizeOf66
 v70 := Tryz.zeroValue66
 t72 := Tryz.underlying69
 a72 := Tryz.isAgg69
 z72 := Tryz.sizeOf69
 v72 := Tryz.zeroValue69 }
open Go.RowKit in
theorem Tryz.Builder_Len (B b : Nat) (bs : List Value) (w : World) (h : Lib.IsBuilder 69 5 B b bs w) :
  Calls Tryz.prog 49 #[.pointer (some ⟨b, 0, none⟩)] w fun e w' => e = .returned (.int .i64 bs.length) ∧ w' = w := Any.Builder_Len Tryz.lays170 B b bs w h
def Tryz.lays169_ren : Go.Shelf.Ren := ⟨fun | 169 => 50 | n => n, fun | 70 => 66 | 9 => 9 | 0 => 0 | 72 => 69 | 37 => 67 | 127 => 135 | 3 => 3 | 5 => 5 | n => n, fun | n => n⟩
theorem Tryz.lays169 : Go.Proofs.Lays.n169 Tryz.prog Tryz.lays169_ren := {
 mixed := by kernel_rfl
 f169 := Tryz.func50.trans (congrArg some (by kernel_rfl))
 t0 := Tryz.underlying0
 a0 := Tryz.isAgg0
 z0 := Tryz.sizeOf0
 v0 := Tryz.zeroValue0
 t3 := Tryz.underlying3
 a3 := Tryz.isAgg3
 z3 := Tryz.sizeOf3
 v3 := Tryz.zeroValue3
 t9 := Tryz.underlying9
 a9 := Tryz.isAgg9
 z9 := Tryz.sizeOf9
 v9 := Tryz.zeroValue9
 t37 := Tryz.underlying67
 a37 := Tryz.isAgg67
 z37 := Tryz.sizeOf67
 v37 := Tryz.zeroValue67
 t70 := Tryz.underlying66
 a70 := Tryz.isAgg66
 z70 := Tryz.sizeOf66
 v70 := Tryz.zeroValue66
 t72 := Tryz.underlying69
 a72 := Tryz.isAgg69
 z72 := Tryz.sizeOf69
 v72 := Tryz.zeroValue69
 t127 := Tryz.underlying135
 a127 := Tryz.isAgg135
 z127 := Tryz.sizeOf135
 v127 := Tryz.zeroValue135 }
theorem Tryz.Builder_Extra_169 : Builder.Extra Tryz.prog Tryz.lays169_ren := {
 sizeBuilder := by kernel_rfl
 liesBuilder := by kernel_rfl
 t5 := Tryz.underlying5
 a5 := Tryz.isAgg5
 z5 := Tryz.sizeOf5
 v5 := Tryz.zeroValue5
 infoByte := by kernel_rfl
 cellsByte := by kernel_rfl
 sizeByte := by kernel_rfl
 neB5 := by decide }
open Go.RowKit in
theorem Tryz.Builder_String_any (B b : Nat) (l : List UInt8) (w : World) (h : Lib.IsBuilder 69 5 B b (Lib.byteCells l) w) (hBw : B ≤ w.heap.size) :
  Calls Tryz.prog 50 #[.pointer (some ⟨b, 0, none⟩)] w fun e w' => e = .returned (.string ⟨l.toArray⟩) ∧ Below B w w' := Any.Builder_String_any Tryz.lays169 Tryz.Builder_Extra_169 B b l w h hBw
def Tryz.lays160_ren : Go.Shelf.Ren := ⟨fun | 160 => 127 | 232 => 154 | 231 => 153 | 227 => 155 | 234 => 157 | 233 => 156 | 236 => 159 | 235 => 158 | 228 => 178 | 271 => 180 | 151 => 179 | 197 => 151 | 120 => 193 | 152 => 188 | 260 => 177 | 137 => 197 | 119 => 198 | 224 => 164 | 225 => 163 | 217 => 162 | 266 => 186 | n => n, fun | 9 => 9 | 4 => 4 | 3 => 3 | 5 => 5 | 117 => 187 | 116 => 186 | 0 => 0 | 124 => 190 | 21 => 21 | 105 => 181 | 46 => 154 | 119 => 215 | 139 => 218 | 138 => 217 | n => n, fun | 3 => 2 | 4 => 3 | n => n⟩
theorem Tryz.lays160 : Go.Proofs.Lays.n160 Tryz.prog Tryz.lays160_ren := {
 mixed := by kernel_rfl
 f119 := Tryz.func198.trans (congrArg some (by kernel_rfl))
 f120 := Tryz.func193.trans (congrArg some (by kernel_rfl))
 f137 := Tryz.func197.trans (congrArg some (by kernel_rfl))
 f151 := Tryz.func179.trans (congrArg some (by kernel_rfl))
 f152 := Tryz.func188.trans (congrArg some (by kernel_rfl))
 f160 := Tryz.func127.trans (congrArg some (by kernel_rfl))
 f197 := Tryz.func151.trans (congrArg some (by kernel_rfl))
 f217 := Tryz.func162.trans (congrArg some (by kernel_rfl))
 f224 := Tryz.func164.trans (congrArg some (by kernel_rfl))
 f225 := Tryz.func163.trans (congrArg some (by kernel_rfl))
 f227 := Tryz.func155.trans (congrArg some (by kernel_rfl))
 f228 := Tryz.func178.trans (congrArg some (by kernel_rfl))
 f231 := Tryz.func153.trans (congrArg some (by kernel_rfl))
 f232 := Tryz.func154.trans (congrArg some (by kernel_rfl))
 f233 := Tryz.func156.trans (congrArg some (by kernel_rfl))
 f234 := Tryz.func157.trans (congrArg some (by kernel_rfl))
 f235 := Tryz.func158.trans (congrArg some (by kernel_rfl))
 f236 := Tryz.func159.trans (congrArg some (by kernel_rfl))
 f260 := Tryz.func177.trans (congrArg some (by kernel_rfl))
 f266 := Tryz.func186.trans (congrArg some (by kernel_rfl))
 f271 := Tryz.func180.trans (congrArg some (by kernel_rfl))
 t0 := Tryz.underlying0
 a0 := Tryz.isAgg0
 z0 := Tryz.sizeOf0
 v0 := Tryz.zeroValue0
 t3 := Tryz.underlying3
 a3 := Tryz.isAgg3
 z3 := Tryz.sizeOf3
 v3 := Tryz.zeroValue3
 t4 := Tryz.underlying4
 a4 := Tryz.isAgg4
 z4 := Tryz.sizeOf4
 v4 := Tryz.zeroValue4
 t5 := Tryz.underlying5
 a5 := Tryz.isAgg5
 z5 := Tryz.sizeOf5
 v5 := Tryz.zeroValue5
 t9 := Tryz.underlying9
 a9 := Tryz.isAgg9
 z9 := Tryz.sizeOf9
 v9 := Tryz.zeroValue9
 t21 := Tryz.underlying21
 a21 := Tryz.isAgg21
 z21 := Tryz.sizeOf21
 v21 := Tryz.zeroValue21
 t46 := Tryz.underlying154
 a46 := Tryz.isAgg154
 z46 := Tryz.sizeOf154
 v46 := Tryz.zeroValue154
 t105 := Tryz.underlying181
 a105 := Tryz.isAgg181
 z105 := Tryz.sizeOf181
 v105 := Tryz.zeroValue181
 t116 := Tryz.underlying186
 a116 := Tryz.isAgg186
 z116 := Tryz.sizeOf186
 t117 := Tryz.underlying187
 a117 := Tryz.isAgg187
 z117 := Tryz.sizeOf187
 v117 := Tryz.zeroValue187
 t119 := Tryz.underlying215
 a119 := Tryz.isAgg215
 z119 := Tryz.sizeOf215
 t124 := Tryz.underlying190
 a124 := Tryz.isAgg190
 z124 := Tryz.sizeOf190
 v124 := Tryz.zeroValue190
 t138 := Tryz.underlying217
 a138 := Tryz.isAgg217
 z138 := Tryz.sizeOf217
 v138 := Tryz.zeroValue217
 t139 := Tryz.underlying218
 a139 := Tryz.isAgg218
 z139 := Tryz.sizeOf218
 v139 := Tryz.zeroValue218
 g3 := by kernel_rfl
 g4 := by kernel_rfl }
def Tryz.lays119_ren : Go.Shelf.Ren := ⟨fun | 119 => 198 | n => n, fun | 21 => 21 | 4 => 4 | n => n, fun | n => n⟩
theorem Tryz.lays119 : Go.Proofs.Lays.n119 Tryz.prog Tryz.lays119_ren := {
 mixed := by kernel_rfl
 f119 := Tryz.func198.trans (congrArg some (by kernel_rfl))
 t4 := Tryz.underlying4
 a4 := Tryz.isAgg4
 z4 := Tryz.sizeOf4
 v4 := Tryz.zeroValue4
 t21 := Tryz.underlying21
 a21 := Tryz.isAgg21
 z21 := Tryz.sizeOf21
 v21 := Tryz.zeroValue21 }
theorem Tryz.utf8_ValidRune (r : Int) (w : World) :
  Calls Tryz.prog 198 #[.int .i32 r] w fun e w' => e = .returned (.bool (Lib.validRune r)) ∧ w' = w := Any.utf8_ValidRune Tryz.lays119 r w
def Tryz.lays137_ren : Go.Shelf.Ren := ⟨fun | 137 => 197 | 217 => 162 | 266 => 186 | n => n, fun | 9 => 9 | 5 => 5 | 3 => 3 | n => n, fun | n => n⟩
theorem Tryz.lays137 : Go.Proofs.Lays.n137 Tryz.prog Tryz.lays137_ren := {
 mixed := by kernel_rfl
 f137 := Tryz.func197.trans (congrArg some (by kernel_rfl))
 f217 := Tryz.func162.trans (congrArg some (by kernel_rfl))
 f266 := Tryz.func186.trans (congrArg some (by kernel_rfl))
 t3 := Tryz.underlying3
 a3 := Tryz.isAgg3
 z3 := Tryz.sizeOf3
 v3 := Tryz.zeroValue3
 t5 := Tryz.underlying5
 a5 := Tryz.isAgg5
 z5 := Tryz.sizeOf5
 v5 := Tryz.zeroValue5
 t9 := Tryz.underlying9
 a9 := Tryz.isAgg9
 z9 := Tryz.sizeOf9
 v9 := Tryz.zeroValue9 }
open Go.RowKit in
theorem Tryz.strings_IndexByte (s : ByteArray) (c : Int) (w : World) :
  Calls Tryz.prog 197 #[.string s, .int .u8 c] w fun e w' => e = .returned (.int .i64 (Lib.indexByte s.data.toList c.toNat.toUInt8)) ∧ w' = w := Any.strings_IndexByte Tryz.lays137 s c w
def Tryz.lays103_ren : Go.Shelf.Ren := ⟨fun | 103 => 56 | 210 => 99 | 206 => 126 | n => n, fun | 9 => 9 | 4 => 4 | 24 => 93 | 3 => 3 | n => n, fun | n => n⟩
theorem Tryz.lays103 : Go.Proofs.Lays.n103 Tryz.prog Tryz.lays103_ren := {
 mixed := by kernel_rfl
 f103 := Tryz.func56.trans (congrArg some (by kernel_rfl))
 f206 := Tryz.func126.trans (congrArg some (by kernel_rfl))
 f210 := Tryz.func99.trans (congrArg some (by kernel_rfl))
 t3 := Tryz.underlying3
 a3 := Tryz.isAgg3
 z3 := Tryz.sizeOf3
 v3 := Tryz.zeroValue3
 t4 := Tryz.underlying4
 a4 := Tryz.isAgg4
 z4 := Tryz.sizeOf4
 v4 := Tryz.zeroValue4
 t9 := Tryz.underlying9
 a9 := Tryz.isAgg9
 z9 := Tryz.sizeOf9
 v9 := Tryz.zeroValue9
 t24 := Tryz.underlying93
 a24 := Tryz.isAgg93
 z24 := Tryz.sizeOf93
 v24 := Tryz.zeroValue93 }
open Go.RowKit in
theorem Tryz.strings_CutPrefix (s p : ByteArray) (w : World) :
  Calls Tryz.prog 56 #[.string s, .string p] w fun e w' => e = .returned (.tuple #[.string ⟨(Lib.trimPrefix s.data.toList p.data.toList).toArray⟩, .bool (Lib.hasPrefix s.data.toList p.data.toList)]) ∧ w' = w := Any.strings_CutPrefix Tryz.lays103 s p w
def Tryz.lays172_ren : Go.Shelf.Ren := ⟨fun | 172 => 128 | 244 => 160 | 245 => 161 | 247 => 181 | 279 => 182 | 280 => 183 | 281 => 184 | 282 => 185 | 287 => 194 | 316 => 195 | 171 => 45 | 205 => 196 | 321 => 199 | 322 => 200 | 243 => 96 | 246 => 122 | 283 => 146 | 284 => 147 | 285 => 148 | 286 => 149 | 129 => 145 | 317 => 173 | 318 => 174 | 319 => 175 | 320 => 176 | 337 => 191 | 338 => 192 | n => n, fun | 9 => 9 | 3 => 3 | 75 => 73 | 76 => 74 | 4 => 4 | 5 => 5 | 167 => 204 | 37 => 67 | 0 => 0 | 85 => 205 | 2 => 2 | 168 => 207 | 53 => 175 | 175 => 219 | 46 => 154 | 210 => 223 | 127 => 135 | 145 => 231 | 143 => 229 | 21 => 21 | 171 => 176 | 173 => 178 | 212 => 200 | 51 => 173 | 20 => 20 | 213 => 201 | 232 => 226 | 233 => 227 | 80 => 81 | n => n, fun | 15 => 4 | 16 => 5 | 17 => 1 | 18 => 6 | 19 => 7 | n => n⟩
theorem Tryz.lays172 : Go.Proofs.Lays.n172 Tryz.prog Tryz.lays172_ren := {
 mixed := by kernel_rfl
 f129 := Tryz.func145.trans (congrArg some (by kernel_rfl))
 f171 := Tryz.func45.trans (congrArg some (by kernel_rfl))
 f172 := Tryz.func128.trans (congrArg some (by kernel_rfl))
 f205 := Tryz.func196.trans (congrArg some (by kernel_rfl))
 f243 := Tryz.func96.trans (congrArg some (by kernel_rfl))
 f244 := Tryz.func160.trans (congrArg some (by kernel_rfl))
 f245 := Tryz.func161.trans (congrArg some (by kernel_rfl))
 f246 := Tryz.func122.trans (congrArg some (by kernel_rfl))
 f247 := Tryz.func181.trans (congrArg some (by kernel_rfl))
 f279 := Tryz.func182.trans (congrArg some (by kernel_rfl))
 f280 := Tryz.func183.trans (congrArg some (by kernel_rfl))
 f281 := Tryz.func184.trans (congrArg some (by kernel_rfl))
 f282 := Tryz.func185.trans (congrArg some (by kernel_rfl))
 f283 := Tryz.func146.trans (congrArg some (by kernel_rfl))
 f284 := Tryz.func147.trans (congrArg some (by kernel_rfl))
 f285 := Tryz.func148.trans (congrArg some (by kernel_rfl))
 f286 := Tryz.func149.trans (congrArg some (by kernel_rfl))
 f287 := Tryz.func194.trans (congrArg some (by kernel_rfl))
 f316 := Tryz.func195.trans (congrArg some (by kernel_rfl))
 f317 := Tryz.func173.trans (congrArg some (by kernel_rfl))
 f318 := Tryz.func174.trans (congrArg some (by kernel_rfl))
 f319 := Tryz.func175.trans (congrArg some (by kernel_rfl))
 f320 := Tryz.func176.trans (congrArg some (by kernel_rfl))
 f321 := Tryz.func199.trans (congrArg some (by kernel_rfl))
 f322 := Tryz.func200.trans (congrArg some (by kernel_rfl))
 f337 := Tryz.func191.trans (congrArg some (by kernel_rfl))
 f338 := Tryz.func192.trans (congrArg some (by kernel_rfl))
 t0 := Tryz.underlying0
 a0 := Tryz.isAgg0
 z0 := Tryz.sizeOf0
 v0 := Tryz.zeroValue0
 t2 := Tryz.underlying2
 a2 := Tryz.isAgg2
 z2 := Tryz.sizeOf2
 v2 := Tryz.zeroValue2
 t3 := Tryz.underlying3
 a3 := Tryz.isAgg3
 z3 := Tryz.sizeOf3
 v3 := Tryz.zeroValue3
 t4 := Tryz.underlying4
 a4 := Tryz.isAgg4
 z4 := Tryz.sizeOf4
 v4 := Tryz.zeroValue4
 t5 := Tryz.underlying5
 a5 := Tryz.isAgg5
 z5 := Tryz.sizeOf5
 v5 := Tryz.zeroValue5
 t9 := Tryz.underlying9
 a9 := Tryz.isAgg9
 z9 := Tryz.sizeOf9
 v9 := Tryz.zeroValue9
 t20 := Tryz.underlying20
 a20 := Tryz.isAgg20
 z20 := Tryz.sizeOf20
 v20 := Tryz.zeroValue20
 t21 := Tryz.underlying21
 a21 := Tryz.isAgg21
 z21 := Tryz.sizeOf21
 v21 := Tryz.zeroValue21
 t37 := Tryz.underlying67
 a37 := Tryz.isAgg67
 z37 := Tryz.sizeOf67
 v37 := Tryz.zeroValue67
 t46 := Tryz.underlying154
 a46 := Tryz.isAgg154
 z46 := Tryz.sizeOf154
 v46 := Tryz.zeroValue154
 t51 := Tryz.underlying173
 a51 := Tryz.isAgg173
 z51 := Tryz.sizeOf173
 v51 := Tryz.zeroValue173
 t53 := Tryz.underlying175
 a53 := Tryz.isAgg175
 z53 := Tryz.sizeOf175
 v53 := Tryz.zeroValue175
 t75 := Tryz.underlying73
 a75 := Tryz.isAgg73
 z75 := Tryz.sizeOf73
 v75 := Tryz.zeroValue73
 t76 := Tryz.underlying74
 a76 := Tryz.isAgg74
 z76 := Tryz.sizeOf74
 v76 := Tryz.zeroValue74
 t85 := Tryz.underlying205
 a85 := Tryz.isAgg205
 z85 := Tryz.sizeOf205
 v85 := Tryz.zeroValue205
 t127 := Tryz.underlying135
 a127 := Tryz.isAgg135
 z127 := Tryz.sizeOf135
 v127 := Tryz.zeroValue135
 t143 := Tryz.underlying229
 a143 := Tryz.isAgg229
 z143 := Tryz.sizeOf229
 v143 := Tryz.zeroValue229
 t145 := Tryz.underlying231
 a145 := Tryz.isAgg231
 z145 := Tryz.sizeOf231
 v145 := Tryz.zeroValue231
 t167 := Tryz.underlying204
 a167 := Tryz.isAgg204
 z167 := Tryz.sizeOf204
 v167 := Tryz.zeroValue204
 t168 := Tryz.underlying207
 a168 := Tryz.isAgg207
 z168 := Tryz.sizeOf207
 v168 := Tryz.zeroValue207
 t171 := Tryz.underlying176
 a171 := Tryz.isAgg176
 z171 := Tryz.sizeOf176
 v171 := Tryz.zeroValue176
 t173 := Tryz.underlying178
 a173 := Tryz.isAgg178
 z173 := Tryz.sizeOf178
 v173 := Tryz.zeroValue178
 t175 := Tryz.underlying219
 a175 := Tryz.isAgg219
 z175 := Tryz.sizeOf219
 v175 := Tryz.zeroValue219
 t210 := Tryz.underlying223
 a210 := Tryz.isAgg223
 z210 := Tryz.sizeOf223
 v210 := Tryz.zeroValue223
 t212 := Tryz.underlying200
 a212 := Tryz.isAgg200
 z212 := Tryz.sizeOf200
 v212 := Tryz.zeroValue200
 t213 := Tryz.underlying201
 a213 := Tryz.isAgg201
 z213 := Tryz.sizeOf201
 t232 := Tryz.underlying226
 a232 := Tryz.isAgg226
 z232 := Tryz.sizeOf226
 v232 := Tryz.zeroValue226
 t233 := Tryz.underlying227
 a233 := Tryz.isAgg227
 z233 := Tryz.sizeOf227
 v233 := Tryz.zeroValue227
 g15 := by kernel_rfl
 g16 := by kernel_rfl
 g17 := by kernel_rfl
 g18 := by kernel_rfl
 g19 := by kernel_rfl }
open Go.RowKit in
theorem Tryz.strconv_Atoi (s : ByteArray) (n : Int) (hl : s.size ≤ 18) (h : Lib.atoi s.data.toList = some n) (w : World) :
  Calls Tryz.prog 128 #[.string s] w fun e w' => e = .returned (.tuple #[.int .i64 n, .nilIface]) ∧ ∃ t, w' = Lib.bytesWorld w 5 t := Any.strconv_Atoi Tryz.lays172 s n hl h w
def Tryz.lays171_ren : Go.Shelf.Ren := ⟨fun | 171 => 45 | 243 => 96 | 246 => 122 | 283 => 146 | 284 => 147 | 285 => 148 | 286 => 149 | 129 => 145 | 317 => 173 | 318 => 174 | 319 => 175 | 320 => 176 | 337 => 191 | 338 => 192 | n => n, fun | 3 => 3 | 9 => 9 | 2 => 2 | 4 => 4 | 171 => 176 | 0 => 0 | 53 => 175 | 37 => 67 | 5 => 5 | 173 => 178 | 212 => 200 | 51 => 173 | 20 => 20 | 213 => 201 | 46 => 154 | 232 => 226 | 233 => 227 | n => n, fun | 17 => 1 | 18 => 6 | 19 => 7 | n => n⟩
theorem Tryz.lays171 : Go.Proofs.Lays.n171 Tryz.prog Tryz.lays171_ren := {
 mixed := by kernel_rfl
 f129 := Tryz.func145.trans (congrArg some (by kernel_rfl))
 f171 := Tryz.func45.trans (congrArg some (by kernel_rfl))
 f243 := Tryz.func96.trans (congrArg some (by kernel_rfl))
 f246 := Tryz.func122.trans (congrArg some (by kernel_rfl))
 f283 := Tryz.func146.trans (congrArg some (by kernel_rfl))
 f284 := Tryz.func147.trans (congrArg some (by kernel_rfl))
 f285 := Tryz.func148.trans (congrArg some (by kernel_rfl))
 f286 := Tryz.func149.trans (congrArg some (by kernel_rfl))
 f317 := Tryz.func173.trans (congrArg some (by kernel_rfl))
 f318 := Tryz.func174.trans (congrArg some (by kernel_rfl))
 f319 := Tryz.func175.trans (congrArg some (by kernel_rfl))
 f320 := Tryz.func176.trans (congrArg some (by kernel_rfl))
 f337 := Tryz.func191.trans (congrArg some (by kernel_rfl))
 f338 := Tryz.func192.trans (congrArg some (by kernel_rfl))
 t0 := Tryz.underlying0
 a0 := Tryz.isAgg0
 z0 := Tryz.sizeOf0
 v0 := Tryz.zeroValue0
 t2 := Tryz.underlying2
 a2 := Tryz.isAgg2
 z2 := Tryz.sizeOf2
 v2 := Tryz.zeroValue2
 t3 := Tryz.underlying3
 a3 := Tryz.isAgg3
 z3 := Tryz.sizeOf3
 v3 := Tryz.zeroValue3
 t4 := Tryz.underlying4
 a4 := Tryz.isAgg4
 z4 := Tryz.sizeOf4
 v4 := Tryz.zeroValue4
 t5 := Tryz.underlying5
 a5 := Tryz.isAgg5
 z5 := Tryz.sizeOf5
 v5 := Tryz.zeroValue5
 t9 := Tryz.underlying9
 a9 := Tryz.isAgg9
 z9 := Tryz.sizeOf9
 v9 := Tryz.zeroValue9
 t20 := Tryz.underlying20
 a20 := Tryz.isAgg20
 z20 := Tryz.sizeOf20
 v20 := Tryz.zeroValue20
 t37 := Tryz.underlying67
 a37 := Tryz.isAgg67
 z37 := Tryz.sizeOf67
 v37 := Tryz.zeroValue67
 t46 := Tryz.underlying154
 a46 := Tryz.isAgg154
 z46 := Tryz.sizeOf154
 v46 := Tryz.zeroValue154
 t51 := Tryz.underlying173
 a51 := Tryz.isAgg173
 z51 := Tryz.sizeOf173
 v51 := Tryz.zeroValue173
 t53 := Tryz.underlying175
 a53 := Tryz.isAgg175
 z53 := Tryz.sizeOf175
 v53 := Tryz.zeroValue175
 t171 := Tryz.underlying176
 a171 := Tryz.isAgg176
 z171 := Tryz.sizeOf176
 v171 := Tryz.zeroValue176
 t173 := Tryz.underlying178
 a173 := Tryz.isAgg178
 z173 := Tryz.sizeOf178
 v173 := Tryz.zeroValue178
 t212 := Tryz.underlying200
 a212 := Tryz.isAgg200
 z212 := Tryz.sizeOf200
 v212 := Tryz.zeroValue200
 t213 := Tryz.underlying201
 a213 := Tryz.isAgg201
 z213 := Tryz.sizeOf201
 t232 := Tryz.underlying226
 a232 := Tryz.isAgg226
 z232 := Tryz.sizeOf226
 v232 := Tryz.zeroValue226
 t233 := Tryz.underlying227
 a233 := Tryz.isAgg227
 z233 := Tryz.sizeOf227
 v233 := Tryz.zeroValue227
 g17 := by kernel_rfl
 g18 := by kernel_rfl
 g19 := by kernel_rfl }
open Go.RowKit Go.Sort Go.Lib in
theorem Tryz.strconv_Itoa_small (i : Nat) (hi : i < 100) (w : World) :
  Calls Tryz.prog 45 #[.int .i64 i] w fun e w' => e = .returned (.string ⟨(Lib.decDigits i).toArray⟩) ∧ w' = w := Any.strconv_Itoa_small Tryz.lays171 i hi w
def Tryz.lays145_ren : Go.Shelf.Ren := ⟨fun | 145 => 58 | 220 => 101 | 219 => 129 | 217 => 162 | 225 => 163 | 224 => 164 | 267 => 165 | 266 => 186 | 314 => 187 | n => n, fun | 9 => 9 | 4 => 4 | 59 => 97 | 3 => 3 | 5 => 5 | 46 => 154 | 146 => 210 | 51 => 173 | n => n, fun | 1 => 0 | n => n⟩
theorem Tryz.lays145 : Go.Proofs.Lays.n145 Tryz.prog Tryz.lays145_ren := {
 mixed := by kernel_rfl
 f145 := Tryz.func58.trans (congrArg some (by kernel_rfl))
 f217 := Tryz.func162.trans (congrArg some (by kernel_rfl))
 f219 := Tryz.func129.trans (congrArg some (by kernel_rfl))
 f220 := Tryz.func101.trans (congrArg some (by kernel_rfl))
 f224 := Tryz.func164.trans (congrArg some (by kernel_rfl))
 f225 := Tryz.func163.trans (congrArg some (by kernel_rfl))
 f266 := Tryz.func186.trans (congrArg some (by kernel_rfl))
 f267 := Tryz.func165.trans (congrArg some (by kernel_rfl))
 f314 := Tryz.func187.trans (congrArg some (by kernel_rfl))
 t3 := Tryz.underlying3
 a3 := Tryz.isAgg3
 z3 := Tryz.sizeOf3
 v3 := Tryz.zeroValue3
 t4 := Tryz.underlying4
 a4 := Tryz.isAgg4
 z4 := Tryz.sizeOf4
 v4 := Tryz.zeroValue4
 t5 := Tryz.underlying5
 a5 := Tryz.isAgg5
 z5 := Tryz.sizeOf5
 v5 := Tryz.zeroValue5
 t9 := Tryz.underlying9
 a9 := Tryz.isAgg9
 z9 := Tryz.sizeOf9
 v9 := Tryz.zeroValue9
 t46 := Tryz.underlying154
 a46 := Tryz.isAgg154
 z46 := Tryz.sizeOf154
 v46 := Tryz.zeroValue154
 t51 := Tryz.underlying173
 a51 := Tryz.isAgg173
 z51 := Tryz.sizeOf173
 v51 := Tryz.zeroValue173
 t59 := Tryz.underlying97
 a59 := Tryz.isAgg97
 z59 := Tryz.sizeOf97
 v59 := Tryz.zeroValue97
 t146 := Tryz.underlying210
 a146 := Tryz.isAgg210
 z146 := Tryz.sizeOf210
 v146 := Tryz.zeroValue210
 g1 := by kernel_rfl }
open Go.RowKit Go.Lib in
theorem Tryz.strings_Cut (s sep : ByteArray) (m : Int) (w : World) (hs : s.size < 4294967281) (hm : w.cell? ⟨0, 0, none⟩ = some (.int .i64 m)) :
  Calls Tryz.prog 58 #[.string s, .string sep] w fun e w' => e = .returned (.tuple #[.string ⟨(Lib.cut s.data.toList sep.data.toList).1.toArray⟩, .string ⟨(Lib.cut s.data.toList sep.data.toList).2.1.toArray⟩, .bool (Lib.cut s.data.toList sep.data.toList).2.2]) ∧ ∃ n, w' = w.drewN n := Any.strings_Cut Tryz.lays145 s sep m w hs hm
def Tryz.lays189_ren : Go.Shelf.Ren := ⟨fun | 189 => 82 | 125 => 119 | 257 => 118 | 128 => 144 | 129 => 145 | 294 => 135 | 295 => 136 | 296 => 137 | 297 => 138 | 298 => 139 | 299 => 140 | 216 => 141 | 300 => 142 | 301 => 143 | 328 => 167 | 329 => 168 | 330 => 169 | 331 => 170 | 332 => 171 | 215 => 172 | 343 => 190 | n => n, fun | 28 => 39 | 3 => 3 | 46 => 154 | 0 => 0 | 51 => 173 | 53 => 175 | 4 => 4 | 183 => 166 | 182 => 165 | 131 => 96 | 5 => 5 | 9 => 9 | 218 => 193 | 222 => 133 | 228 => 213 | 229 => 61 | n => n, fun | n => n⟩
theorem Tryz.lays189 : Go.Proofs.Lays.n189 Tryz.prog Tryz.lays189_ren := {
 mixed := by kernel_rfl
 f125 := Tryz.func119.trans (congrArg some (by kernel_rfl))
 f128 := Tryz.func144.trans (congrArg some (by kernel_rfl))
 f129 := Tryz.func145.trans (congrArg some (by kernel_rfl))
 f189 := Tryz.func82.trans (congrArg some (by kernel_rfl))
 f215 := Tryz.func172.trans (congrArg some (by kernel_rfl))
 f216 := Tryz.func141.trans (congrArg some (by kernel_rfl))
 f257 := Tryz.func118.trans (congrArg some (by kernel_rfl))
 f294 := Tryz.func135.trans (congrArg some (by kernel_rfl))
 f295 := Tryz.func136.trans (congrArg some (by kernel_rfl))
 f296 := Tryz.func137.trans (congrArg some (by kernel_rfl))
 f297 := Tryz.func138.trans (congrArg some (by kernel_rfl))
 f298 := Tryz.func139.trans (congrArg some (by kernel_rfl))
 f299 := Tryz.func140.trans (congrArg some (by kernel_rfl))
 f300 := Tryz.func142.trans (congrArg some (by kernel_rfl))
 f301 := Tryz.func143.trans (congrArg some (by kernel_rfl))
 f328 := Tryz.func167.trans (congrArg some (by kernel_rfl))
 f329 := Tryz.func168.trans (congrArg some (by kernel_rfl))
 f330 := Tryz.func169.trans (congrArg some (by kernel_rfl))
 f331 := Tryz.func170.trans (congrArg some (by kernel_rfl))
 f332 := Tryz.func171.trans (congrArg some (by kernel_rfl))
 f343 := Tryz.func190.trans (congrArg some (by kernel_rfl))
 t0 := Tryz.underlying0
 a0 := Tryz.isAgg0
 z0 := Tryz.sizeOf0
 v0 := Tryz.zeroValue0
 t3 := Tryz.underlying3
 a3 := Tryz.isAgg3
 z3 := Tryz.sizeOf3
 v3 := Tryz.zeroValue3
 t4 := Tryz.underlying4
 a4 := Tryz.isAgg4
 z4 := Tryz.sizeOf4
 v4 := Tryz.zeroValue4
 t5 := Tryz.underlying5
 a5 := Tryz.isAgg5
 z5 := Tryz.sizeOf5
 v5 := Tryz.zeroValue5
 t9 := Tryz.underlying9
 a9 := Tryz.isAgg9
 z9 := Tryz.sizeOf9
 v9 := Tryz.zeroValue9
 t28 := Tryz.underlying39
 a28 := Tryz.isAgg39
 z28 := Tryz.sizeOf39
 v28 := Tryz.zeroValue39
 t46 := Tryz.underlying154
 a46 := Tryz.isAgg154
 z46 := Tryz.sizeOf154
 v46 := Tryz.zeroValue154
 t51 := Tryz.underlying173
 a51 := Tryz.isAgg173
 z51 := Tryz.sizeOf173
 v51 := Tryz.zeroValue173
 t53 := Tryz.underlying175
 a53 := Tryz.isAgg175
 z53 := Tryz.sizeOf175
 v53 := Tryz.zeroValue175
 t131 := Tryz.underlying96
 a131 := Tryz.isAgg96
 z131 := Tryz.sizeOf96
 v131 := Tryz.zeroValue96
 t182 := Tryz.underlying165
 a182 := Tryz.isAgg165
 z182 := Tryz.sizeOf165
 v182 := Tryz.zeroValue165
 t183 := Tryz.underlying166
 a183 := Tryz.isAgg166
 z183 := Tryz.sizeOf166
 v183 := Tryz.zeroValue166
 t218 := Tryz.underlying193
 a218 := Tryz.isAgg193
 z218 := Tryz.sizeOf193
 v218 := Tryz.zeroValue193
 t222 := Tryz.underlying133
 a222 := Tryz.isAgg133
 z222 := Tryz.sizeOf133
 v222 := Tryz.zeroValue133
 t228 := Tryz.underlying213
 a228 := Tryz.isAgg213
 z228 := Tryz.sizeOf213
 v228 := Tryz.zeroValue213
 t229 := Tryz.underlying61
 a229 := Tryz.isAgg61
 z229 := Tryz.sizeOf61
 v229 := Tryz.zeroValue61 }
open Go.Sort Go.RowKit in
theorem Tryz.slices_Sort_int (blk off cap : Nat) (zs : List Int) (w : World) (hH : Holds (Value.int .i64) w blk off zs.toArray) (hblk : blk < w.heap.size) (hsz : zs.length < 4611686018427387904) :
  Calls Tryz.prog 82 #[.slice (some ⟨blk, off, none⟩) zs.length cap] w fun e w' =>
   e = .returned (.tuple #[]) ∧ ∃ n os, w' = grow (putRow (Value.int .i64) (Sort.ahead w n) blk off (zs.mergeSort fun x y => decide (x ≤ y)).toArray) os := Any.slices_Sort_int Tryz.lays189 blk off cap zs w hH hblk hsz
def Tryz.lays99_ren : Go.Shelf.Ren := ⟨fun | 99 => 105 | 206 => 126 | n => n, fun | 9 => 9 | 4 => 4 | 3 => 3 | n => n, fun | n => n⟩
theorem Tryz.lays99 : Go.Proofs.Lays.n99 Tryz.prog Tryz.lays99_ren := {
 mixed := by kernel_rfl
 f99 := Tryz.func105.trans (congrArg some (by kernel_rfl))
 f206 := Tryz.func126.trans (congrArg some (by kernel_rfl))
 t3 := Tryz.underlying3
 a3 := Tryz.isAgg3
 z3 := Tryz.sizeOf3
 v3 := Tryz.zeroValue3
 t4 := Tryz.underlying4
 a4 := Tryz.isAgg4
 z4 := Tryz.sizeOf4
 v4 := Tryz.zeroValue4
 t9 := Tryz.underlying9
 a9 := Tryz.isAgg9
 z9 := Tryz.sizeOf9
 v9 := Tryz.zeroValue9 }
open Go.RowKit Go.Lib in
theorem Tryz.strings_HasPrefix (s p : ByteArray) (w : World) :
  Calls Tryz.prog 105 #[.string s, .string p] w fun e w' => e = .returned (.bool (Lib.hasPrefix s.data.toList p.data.toList)) ∧ w' = w := Any.strings_HasPrefix Tryz.lays99 s p w
def Tryz.lays146_ren : Go.Shelf.Ren := ⟨fun | 146 => 55 | 221 => 98 | 268 => 123 | 138 => 124 | 143 => 125 | 195 => 150 | 197 => 151 | 218 => 152 | 219 => 129 | 260 => 177 | 217 => 162 | 225 => 163 | 224 => 164 | 267 => 165 | 266 => 186 | 314 => 187 | n => n, fun | 9 => 9 | 31 => 87 | 3 => 3 | 4 => 4 | 0 => 0 | 105 => 181 | 21 => 21 | 5 => 5 | 46 => 154 | 119 => 215 | 139 => 218 | 138 => 217 | 146 => 210 | 51 => 173 | n => n, fun | 1 => 0 | 3 => 2 | 4 => 3 | n => n⟩
theorem Tryz.lays146 : Go.Proofs.Lays.n146 Tryz.prog Tryz.lays146_ren := {
 mixed := by kernel_rfl
 f138 := Tryz.func124.trans (congrArg some (by kernel_rfl))
 f143 := Tryz.func125.trans (congrArg some (by kernel_rfl))
 f146 := Tryz.func55.trans (congrArg some (by kernel_rfl))
 f195 := Tryz.func150.trans (congrArg some (by kernel_rfl))
 f197 := Tryz.func151.trans (congrArg some (by kernel_rfl))
 f217 := Tryz.func162.trans (congrArg some (by kernel_rfl))
 f218 := Tryz.func152.trans (congrArg some (by kernel_rfl))
 f219 := Tryz.func129.trans (congrArg some (by kernel_rfl))
 f221 := Tryz.func98.trans (congrArg some (by kernel_rfl))
 f224 := Tryz.func164.trans (congrArg some (by kernel_rfl))
 f225 := Tryz.func163.trans (congrArg some (by kernel_rfl))
 f260 := Tryz.func177.trans (congrArg some (by kernel_rfl))
 f266 := Tryz.func186.trans (congrArg some (by kernel_rfl))
 f267 := Tryz.func165.trans (congrArg some (by kernel_rfl))
 f268 := Tryz.func123.trans (congrArg some (by kernel_rfl))
 f314 := Tryz.func187.trans (congrArg some (by kernel_rfl))
 t0 := Tryz.underlying0
 a0 := Tryz.isAgg0
 z0 := Tryz.sizeOf0
 v0 := Tryz.zeroValue0
 t3 := Tryz.underlying3
 a3 := Tryz.isAgg3
 z3 := Tryz.sizeOf3
 v3 := Tryz.zeroValue3
 t4 := Tryz.underlying4
 a4 := Tryz.isAgg4
 z4 := Tryz.sizeOf4
 v4 := Tryz.zeroValue4
 t5 := Tryz.underlying5
 a5 := Tryz.isAgg5
 z5 := Tryz.sizeOf5
 v5 := Tryz.zeroValue5
 t9 := Tryz.underlying9
 a9 := Tryz.isAgg9
 z9 := Tryz.sizeOf9
 v9 := Tryz.zeroValue9
 t21 := Tryz.underlying21
 a21 := Tryz.isAgg21
 z21 := Tryz.sizeOf21
 v21 := Tryz.zeroValue21
 t31 := Tryz.underlying87
 a31 := Tryz.isAgg87
 z31 := Tryz.sizeOf87
 v31 := Tryz.zeroValue87
 t46 := Tryz.underlying154
 a46 := Tryz.isAgg154
 z46 := Tryz.sizeOf154
 v46 := Tryz.zeroValue154
 t51 := Tryz.underlying173
 a51 := Tryz.isAgg173
 z51 := Tryz.sizeOf173
 v51 := Tryz.zeroValue173
 t105 := Tryz.underlying181
 a105 := Tryz.isAgg181
 z105 := Tryz.sizeOf181
 v105 := Tryz.zeroValue181
 t119 := Tryz.underlying215
 a119 := Tryz.isAgg215
 z119 := Tryz.sizeOf215
 t138 := Tryz.underlying217
 a138 := Tryz.isAgg217
 z138 := Tryz.sizeOf217
 v138 := Tryz.zeroValue217
 t139 := Tryz.underlying218
 a139 := Tryz.isAgg218
 z139 := Tryz.sizeOf218
 v139 := Tryz.zeroValue218
 t146 := Tryz.underlying210
 a146 := Tryz.isAgg210
 z146 := Tryz.sizeOf210
 v146 := Tryz.zeroValue210
 g1 := by kernel_rfl
 g3 := by kernel_rfl
 g4 := by kernel_rfl }
open Go.RowKit Go.Lib in
theorem Tryz.strings_Split (s sep : ByteArray) (m : Int) (w : World) (hs : s.size < 4294967281) (hm : w.cell? ⟨0, 0, none⟩ = some (.int .i64 m)) (h1 : 1 ≤ sep.size) :
  Calls Tryz.prog 55 #[.string s, .string sep] w fun e w' =>
   e = .returned (.slice (some ⟨w.heap.size, 0, none⟩) (Lib.countB s sep + 1) (Lib.countB s sep + 1)) ∧ w' = w.alloc (.cells ((Lib.splitB sep 0 (Lib.countB s sep) s).map Value.string).toArray 9) := Any.strings_Split Tryz.lays146 (by kernel_rfl) s sep m w hs hm h1
def Tryz.lays152_ren : Go.Shelf.Ren := ⟨fun | 152 => 188 | 137 => 197 | 119 => 198 | 224 => 164 | 225 => 163 | 217 => 162 | 266 => 186 | n => n, fun | 9 => 9 | 21 => 21 | 3 => 3 | 4 => 4 | 5 => 5 | 0 => 0 | 46 => 154 | n => n, fun | n => n⟩
theorem Tryz.lays152 : Go.Proofs.Lays.n152 Tryz.prog Tryz.lays152_ren := {
 mixed := by kernel_rfl
 f119 := Tryz.func198.trans (congrArg some (by kernel_rfl))
 f137 := Tryz.func197.trans (congrArg some (by kernel_rfl))
 f152 := Tryz.func188.trans (congrArg some (by kernel_rfl))
 f217 := Tryz.func162.trans (congrArg some (by kernel_rfl))
 f224 := Tryz.func164.trans (congrArg some (by kernel_rfl))
 f225 := Tryz.func163.trans (congrArg some (by kernel_rfl))
 f266 := Tryz.func186.trans (congrArg some (by kernel_rfl))
 t0 := Tryz.underlying0
 a0 := Tryz.isAgg0
 z0 := Tryz.sizeOf0
 v0 := Tryz.zeroValue0
 t3 := Tryz.underlying3
 a3 := Tryz.isAgg3
 z3 := Tryz.sizeOf3
 v3 := Tryz.zeroValue3
 t4 := Tryz.underlying4
 a4 := Tryz.isAgg4
 z4 := Tryz.sizeOf4
 v4 := Tryz.zeroValue4
 t5 := Tryz.underlying5
 a5 := Tryz.isAgg5
 z5 := Tryz.sizeOf5
 v5 := Tryz.zeroValue5
 t9 := Tryz.underlying9
 a9 := Tryz.isAgg9
 z9 := Tryz.sizeOf9
 v9 := Tryz.zeroValue9
 t21 := Tryz.underlying21
 a21 := Tryz.isAgg21
 z21 := Tryz.sizeOf21
 v21 := Tryz.zeroValue21
 t46 := Tryz.underlying154
 a46 := Tryz.isAgg154
 z46 := Tryz.sizeOf154
 v46 := Tryz.zeroValue154 }
open Go.RowKit Go.Lib in
theorem Tryz.strings_IndexRune_ascii (s : ByteArray) (r : Int) (w : World) (h0 : 0 ≤ r) (h1 : r < 128) :
  Calls Tryz.prog 188 #[.string s, .int .i32 r] w fun e w' => e = .returned (.int .i64 (Lib.indexByte s.data.toList r.toNat.toUInt8)) ∧ w' = w := Any.strings_IndexRune_ascii Tryz.lays152 s r w h0 h1
def Tryz.lays226_ren : Go.Shelf.Ren := ⟨fun | 226 => 189 | n => n, fun | 3 => 3 | 4 => 4 | n => n, fun | n => n⟩
theorem Tryz.lays226 : Go.Proofs.Lays.n226 Tryz.prog Tryz.lays226_ren := {
 mixed := by kernel_rfl
 f226 := Tryz.func189.trans (congrArg some (by kernel_rfl))
 t3 := Tryz.underlying3
 a3 := Tryz.isAgg3
 z3 := Tryz.sizeOf3
 v3 := Tryz.zeroValue3
 t4 := Tryz.underlying4
 a4 := Tryz.isAgg4
 z4 := Tryz.sizeOf4
 v4 := Tryz.zeroValue4 }
open Go.RowKit Go.Lib in
theorem Tryz.strings_shouldUseASCIISet (n : Int) (w : World) :
  Calls Tryz.prog 189 #[.int .i64 n] w fun e w' => e = .returned (.bool (decide (8 < n))) ∧ w' = w := Any.strings_shouldUseASCIISet Tryz.lays226 n w
def Tryz.lays153_ren : Go.Shelf.Ren := ⟨fun | 153 => 166 | 152 => 188 | 226 => 189 | 227 => 155 | 228 => 178 | 137 => 197 | 119 => 198 | 224 => 164 | 225 => 163 | 217 => 162 | 266 => 186 | n => n, fun | 9 => 9 | 3 => 3 | 4 => 4 | 5 => 5 | 21 => 21 | 117 => 187 | 116 => 186 | 0 => 0 | 46 => 154 | 124 => 190 | n => n, fun | n => n⟩
theorem Tryz.lays153 : Go.Proofs.Lays.n153 Tryz.prog Tryz.lays153_ren := {
 mixed := by kernel_rfl
 f119 := Tryz.func198.trans (congrArg some (by kernel_rfl))
 f137 := Tryz.func197.trans (congrArg some (by kernel_rfl))
 f152 := Tryz.func188.trans (congrArg some (by kernel_rfl))
 f153 := Tryz.func166.trans (congrArg some (by kernel_rfl))
 f217 := Tryz.func162.trans (congrArg some (by kernel_rfl))
 f224 := Tryz.func164.trans (congrArg some (by kernel_rfl))
 f225 := Tryz.func163.trans (congrArg some (by kernel_rfl))
 f226 := Tryz.func189.trans (congrArg some (by kernel_rfl))
 f227 := Tryz.func155.trans (congrArg some (by kernel_rfl))
 f228 := Tryz.func178.trans (congrArg some (by kernel_rfl))
 f266 := Tryz.func186.trans (congrArg some (by kernel_rfl))
 t0 := Tryz.underlying0
 a0 := Tryz.isAgg0
 z0 := Tryz.sizeOf0
 v0 := Tryz.zeroValue0
 t3 := Tryz.underlying3
 a3 := Tryz.isAgg3
 z3 := Tryz.sizeOf3
 v3 := Tryz.zeroValue3
 t4 := Tryz.underlying4
 a4 := Tryz.isAgg4
 z4 := Tryz.sizeOf4
 v4 := Tryz.zeroValue4
 t5 := Tryz.underlying5
 a5 := Tryz.isAgg5
 z5 := Tryz.sizeOf5
 v5 := Tryz.zeroValue5
 t9 := Tryz.underlying9
 a9 := Tryz.isAgg9
 z9 := Tryz.sizeOf9
 v9 := Tryz.zeroValue9
 t21 := Tryz.underlying21
 a21 := Tryz.isAgg21
 z21 := Tryz.sizeOf21
 v21 := Tryz.zeroValue21
 t46 := Tryz.underlying154
 a46 := Tryz.isAgg154
 z46 := Tryz.sizeOf154
 v46 := Tryz.zeroValue154
 t116 := Tryz.underlying186
 a116 := Tryz.isAgg186
 z116 := Tryz.sizeOf186
 t117 := Tryz.underlying187
 a117 := Tryz.isAgg187
 z117 := Tryz.sizeOf187
 v117 := Tryz.zeroValue187
 t124 := Tryz.underlying190
 a124 := Tryz.isAgg190
 z124 := Tryz.sizeOf190
 v124 := Tryz.zeroValue190 }
open Go.RowKit Go.Lib in
theorem Tryz.strings_IndexAny_long (hv116 : ∀ w, (zeroValue 186).run Tryz.prog w = .ok (.agg (Array.replicate 256 (.bool false))) w) (s chars : ByteArray) (w : World) (h2 : 2 ≤ chars.size) (h8 : 8 < s.size) (hs : s.size < 4294967281) (hcs : chars.size < 4294967281) (hascii : ∀ (j : Nat) b, chars.data.toList[j]? = some b → b.toNat < 128) :
  Calls Tryz.prog 166 #[.string s, .string chars] w fun e w' => e = .returned (.int .i64 (Lib.indexAny s.data.toList chars.data.toList)) ∧ w' = ((w.alloc (.cells (Lib.setCells chars.data.toList) 186)).alloc (.cells (Lib.setCells chars.data.toList) 186)) := Any.strings_IndexAny_long Tryz.lays153 hv116 (by kernel_rfl) s chars w h2 h8 hs hcs hascii
open Go.RowKit in
theorem Tryz.trim_digits (s : ByteArray) (w : World) (hs : s.size ≤ 9223372036854775807) :
  Calls Tryz.prog 127 #[.string s, .string ⟨#[48, 49, 50, 51, 52, 53, 54, 55, 56, 57]⟩] w fun e w' => e = .returned (.string ⟨(Lib.trimS s.data.toList [48, 49, 50, 51, 52, 53, 54, 55, 56, 57]).toArray⟩) ∧ Below w.heap.size w w' :=
 Any.strings_Trim_laid Tryz.lays160 (by kernel_rfl) s ⟨#[48, 49, 50, 51, 52, 53, 54, 55, 56, 57]⟩ w hs (by decide) (ascii_of_all (by decide))
end Go.Proofs
namespace Go.Proofs.YthflpbgloeimfaaGreatDoor.H
open Go.RowKit Go.Proofs.YthflpbgloeimfaaGreatDoorW.PrintWords Go.Proofs.YthflpbgloeimfaaGreatDoorW.PrintLast Go.Proofs.YthflpbgloeimfaaGreatDoorW.PrintMore
open Go.Proofs.YthflpbgloeimfaaGreatDoor.Q (S47 k47 rd_T47 z47 at_T47 S50 k50 rd_T50 z50 at_T50 S52 k52 rd_T52 at_T52 z52 S71 k71 rd_T71 at_T71)
set_option linter.unusedVariables false
set_option linter.unusedSimpArgs false
structure KB (b : Nat) (W W1 : World) : Prop where
 size : W.heap.size ≤ W1.heap.size
 keep : ∀ (k : Nat) (cs : Array Value) (t : TypeId), k ≠ b → t ≠ 5 → W.heap[k]? = some (.cells cs t (0, 0)) → W1.heap[k]? = some (.cells cs t (0, 0))
theorem KB.refl (b : Nat) (W : World) : KB b W W := ⟨Nat.le_refl _, fun _ _ _ _ _ h => h⟩
theorem KB.trans {b : Nat} {W W1 W2 : World} (h : KB b W W1) (h2 : KB b W1 W2) : KB b W W2 := ⟨Nat.le_trans h.size h2.size, fun k cs t hk ht h0 => h2.keep k cs t hk ht (h.keep k cs t hk ht h0)⟩
theorem KB.below {b : Nat} {W W1 : World} (h : Below W.heap.size W W1) : KB b W W1 := ⟨h.size, fun k cs t hk ht h0 => aK_ h0 h⟩
theorem KB.set {b : Nat} {W W1 : World} (h : KB b W W1) (i : Nat) (u : Value) : KB b W (W1.setCell ⟨b, i, none⟩ u) := ⟨by have := h.size; simpa [World.setCell] using this, fun k cs t hk ht h0 => (Below.heap_setCell W1 ⟨b, i, none⟩ u k hk).trans (h.keep k cs t hk ht h0)⟩
theorem KB.row {b : Nat} {W W1 W2 : World} (h : KB b W W1) {row : Option Nat} (hg : W1.grownBy W2 row) (ht : ∀ k, row = some k → ∃ cells, W1.heap[k]? = some (.cells cells 5 (0, 0))) : KB b W W2 := by
 refine ⟨Nat.le_trans h.size hg.size, fun k cs t hk hne h0 => ?_⟩
 have h1 := h.keep k cs t hk hne h0
 refine blk_grown h1 hg (fun e => ?_)
 obtain ⟨cells, hc⟩ := ht k e.symm
 rw [h1] at hc
 injection hc with hc
 injection hc with _ h2 _
 exact hne h2
theorem size76 : (Tryz.prog.info? 69).map (fun i => i.size) = some 2 := by kernel_rfl
theorem lies76 : liesAt Tryz.prog Tryz.prog.depth 69 (2 / Tryz.prog.cellsOf 69) 0 69 1 = true := by kernel_rfl
theorem info5b : (Tryz.prog.info? 5).map (fun i => (i.zero, i.size, i.bytes)) = some (some (.int .u8 0), 1, 1) := by kernel_rfl
set_option maxHeartbeats 2000000 in
set_option maxRecDepth 100000 in
theorem check_used (b : Nat) (w : World) (h0 : w.cell? ⟨b, 0, none⟩ = some (.pointer (some ⟨b, 0, none⟩))) :
  Calls Tryz.prog 95 #[.pointer (some ⟨b, 0, none⟩)] w fun e w' => e = .returned (.tuple #[]) ∧ w' = w := by
 obtain ⟨j, hj, _⟩ := Option.map_eq_some_iff.1 size76
 go_enter Tryz.func95, Tryz.ntmps95
 go_wp2
 rw [Lib.run_neq_ptr_same w _ Tryz.underlying66 hj]
 go_wp2
 go_end0
 exact ⟨rfl, rfl⟩
set_option maxHeartbeats 2000000 in
set_option maxRecDepth 100000 in
theorem check_fresh (b : Nat) (w : World) (h0 : w.cell? ⟨b, 0, none⟩ = some (.pointer none)) (hsh : w.shape? b = some (69, 2)) (hfz : w.frozen? ⟨b, 0, none⟩ = false) :
  Calls Tryz.prog 95 #[.pointer (some ⟨b, 0, none⟩)] w fun e w' => e = .returned (.tuple #[]) ∧ w' = w.setCell ⟨b, 0, none⟩ (.pointer (some ⟨b, 0, none⟩)) := by
 obtain ⟨j, hj, hjs⟩ := Option.map_eq_some_iff.1 size76
 go_enter Tryz.func95, Tryz.ntmps95
 go_wp2
 rw [Lib.run_to_unsafe w ⟨b, 0, none⟩ Tryz.underlying66 Tryz.underlying156 hj (by rw [hjs]; decide) hsh (Nat.zero_lt_succ 1)]
 simp only [Result.andThen]
 rw [Oper.upon_value]
 go_wp2
 rw [run_callFunc_extern Tryz.func121 (by kernel_rfl) (by kernel_rfl) (by kernel_rfl) (e := Extern.AbiNoEscape.same) (by kernel_rfl)]
 rw [Lib.run_noEscape]
 simp only [Result.andThen]
 rw [Oper.upon_value]
 go_wp2
 rw [Lib.run_from_unsafe w ⟨b, 0, none⟩ Tryz.underlying156 Tryz.underlying66 hj hsh lies76]
 simp only [Result.andThen]
 rw [Oper.upon_value]
 go_wp2
 go_end0
 exact ⟨rfl, rfl⟩
theorem check_calls (B b : Nat) (bs : List Value) (w : World) (h : Lib.IsBuilder 69 5 B b bs w) :
  Calls Tryz.prog 95 #[.pointer (some ⟨b, 0, none⟩)] w fun e w' => e = .returned (.tuple #[]) ∧ (Lib.BuilderAt 69 5 B b (.pointer (some ⟨b, 0, none⟩)) bs w' ∧ Below B w w' ∧ KB b w w') := by
 rcases h with h | h
 ·refine (check_fresh b w h.cell0 h.shape h.frozen0).mono ?_
  rintro e w' ⟨rfl, rfl⟩
  exact ⟨rfl, h.used _, (Below.refl B w).setCell (p := ⟨b, 0, none⟩) h.1 _, (KB.refl b w).set 0 _⟩
 ·refine (check_used b w h.cell0).mono ?_
  rintro e w' ⟨rfl, rfl⟩
  exact ⟨rfl, h, Below.refl B _, KB.refl b _⟩
def BB (B b : Nat) (l : List UInt8) (w : World) : Prop := Lib.IsBuilder 69 5 B b (Lib.byteCells l) w
set_option maxHeartbeats 2000000 in
set_option maxRecDepth 100000 in
theorem wstr_calls (B b : Nat) (bs : List Value) (s : ByteArray) (w : World) (h : Lib.IsBuilder 69 5 B b bs w) (hlen : bs.length + s.size ≤ 140737488355328) (hBw : B ≤ w.heap.size) :
  Calls Tryz.prog 44 #[.pointer (some ⟨b, 0, none⟩), .string s] w fun e w' => e = .returned (.tuple #[.int .i64 s.size, .nilIface]) ∧ (Lib.BuilderAt 69 5 B b (.pointer (some ⟨b, 0, none⟩)) (bs ++ Lib.strCells s) w' ∧ Below B w w' ∧ KB b w w') := by
 obtain ⟨i0, hi, hz0, hz1, hz2⟩ := info_parts info5b
 have HC := mk0 (check_calls B b bs w h)
 clear h
 go_enter Tryz.func44, Tryz.ntmps44
 go_wp2_with fail
 refine (HC.out).mono ?_
 rintro e w1 ⟨rfl, h1, hb1, hk1⟩
 have HK1 := mk0 hk1
 clear hk1
 obtain ⟨hB, v, hbk, hown, hne⟩ := h1
 have c0 : w1.cell? ⟨b, 0, none⟩ = some (.pointer (some ⟨b, 0, none⟩)) := by rw [Lib.cell_of_heap hbk]; rfl
 have c1 : w1.cell? ⟨b, 1, none⟩ = some v := by rw [Lib.cell_of_heap hbk]; rfl
 go_wp2_with (at_builtin; refine Lib.wpList_append_own_string _ rfl _ _ 67 9 rfl B 5 i0 Tryz.underlying67 Tryz.underlying9 hi hz0 hz1 hz2 _ _ _ rfl hown s rfl ?c3 ?c4 ?c5 ?_)
 case c3 => unfold maxLen; omega
 case c4 => omega
 case c5 => have := hb1.size; omega
 intro v' w2 hown' hgrow _
 have hlt : b < w1.heap.size := blk_lt hbk
 have hb2 : w2.heap[b]? = some (.cells #[.pointer (some ⟨b, 0, none⟩), v] 69 (0, 0)) := by
  rw [hgrow.block b hlt (fun e => hne e.symm)]
  exact hbk
 have d0 : w2.cell? ⟨b, 0, none⟩ = some (.pointer (some ⟨b, 0, none⟩)) := by rw [Lib.cell_of_heap hb2]; rfl
 have d1 : w2.cell? ⟨b, 1, none⟩ = some v := by rw [Lib.cell_of_heap hb2]; rfl
 have f1 : w2.frozen? ⟨b, 1, none⟩ = false := Lib.frozen_of_heap hb2 1
 obtain ⟨ao, n', cap, rfl⟩ : ∃ ao n' cap, v' = .slice ao n' cap := by
  rcases hown'.2 with ⟨hv, _⟩ | ⟨g, cap, cur, hv, _⟩
  ·exact ⟨_, _, _, hv⟩
  ·exact ⟨_, _, _, hv⟩
 go_wp2
 go_ret2
 refine ⟨rfl, ?_, ?_, ?_⟩
 ·exact Lib.BuilderAt.put (T := 69) (e := 5) hB hb2 (bs' := bs ++ Lib.strCells s) (by simpa [Lib.strCells_length] using hown') (by decide)
 ·exact (hb1.grown hgrow (by have := hb1.size; omega) (fun k hk => (hown.lt k hk).1)).setCell (p := ⟨b, 1, none⟩) hB _
 ·exact ((HK1.out).row hgrow (fun k hk => own_typed hown k hk)).set 1 _
set_option maxHeartbeats 2000000 in
set_option maxRecDepth 100000 in
theorem wbyte_calls (B b : Nat) (bs : List Value) (c : Int) (w : World) (h : Lib.IsBuilder 69 5 B b bs w) (hlen : bs.length + 1 ≤ 140737488355328) (hBw : B ≤ w.heap.size) :
  Calls Tryz.prog 48 #[.pointer (some ⟨b, 0, none⟩), .int .u8 c] w fun e w' => e = .returned .nilIface ∧ (Lib.BuilderAt 69 5 B b (.pointer (some ⟨b, 0, none⟩)) (bs ++ [.int .u8 c]) w' ∧ Below B w w' ∧ KB b w w') := by
 obtain ⟨i0, hi, hz0, hz1, hz2⟩ := info_parts info5b
 have HC := mk0 (check_calls B b bs w h)
 clear h
 go_enter Tryz.func48, Tryz.ntmps48
 go_wp2_with fail
 refine (HC.out).mono ?_
 rintro e w1 ⟨rfl, h1, hb1, hk1⟩
 have HK1 := mk0 hk1
 clear hk1
 obtain ⟨hB, v, hbk, hown, hne⟩ := h1
 have c0 : w1.cell? ⟨b, 0, none⟩ = some (.pointer (some ⟨b, 0, none⟩)) := by rw [Lib.cell_of_heap hbk]; rfl
 have c1 : w1.cell? ⟨b, 1, none⟩ = some v := by rw [Lib.cell_of_heap hbk]; rfl
 go_wp2_with (at_builtin; refine wpList_append_own _ rfl _ _ 67 rfl B 5 i0 (.int .u8 0) 1 1 Tryz.underlying67 hi hz0 hz1 hz2 rfl (by decide) _ _ _ rfl (hown.alloc _) ⟨w1.heap.size, 0, none⟩ 1 1 [.int .u8 c] rfl rfl ?c1 ?c2 ?c3 ?c4 ?c5 ?_)
 case c1 =>
  intro j u hj
  match j, hj with
  | 0, hj => simp at hj; subst hj; simp [Addr.add]
 case c2 => intro u hu; simp at hu; subst hu; rfl
 case c3 => unfold maxLen; omega
 case c4 => omega
 case c5 => have := hb1.size; simp; omega
 intro v' w2 hown' hgrow _
 have hlt : b < w1.heap.size := blk_lt hbk
 have hb2 : w2.heap[b]? = some (.cells #[.pointer (some ⟨b, 0, none⟩), v] 69 (0, 0)) := by
  rw [hgrow.block b (by simp; omega) (fun e => hne e.symm), Lib.alloc_old w1 _ b hlt]
  exact hbk
 have d0 : w2.cell? ⟨b, 0, none⟩ = some (.pointer (some ⟨b, 0, none⟩)) := by rw [Lib.cell_of_heap hb2]; rfl
 have d1 : w2.cell? ⟨b, 1, none⟩ = some v := by rw [Lib.cell_of_heap hb2]; rfl
 have f1 : w2.frozen? ⟨b, 1, none⟩ = false := Lib.frozen_of_heap hb2 1
 obtain ⟨g, cap, rfl⟩ : ∃ g cap, v' = .slice (some ⟨g, 0, none⟩) (bs.length + 1) cap := by
  rcases hown'.2 with ⟨_, h0⟩ | ⟨g, cap, cur, hv, _⟩
  ·omega
  ·exact ⟨g, cap, hv⟩
 go_wp2
 go_ret
 refine ⟨rfl, ?_, ?_, ?_⟩
 ·exact Lib.BuilderAt.put (T := 69) (e := 5) hB hb2 (bs' := bs ++ [.int .u8 c]) (by simpa using hown') (by decide)
 ·exact ((hb1.alloc (by have := hb1.size; omega) _).grown hgrow (by have := hb1.size; simp; omega) (fun k hk => (hown.lt k hk).1)).setCell (p := ⟨b, 1, none⟩) hB _
 ·exact (((HK1.out).trans (KB.below (aA_ (Below.refl _ _) _))).row hgrow (fun k hk => own_typed (hown.alloc _) k hk)).set 1 _
def dg (n : Nat) : List UInt8 := Lib.decDigits n
theorem dg_len {n : Nat} (h : n < 100) : (dg n).length ≤ 2 := by
 have : ((List.range 100).all fun i => decide ((dg i).length ≤ 2)) = true := by kernel_rfl
 exact l0_ (List.all_eq_true.1 this n (List.mem_range.2 h))
theorem bb_below {B b : Nat} {l : List UInt8} {W W1 : World} (h : BB B b l W) (hb : Below W.heap.size W W1) : BB B b l W1 := by
 have key : ∀ p, Lib.BuilderAt 69 5 B b p (Lib.byteCells l) W → Lib.BuilderAt 69 5 B b p (Lib.byteCells l) W1 := by
  rintro p ⟨h1, v, h2, h3, h4⟩
  exact ⟨h1, v, aK_ h2 hb, own_move h3 (fun k hk => hb.block k (own_lt h3 k hk)), h4⟩
 exact h.imp (key _) (key _)
theorem byteCells_app (a b : List UInt8) : Lib.byteCells (a ++ b) = Lib.byteCells a ++ Lib.byteCells b := by unfold Lib.byteCells; simp
theorem byteCells_len (a : List UInt8) : (Lib.byteCells a).length = a.length := by unfold Lib.byteCells; simp
theorem strCells_eq (s : ByteArray) : Lib.strCells s = Lib.byteCells s.data.toList := by
 unfold Lib.strCells Lib.byteCells
 rfl
def WrE (b : Nat) (acc : List UInt8) (W W1 : World) : Prop := BB b b acc W1 ∧ Below b W W1 ∧ KB b W W1
theorem ws_calls (b : Nat) (l : List UInt8) (s : ByteArray) (t : List UInt8) (w : World) (h : BB b b l w) (ht : s.data.toList = t) (hlen : l.length + t.length ≤ 140737488355328) (hBw : b ≤ w.heap.size) :
  Calls Tryz.prog 44 #[.pointer (some ⟨b, 0, none⟩), .string s] w fun e w' => e = .returned (.tuple #[.int .i64 s.size, .nilIface]) ∧ WrE b (l ++ t) w w' := by
 refine (wstr_calls b b _ s w h (by rw [byteCells_len, Lib.size_eq, ht]; exact hlen) hBw).mono ?_
 rintro e w' ⟨rfl, h1, h2, h3⟩
 refine ⟨rfl, .inr ?_, h2, h3⟩
 rw [byteCells_app, ← ht, ← strCells_eq]
 exact h1
theorem wb_calls (b : Nat) (l : List UInt8) (c : UInt8) (w : World) (h : BB b b l w) (hlen : l.length + 1 ≤ 140737488355328) (hBw : b ≤ w.heap.size) :
  Calls Tryz.prog 48 #[.pointer (some ⟨b, 0, none⟩), .int .u8 (c.toNat : Int)] w fun e w' => e = .returned .nilIface ∧ WrE b (l ++ [c]) w w' := by
 refine (wbyte_calls b b _ (c.toNat : Int) w h (by rw [byteCells_len]; exact hlen) hBw).mono ?_
 rintro e w' ⟨rfl, h1, h2, h3⟩
 refine ⟨rfl, .inr ?_, h2, h3⟩
 rw [byteCells_app]
 exact h1
theorem itoa_calls (n : Int) (h0 : 0 ≤ n) (h1 : n < 100) (w : World) : Calls Tryz.prog 45 #[.int .i64 n] w fun e w' => e = .returned (.string ⟨(dg n.toNat).toArray⟩) ∧ w' = w := by
 obtain ⟨k, rfl⟩ := Int.eq_ofNat_of_zero_le h0
 exact Tryz.strconv_Itoa_small k (by omega) w
def wrapS (a : S47) (x : List UInt8) : List UInt8 := if a.f0.length = 0 then x else 40 :: (x ++ [41])
mutual
def srtS : S47 → List UInt8
 | ⟨l⟩ => srtSL l ++ [111]
def srtSL : List S47 → List UInt8
 | [] => []
 | a :: r => wrapS a (srtS a) ++ (32 :: 62 :: 32 :: srtSL r)
end
def wrapT (a : S50) (x : List UInt8) : List UInt8 := if a.f2.length = 0 then x else 40 :: (x ++ [41])
mutual
def trmS (hd : Int → Int → List UInt8) : S50 → List UInt8
 | ⟨k, n, l⟩ => hd k n ++ trmSL hd l
def trmSL (hd : Int → Int → List UInt8) : List S50 → List UInt8
 | [] => []
 | a :: r => 32 :: (wrapT a (trmS hd a) ++ trmSL hd r)
end
def hdS (sy : List S71) (fs : List S52) (k n : Int) : List UInt8 := if k = 0 then 36 :: dg n.toNat else if k = 1 then (rd_T52 fs n).f0.data.toList else 35 :: (rd_T71 sy n).f0.data.toList
def symL (x : S71) : List UInt8 := [115, 121, 109, 98, 111, 108, 32] ++ (x.f0.data.toList ++ (32 :: (dg x.f1.toNat ++ [10])))
def funL (sy : List S71) (fs : List S52) (f : S52) : List UInt8 := [102, 117, 110, 32] ++ (f.f0.data.toList ++ ([32, 58, 32] ++ (srtS f.f1 ++ ([32, 61, 32] ++ (trmS (hdS sy fs) f.f2 ++ [10])))))
def putL (sy : List S71) (fs : List S52) : List UInt8 := sy.flatMap symL ++ fs.flatMap (funL sy fs)
def putV (sy : List S71) (fs : List S52) : List UInt8 × Int := if schB sy fs then (if 65536 < (putL sy fs).length then ([], 3) else (putL sy fs, 0)) else ([], 7)
theorem srtSL_snoc (a : List S47) (x : S47) : srtSL (a ++ [x]) = srtSL a ++ (wrapS x (srtS x) ++ [32, 62, 32]) := by
 induction a with
 | nil => simp [srtSL]
 | cons y r ih => rw [List.cons_append, srtSL, srtSL, ih]; simp
theorem trmSL_snoc (hd : Int → Int → List UInt8) (a : List S50) (x : S50) : trmSL hd (a ++ [x]) = trmSL hd a ++ (32 :: wrapT x (trmS hd x)) := by
 induction a with
 | nil => simp [trmSL]
 | cons y r ih => rw [List.cons_append, trmSL, trmSL, ih]; simp
theorem wrapS_len (a : S47) (x : List UInt8) : (wrapS a x).length ≤ x.length + 2 := by unfold wrapS; split <;> simp
theorem wrapT_len (a : S50) (x : List UInt8) : (wrapT a x).length ≤ x.length + 2 := by unfold wrapT; split <;> simp
theorem srtS_len_aux (n : Nat) : ∀ t : S47, sN t ≤ n → (srtS t).length + 5 ≤ 6 * sN t := by
 induction n with
 | zero => intro t h; have := sN_pos t; omega
 | succ n ih =>
  intro t h
  obtain ⟨l⟩ := t
  rw [sN] at h ⊢
  rw [srtS, l7_, l10_]
  have : ∀ l : List S47, sNL l ≤ n → (srtSL l).length ≤ 6 * sNL l := by
   intro l
   induction l with
   | nil => intro _; simp [srtSL]
   | cons a r ihr =>
    intro h
    rw [sNL] at h ⊢
    rw [srtSL, l7_]
    simp only [l8_]
    have h1 := ih a (by omega)
    have h2 := ihr (by omega)
    have h3 := wrapS_len a (srtS a)
    omega
  have := this l (by omega)
  omega
theorem srtS_len (t : S47) : (srtS t).length ≤ 6 * sN t := by have := srtS_len_aux _ t (Nat.le_refl _); omega
theorem srtSL_len (l : List S47) : (srtSL l).length ≤ 6 * sNL l := by
 have := srtS_len_aux _ ⟨l⟩ (Nat.le_refl _)
 rw [srtS, sN, l7_, l10_] at this
 omega
theorem wb40 (b : Nat) (l : List UInt8) (w : World) (h : BB b b l w) (hlen : l.length + 1 ≤ 140737488355328) (hBw : b ≤ w.heap.size) : Calls Tryz.prog 48 #[.pointer (some ⟨b, 0, none⟩), .int .u8 40] w fun e w' => e = .returned .nilIface ∧ WrE b (l ++ [40]) w w' := wb_calls b l 40 w h hlen hBw
theorem wb41 (b : Nat) (l : List UInt8) (w : World) (h : BB b b l w) (hlen : l.length + 1 ≤ 140737488355328) (hBw : b ≤ w.heap.size) : Calls Tryz.prog 48 #[.pointer (some ⟨b, 0, none⟩), .int .u8 41] w fun e w' => e = .returned .nilIface ∧ WrE b (l ++ [41]) w w' := wb_calls b l 41 w h hlen hBw
theorem wb111 (b : Nat) (l : List UInt8) (w : World) (h : BB b b l w) (hlen : l.length + 1 ≤ 140737488355328) (hBw : b ≤ w.heap.size) : Calls Tryz.prog 48 #[.pointer (some ⟨b, 0, none⟩), .int .u8 111] w fun e w' => e = .returned .nilIface ∧ WrE b (l ++ [111]) w w' := wb_calls b l 111 w h hlen hBw
theorem wb32 (b : Nat) (l : List UInt8) (w : World) (h : BB b b l w) (hlen : l.length + 1 ≤ 140737488355328) (hBw : b ≤ w.heap.size) : Calls Tryz.prog 48 #[.pointer (some ⟨b, 0, none⟩), .int .u8 32] w fun e w' => e = .returned .nilIface ∧ WrE b (l ++ [32]) w w' := wb_calls b l 32 w h hlen hBw
theorem wb10 (b : Nat) (l : List UInt8) (w : World) (h : BB b b l w) (hlen : l.length + 1 ≤ 140737488355328) (hBw : b ≤ w.heap.size) : Calls Tryz.prog 48 #[.pointer (some ⟨b, 0, none⟩), .int .u8 10] w fun e w' => e = .returned .nilIface ∧ WrE b (l ++ [10]) w w' := wb_calls b l 10 w h hlen hBw
structure WS (w0 W : World) (b : Nat) (acc : List UInt8) (W1 : World) : Prop where
 hb0 : Below w0.heap.size w0 W1
 hb : Below b W W1
 kb : KB b W W1
 bb : BB b b acc W1
 lt : b < W1.heap.size
theorem WS.write {w0 W : World} {b : Nat} {acc acc1 : List UInt8} {W1 W2 : World} (h : WS w0 W b acc W1) (h0 : w0.heap.size ≤ b) (hw : WrE b acc1 W1 W2) : WS w0 W b acc1 W2 :=
 ⟨Below.trans h.hb0 (Below.mono hw.2.1 h0), Below.trans h.hb hw.2.1, h.kb.trans hw.2.2, hw.1, l12_ h.lt hw.2.2.size⟩
theorem WS.below {w0 W : World} {b : Nat} {acc : List UInt8} {W1 W2 : World} (h : WS w0 W b acc W1) (hb : Below W1.heap.size W1 W2) : WS w0 W b acc W2 :=
 ⟨aM_ h.hb0 h.hb0.size hb, Below.trans h.hb (Below.mono hb (Nat.le_of_lt h.lt)), h.kb.trans (KB.below hb), bb_below h.bb hb, l12_ h.lt hb.size⟩
theorem WS.wr {w0 W : World} {b : Nat} {acc : List UInt8} {W1 : World} (h : WS w0 W b acc W1) : WrE b acc W W1 := ⟨h.bb, h.hb, h.kb⟩
set_option maxHeartbeats 8000000 in
set_option maxRecDepth 100000 in
theorem swrite_calls (w0 : World) (b : Nat) (hb0 : w0.heap.size ≤ b) (N : Nat) : ∀ (t : S47), sN t ≤ N → N ≤ 1000000 → ∀ (A : Option Addr) (c : Nat) (acc : List UInt8) (W : World), Kd.C k47 w0 A t.f0.length t.f0 → t.f0.length ≤ c → Below w0.heap.size w0 W → BB b b acc W → b < W.heap.size → acc.length + 6 * sN t ≤ 1000000000000 →
  Calls Tryz.prog 97 #[.pointer (some ⟨b, 0, none⟩), .agg #[.slice A t.f0.length c]] W fun E W' => E = .returned (.tuple #[]) ∧ WrE b (acc ++ srtS t) W W' := by
 induction N with
 | zero => intro t h; have := sN_pos t; omega
 | succ N ih =>
  intro t hN hM A c acc W hC hc hB hBB hlt0 hlen
  obtain ⟨l⟩ := t
  rw [sN] at hN hlen
  have H0 := mk0 hb0
  have HC := mk0 hC
  have IH := mk0 ih
  have HD := mk0 (show sNL l ≤ N ∧ N ≤ 1000000 ∧ acc.length + 6 * (sNL l + 1) ≤ 1000000000000 from ⟨by omega, by omega, hlen⟩)
  have HLEN := mk0 (show l.length ≤ 1000000 from by have := sLen_le (l := l); omega)
  have HW := mk0 ((WS.mk hB (Below.refl _ _) (KB.refl _ _) hBB hlt0).below (aA_ (Below.refl W.heap.size W) (.cells #[.slice A l.length c] 47)))
  have HX := mk0 (aU_ W (.cells #[.slice A l.length c] 47))
  clear hb0 hC ih hN hM hc hB hBB hlt0 hlen
  go_enter Tryz.func97, Tryz.ntmps97
  go_upto_region 1 with (fail)
  generalize (W.alloc (.cells #[.slice A l.length c] 47)) = W1 at *
  have p0 : W1.cell? ⟨W.heap.size, 0, none⟩ = some (.slice A l.length c) := (aC_ HX.out 0).trans rfl
  go_wp2
  clear p0
  go_loopg [9] l.length (fun gg v9 wi => ∃ (j : Nat), j ≤ l.length ∧ l.length - j ≤ gg ∧ v9 = .int .i64 j ∧ Aside0 (WS w0 W b (acc ++ srtSL (l.take j)) wi))
  case atStart => exact ⟨0, by omega, by omega, rfl, ⟨by rw [List.take_zero, srtSL, List.append_nil]; exact HW.out⟩⟩
  case round =>
   clear HW HX
   obtain ⟨j, hj, hgg, rfl, HW⟩ := hrel
   by_cases hlt : j < l.length
   ·have hltz : (j : Int) < (l.length : Int) := by omega
    obtain ⟨ad, A1, c1, e, hx0, hl1, hC1⟩ := at_T47 HC.out (j : Int) (by omega) hltz
    subst e
    rw [rdS_at hlt] at hx0 hl1 hC1
    rw [l14_] at hx0
    replace hx0 := ((HW.out).hb0.cell (l1_ w0 _ hx0)).trans hx0
    have HS := mk0 (show acc ++ srtSL (l.take (j + 1)) = ((acc ++ srtSL (l.take j)) ++ wrapS l[j] (srtS l[j])) ++ [32, 62, 32] by rw [takeS hlt, srtSL_snoc]; simp)
    have HJ := mk0 (show sN l[j] ≤ N ∧ (acc ++ srtSL (l.take j)).length + 6 * sN l[j] + 6 ≤ 1000000000000 from by
     have h1 := sN_mem (l11_ hlt)
     have h2 := srtSL_len (l.take j)
     have h3 := sNL_snoc (l.take j) l[j]
     rw [← takeS hlt] at h3
     have h4 := sNL_take l (j + 1)
     have := HD.out
     rw [l7_]
     omega)
    generalize l[j] = u at *
    generalize acc ++ srtSL (l.take j) = acc1 at *
    have HC1 := mk0 hC1
    have HL1 := mk0 hl1
    clear hC1 hl1
    go_upto_region 4 with (fail)
    have HW5 := mk0 ((HW.out).below (aA_ (Below.refl wr.heap.size wr) (.cells #[.slice A1 u.f0.length c1] 47)))
    have HX5 := mk0 (aU_ wr (.cells #[.slice A1 u.f0.length c1] 47))
    have HNB := mk0 (show wr.heap.size ≠ b from by have := (HW.out).lt; omega)
    clear HW hx0
    generalize (wr.alloc (.cells #[.slice A1 u.f0.length c1] 47)) = w5 at *
    generalize wr.heap.size = b7 at *
    have m0 : w5.cell? ⟨b7, 0, none⟩ = some (.slice A1 u.f0.length c1) := (aC_ HX5.out 0).trans rfl
    by_cases hz : u.f0.length = 0
    ·have hzz : ¬ (u.f0.length : Int) > 0 := by omega
     have HWR := mk0 (show wrapS u (srtS u) = srtS u from if_pos hz)
     have HWI := mk0 (IH.out u (HJ.out).1 (HD.out).2.1 A1 c1 acc1 w5 HC1.out HL1.out (HW5.out).hb0 (HW5.out).bb (HW5.out).lt (by have := (HJ.out).2; omega))
     clear hz
     go_wp2_with fail
     refine (HWI.out).mono ?_
     rintro E w6 ⟨rfl, hw⟩
     have HW6 := mk0 ((HW5.out).write H0.out hw)
     have HX6 := mk0 (hw.2.2.keep _ _ _ HNB.out (by decide) HX5.out)
     clear hw HW5 HX5 m0 HWI
     have m0 : w6.cell? ⟨b7, 0, none⟩ = some (.slice A1 u.f0.length c1) := (aC_ HX6.out 0).trans rfl
     have HSS := mk0 (ws_calls b (acc1 ++ srtS u) ⟨#[32, 62, 32]⟩ [32, 62, 32] w6 (HW6.out).bb rfl (by have := (HJ.out).2; have := srtS_len u; rw [l7_]; simp only [l8_, List.length_nil]; omega) (Nat.le_of_lt (HW6.out).lt))
     go_wp2_with fail
     refine (HSS.out).mono ?_
     rintro E w7 ⟨rfl, hw⟩
     have HW7 := mk0 ((HW6.out).write H0.out hw)
     clear hw HW6 HX6 m0 HSS
     go_wp2
     go_roundg (l.length - (j + 1))
     case measure => omega
     case rel => exact ⟨j + 1, by omega, by omega, by rw [wrap_succ (by omega) (by have := HLEN.out; omega)]; rfl, ⟨by rw [HS.out, HWR.out]; exact HW7.out⟩⟩
    ·have hzz : (u.f0.length : Int) > 0 := by omega
     have HWR := mk0 (show wrapS u (srtS u) = 40 :: (srtS u ++ [41]) from if_neg hz)
     have HW40 := mk0 (wb40 b acc1 w5 (HW5.out).bb (by have := (HJ.out).2; omega) (Nat.le_of_lt (HW5.out).lt))
     clear hz
     go_wp2_with fail
     refine (HW40.out).mono ?_
     rintro E w51 ⟨rfl, hw⟩
     have HW51 := mk0 ((HW5.out).write H0.out hw)
     have HX51 := mk0 (hw.2.2.keep _ _ _ HNB.out (by decide) HX5.out)
     clear hw HW5 HX5 m0 HW40
     have m0 : w51.cell? ⟨b7, 0, none⟩ = some (.slice A1 u.f0.length c1) := (aC_ HX51.out 0).trans rfl
     have HWI := mk0 (IH.out u (HJ.out).1 (HD.out).2.1 A1 c1 (acc1 ++ [40]) w51 HC1.out HL1.out (HW51.out).hb0 (HW51.out).bb (HW51.out).lt (by have := (HJ.out).2; rw [l7_, l10_]; omega))
     go_wp2_with fail
     refine (HWI.out).mono ?_
     rintro E w6 ⟨rfl, hw⟩
     have HW6 := mk0 ((HW51.out).write H0.out hw)
     have HX6 := mk0 (hw.2.2.keep _ _ _ HNB.out (by decide) HX51.out)
     clear hw HW51 HX51 m0 HWI
     have m0 : w6.cell? ⟨b7, 0, none⟩ = some (.slice A1 u.f0.length c1) := (aC_ HX6.out 0).trans rfl
     have HW41 := mk0 (wb41 b (acc1 ++ [40] ++ srtS u) w6 (HW6.out).bb (by have := (HJ.out).2; have := srtS_len u; rw [l7_, l7_]; simp only [l8_, List.length_nil]; omega) (Nat.le_of_lt (HW6.out).lt))
     go_wp2_with fail
     refine (HW41.out).mono ?_
     rintro E w61 ⟨rfl, hw⟩
     have HW61 := mk0 ((HW6.out).write H0.out hw)
     clear hw HW6 HX6 m0 HW41
     have HSS := mk0 (ws_calls b (acc1 ++ [40] ++ srtS u ++ [41]) ⟨#[32, 62, 32]⟩ [32, 62, 32] w61 (HW61.out).bb rfl (by have := (HJ.out).2; have := srtS_len u; rw [l7_, l7_, l7_]; simp only [l8_, List.length_nil]; omega) (Nat.le_of_lt (HW61.out).lt))
     go_wp2_with fail
     refine (HSS.out).mono ?_
     rintro E w7 ⟨rfl, hw⟩
     have HW7 := mk0 ((HW61.out).write H0.out hw)
     clear hw HW61 HSS
     go_wp2
     go_roundg (l.length - (j + 1))
     case measure => omega
     case rel => exact ⟨j + 1, by omega, by omega, by rw [wrap_succ (by omega) (by have := HLEN.out; omega)]; rfl, ⟨by rw [HS.out, HWR.out, show acc1 ++ 40 :: (srtS u ++ [41]) ++ [32, 62, 32] = acc1 ++ [40] ++ srtS u ++ [41] ++ [32, 62, 32] by simp]; exact HW7.out⟩⟩
   ·have hltz : ¬ (j : Int) < (l.length : Int) := by omega
    have hje : j = l.length := by omega
    subst hje
    rw [List.take_length] at HW
    have HE := mk0 (show acc ++ srtS ⟨l⟩ = acc ++ srtSL l ++ [111] by rw [srtS, List.append_assoc])
    have HL := mk0 (srtSL_len l)
    have HWF := mk0 (wb111 b (acc ++ srtSL l) wr (HW.out).bb (by have := HD.out; have := HL.out; rw [l7_]; omega) (Nat.le_of_lt (HW.out).lt))
    go_wp2_with fail
    refine (HWF.out).mono ?_
    rintro E w7 ⟨rfl, hw⟩
    have HW7 := mk0 ((HW.out).write H0.out hw)
    clear hw HWF
    go_wp2
    go_end0
    exact ⟨rfl, by rw [HE.out]; exact (HW7.out).wr⟩
def srtP : Nat → List S47 → List UInt8 → Option (S47 × List UInt8)
 | 0, _, _ => none
 | n + 1, acc, l =>
  if Lib.hasPrefix l [40] then (srtP n [] (l.drop 1)).bind fun p => if p.1.f0.length = 0 then none else if Lib.hasPrefix p.2 [41, 32, 62, 32] then srtP n (acc ++ [p.1]) (p.2.drop 4) else none
  else if Lib.hasPrefix l [111] then (if Lib.hasPrefix (l.drop 1) [32, 62, 32] then srtP n (acc ++ [⟨[]⟩]) ((l.drop 1).drop 3) else some (⟨acc⟩, l.drop 1)) else none
theorem hp_len {l p : List UInt8} (h : Lib.hasPrefix l p = true) : p.length ≤ l.length := by
 unfold Lib.hasPrefix at h
 have := List.IsPrefix.length_le (List.isPrefixOf_iff_prefix.1 h)
 exact this
theorem srtP_less (n : Nat) : ∀ (acc : List S47) (l : List UInt8) (p : S47 × List UInt8), srtP n acc l = some p → p.2.length < l.length := by
 induction n with
 | zero => intro acc l p h; simp [srtP] at h
 | succ n ih =>
  intro acc l p h
  rw [srtP] at h
  cases q : Lib.hasPrefix l [40] with
  | true =>
   have hl := hp_len q
   simp only [l8_, List.length_nil] at hl
   rw [q, if_pos rfl] at h
   obtain ⟨a, ha, h⟩ := Option.bind_eq_some_iff.1 h
   have h1 := ih _ _ _ ha
   rw [l9_] at h1
   split at h
   ·cases h
   ·split at h
    ·have h2 := ih _ _ _ h
     rw [l9_] at h2
     omega
    ·cases h
  | false =>
   rw [q] at h
   simp only [Bool.false_eq_true, if_false] at h
   cases q2 : Lib.hasPrefix l [111] with
   | false => rw [q2] at h; simp at h
   | true =>
    have hl := hp_len q2
    simp only [l8_, List.length_nil] at hl
    rw [q2, if_pos rfl] at h
    split at h
    ·have h2 := ih _ _ _ h
     rw [l9_, l9_] at h2
     omega
    ·cases h
     rw [l9_]
     omega
theorem srtP_fuel (n : Nat) : ∀ (m : Nat) (acc : List S47) (l : List UInt8), l.length < n → l.length < m → srtP n acc l = srtP m acc l := by
 induction n with
 | zero => intro m acc l h; omega
 | succ n ih =>
  intro m acc l h1 h2
  cases m with
  | zero => omega
  | succ m =>
   rw [srtP, srtP]
   cases q : Lib.hasPrefix l [40] with
   | true =>
    have hl := hp_len q
    simp only [l8_, List.length_nil] at hl
    rw [if_pos rfl, if_pos rfl]
    rw [← ih m [] (l.drop 1) (by rw [l9_]; omega) (by rw [l9_]; omega)]
    cases e : srtP n [] (l.drop 1) with
    | none => rfl
    | some p =>
     have h3 := srtP_less _ _ _ _ e
     rw [l9_] at h3
     simp only [l21_]
     rw [ih m _ (p.2.drop 4) (by rw [l9_]; omega) (by rw [l9_]; omega)]
   | false =>
    simp only [Bool.false_eq_true, if_false]
    cases q2 : Lib.hasPrefix l [111] with
    | false => rfl
    | true =>
     have hl := hp_len q2
     simp only [l8_, List.length_nil] at hl
     rw [if_pos rfl, if_pos rfl]
     rw [ih m _ ((l.drop 1).drop 3) (by rw [l9_, l9_]; omega) (by rw [l9_, l9_]; omega)]
def srtR (acc : List S47) (l : List UInt8) : Option (S47 × List UInt8) := srtP (l.length + 1) acc l
theorem srtR_less {acc : List S47} {l : List UInt8} {p : S47 × List UInt8} (h : srtR acc l = some p) : p.2.length < l.length := srtP_less _ _ _ _ h
theorem srtR_open {acc : List S47} {l : List UInt8} (h : Lib.hasPrefix l [40] = true) : srtR acc l = (srtR [] (l.drop 1)).bind fun p => if p.1.f0.length = 0 then none else if Lib.hasPrefix p.2 [41, 32, 62, 32] then srtR (acc ++ [p.1]) (p.2.drop 4) else none := by
 have hl := hp_len h
 simp only [l8_, List.length_nil] at hl
 unfold srtR
 rw [srtP, h, if_pos rfl, srtP_fuel l.length ((l.drop 1).length + 1) [] (l.drop 1) (by rw [l9_]; omega) (by omega)]
 cases e : srtP ((l.drop 1).length + 1) [] (l.drop 1) with
 | none => rfl
 | some p =>
  have h3 := srtP_less _ _ _ _ e
  rw [l9_] at h3
  simp only [l21_]
  rw [srtP_fuel l.length ((p.2.drop 4).length + 1) _ (p.2.drop 4) (by rw [l9_]; omega) (by omega)]
theorem srtR_none {acc : List S47} {l : List UInt8} (h : Lib.hasPrefix l [40] = false) (h2 : Lib.hasPrefix l [111] = false) : srtR acc l = none := by
 unfold srtR
 rw [srtP, h, h2]
 rfl
theorem srtR_last {acc : List S47} {l : List UInt8} (h : Lib.hasPrefix l [40] = false) (h2 : Lib.hasPrefix l [111] = true) (h3 : Lib.hasPrefix (l.drop 1) [32, 62, 32] = false) : srtR acc l = some (⟨acc⟩, l.drop 1) := by
 unfold srtR
 rw [srtP, h, h2, h3]
 rfl
theorem srtR_more {acc : List S47} {l : List UInt8} (h : Lib.hasPrefix l [40] = false) (h2 : Lib.hasPrefix l [111] = true) (h3 : Lib.hasPrefix (l.drop 1) [32, 62, 32] = true) : srtR acc l = srtR (acc ++ [⟨[]⟩]) ((l.drop 1).drop 3) := by
 have hl := hp_len h2
 simp only [l8_, List.length_nil] at hl
 unfold srtR
 rw [srtP, h, h2, h3]
 simp only [Bool.false_eq_true, if_false, if_true]
 exact srtP_fuel _ _ _ _ (by rw [l9_, l9_]; omega) (by omega)
structure RD (b : Nat) (s : ByteArray) (l : List UInt8) (W : World) : Prop where
 blk : W.heap[b]? = some (.cells #[.string s, .int .i64 ((s.size - l.length : Nat) : Int)] 142 (0, 0))
 suf : s.data.toList.drop (s.size - l.length) = l
theorem RD.le {b : Nat} {s : ByteArray} {l : List UInt8} {W : World} (h : RD b s l W) : l.length ≤ s.size := by
 have := congrArg List.length h.suf
 rw [l9_, ← Lib.size_eq] at this
 omega
theorem RD.keep {b : Nat} {s : ByteArray} {l : List UInt8} {W W1 : World} (h : RD b s l W) (hb : Below W.heap.size W W1) : RD b s l W1 := ⟨aK_ h.blk hb, h.suf⟩
structure KR (b : Nat) (W W1 : World) : Prop where
 lo : Below b W W1
 keep : KeepBut W W1 b none
theorem KR.refl (b : Nat) (W : World) : KR b W W := ⟨Below.refl _ _, KeepBut.refl _ _ _⟩
theorem KR.trans {b : Nat} {W W1 W2 : World} (h : KR b W W1) (h2 : KR b W1 W2) : KR b W W2 := ⟨Below.trans h.lo h2.lo, Nat.le_trans h.keep.1 h2.keep.1, fun i hi hb hr => (h2.keep.2 i (l12_ hi h.keep.1) hb hr).trans (h.keep.2 i hi hb hr)⟩
theorem KR.below {b : Nat} {W W1 : World} (hb : b ≤ W.heap.size) (h : Below W.heap.size W W1) : KR b W W1 := ⟨Below.mono h hb, KeepBut.of_below h _ _⟩
theorem KR.blk {b g : Nat} {W W1 : World} {o : Obj} (h : KR b W W1) (hg : g ≠ b) (h0 : W.heap[g]? = some o) : W1.heap[g]? = some o := (h.keep.2 g (blk_lt h0) hg (by simp)).trans h0
theorem KR.rr {α : Type} {d : Kd α} {e base b : Nat} {W W1 : World} {ok : Nat → Prop} {v : Value} {xs : List α} (h : KR b W W1) (hR : d.R e W base ok v xs) (hok : ∀ k, ok k → k ≠ b) : d.R e W1 base ok v xs := Kd.R_keep hR h.keep hok
def skp (l p : List UInt8) : List UInt8 := if Lib.hasPrefix l p = true then l.drop p.length else l
set_option maxHeartbeats 4000000 in
set_option maxRecDepth 100000 in
theorem take_calls (b : Nat) (s word : ByteArray) (l : List UInt8) (W : World) (h : RD b s l W) (hs : s.size ≤ 70000) (hw : word.size ≤ 10) :
  Calls Tryz.prog 130 #[.pointer (some ⟨b, 0, none⟩), .string word] W fun E w' => E = .returned (.bool (Lib.hasPrefix l word.data.toList)) ∧ RD b s (skp l word.data.toList) w' ∧ KR b W w' := by
 have hle := h.le
 have HLE := mk0 (show s.size ≤ 70000 ∧ word.size ≤ 10 ∧ l.length ≤ s.size from ⟨hs, hw, hle⟩)
 have HB := mk0 h
 have HS := mk0 h.suf
 obtain ⟨p, hp⟩ : ∃ p : Nat, s.size - l.length = p := ⟨_, rfl⟩
 have hps : p ≤ s.size := by omega
 have hpp : (p : Int) ≤ (s.size : Int) := by omega
 have hb := h.blk
 rw [hp] at hb
 have HP := mk0 hp
 have hx : (s.extract p s.size).data.toList = l := by rw [Lib.extract_to_end, ← hp, h.suf]
 have HPF := mk0 (fun (W1 : World) => Tryz.strings_HasPrefix (s.extract p s.size) word W1)
 rw [hx] at HPF
 have HWL := mk0 (show word.data.toList.length = word.size from (Lib.size_eq word).symm)
 clear hle hx hp h hs hw
 have HK := mk0 (fun (W1 : World) (hW : Below W.heap.size W W1) => And.intro ((aC_ (aK_ hb hW) 0).trans rfl : W1.cell? ⟨b, 0, none⟩ = some (.string s)) ((aC_ (aK_ hb hW) 1).trans rfl : W1.cell? ⟨b, 1, none⟩ = some (.int .i64 (p : Int))))
 have hd := below_drew (Below.refl W.heap.size W)
 have HBB := mk0 hb
 clear hb
 go_enter Tryz.func130, Tryz.ntmps130
 go_upto_region 1 with (fail)
 go_region_held3 (fun w' => w'.cell? ⟨b, 0, none⟩ = some (.string s) ∧ w'.cell? ⟨b, 1, none⟩ = some (.int .i64 (p : Int)))
  (first | exact HK.out _ hd | fail)
  (first | ((with_reducible refine (HPF.out _).mono ?_); rintro E w8 ⟨rfl, rfl⟩) | fail)
 cases q : Lib.hasPrefix l word.data.toList with
 | false =>
  have HR := mk0 (show RD b s (skp l word.data.toList) W.drew from by unfold skp; rw [q, if_neg (by simp)]; exact (HB.out).keep hd)
  have HR2 := mk0 (KR.below (show b ≤ W.heap.size from Nat.le_of_lt (blk_lt HBB.out)) hd)
  clear hd
  generalize W.drew = W1 at *
  go_wp2
  go_ret
  exact ⟨by rw [q]; rfl, HR.out, HR2.out⟩
 | true =>
  have HL := mk0 (hp_len q)
  have HSK := mk0 (show skp l word.data.toList = l.drop word.size from by unfold skp; rw [q, if_pos rfl, HWL.out])
  have HR2 := mk0 (KR.below (show b ≤ W.heap.size from Nat.le_of_lt (blk_lt HBB.out)) hd)
  have HB1 := mk0 (aK_ HBB.out hd)
  have p1 : W.drew.cell? ⟨b, 1, none⟩ = some (.int .i64 (p : Int)) := (HK.out _ hd).2
  have f1 : W.drew.frozen? ⟨b, 1, none⟩ = false := aJ_ HB1.out 1
  clear hd HK HBB
  generalize W.drew = W1 at *
  go_wp2
  clear p1 f1
  go_ret
  have hw8 : wrap64 ((p : Int) + (word.size : Int)) = ((s.size - (l.drop word.size).length : Nat) : Int) := by
   have := HLE.out
   have h1 := HL.out
   rw [HWL.out] at h1
   have := HP.out
   rw [l9_]
   unfold wrap64
   omega
  rw [HSK.out]
  refine ⟨by rw [q]; rfl, ⟨?_, ?_⟩, ?_, ?_⟩
  ·refine (blk_set HB1.out 1 _).trans ?_
   rw [← hw8]
   first | rfl | (rw [wr_id (by have := HLE.out; omega) (by have := HLE.out; omega)]; rfl)
  ·have h1 := HL.out
   rw [HWL.out] at h1
   have h2 := HP.out
   have h3 := HLE.out
   have h4 := HS.out
   rw [h2] at h4
   rw [l9_, show s.size - (l.length - word.size) = p + word.size by omega, ← List.drop_drop, h4]
  ·exact (HR2.out).lo.setCell (p := ⟨b, 1, none⟩) (Nat.le_refl _) _
  ·exact (HR2.out).keep.set_ 1 _
theorem iter_below (w : World) (s : ByteArray) (p : Nat) : Below w.heap.size w (w.iter s p) := aA_ (Below.refl _ _) _
set_option maxHeartbeats 8000000 in
set_option maxRecDepth 100000 in
theorem irune_calls (r : Int) (h0 : 128 ≤ r) (h1 : r ≤ 2147483647) (w : World) :
  Calls Tryz.prog 188 #[.string ⟨#[32, 40, 41]⟩, .int .i32 r] w fun E w' => E = .returned (.int .i64 (-1)) ∧ Below w.heap.size w w' := by
 have HB := mk0 h0
 by_cases hr : r = 65533
 ·subst hr
  clear h0 h1
  go_enter Tryz.func188, Tryz.ntmps188
  go_wp2
  go_loopg [5, 6] 3 (fun g _ _ wx => ∃ i : Nat, i + g = 3 ∧ wx = w.iter ⟨#[32, 40, 41]⟩ i)
  case atStart => exact ⟨0, by omega, rfl⟩
  case round =>
   obtain ⟨i, hig, rfl⟩ := hrel
   cases gk with
   | zero =>
    obtain rfl : i = 3 := by omega
    have hnx := run_next_end (P := Tryz.prog) w ⟨#[32, 40, 41]⟩ 3
    have hnx2 := fun ty => hnx ty (by decide)
    clear hnx
    go_wp2
    go_ret
    exact ⟨rfl, iter_below _ _ _⟩
   | succ g =>
    have hi : i = 0 ∨ i = 1 ∨ i = 2 := by omega
    have hnx : ∃ x : Int, x < 128 ∧ 0 ≤ x ∧ ∀ ty, (Instr.next (.pointer (some ⟨w.heap.size, 0, none⟩)) true ty).run Tryz.prog (w.iter ⟨#[32, 40, 41]⟩ i) = .ok (.tuple #[.bool true, .int .i64 i, .int .i32 x]) (w.iter ⟨#[32, 40, 41]⟩ (i + 1)) := by
     rcases hi with rfl | rfl | rfl
     ·exact ⟨32, by decide, by decide, fun ty => run_next_ascii w ⟨#[32, 40, 41]⟩ 0 ty (by decide) (by decide)⟩
     ·exact ⟨40, by decide, by decide, fun ty => run_next_ascii w ⟨#[32, 40, 41]⟩ 1 ty (by decide) (by decide)⟩
     ·exact ⟨41, by decide, by decide, fun ty => run_next_ascii w ⟨#[32, 40, 41]⟩ 2 ty (by decide) (by decide)⟩
    obtain ⟨x, hx, hx0, hnx⟩ := hnx
    have hne : ¬ x = 65533 := by omega
    clear hx hx0 hi
    go_wp2
    go_roundg g
    case measure => omega
    case rel => exact ⟨i + 1, by omega, rfl⟩
 ·have hlt : ¬ r < 128 := by omega
  have hV := mk0 (Tryz.utf8_ValidRune r w)
  have hge : (0 : Int) ≤ r := by omega
  go_enter Tryz.func188, Tryz.ntmps188
  go_wp2_with fail
  refine (hV.out).mono ?_
  rintro E w2 ⟨rfl, rfl⟩
  cases q : Lib.validRune r with
  | false =>
   go_wp2
   go_ret
   exact ⟨rfl, Below.refl _ _⟩
  | true =>
   have hv : Utf8.valid r = true := by rw [validRune_eq]; exact q
   have HF := mk0 (encode_facts r hv h0)
   clear hV
   go_upto_region 2 with (fail)
   go_step3
   go_upto_region 2 with (fail)
   generalize Utf8.encode r = e at *
   have h2 := (HF.out).1
   have h4 := (HF.out).2.1
   have hcs : (∃ a x, e = ⟨#[a, x]⟩ ∧ 128 ≤ (x : UInt8).toNat) ∨ (∃ a b x, e = ⟨#[a, b, x]⟩ ∧ 128 ≤ (x : UInt8).toNat) ∨ (∃ a b c x, e = ⟨#[a, b, c, x]⟩ ∧ 128 ≤ (x : UInt8).toNat) := by
    have h8 := (HF.out).2.2
    obtain ⟨⟨l⟩⟩ := e
    match l, h2, h4, h8 with
    | [a, x], _, _, h8 => exact .inl ⟨a, x, rfl, h8 (Nat.sub_lt (by simp [ByteArray.size]) (by decide))⟩
    | [a, b, x], _, _, h8 => exact .inr (.inl ⟨a, b, x, rfl, h8 (Nat.sub_lt (by simp [ByteArray.size]) (by decide))⟩)
    | [a, b, c, x], _, _, h8 => exact .inr (.inr ⟨a, b, c, x, rfl, h8 (Nat.sub_lt (by simp [ByteArray.size]) (by decide))⟩)
    | [], h2, _, _ => exact absurd h2 (by decide)
    | [_], h2, _, _ => simp [ByteArray.size] at h2
    | _ :: _ :: _ :: _ :: _ :: _, _, h4, _ => simp [ByteArray.size] at h4
   clear HF h2 h4
   rcases hcs with ⟨a, x, rfl, hx⟩ | ⟨a, b, x, rfl, hx⟩ | ⟨a, b, c, x, rfl, hx⟩
   ·have hne : ¬ x = 40 := by rintro rfl; revert hx; decide
    have hne2 : ¬ x = 41 := by rintro rfl; revert hx; decide
    have hq : ((((ByteArray.mk #[32, 40, 41])[1]'(by decide)).toNat : Int) != (((ByteArray.mk #[a, x])[1]'(by simp [ByteArray.size])).toNat : Int)) = true := by
     show ((40 : Int) != (x.toNat : Int)) = true
     simp
     omega
    have HI := mk0 (fun (W : World) => Tryz.strings_IndexByte ((ByteArray.mk #[32, 40, 41]).extract 2 3) (((ByteArray.mk #[a, x])[1]'(by simp [ByteArray.size])).toNat : Int) W)
    have hid : Lib.indexByte ((ByteArray.mk #[32, 40, 41]).extract 2 3).data.toList (Int.toNat (((ByteArray.mk #[a, x])[1]'(by simp [ByteArray.size])).toNat : Int)).toUInt8 = -1 := by
     show Lib.indexByte [41] (Int.toNat (x.toNat : Int)).toUInt8 = -1
     rw [show (Int.toNat (x.toNat : Int)).toUInt8 = x by simp]
     simp [Lib.indexByte, Ne.symm hne2]
    rw [hid] at HI
    clear hid hne hne2
    go_upto_region 5 with (fail)
    go_loopg [9] 1 (fun g v9 wx => v9 = .int .i64 1 ∧ wx = w2)
    case atStart => exact ⟨rfl, rfl⟩
    case round =>
     obtain ⟨rfl, rfl⟩ := hrel
     go_upto_region 6 with (fail)
     go_step3
     go_upto_region 6 with (fail)
     have hT : True := trivial
     go_region_held3 (fun _ => True) (first | exact hT | fail) (first | fail)
     all_goals
      go_upto_region 7 with (fail)
      have hw2 : IntKind.i64.wrap 2 = 2 := by decide
      go_region_held3 (fun _ => True) (first | exact hT | fail) (first | (go_at_call 197; refine (HI.out _).mono ?_; rintro E w3 ⟨rfl, rfl⟩) | fail)
     all_goals
      go_wp2
      simp only [Exit.noGoto, Exit.inBlock, Exit.then]
      go_ret
      exact ⟨rfl, below_drew (below_drew (Below.refl _ _))⟩
   ·have hne : ¬ x = 41 := by rintro rfl; revert hx; decide
    have hne2 : ¬ x = 41 := by rintro rfl; revert hx; decide
    have hq : ((((ByteArray.mk #[32, 40, 41])[2]'(by decide)).toNat : Int) != (((ByteArray.mk #[a, b, x])[2]'(by simp [ByteArray.size])).toNat : Int)) = true := by
     show ((41 : Int) != (x.toNat : Int)) = true
     simp
     omega
    have HI := mk0 (fun (W : World) => Tryz.strings_IndexByte (ByteArray.empty) (((ByteArray.mk #[a, b, x])[2]'(by simp [ByteArray.size])).toNat : Int) W)
    have hid : Lib.indexByte (ByteArray.empty).data.toList (Int.toNat (((ByteArray.mk #[a, b, x])[2]'(by simp [ByteArray.size])).toNat : Int)).toUInt8 = -1 := by
     show Lib.indexByte [] (Int.toNat (x.toNat : Int)).toUInt8 = -1
     rw [show (Int.toNat (x.toNat : Int)).toUInt8 = x by simp]
     simp [Lib.indexByte, Ne.symm hne2]
    rw [hid] at HI
    clear hid hne hne2
    go_upto_region 5 with (fail)
    go_loopg [9] 1 (fun g v9 wx => v9 = .int .i64 2 ∧ wx = w2)
    case atStart => exact ⟨rfl, rfl⟩
    case round =>
     obtain ⟨rfl, rfl⟩ := hrel
     go_upto_region 6 with (fail)
     go_step3
     go_upto_region 6 with (fail)
     have hT : True := trivial
     go_region_held3 (fun _ => True) (first | exact hT | fail) (first | fail)
     all_goals
      go_upto_region 7 with (fail)
      have hw3 : IntKind.i64.wrap 3 = 3 := by decide
      go_region_held3 (fun _ => True) (first | exact hT | fail) (first | (go_at_call 197; refine (HI.out _).mono ?_; rintro E w3 ⟨rfl, rfl⟩) | fail)
     all_goals
      go_wp2
      simp only [Exit.noGoto, Exit.inBlock, Exit.then]
      go_ret
      exact ⟨rfl, below_drew (below_drew (Below.refl _ _))⟩
   ·go_upto_region 5 with (fail)
    go_loopg [9] 1 (fun g v9 wx => v9 = .int .i64 3 ∧ wx = w2)
    case atStart => exact ⟨rfl, rfl⟩
    case round =>
     obtain ⟨rfl, rfl⟩ := hrel
     go_wp2
     simp only [Exit.noGoto, Exit.inBlock, Exit.then]
     go_ret
     exact ⟨rfl, Below.refl _ _⟩
def itSet (W : World) (a : Nat) (s : ByteArray) (p : Nat) : World := { W with heap := W.heap.setIfInBounds a (.stringIter s p) }
theorem run_next_blk {P : Program} (W : World) (a : Nat) (s : ByteArray) (pos : Nat) (ty : TypeId) (hW : W.heap[a]? = some (.stringIter s pos)) (h : pos < s.size) :
  (Instr.next (.pointer (some ⟨a, 0, none⟩)) true ty).run P W = .ok (.tuple #[.bool true, .int .i64 pos, .int .i32 (Utf8.decode s pos).1]) (itSet W a s (pos + (Utf8.decode s pos).2)) := by
 simp only [Instr.next, getObj, setObj, Sem.run_bind, Sem.run, hW, Result.andThen, h, if_true]
 simp [goInt, itSet]
theorem run_next_blk_end {P : Program} (W : World) (a : Nat) (s : ByteArray) (pos : Nat) (ty : TypeId) (hW : W.heap[a]? = some (.stringIter s pos)) (h : ¬ pos < s.size) :
  (Instr.next (.pointer (some ⟨a, 0, none⟩)) true ty).run P W = .ok (.tuple #[.bool false]) W := by
 simp [Instr.next, getObj, Sem.run, hW, h]
theorem get_big (s : ByteArray) (i : Nat) (h : i < s.size) : s.get! i = s[i]'h := by
 simp [ByteArray.get!, getElem!_pos, h]
 rfl
theorem decode_bytes (s : ByteArray) (pos : Nat) (h : pos < s.size) (ha : 128 ≤ (s[pos]'h).toNat) : ∀ k, k < (Utf8.decode s pos).2 → pos + k < s.size ∧ 128 ≤ (s.get! (pos + k)).toNat := by
 have hn : ¬ (s[pos]'h).toNat < 128 := by omega
 have h0 : pos + 0 < s.size ∧ 128 ≤ (s.get! (pos + 0)).toNat := ⟨by omega, by rw [get_at s pos h]; exact ha⟩
 intro k hk
 simp only [Utf8.decode, get_at s pos h, hn, if_false] at hk
 repeat' split at hk
 all_goals simp only [l19_, l20_, beq_iff_eq] at *
 ·rename_i _ h1
  have : k = 0 ∨ k = 1 := by omega
  rcases this with rfl | rfl
  ·exact h0
  ·exact ⟨h1.2.1, by omega⟩
 ·obtain rfl : k = 0 := by omega
  exact h0
 ·rename_i h1 _
  have : k = 0 ∨ k = 1 ∨ k = 2 := by omega
  rcases this with rfl | rfl | rfl
  ·exact h0
  ·exact ⟨h1.1.2.1, by omega⟩
  ·exact ⟨h1.2.1, by omega⟩
 ·obtain rfl : k = 0 := by omega
  exact h0
 ·rename_i h1 _
  have : k = 0 ∨ k = 1 ∨ k = 2 ∨ k = 3 := by omega
  rcases this with rfl | rfl | rfl | rfl
  ·exact h0
  ·exact ⟨h1.1.1.2.1, by omega⟩
  ·exact ⟨h1.1.2.1, by omega⟩
  ·exact ⟨h1.2.1, by omega⟩
 ·obtain rfl : k = 0 := by omega
  exact h0
 ·obtain rfl : k = 0 := by omega
  exact h0
theorem noAny_rune {s : ByteArray} {i n : Nat} (h : Lib.NoAny s.data.toList [32, 40, 41] i) (hb : ∀ k, k < n → i + k < s.size ∧ 128 ≤ (s.get! (i + k)).toNat) : Lib.NoAny s.data.toList [32, 40, 41] (i + n) := by
 intro j b hj hx
 by_cases hji : j < i
 ·exact h j b hji hx
 ·obtain ⟨h1, h2⟩ := hb (j - i) (by omega)
  rw [show i + (j - i) = j by omega] at h1 h2
  rw [get_big s j h1] at h2
  have := Lib.data_getElem? s j h1
  rw [hx] at this
  obtain rfl := l13_ this
  have h3 : ∀ y : UInt8, y.toNat < 128 → (s[j]'h1) ≠ y := fun y hy e => by rw [e] at h2; omega
  simp [h3 32 (by decide), h3 40 (by decide), h3 41 (by decide)]
theorem itSet_blk {W : World} {a : Nat} {s : ByteArray} {p q : Nat} (h : W.heap[a]? = some (.stringIter s p)) : (itSet W a s q).heap[a]? = some (.stringIter s q) := by
 have := blk_lt h
 simp [itSet, this]
theorem itSet_below {W : World} {a : Nat} (s : ByteArray) (q : Nat) : Below a W (itSet W a s q) :=
 ⟨rfl, rfl, rfl, by simp [itSet], fun k hk => by simp only [itSet]; rw [Array.getElem?_setIfInBounds]; rw [if_neg (by omega)]⟩
set_option maxHeartbeats 8000000 in
set_option maxRecDepth 100000 in
theorem iashort_calls (s : ByteArray) (w : World) (h8 : s.size ≤ 8) :
  Calls Tryz.prog 166 #[.string s, .string ⟨#[32, 40, 41]⟩] w fun E w' => E = .returned (.int .i64 (Lib.indexAny s.data.toList [32, 40, 41])) ∧ Below w.heap.size w w' := by
 have HI := mk0 (Tryz.strings_shouldUseASCIISet (s.size : Int) w)
 rw [l3_ (show ¬ (8 : Int) < (s.size : Int) by omega)] at HI
 clear h8
 go_enter Tryz.func166, Tryz.ntmps166
 go_wp2_with fail
 refine (HI.out).mono ?_
 rintro E w2 ⟨rfl, hw⟩
 subst hw
 go_wp2
 go_loopg [9, 10] s.size (fun g _ _ wx => ∃ i : Nat, i ≤ s.size ∧ s.size - i ≤ g ∧ Aside0 (wx.heap[w2.heap.size]? = some (.stringIter s i)) ∧ Aside0 (Below w2.heap.size w2 wx) ∧ Aside0 (Lib.NoAny s.data.toList [32, 40, 41] i))
 case atStart => exact ⟨0, by omega, by omega, ⟨World.iter_heap _ _ _⟩, ⟨iter_below _ _ _⟩, ⟨Lib.NoAny.zero _ _⟩⟩
 case round =>
  clear HI
  obtain ⟨i, hi, hgg, HX, HB, HN⟩ := hrel
  by_cases hlt : i < s.size
  ·have hnx := fun ty => run_next_blk (P := Tryz.prog) wr w2.heap.size s i ty HX.out hlt
   have HN2 := mk0 (itSet_blk (q := i + (Utf8.decode s i).2) HX.out)
   have HB2 := mk0 (Below.trans HB.out (itSet_below (W := wr) (a := w2.heap.size) s (i + (Utf8.decode s i).2)))
   by_cases ha : (s[i]'hlt).toNat < 128
   ·obtain ⟨x, hx⟩ : ∃ x : UInt8, s[i]'hlt = x := ⟨_, rfl⟩
    rw [decode_ascii s i hlt ha] at hnx HN2 HB2
    rw [hx] at ha hnx
    have hxl : s.data.toList[i]? = some x := by rw [← hx]; exact Lib.data_getElem? s i hlt
    have HXL := mk0 hxl
    have HIR := mk0 (fun (W : World) => Tryz.strings_IndexRune_ascii ⟨#[32, 40, 41]⟩ (x.toNat : Int) W (by omega) (by omega))
    rw [show (Int.toNat (x.toNat : Int)).toUInt8 = x by simp, show (ByteArray.mk #[32, 40, 41]).data.toList = [32, 40, 41] from rfl] at HIR
    have hcon := Lib.contains_iff_indexByte [32, 40, 41] x
    clear hx hxl ha HX HB
    simp only at hnx HN2 HB2
    generalize Lib.indexByte [32, 40, 41] x = ix at *
    cases hin : [32, 40, 41].contains x with
    | false =>
     rw [hin] at hcon
     have hneg : ¬ (0 : Int) ≤ ix := of_decide_eq_false hcon.symm
     clear hcon
     go_wp2_with fail
     generalize itSet wr w2.heap.size s (i + 1) = w4 at *
     refine (HIR.out _).mono ?_
     rintro E w5 ⟨rfl, rfl⟩
     go_wp2
     go_roundg (s.size - (i + 1))
     case measure => omega
     case rel => exact ⟨i + 1, by omega, by omega, HN2, HB2, ⟨(HN.out).succ HXL.out hin⟩⟩
    | true =>
     rw [hin] at hcon
     have hpos : (0 : Int) ≤ ix := l0_ hcon.symm
     clear hcon
     have HH := mk0 (Lib.indexAny_hit HN.out HXL.out hin)
     go_wp2_with fail
     generalize itSet wr w2.heap.size s (i + 1) = w4 at *
     refine (HIR.out _).mono ?_
     rintro E w5 ⟨rfl, rfl⟩
     go_wp2
     go_ret
     exact ⟨by rw [HH.out]; rfl, HB2.out⟩
   ·have hd := decode_high s i hlt (by omega)
    have hle := decode_le s i
    have HBY := mk0 (decode_bytes s i hlt (by omega))
    have HNX := mk0 (noAny_rune HN.out HBY.out)
    have HW := mk0 (show i + (Utf8.decode s i).2 ≤ s.size by
     have h1 := (HBY.out ((Utf8.decode s i).2 - 1) (by omega)).1
     omega)
    have hd2 := hd.2
    have hd1 : (128 : Int) ≤ ((Utf8.decode s i).1 : Int) := by omega
    have HIR := mk0 (fun (W : World) => irune_calls ((Utf8.decode s i).1 : Int) hd1 (by omega) W)
    clear ha hd hle HX HB hd1 HBY
    generalize (Utf8.decode s i).1 = rn at *
    generalize (Utf8.decode s i).2 = wd at *
    go_wp2_with fail
    generalize itSet wr w2.heap.size s (i + wd) = w4 at *
    refine (HIR.out _).mono ?_
    rintro E w5 ⟨rfl, hb⟩
    have HX5 := mk0 (aK_ HN2.out hb)
    have HB5 := mk0 (Below.trans HB2.out (Below.mono hb (Nat.le_of_lt (blk_lt HN2.out))))
    clear hb
    go_wp2
    go_roundg (s.size - (i + wd))
    case measure => omega
    case rel => exact ⟨i + wd, HW.out, by omega, HX5, HB5, HNX⟩
  ·obtain rfl : i = s.size := by omega
   have hnx := fun ty => run_next_blk_end (P := Tryz.prog) wr w2.heap.size s s.size ty HX.out hlt
   go_wp2
   go_ret
   exact ⟨by rw [Lib.indexAny_none (by rw [← Lib.size_eq]; exact HN.out)]; rfl, HB.out⟩
theorem bb_new (W : World) : BB W.heap.size W.heap.size [] (W.alloc (.cells #[.pointer none, .slice none 0 0] 69)) :=
 .inl ⟨Nat.le_refl _, .slice none 0 0, aU_ W _, ⟨rfl, .inl ⟨rfl, rfl⟩⟩, fun h => by cases h⟩
def sputV (t : S47) : List UInt8 × Int := if srtB t then (srtS t, 0) else ([], 6)
set_option maxHeartbeats 8000000 in
set_option maxRecDepth 100000 in
theorem sput_calls (t : S47) (A : Option Addr) (c : Nat) (w : World) (hC : Kd.C k47 w A t.f0.length t.f0) (hc : t.f0.length ≤ c) :
  Calls Tryz.prog 46 #[.agg #[.slice A t.f0.length c]] w fun E w' => E = .returned (.tuple #[.string ⟨(sputV t).1.toArray⟩, .int .i64 (sputV t).2]) ∧ Below w.heap.size w w' := by
 have HS := mk0 fun W (hW : Below w.heap.size w W) => scheck_calls t A c W (Kd.C_below hC hW) hc
 have HC := mk0 hC
 have HL := mk0 hc
 have HB := mk0 (aA_ (Below.refl w.heap.size w) (.cells #[.slice A t.f0.length c] 47))
 have HX := mk0 (aU_ w (.cells #[.slice A t.f0.length c] 47))
 clear hC hc
 go_enter Tryz.func46, Tryz.ntmps46
 go_upto_region 1 with (fail)
 generalize w.alloc (.cells #[.slice A t.f0.length c] 47) = W1 at *
 have p0 : W1.cell? ⟨w.heap.size, 0, none⟩ = some (.slice A t.f0.length c) := (aC_ HX.out 0).trans rfl
 go_wp2_with fail
 refine (HS.out W1 HB.out).mono ?_
 rintro E w2 ⟨rfl, hb⟩
 have HB2 := mk0 (aM_ HB.out (HB.out).size hb)
 have HX2 := mk0 (aK_ HX.out hb)
 clear hb p0 HS HB HX
 have p0 : w2.cell? ⟨w.heap.size, 0, none⟩ = some (.slice A t.f0.length c) := (aC_ HX2.out 0).trans rfl
 cases q : srtB t with
 | false =>
  have HV := mk0 (show sputV t = ([], 6) by unfold sputV; rw [q]; rfl)
  rw [show schkV t = 6 by unfold schkV; rw [q]; rfl]
  clear q
  go_wp2
  go_ret2
  exact ⟨by rw [HV.out]; rfl, HB2.out⟩
 | true =>
  have HV := mk0 (show sputV t = (srtS t, 0) by unfold sputV; rw [q]; rfl)
  have HN := mk0 (srtB_N q)
  rw [show schkV t = 0 by unfold schkV; rw [q]; rfl]
  clear q p0
  go_upto_region 5 with (fail)
  have HW := mk0 (WS.mk (w0 := w) (W := w2) (aA_ HB2.out (.cells #[.pointer none, .slice none 0 0] 69)) (aA_ (Below.refl _ _) (.cells #[.pointer none, .slice none 0 0] 69)) (KB.below (aA_ (Below.refl _ _) (.cells #[.pointer none, .slice none 0 0] 69))) (bb_new w2) (by simp))
  have HX3 := mk0 (aD_ HX2.out (.cells #[.pointer none, .slice none 0 0] 69))
  have HSZ := mk0 (show w.heap.size ≤ w2.heap.size from (HB2.out).size)
  generalize w2.alloc (.cells #[.pointer none, .slice none 0 0] 69) = w3 at *
  generalize w2.heap.size = b at *
  have p0 : w3.cell? ⟨w.heap.size, 0, none⟩ = some (.slice A t.f0.length c) := (aC_ HX3.out 0).trans rfl
  have HWR := mk0 (swrite_calls w b HSZ.out 60 t HN.out (by omega) A c [] w3 HC.out HL.out (HW.out).hb0 (HW.out).bb (HW.out).lt (by have := HN.out; simp only [List.length_nil]; omega))
  go_wp2_with fail
  refine (HWR.out).mono ?_
  rintro E w4 ⟨rfl, hw⟩
  rw [List.nil_append] at hw
  have HW4 := mk0 ((HW.out).write HSZ.out hw)
  clear hw p0 HWR HW HX3
  have HSTR := mk0 (Tryz.Builder_String_any b b (srtS t) w4 (HW4.out).bb (Nat.le_of_lt (HW4.out).lt))
  go_wp2_with fail
  refine (HSTR.out).mono ?_
  rintro E w5 ⟨rfl, hb⟩
  have HB5 := mk0 (Below.trans (HW4.out).hb0 (Below.mono hb HSZ.out))
  clear hb HSTR
  go_wp2
  go_ret2
  exact ⟨by rw [HV.out]; rfl, HB5.out⟩
mutual
def tIn (ny nf np : Nat) : S50 → Prop
 | ⟨k, n, l⟩ => ((k = 0 ∧ 0 ≤ n ∧ n < (np : Int)) ∨ (k = 1 ∧ 0 ≤ n ∧ n < (nf : Int)) ∨ (k = 2 ∧ 0 ≤ n ∧ n < (ny : Int))) ∧ tInL ny nf np l
def tInL (ny nf np : Nat) : List S50 → Prop
 | [] => True
 | a :: r => tIn ny nf np a ∧ tInL ny nf np r
end
theorem tInL_mem {ny nf np : Nat} {l : List S50} (h : tInL ny nf np l) {a : S50} (ha : a ∈ l) : tIn ny nf np a := by
 induction l with
 | nil => cases ha
 | cons x r ih =>
  rw [tInL] at h
  rcases List.mem_cons.1 ha with rfl | ha
  ·exact h.1
  ·exact ih h.2 ha
theorem tInL_of {ny nf np : Nat} {l : List S50} (h : ∀ a ∈ l, tIn ny nf np a) : tInL ny nf np l := by
 induction l with
 | nil => rw [tInL]; trivial
 | cons x r ih => rw [tInL]; exact ⟨h x (List.mem_cons_self ..), ih fun a ha => h a (List.mem_cons_of_mem _ ha)⟩
theorem argsV_mem {sy : List S71} {fu pa : List S47} : ∀ {l : List S50} {s : List S47}, argsV sy fu pa l s = true → ∀ a ∈ l, ∃ x, ofV sy fu pa a = some x
 | [], s, _, a, ha => by cases ha
 | b :: r, s, h, a, ha => by
  rw [argsV_cons, l19_] at h
  rcases List.mem_cons.1 ha with rfl | ha
  ·have h1 := h.1
   unfold argOk at h1
   cases e : ofV sy fu pa a with
   | none => rw [e] at h1; cases h1
   | some x => exact ⟨x, rfl⟩
  ·exact argsV_mem h.2 a ha
theorem ofV_in_aux {sy : List S71} {fu pa : List S47} (N : Nat) : ∀ (t : S50) (x : List S47), tN t ≤ N → ofV sy fu pa t = some x → tIn sy.length fu.length pa.length t := by
 induction N with
 | zero => intro t x h; have := tN_pos t; omega
 | succ N ih =>
  intro t x h hv
  obtain ⟨k, n, l⟩ := t
  rw [tN] at h
  rw [ofV] at hv
  rw [tIn]
  cases e : headV sy fu pa k n with
  | none => rw [e] at hv; cases hv
  | some s =>
   rw [e] at hv
   simp only at hv
   refine ⟨?_, tInL_of fun a ha => ?_⟩
   ·unfold headV at e
    by_cases h0 : n < 0
    ·rw [if_pos h0] at e; cases e
    rw [if_neg h0] at e
    by_cases h1 : k = 0
    ·rw [if_pos h1] at e
     by_cases h2 : n < (pa.length : Int)
     ·exact .inl ⟨h1, by omega, h2⟩
     ·rw [if_neg h2] at e; cases e
    rw [if_neg h1] at e
    by_cases h1 : k = 1
    ·rw [if_pos h1] at e
     by_cases h2 : n < (fu.length : Int)
     ·exact .inr (.inl ⟨h1, by omega, h2⟩)
     ·rw [if_neg h2] at e; cases e
    rw [if_neg h1] at e
    by_cases h1 : k = 2
    ·rw [if_pos h1] at e
     by_cases h2 : n < (sy.length : Int)
     ·exact .inr (.inr ⟨h1, by omega, h2⟩)
     ·rw [if_neg h2] at e; cases e
    ·rw [if_neg h1] at e; cases e
   ·split at hv
    ·cases hv
    ·split at hv
     ·rename_i h3
      obtain ⟨y, hy⟩ := argsV_mem h3 a ha
      exact ih a y (by have := tN_mem ha; omega) hy
     ·cases hv
theorem ofV_in {sy : List S71} {fu pa : List S47} {t : S50} {x : List S47} (hv : ofV sy fu pa t = some x) : tIn sy.length fu.length pa.length t := ofV_in_aux _ t x (Nat.le_refl _) hv
theorem hdS_len {sy : List S71} {fs : List S52} {np : Nat} (hy : ∀ x ∈ sy, x.f0.size ≤ 24) (hf : ∀ f ∈ fs, f.f0.size ≤ 24) (hp : np ≤ 100) {k n : Int} (h : (k = 0 ∧ 0 ≤ n ∧ n < (np : Int)) ∨ (k = 1 ∧ 0 ≤ n ∧ n < (fs.length : Int)) ∨ (k = 2 ∧ 0 ≤ n ∧ n < (sy.length : Int))) : (hdS sy fs k n).length ≤ 27 := by
 unfold hdS
 rcases h with ⟨rfl, h1, h2⟩ | ⟨rfl, h1, h2⟩ | ⟨rfl, h1, h2⟩
 ·rw [if_pos rfl, l8_]
  have := dg_len (n := n.toNat) (by omega)
  omega
 ·rw [if_neg (by decide), if_pos rfl]
  obtain ⟨j, rfl⟩ := Int.eq_ofNat_of_zero_le h1
  rw [rdF_at (by omega)]
  have := hf _ (l11_ (show j < fs.length by omega))
  rw [Lib.size_eq] at this
  omega
 ·rw [if_neg (by decide), if_neg (by decide), l8_]
  obtain ⟨j, rfl⟩ := Int.eq_ofNat_of_zero_le h1
  rw [rdY_at (by omega)]
  have := hy _ (l11_ (show j < sy.length by omega))
  rw [Lib.size_eq] at this
  omega
theorem trmS_len {sy : List S71} {fs : List S52} {np : Nat} (hy : ∀ x ∈ sy, x.f0.size ≤ 24) (hf : ∀ f ∈ fs, f.f0.size ≤ 24) (hp : np ≤ 100) (N : Nat) : ∀ t : S50, tN t ≤ N → tIn sy.length fs.length np t → (trmS (hdS sy fs) t).length + 3 ≤ 30 * tN t := by
 induction N with
 | zero => intro t h; have := tN_pos t; omega
 | succ N ih =>
  intro t h hin
  obtain ⟨k, n, l⟩ := t
  rw [tN] at h ⊢
  rw [tIn] at hin
  rw [trmS, l7_]
  have hl : ∀ l : List S50, tNL l ≤ N → (∀ a ∈ l, tIn sy.length fs.length np a) → (trmSL (hdS sy fs) l).length ≤ 30 * tNL l := by
   intro l
   induction l with
   | nil => intro _ _; simp [trmSL]
   | cons a r ihr =>
    intro h hr
    rw [tNL] at h ⊢
    rw [trmSL, l8_, l7_]
    have h1 := ih a (by omega) (hr a (List.mem_cons_self ..))
    have h2 := ihr (by omega) (fun x hx => hr x (List.mem_cons_of_mem _ hx))
    have h3 := wrapT_len a (trmS (hdS sy fs) a)
    omega
  have h1 := hl l (by omega) (fun a ha => tInL_mem hin.2 ha)
  have h2 := hdS_len hy hf hp hin.1
  omega
theorem trmSL_len {sy : List S71} {fs : List S52} {np : Nat} (hy : ∀ x ∈ sy, x.f0.size ≤ 24) (hf : ∀ f ∈ fs, f.f0.size ≤ 24) (hp : np ≤ 100) : ∀ l : List S50, (∀ a ∈ l, tIn sy.length fs.length np a) → (trmSL (hdS sy fs) l).length ≤ 30 * tNL l
 | [], _ => by simp [trmSL]
 | a :: r, hr => by
  rw [trmSL, tNL, l8_, l7_]
  have h1 := trmS_len hy hf hp _ a (Nat.le_refl _) (hr a (List.mem_cons_self ..))
  have h2 := trmSL_len hy hf hp r (fun x hx => hr x (List.mem_cons_of_mem _ hx))
  have h3 := wrapT_len a (trmS (hdS sy fs) a)
  omega
structure TW (w0 W : World) (b : Nat) (acc : List UInt8) (b4 : Nat) (s1 s2 : Value) (b5 : Nat) (x y z : Value) (W1 : World) : Prop where
 ws : WS w0 W b acc W1
 h4 : W1.heap[b4]? = some (.cells #[s1, s2] 25 (0, 0))
 h5 : W1.heap[b5]? = some (.cells #[x, y, z] 50 (0, 0))
 n4 : b4 ≠ b
 n5 : b5 ≠ b
theorem TW.write {w0 W : World} {b : Nat} {acc acc1 : List UInt8} {b4 : Nat} {s1 s2 : Value} {b5 : Nat} {x y z : Value} {W1 W2 : World} (h : TW w0 W b acc b4 s1 s2 b5 x y z W1) (h0 : w0.heap.size ≤ b) (hw : WrE b acc1 W1 W2) : TW w0 W b acc1 b4 s1 s2 b5 x y z W2 :=
 ⟨h.ws.write h0 hw, hw.2.2.keep _ _ _ h.n4 (by decide) h.h4, hw.2.2.keep _ _ _ h.n5 (by decide) h.h5, h.n4, h.n5⟩
theorem TW.below {w0 W : World} {b : Nat} {acc : List UInt8} {b4 : Nat} {s1 s2 : Value} {b5 : Nat} {x y z : Value} {W1 W2 : World} (h : TW w0 W b acc b4 s1 s2 b5 x y z W1) (hb : Below W1.heap.size W1 W2) : TW w0 W b acc b4 s1 s2 b5 x y z W2 :=
 ⟨h.ws.below hb, aK_ h.h4 hb, aK_ h.h5 hb, h.n4, h.n5⟩
theorem TW.cells {w0 W : World} {b : Nat} {acc : List UInt8} {b4 : Nat} {s1 s2 : Value} {b5 : Nat} {x y z : Value} {W1 : World} (h : TW w0 W b acc b4 s1 s2 b5 x y z W1) : (W1.cell? ⟨b4, 0, none⟩ = some s1 ∧ W1.cell? ⟨b4, 1, none⟩ = some s2) ∧ W1.cell? ⟨b5, 0, none⟩ = some x ∧ W1.cell? ⟨b5, 1, none⟩ = some y ∧ W1.cell? ⟨b5, 2, none⟩ = some z :=
 ⟨⟨(aC_ h.h4 0).trans rfl, (aC_ h.h4 1).trans rfl⟩, (aC_ h.h5 0).trans rfl, (aC_ h.h5 1).trans rfl, (aC_ h.h5 2).trans rfl⟩
theorem ba_eq {a : ByteArray} {l : List UInt8} (h : a.data.toList = l) : a = ⟨l.toArray⟩ := by
 cases a with
 | mk d => cases d with
  | mk x => simp at h; rw [h]
set_option maxHeartbeats 16000000 in
set_option maxRecDepth 100000 in
theorem twrite_calls (sy : List S71) (fs : List S52) (A1 A2 : Option Addr) (c1 c2 np : Nat) (w0 : World) (h1 : Kd.C k71 w0 A1 sy.length sy) (h2 : Kd.C k52 w0 A2 fs.length fs) (hy : ∀ x ∈ sy, x.f0.size ≤ 24) (hf : ∀ f ∈ fs, f.f0.size ≤ 24) (hp : np ≤ 100) (b : Nat) (hb0 : w0.heap.size ≤ b) (N : Nat) :
  ∀ (t : S50), tN t ≤ N → N ≤ 1000000 → tIn sy.length fs.length np t → ∀ (A : Option Addr) (c : Nat) (acc : List UInt8) (W : World), Kd.C k50 w0 A t.f2.length t.f2 → t.f2.length ≤ c → Below w0.heap.size w0 W → BB b b acc W → b < W.heap.size → acc.length + 30 * tN t ≤ 1000000000000 →
  Calls Tryz.prog 47 #[.pointer (some ⟨b, 0, none⟩), .agg #[.slice A1 sy.length c1, .slice A2 fs.length c2], .agg #[.int .i64 t.f0, .int .i64 t.f1, .slice A t.f2.length c]] W fun E W' => E = .returned (.tuple #[]) ∧ WrE b (acc ++ trmS (hdS sy fs) t) W W' := by
 induction N with
 | zero => intro t h; have := tN_pos t; omega
 | succ N ih =>
  intro t hN hM hin A c acc W hC hc hB hBB hlt0 hlen
  obtain ⟨k, n, l⟩ := t
  rw [tN] at hN hlen
  rw [tIn] at hin
  have HHL := mk0 (hdS_len hy hf hp hin.1)
  have HIN := mk0 hin
  have HTL := mk0 (fun j => trmSL_len hy hf hp (l.take j) (fun a ha => tInL_mem hin.2 (List.mem_of_mem_take ha)))
  have HTI := mk0 (fun (a : S50) (ha : a ∈ l) => (tInL_mem hin.2 ha))
  have HTLL := mk0 (fun (a : S50) (ha : a ∈ l) => trmS_len hy hf hp _ a (Nat.le_refl _) (tInL_mem hin.2 ha))
  have H1 := mk0 h1
  have H2 := mk0 h2
  have HP := mk0 hp
  have H0 := mk0 hb0
  have HC := mk0 hC
  have IH := mk0 ih
  have HD := mk0 (show tNL l ≤ N ∧ N ≤ 1000000 ∧ acc.length + 30 * (tNL l + 1) ≤ 1000000000000 from ⟨by omega, by omega, hlen⟩)
  have HLEN := mk0 (show l.length ≤ 1000000 from by have := tLen_le (l := l); omega)
  have HW := mk0 (TW.mk ((WS.mk hB (Below.refl _ _) (KB.refl _ _) hBB hlt0).below (aA_ (aA_ (Below.refl W.heap.size W) (.cells #[.slice A1 sy.length c1, .slice A2 fs.length c2] 25)) (.cells #[.int .i64 k, .int .i64 n, .slice A l.length c] 50))) (aD_ (aU_ W (.cells #[.slice A1 sy.length c1, .slice A2 fs.length c2] 25)) (.cells #[.int .i64 k, .int .i64 n, .slice A l.length c] 50)) (blk_at2 W (.cells #[.slice A1 sy.length c1, .slice A2 fs.length c2] 25) (.cells #[.int .i64 k, .int .i64 n, .slice A l.length c] 50)) (by omega) (by omega))
  clear h1 h2 hy hf hp hb0 hC ih hN hM hc hB hBB hlt0 hlen hin
  show Calls Tryz.prog 47 #[.pointer (some ⟨b, 0, none⟩), .agg #[.slice A1 sy.length c1, .slice A2 fs.length c2], .agg #[.int .i64 k, .int .i64 n, .slice A l.length c]] W fun E W' => E = .returned (.tuple #[]) ∧ WrE b (acc ++ trmS (hdS sy fs) ⟨k, n, l⟩) W W'
  have HG := mk0 (show acc ++ trmS (hdS sy fs) ⟨k, n, l⟩ = (acc ++ hdS sy fs k n) ++ trmSL (hdS sy fs) l by rw [trmS, List.append_assoc])
  go_enter Tryz.func47, Tryz.ntmps47
  go_upto_region 1 with (fail)
  generalize ((W.alloc (.cells #[.slice A1 sy.length c1, .slice A2 fs.length c2] 25)).alloc (.cells #[.int .i64 k, .int .i64 n, .slice A l.length c] 50)) = W1 at *
  obtain ⟨⟨p0, p1⟩, q0, q1, q2⟩ := (HW.out).cells
  by_cases hk0 : k = 0
  ·have hn : 0 ≤ n ∧ n < 100 := by have := (HIN.out).1; have := HP.out; omega
   have HI := mk0 (fun W => itoa_calls n hn.1 hn.2 W)
   have HHD := mk0 (show hdS sy fs k n = 36 :: dg n.toNat from if_pos hk0)
   have hd : (dg n.toNat).length ≤ 2 := dg_len (by omega)
   subst hk0
   have HWS := mk0 (fun (s : ByteArray) (hs : s.data.toList = 36 :: dg n.toNat) => ws_calls b acc s _ W1 (HW.out).ws.bb hs (by have := HD.out; have := HHL.out; rw [← HHD.out]; omega) (Nat.le_of_lt (HW.out).ws.lt))
   go_wp2_with fail
   refine (HI.out _).mono ?_
   rintro E W5 ⟨rfl, rfl⟩
   go_wp2_with fail
   refine ((HWS.out) _ ?_).mono ?_
   ·first | rfl | simp
   rintro E w2 ⟨rfl, hw⟩
   rw [← HHD.out] at hw
   have HW2 := mk0 ((HW.out).write H0.out hw)
   clear hw hd HI HWS HW
   obtain ⟨⟨p0, p1⟩, q0, q1, q2⟩ := (HW2.out).cells
   go_wp2
   have HA2 := mk0 (show (acc ++ hdS sy fs 0 n).length ≤ acc.length + 27 from by have := HHL.out; rw [l7_]; omega)
   generalize acc ++ hdS sy fs 0 n = acc2 at *
   clear p0 p1 q0 q1 q2
   go_loopg [42] l.length (fun gg v42 wi => ∃ (j : Nat), j ≤ l.length ∧ l.length - j ≤ gg ∧ v42 = .int .i64 j ∧ Aside0 (TW w0 W b (acc2 ++ trmSL (hdS sy fs) (l.take j)) W.heap.size (.slice A1 sy.length c1) (.slice A2 fs.length c2) (W.heap.size + 1) (.int .i64 0) (.int .i64 n) (.slice A l.length c) wi))
   case atStart => exact ⟨0, by omega, by omega, rfl, ⟨by rw [List.take_zero, trmSL, List.append_nil]; exact HW2.out⟩⟩
   case round =>
    clear HW2
    obtain ⟨j, hj, hgg, rfl, HW⟩ := hrel
    by_cases hlt : j < l.length
    ·have hltz : (j : Int) < (l.length : Int) := by omega
     obtain ⟨ad, A9, c9, e, hx0, hx1, hx2, hl9, hC9⟩ := at_T50 HC.out (j : Int) (by omega) hltz
     subst e
     rw [rdT_at hlt] at hx0 hx1 hx2 hl9 hC9
     rw [l14_] at hx0 hx1 hx2
     replace hx0 := ((HW.out).ws.hb0.cell (l1_ w0 _ hx0)).trans hx0
     replace hx1 := ((HW.out).ws.hb0.cell (l1_ w0 _ hx1)).trans hx1
     replace hx2 := ((HW.out).ws.hb0.cell (l1_ w0 _ hx2)).trans hx2
     have HS := mk0 (show acc2 ++ trmSL (hdS sy fs) (l.take (j + 1)) = (acc2 ++ trmSL (hdS sy fs) (l.take j)) ++ (32 :: wrapT l[j] (trmS (hdS sy fs) l[j])) by rw [takeS hlt, trmSL_snoc, List.append_assoc])
     have HJ := mk0 (show tN l[j] ≤ N ∧ (acc2 ++ trmSL (hdS sy fs) (l.take j)).length + 30 * tN l[j] + 3 ≤ 1000000000000 ∧ (trmS (hdS sy fs) l[j]).length + 3 ≤ 30 * tN l[j] from by
      have h1 := tN_mem (l11_ hlt)
      have h2 := HTL.out j
      have h3 := tNL_snoc (l.take j) l[j]
      rw [← takeS hlt] at h3
      have h4 := tNL_take l (j + 1)
      have := HD.out
      have := HA2.out
      have h5 := HTLL.out _ (l11_ hlt)
      rw [l7_]
      omega)
     have HTJ := mk0 (HTI.out _ (l11_ hlt))
     generalize l[j] = u at *
     generalize acc2 ++ trmSL (hdS sy fs) (l.take j) = acc1 at *
     have HC9 := mk0 hC9
     have HL9 := mk0 hl9
     clear hC9 hl9
     go_upto_region 10 with (fail)
     have HW5 := mk0 ((HW.out).below (aA_ (Below.refl wr.heap.size wr) (.cells #[.int .i64 u.f0, .int .i64 u.f1, .slice A9 u.f2.length c9] 50)))
     have HX5 := mk0 (aU_ wr (.cells #[.int .i64 u.f0, .int .i64 u.f1, .slice A9 u.f2.length c9] 50))
     have HNB := mk0 (show wr.heap.size ≠ b from by have := (HW.out).ws.lt; omega)
     clear HW hx0 hx1 hx2
     generalize (wr.alloc (.cells #[.int .i64 u.f0, .int .i64 u.f1, .slice A9 u.f2.length c9] 50)) = w5 at *
     generalize wr.heap.size = b7 at *
     have HKX := mk0 (fun (W3 : World) (h : W3.heap[b7]? = some (.cells #[.int .i64 u.f0, .int .i64 u.f1, .slice A9 u.f2.length c9] 50 (0, 0))) => (show W3.cell? ⟨b7, 0, none⟩ = some (.int .i64 u.f0) ∧ W3.cell? ⟨b7, 1, none⟩ = some (.int .i64 u.f1) ∧ W3.cell? ⟨b7, 2, none⟩ = some (.slice A9 u.f2.length c9) from ⟨(aC_ h 0).trans rfl, (aC_ h 1).trans rfl, (aC_ h 2).trans rfl⟩))
     have HW32 := mk0 (wb32 b acc1 w5 (HW5.out).ws.bb (by have := (HJ.out).2; omega) (Nat.le_of_lt (HW5.out).ws.lt))
     go_wp2_with fail
     refine (HW32.out).mono ?_
     rintro E w6 ⟨rfl, hw⟩
     have HW6 := mk0 ((HW5.out).write H0.out hw)
     have HX6 := mk0 (hw.2.2.keep _ _ _ HNB.out (by decide) HX5.out)
     clear hw HW5 HX5 HW32
     obtain ⟨m0, m1, m2⟩ := HKX.out _ HX6.out
     obtain ⟨⟨p0, p1⟩, q0, q1, q2⟩ := (HW6.out).cells
     by_cases hz : u.f2.length = 0
     ·have hzz : ¬ (u.f2.length : Int) > 0 := by omega
      have HWR := mk0 (show wrapT u (trmS (hdS sy fs) u) = trmS (hdS sy fs) u from if_pos hz)
      have HWI := mk0 (IH.out u (HJ.out).1 (HD.out).2.1 HTJ.out A9 c9 (acc1 ++ [32]) w6 HC9.out HL9.out (HW6.out).ws.hb0 (HW6.out).ws.bb (HW6.out).ws.lt (by have := (HJ.out).2; rw [l7_, l10_]; omega))
      clear hz
      go_wp2_with fail
      refine (HWI.out).mono ?_
      rintro E w7 ⟨rfl, hw⟩
      have HW7 := mk0 ((HW6.out).write H0.out hw)
      have HX7 := mk0 (hw.2.2.keep _ _ _ HNB.out (by decide) HX6.out)
      clear hw HW6 HX6 m0 m1 m2 p0 p1 q0 q1 q2 HWI
      obtain ⟨m0, m1, m2⟩ := HKX.out _ HX7.out
      go_wp2
      go_roundg (l.length - (j + 1))
      case measure => omega
      case rel => exact ⟨j + 1, by omega, by omega, by first | rfl | (rw [wrap_succ (by omega) (by have := HLEN.out; omega)]; rfl), ⟨by rw [HS.out, HWR.out, show acc1 ++ 32 :: trmS (hdS sy fs) u = acc1 ++ [32] ++ trmS (hdS sy fs) u by simp]; exact HW7.out⟩⟩
     ·have hzz : (u.f2.length : Int) > 0 := by omega
      have HWR := mk0 (show wrapT u (trmS (hdS sy fs) u) = 40 :: (trmS (hdS sy fs) u ++ [41]) from if_neg hz)
      have HW40 := mk0 (wb40 b (acc1 ++ [32]) w6 (HW6.out).ws.bb (by have := (HJ.out).2; rw [l7_, l10_]; omega) (Nat.le_of_lt (HW6.out).ws.lt))
      clear hz
      go_wp2_with fail
      refine (HW40.out).mono ?_
      rintro E w61 ⟨rfl, hw⟩
      have HW61 := mk0 ((HW6.out).write H0.out hw)
      have HX61 := mk0 (hw.2.2.keep _ _ _ HNB.out (by decide) HX6.out)
      clear hw HW6 HX6 m0 m1 m2 p0 p1 q0 q1 q2 HW40
      obtain ⟨m0, m1, m2⟩ := HKX.out _ HX61.out
      obtain ⟨⟨p0, p1⟩, q0, q1, q2⟩ := (HW61.out).cells
      have HWI := mk0 (IH.out u (HJ.out).1 (HD.out).2.1 HTJ.out A9 c9 (acc1 ++ [32] ++ [40]) w61 HC9.out HL9.out (HW61.out).ws.hb0 (HW61.out).ws.bb (HW61.out).ws.lt (by have := (HJ.out).2; rw [l7_, l7_]; simp only [l8_, List.length_nil]; omega))
      go_wp2_with fail
      refine (HWI.out).mono ?_
      rintro E w7 ⟨rfl, hw⟩
      have HW7 := mk0 ((HW61.out).write H0.out hw)
      have HX7 := mk0 (hw.2.2.keep _ _ _ HNB.out (by decide) HX61.out)
      clear hw HW61 HX61 m0 m1 m2 p0 p1 q0 q1 q2 HWI
      obtain ⟨m0, m1, m2⟩ := HKX.out _ HX7.out
      have HW41 := mk0 (wb41 b (acc1 ++ [32] ++ [40] ++ trmS (hdS sy fs) u) w7 (HW7.out).ws.bb (by have := (HJ.out).2; rw [l7_, l7_, l7_]; simp only [l8_, List.length_nil]; omega) (Nat.le_of_lt (HW7.out).ws.lt))
      go_wp2_with fail
      refine (HW41.out).mono ?_
      rintro E w8 ⟨rfl, hw⟩
      have HW8 := mk0 ((HW7.out).write H0.out hw)
      clear hw HW7 HX7 m0 m1 m2 HW41
      go_wp2
      go_roundg (l.length - (j + 1))
      case measure => omega
      case rel => exact ⟨j + 1, by omega, by omega, by first | rfl | (rw [wrap_succ (by omega) (by have := HLEN.out; omega)]; rfl), ⟨by rw [HS.out, HWR.out, show acc1 ++ 32 :: 40 :: (trmS (hdS sy fs) u ++ [41]) = acc1 ++ [32] ++ [40] ++ trmS (hdS sy fs) u ++ [41] by simp]; exact HW8.out⟩⟩
    ·have hltz : ¬ (j : Int) < (l.length : Int) := by omega
     have hje : j = l.length := by omega
     subst hje
     rw [List.take_length] at HW
     go_wp2
     go_end0
     exact ⟨rfl, by rw [HG.out]; exact (HW.out).ws.wr⟩
  by_cases hk1 : k = 1
  ·have hn : 0 ≤ n ∧ n < (fs.length : Int) := by have := (HIN.out).1; omega
   obtain ⟨ad, As, cs, At, ct, e, hx0, hx1, hx2, hx3, hx4, hls, hCs, hlt4, hCt⟩ := at_T52 (H2.out) n hn.1 hn.2
   subst e
   replace hx0 := ((HW.out).ws.hb0.cell (l1_ w0 _ hx0)).trans hx0
   have HHD := mk0 (show hdS sy fs k n = (rd_T52 fs n).f0.data.toList from by unfold hdS; rw [if_neg hk0, if_pos hk1])
   have HWS := mk0 (ws_calls b acc (rd_T52 fs n).f0 (hdS sy fs k n) W1 (HW.out).ws.bb HHD.out.symm (by have := HD.out; have := HHL.out; omega) (Nat.le_of_lt (HW.out).ws.lt))
   have hn1 := hn.1
   have hn2 := hn.2
   subst hk1
   clear hx1 hx2 hx3 hx4 hls hCs hlt4 hCt hn hk0
   go_wp2_with fail
   refine (HWS.out).mono ?_
   rintro E w2 ⟨rfl, hw⟩
   have HW2 := mk0 ((HW.out).write H0.out hw)
   clear hw HWS HW hx0 hn1 hn2 p0 p1 q0 q1 q2
   obtain ⟨⟨p0, p1⟩, q0, q1, q2⟩ := (HW2.out).cells
   go_wp2
   have HA2 := mk0 (show (acc ++ hdS sy fs 1 n).length ≤ acc.length + 27 from by have := HHL.out; rw [l7_]; omega)
   generalize acc ++ hdS sy fs 1 n = acc2 at *
   clear p0 p1 q0 q1 q2
   go_loopg [42] l.length (fun gg v42 wi => ∃ (j : Nat), j ≤ l.length ∧ l.length - j ≤ gg ∧ v42 = .int .i64 j ∧ Aside0 (TW w0 W b (acc2 ++ trmSL (hdS sy fs) (l.take j)) W.heap.size (.slice A1 sy.length c1) (.slice (some ad) fs.length c2) (W.heap.size + 1) (.int .i64 1) (.int .i64 n) (.slice A l.length c) wi))
   case atStart => exact ⟨0, by omega, by omega, rfl, ⟨by rw [List.take_zero, trmSL, List.append_nil]; exact HW2.out⟩⟩
   case round =>
    clear HW2
    obtain ⟨j, hj, hgg, rfl, HW⟩ := hrel
    by_cases hlt : j < l.length
    ·have hltz : (j : Int) < (l.length : Int) := by omega
     obtain ⟨ad, A9, c9, e, hx0, hx1, hx2, hl9, hC9⟩ := at_T50 HC.out (j : Int) (by omega) hltz
     subst e
     rw [rdT_at hlt] at hx0 hx1 hx2 hl9 hC9
     rw [l14_] at hx0 hx1 hx2
     replace hx0 := ((HW.out).ws.hb0.cell (l1_ w0 _ hx0)).trans hx0
     replace hx1 := ((HW.out).ws.hb0.cell (l1_ w0 _ hx1)).trans hx1
     replace hx2 := ((HW.out).ws.hb0.cell (l1_ w0 _ hx2)).trans hx2
     have HS := mk0 (show acc2 ++ trmSL (hdS sy fs) (l.take (j + 1)) = (acc2 ++ trmSL (hdS sy fs) (l.take j)) ++ (32 :: wrapT l[j] (trmS (hdS sy fs) l[j])) by rw [takeS hlt, trmSL_snoc, List.append_assoc])
     have HJ := mk0 (show tN l[j] ≤ N ∧ (acc2 ++ trmSL (hdS sy fs) (l.take j)).length + 30 * tN l[j] + 3 ≤ 1000000000000 ∧ (trmS (hdS sy fs) l[j]).length + 3 ≤ 30 * tN l[j] from by
      have h1 := tN_mem (l11_ hlt)
      have h2 := HTL.out j
      have h3 := tNL_snoc (l.take j) l[j]
      rw [← takeS hlt] at h3
      have h4 := tNL_take l (j + 1)
      have := HD.out
      have := HA2.out
      have h5 := HTLL.out _ (l11_ hlt)
      rw [l7_]
      omega)
     have HTJ := mk0 (HTI.out _ (l11_ hlt))
     generalize l[j] = u at *
     generalize acc2 ++ trmSL (hdS sy fs) (l.take j) = acc1 at *
     have HC9 := mk0 hC9
     have HL9 := mk0 hl9
     clear hC9 hl9
     go_upto_region 10 with (fail)
     have HW5 := mk0 ((HW.out).below (aA_ (Below.refl wr.heap.size wr) (.cells #[.int .i64 u.f0, .int .i64 u.f1, .slice A9 u.f2.length c9] 50)))
     have HX5 := mk0 (aU_ wr (.cells #[.int .i64 u.f0, .int .i64 u.f1, .slice A9 u.f2.length c9] 50))
     have HNB := mk0 (show wr.heap.size ≠ b from by have := (HW.out).ws.lt; omega)
     clear HW hx0 hx1 hx2
     generalize (wr.alloc (.cells #[.int .i64 u.f0, .int .i64 u.f1, .slice A9 u.f2.length c9] 50)) = w5 at *
     generalize wr.heap.size = b7 at *
     have HKX := mk0 (fun (W3 : World) (h : W3.heap[b7]? = some (.cells #[.int .i64 u.f0, .int .i64 u.f1, .slice A9 u.f2.length c9] 50 (0, 0))) => (show W3.cell? ⟨b7, 0, none⟩ = some (.int .i64 u.f0) ∧ W3.cell? ⟨b7, 1, none⟩ = some (.int .i64 u.f1) ∧ W3.cell? ⟨b7, 2, none⟩ = some (.slice A9 u.f2.length c9) from ⟨(aC_ h 0).trans rfl, (aC_ h 1).trans rfl, (aC_ h 2).trans rfl⟩))
     have HW32 := mk0 (wb32 b acc1 w5 (HW5.out).ws.bb (by have := (HJ.out).2; omega) (Nat.le_of_lt (HW5.out).ws.lt))
     go_wp2_with fail
     refine (HW32.out).mono ?_
     rintro E w6 ⟨rfl, hw⟩
     have HW6 := mk0 ((HW5.out).write H0.out hw)
     have HX6 := mk0 (hw.2.2.keep _ _ _ HNB.out (by decide) HX5.out)
     clear hw HW5 HX5 HW32
     obtain ⟨m0, m1, m2⟩ := HKX.out _ HX6.out
     obtain ⟨⟨p0, p1⟩, q0, q1, q2⟩ := (HW6.out).cells
     by_cases hz : u.f2.length = 0
     ·have hzz : ¬ (u.f2.length : Int) > 0 := by omega
      have HWR := mk0 (show wrapT u (trmS (hdS sy fs) u) = trmS (hdS sy fs) u from if_pos hz)
      have HWI := mk0 (IH.out u (HJ.out).1 (HD.out).2.1 HTJ.out A9 c9 (acc1 ++ [32]) w6 HC9.out HL9.out (HW6.out).ws.hb0 (HW6.out).ws.bb (HW6.out).ws.lt (by have := (HJ.out).2; rw [l7_, l10_]; omega))
      clear hz
      go_wp2_with fail
      refine (HWI.out).mono ?_
      rintro E w7 ⟨rfl, hw⟩
      have HW7 := mk0 ((HW6.out).write H0.out hw)
      have HX7 := mk0 (hw.2.2.keep _ _ _ HNB.out (by decide) HX6.out)
      clear hw HW6 HX6 m0 m1 m2 p0 p1 q0 q1 q2 HWI
      obtain ⟨m0, m1, m2⟩ := HKX.out _ HX7.out
      go_wp2
      go_roundg (l.length - (j + 1))
      case measure => omega
      case rel => exact ⟨j + 1, by omega, by omega, by first | rfl | (rw [wrap_succ (by omega) (by have := HLEN.out; omega)]; rfl), ⟨by rw [HS.out, HWR.out, show acc1 ++ 32 :: trmS (hdS sy fs) u = acc1 ++ [32] ++ trmS (hdS sy fs) u by simp]; exact HW7.out⟩⟩
     ·have hzz : (u.f2.length : Int) > 0 := by omega
      have HWR := mk0 (show wrapT u (trmS (hdS sy fs) u) = 40 :: (trmS (hdS sy fs) u ++ [41]) from if_neg hz)
      have HW40 := mk0 (wb40 b (acc1 ++ [32]) w6 (HW6.out).ws.bb (by have := (HJ.out).2; rw [l7_, l10_]; omega) (Nat.le_of_lt (HW6.out).ws.lt))
      clear hz
      go_wp2_with fail
      refine (HW40.out).mono ?_
      rintro E w61 ⟨rfl, hw⟩
      have HW61 := mk0 ((HW6.out).write H0.out hw)
      have HX61 := mk0 (hw.2.2.keep _ _ _ HNB.out (by decide) HX6.out)
      clear hw HW6 HX6 m0 m1 m2 p0 p1 q0 q1 q2 HW40
      obtain ⟨m0, m1, m2⟩ := HKX.out _ HX61.out
      obtain ⟨⟨p0, p1⟩, q0, q1, q2⟩ := (HW61.out).cells
      have HWI := mk0 (IH.out u (HJ.out).1 (HD.out).2.1 HTJ.out A9 c9 (acc1 ++ [32] ++ [40]) w61 HC9.out HL9.out (HW61.out).ws.hb0 (HW61.out).ws.bb (HW61.out).ws.lt (by have := (HJ.out).2; rw [l7_, l7_]; simp only [l8_, List.length_nil]; omega))
      go_wp2_with fail
      refine (HWI.out).mono ?_
      rintro E w7 ⟨rfl, hw⟩
      have HW7 := mk0 ((HW61.out).write H0.out hw)
      have HX7 := mk0 (hw.2.2.keep _ _ _ HNB.out (by decide) HX61.out)
      clear hw HW61 HX61 m0 m1 m2 p0 p1 q0 q1 q2 HWI
      obtain ⟨m0, m1, m2⟩ := HKX.out _ HX7.out
      have HW41 := mk0 (wb41 b (acc1 ++ [32] ++ [40] ++ trmS (hdS sy fs) u) w7 (HW7.out).ws.bb (by have := (HJ.out).2; rw [l7_, l7_, l7_]; simp only [l8_, List.length_nil]; omega) (Nat.le_of_lt (HW7.out).ws.lt))
      go_wp2_with fail
      refine (HW41.out).mono ?_
      rintro E w8 ⟨rfl, hw⟩
      have HW8 := mk0 ((HW7.out).write H0.out hw)
      clear hw HW7 HX7 m0 m1 m2 HW41
      go_wp2
      go_roundg (l.length - (j + 1))
      case measure => omega
      case rel => exact ⟨j + 1, by omega, by omega, by first | rfl | (rw [wrap_succ (by omega) (by have := HLEN.out; omega)]; rfl), ⟨by rw [HS.out, HWR.out, show acc1 ++ 32 :: 40 :: (trmS (hdS sy fs) u ++ [41]) = acc1 ++ [32] ++ [40] ++ trmS (hdS sy fs) u ++ [41] by simp]; exact HW8.out⟩⟩
    ·have hltz : ¬ (j : Int) < (l.length : Int) := by omega
     have hje : j = l.length := by omega
     subst hje
     rw [List.take_length] at HW
     go_wp2
     go_end0
     exact ⟨rfl, by rw [HG.out]; exact (HW.out).ws.wr⟩
  ·have hk2 : k = 2 := by have := (HIN.out).1; omega
   have hn : 0 ≤ n ∧ n < (sy.length : Int) := by have := (HIN.out).1; omega
   obtain ⟨ad, e, hx0, hx1⟩ := at_T71 (H1.out) n hn.1 hn.2
   subst e
   replace hx0 := ((HW.out).ws.hb0.cell (l1_ w0 _ hx0)).trans hx0
   have HHD := mk0 (show hdS sy fs k n = 35 :: (rd_T71 sy n).f0.data.toList from by unfold hdS; rw [if_neg hk0, if_neg hk1])
   have hsz : (rd_T71 sy n).f0.size ≤ 26 := by have := HHL.out; rw [HHD.out, l8_] at this; rw [Lib.size_eq]; omega
   have HWS := mk0 (fun (s : ByteArray) (hs : s.data.toList = 35 :: (rd_T71 sy n).f0.data.toList) => ws_calls b acc s _ W1 (HW.out).ws.bb hs (by have := HD.out; have := HHL.out; rw [← HHD.out]; omega) (Nat.le_of_lt (HW.out).ws.lt))
   have hn1 := hn.1
   have hn2 := hn.2
   subst hk2
   clear hx1 hn hk0 hk1
   go_wp2_with fail
   refine ((HWS.out) _ ?_).mono ?_
   ·first | rfl | simp
   rintro E w2 ⟨rfl, hw⟩
   rw [← HHD.out] at hw
   have HW2 := mk0 ((HW.out).write H0.out hw)
   clear hw HWS HW hx0 hn1 hn2 hsz p0 p1 q0 q1 q2
   obtain ⟨⟨p0, p1⟩, q0, q1, q2⟩ := (HW2.out).cells
   go_wp2
   have HA2 := mk0 (show (acc ++ hdS sy fs 2 n).length ≤ acc.length + 27 from by have := HHL.out; rw [l7_]; omega)
   generalize acc ++ hdS sy fs 2 n = acc2 at *
   clear p0 p1 q0 q1 q2
   go_loopg [42] l.length (fun gg v42 wi => ∃ (j : Nat), j ≤ l.length ∧ l.length - j ≤ gg ∧ v42 = .int .i64 j ∧ Aside0 (TW w0 W b (acc2 ++ trmSL (hdS sy fs) (l.take j)) W.heap.size (.slice (some ad) sy.length c1) (.slice A2 fs.length c2) (W.heap.size + 1) (.int .i64 2) (.int .i64 n) (.slice A l.length c) wi))
   case atStart => exact ⟨0, by omega, by omega, rfl, ⟨by rw [List.take_zero, trmSL, List.append_nil]; exact HW2.out⟩⟩
   case round =>
    clear HW2
    obtain ⟨j, hj, hgg, rfl, HW⟩ := hrel
    by_cases hlt : j < l.length
    ·have hltz : (j : Int) < (l.length : Int) := by omega
     obtain ⟨ad, A9, c9, e, hx0, hx1, hx2, hl9, hC9⟩ := at_T50 HC.out (j : Int) (by omega) hltz
     subst e
     rw [rdT_at hlt] at hx0 hx1 hx2 hl9 hC9
     rw [l14_] at hx0 hx1 hx2
     replace hx0 := ((HW.out).ws.hb0.cell (l1_ w0 _ hx0)).trans hx0
     replace hx1 := ((HW.out).ws.hb0.cell (l1_ w0 _ hx1)).trans hx1
     replace hx2 := ((HW.out).ws.hb0.cell (l1_ w0 _ hx2)).trans hx2
     have HS := mk0 (show acc2 ++ trmSL (hdS sy fs) (l.take (j + 1)) = (acc2 ++ trmSL (hdS sy fs) (l.take j)) ++ (32 :: wrapT l[j] (trmS (hdS sy fs) l[j])) by rw [takeS hlt, trmSL_snoc, List.append_assoc])
     have HJ := mk0 (show tN l[j] ≤ N ∧ (acc2 ++ trmSL (hdS sy fs) (l.take j)).length + 30 * tN l[j] + 3 ≤ 1000000000000 ∧ (trmS (hdS sy fs) l[j]).length + 3 ≤ 30 * tN l[j] from by
      have h1 := tN_mem (l11_ hlt)
      have h2 := HTL.out j
      have h3 := tNL_snoc (l.take j) l[j]
      rw [← takeS hlt] at h3
      have h4 := tNL_take l (j + 1)
      have := HD.out
      have := HA2.out
      have h5 := HTLL.out _ (l11_ hlt)
      rw [l7_]
      omega)
     have HTJ := mk0 (HTI.out _ (l11_ hlt))
     generalize l[j] = u at *
     generalize acc2 ++ trmSL (hdS sy fs) (l.take j) = acc1 at *
     have HC9 := mk0 hC9
     have HL9 := mk0 hl9
     clear hC9 hl9
     go_upto_region 10 with (fail)
     have HW5 := mk0 ((HW.out).below (aA_ (Below.refl wr.heap.size wr) (.cells #[.int .i64 u.f0, .int .i64 u.f1, .slice A9 u.f2.length c9] 50)))
     have HX5 := mk0 (aU_ wr (.cells #[.int .i64 u.f0, .int .i64 u.f1, .slice A9 u.f2.length c9] 50))
     have HNB := mk0 (show wr.heap.size ≠ b from by have := (HW.out).ws.lt; omega)
     clear HW hx0 hx1 hx2
     generalize (wr.alloc (.cells #[.int .i64 u.f0, .int .i64 u.f1, .slice A9 u.f2.length c9] 50)) = w5 at *
     generalize wr.heap.size = b7 at *
     have HKX := mk0 (fun (W3 : World) (h : W3.heap[b7]? = some (.cells #[.int .i64 u.f0, .int .i64 u.f1, .slice A9 u.f2.length c9] 50 (0, 0))) => (show W3.cell? ⟨b7, 0, none⟩ = some (.int .i64 u.f0) ∧ W3.cell? ⟨b7, 1, none⟩ = some (.int .i64 u.f1) ∧ W3.cell? ⟨b7, 2, none⟩ = some (.slice A9 u.f2.length c9) from ⟨(aC_ h 0).trans rfl, (aC_ h 1).trans rfl, (aC_ h 2).trans rfl⟩))
     have HW32 := mk0 (wb32 b acc1 w5 (HW5.out).ws.bb (by have := (HJ.out).2; omega) (Nat.le_of_lt (HW5.out).ws.lt))
     go_wp2_with fail
     refine (HW32.out).mono ?_
     rintro E w6 ⟨rfl, hw⟩
     have HW6 := mk0 ((HW5.out).write H0.out hw)
     have HX6 := mk0 (hw.2.2.keep _ _ _ HNB.out (by decide) HX5.out)
     clear hw HW5 HX5 HW32
     obtain ⟨m0, m1, m2⟩ := HKX.out _ HX6.out
     obtain ⟨⟨p0, p1⟩, q0, q1, q2⟩ := (HW6.out).cells
     by_cases hz : u.f2.length = 0
     ·have hzz : ¬ (u.f2.length : Int) > 0 := by omega
      have HWR := mk0 (show wrapT u (trmS (hdS sy fs) u) = trmS (hdS sy fs) u from if_pos hz)
      have HWI := mk0 (IH.out u (HJ.out).1 (HD.out).2.1 HTJ.out A9 c9 (acc1 ++ [32]) w6 HC9.out HL9.out (HW6.out).ws.hb0 (HW6.out).ws.bb (HW6.out).ws.lt (by have := (HJ.out).2; rw [l7_, l10_]; omega))
      clear hz
      go_wp2_with fail
      refine (HWI.out).mono ?_
      rintro E w7 ⟨rfl, hw⟩
      have HW7 := mk0 ((HW6.out).write H0.out hw)
      have HX7 := mk0 (hw.2.2.keep _ _ _ HNB.out (by decide) HX6.out)
      clear hw HW6 HX6 m0 m1 m2 p0 p1 q0 q1 q2 HWI
      obtain ⟨m0, m1, m2⟩ := HKX.out _ HX7.out
      go_wp2
      go_roundg (l.length - (j + 1))
      case measure => omega
      case rel => exact ⟨j + 1, by omega, by omega, by first | rfl | (rw [wrap_succ (by omega) (by have := HLEN.out; omega)]; rfl), ⟨by rw [HS.out, HWR.out, show acc1 ++ 32 :: trmS (hdS sy fs) u = acc1 ++ [32] ++ trmS (hdS sy fs) u by simp]; exact HW7.out⟩⟩
     ·have hzz : (u.f2.length : Int) > 0 := by omega
      have HWR := mk0 (show wrapT u (trmS (hdS sy fs) u) = 40 :: (trmS (hdS sy fs) u ++ [41]) from if_neg hz)
      have HW40 := mk0 (wb40 b (acc1 ++ [32]) w6 (HW6.out).ws.bb (by have := (HJ.out).2; rw [l7_, l10_]; omega) (Nat.le_of_lt (HW6.out).ws.lt))
      clear hz
      go_wp2_with fail
      refine (HW40.out).mono ?_
      rintro E w61 ⟨rfl, hw⟩
      have HW61 := mk0 ((HW6.out).write H0.out hw)
      have HX61 := mk0 (hw.2.2.keep _ _ _ HNB.out (by decide) HX6.out)
      clear hw HW6 HX6 m0 m1 m2 p0 p1 q0 q1 q2 HW40
      obtain ⟨m0, m1, m2⟩ := HKX.out _ HX61.out
      obtain ⟨⟨p0, p1⟩, q0, q1, q2⟩ := (HW61.out).cells
      have HWI := mk0 (IH.out u (HJ.out).1 (HD.out).2.1 HTJ.out A9 c9 (acc1 ++ [32] ++ [40]) w61 HC9.out HL9.out (HW61.out).ws.hb0 (HW61.out).ws.bb (HW61.out).ws.lt (by have := (HJ.out).2; rw [l7_, l7_]; simp only [l8_, List.length_nil]; omega))
      go_wp2_with fail
      refine (HWI.out).mono ?_
      rintro E w7 ⟨rfl, hw⟩
      have HW7 := mk0 ((HW61.out).write H0.out hw)
      have HX7 := mk0 (hw.2.2.keep _ _ _ HNB.out (by decide) HX61.out)
      clear hw HW61 HX61 m0 m1 m2 p0 p1 q0 q1 q2 HWI
      obtain ⟨m0, m1, m2⟩ := HKX.out _ HX7.out
      have HW41 := mk0 (wb41 b (acc1 ++ [32] ++ [40] ++ trmS (hdS sy fs) u) w7 (HW7.out).ws.bb (by have := (HJ.out).2; rw [l7_, l7_, l7_]; simp only [l8_, List.length_nil]; omega) (Nat.le_of_lt (HW7.out).ws.lt))
      go_wp2_with fail
      refine (HW41.out).mono ?_
      rintro E w8 ⟨rfl, hw⟩
      have HW8 := mk0 ((HW7.out).write H0.out hw)
      clear hw HW7 HX7 m0 m1 m2 HW41
      go_wp2
      go_roundg (l.length - (j + 1))
      case measure => omega
      case rel => exact ⟨j + 1, by omega, by omega, by first | rfl | (rw [wrap_succ (by omega) (by have := HLEN.out; omega)]; rfl), ⟨by rw [HS.out, HWR.out, show acc1 ++ 32 :: 40 :: (trmS (hdS sy fs) u ++ [41]) = acc1 ++ [32] ++ [40] ++ trmS (hdS sy fs) u ++ [41] by simp]; exact HW8.out⟩⟩
    ·have hltz : ¬ (j : Int) < (l.length : Int) := by omega
     have hje : j = l.length := by omega
     subst hje
     rw [List.take_length] at HW
     go_wp2
     go_end0
     exact ⟨rfl, by rw [HG.out]; exact (HW.out).ws.wr⟩
theorem info186 : (Tryz.prog.info? 186).map (fun i => (i.zero, i.size)) = some (some (.agg (Array.replicate 256 (.bool false))), 256) := by kernel_rfl
theorem ia_calls (s : ByteArray) (w : World) (hs : s.size ≤ 70000) :
  Calls Tryz.prog 166 #[.string s, .string ⟨#[32, 40, 41]⟩] w fun E w' => E = .returned (.int .i64 (Lib.indexAny s.data.toList [32, 40, 41])) ∧ Below w.heap.size w w' := by
 by_cases h8 : s.size ≤ 8
 ·exact iashort_calls s w h8
 ·refine (Tryz.strings_IndexAny_long (zero_of_info info186).1 s ⟨#[32, 40, 41]⟩ w (by decide) (by omega) (by omega) (by decide) (ascii_of_all (by decide))).mono ?_
  rintro E w' ⟨rfl, rfl⟩
  exact ⟨rfl, aA_ (aA_ (Below.refl _ _) _) _⟩
def wordN (l : List UInt8) : Nat := if Lib.indexAny l [32, 40, 41] < 0 then l.length else (Lib.indexAny l [32, 40, 41]).toNat
theorem indexAny_lt (l chars : List UInt8) : Lib.indexAny l chars ≤ l.length := by
 induction l with
 | nil => simp [Lib.indexAny]
 | cons a r ih =>
  unfold Lib.indexAny
  split
  ·simp; omega
  ·split
   ·simp; omega
   ·simp; omega
theorem wordN_le (l : List UInt8) : wordN l ≤ l.length := by
 unfold wordN
 have := indexAny_lt l [32, 40, 41]
 split <;> omega
structure RT (b : Nat) (l : List UInt8) (m1 m2 : Value) (W : World) : Prop where
 blk : W.heap[b]? = some (.cells #[.string ⟨l.toArray⟩, m1, m2] 92 (0, 0))
theorem RT.keep {b : Nat} {l : List UInt8} {m1 m2 : Value} {W W1 : World} (h : RT b l m1 m2 W) (hb : Below W.heap.size W W1) : RT b l m1 m2 W1 := ⟨aK_ h.blk hb⟩
theorem RT.cells {b : Nat} {l : List UInt8} {m1 m2 : Value} {W : World} (h : RT b l m1 m2 W) : (W.cell? ⟨b, 0, none⟩ = some (.string ⟨l.toArray⟩) ∧ W.frozen? ⟨b, 0, none⟩ = false) ∧ W.cell? ⟨b, 1, none⟩ = some m1 ∧ W.cell? ⟨b, 2, none⟩ = some m2 :=
 ⟨⟨(aC_ h.blk 0).trans rfl, aJ_ h.blk 0⟩, (aC_ h.blk 1).trans rfl, (aC_ h.blk 2).trans rfl⟩
theorem RT.set {b : Nat} {l : List UInt8} {m1 m2 : Value} {W : World} (h : RT b l m1 m2 W) (s : ByteArray) : RT b s.data.toList m1 m2 (W.setCell ⟨b, 0, none⟩ (.string s)) := by
 refine ⟨(blk_set h.blk 0 (.string s)).trans ?_⟩
 rfl
theorem KR.set {b : Nat} {W W1 : World} (h : KR b W W1) (i : Nat) (u : Value) : KR b W (W1.setCell ⟨b, i, none⟩ u) := ⟨h.lo.setCell (p := ⟨b, i, none⟩) (Nat.le_refl _) _, h.keep.set_ i u⟩
set_option maxHeartbeats 4000000 in
set_option maxRecDepth 100000 in
theorem word_calls (b : Nat) (l : List UInt8) (m1 m2 : Value) (W : World) (h : RT b l m1 m2 W) (hs : l.length ≤ 70000) :
  Calls Tryz.prog 131 #[.pointer (some ⟨b, 0, none⟩)] W fun E w' => E = .returned (.string ⟨(l.take (wordN l)).toArray⟩) ∧ RT b (l.drop (wordN l)) m1 m2 w' ∧ KR b W w' := by
 have hlt := blk_lt h.blk
 have HLT := mk0 (Nat.le_of_lt hlt)
 have HI := mk0 (fun (W1 : World) => ia_calls ⟨l.toArray⟩ W1 (by show l.toArray.size ≤ 70000; rw [List.size_toArray]; exact hs))
 obtain ⟨s, hsx⟩ : ∃ s : ByteArray, s = ⟨l.toArray⟩ := ⟨_, rfl⟩
 have HSD := mk0 (show s.data.toList = l by rw [hsx])
 have HSS := mk0 (show s.size = l.length by rw [Lib.size_eq, hsx])
 have HR := mk0 h
 have hc := h.cells
 rw [← hsx] at HI hc
 have HR0 := mk0 h.blk
 rw [← hsx] at HR0
 have HN := mk0 (wordN_le l)
 have HNI := mk0 (show (wordN l : Int) = (if Lib.indexAny l [32, 40, 41] < 0 then (s.size : Int) else Lib.indexAny l [32, 40, 41]) by
  unfold wordN
  have := indexAny_lt l [32, 40, 41]
  rw [HSS.out]
  split <;> omega)
 obtain ⟨⟨c0, f0⟩, c1, c2⟩ := hc
 rw [HSD.out] at HI
 have HX := mk0 (fun (W1 : World) (hW : Below W.heap.size W W1) => And.intro (aP_ hW c0) ((aJ_ (aK_ HR0.out hW) 0) : W1.frozen? ⟨b, 0, none⟩ = false))
 clear h hs hsx f0 c1 c2
 go_enter Tryz.func131, Tryz.ntmps131
 go_wp2_with fail
 refine (HI.out _).mono ?_
 rintro E w2 ⟨rfl, hb⟩
 have HB2 := mk0 hb
 have HR2 := mk0 ((HR.out).keep hb)
 have HK2 := mk0 (KR.below HLT.out hb)
 clear c0
 obtain ⟨c0, f0⟩ := HX.out _ hb
 clear hb HI
 generalize Lib.indexAny l [32, 40, 41] = ix at *
 by_cases q : ix < 0
 ·have e1 := HNI.out
  rw [if_pos q] at e1
  have e2 : wordN l = s.size := by omega
  have HE := mk0 e2
  clear HX e1 e2
  go_wp2
  go_ret
  have e3 : wordN l = l.length := by rw [HE.out, HSS.out]
  rw [e3, List.take_length, List.drop_length]
  exact ⟨congrArg (fun x => Ending.returned (Value.string x)) (ba_eq HSD.out), (HR2.out).set ByteArray.empty, (HK2.out).set 0 _⟩
 ·have e1 := HNI.out
  rw [if_neg q] at e1
  have hnx : wordN l ≤ s.size := by have := HN.out; have := HSS.out; omega
  subst e1
  clear HX
  go_wp2
  go_ret
  have h1 : (s.extract 0 (wordN l)).data.toList = l.take (wordN l) := by rw [Lib.extract_from_zero, HSD.out]
  have h2 : (s.extract (wordN l) s.size).data.toList = l.drop (wordN l) := by rw [Lib.extract_to_end, HSD.out]
  have h3 := (HR2.out).set (s.extract (wordN l) s.size)
  rw [h2] at h3
  exact ⟨congrArg (fun x => Ending.returned (Value.string x)) (ba_eq h1), h3, (HK2.out).set 0 _⟩
def digs : List UInt8 := [48, 49, 50, 51, 52, 53, 54, 55, 56, 57]
def numBad (l : List UInt8) : Bool := decide (l = []) || decide (10 < l.length) || (decide (l.head? = some 48) && decide (1 < l.length)) || !decide (Lib.trimS l digs = [])
def numV (l : List UInt8) : Int := (Lib.atoi l).getD 0
def numOk (l : List UInt8) : Bool := !numBad l && decide (numV l ≤ 1000000000)
theorem dropWhile_nil {α : Type} {p : α → Bool} {l : List α} (h : l.dropWhile p = []) : ∀ x ∈ l, p x = true := by
 induction l with
 | nil => intro x hx; cases hx
 | cons a r ih =>
  rw [List.dropWhile_cons] at h
  by_cases ha : p a = true
  ·rw [if_pos ha] at h
   intro x hx
   rcases List.mem_cons.1 hx with rfl | hx
   ·exact ha
   ·exact ih h x hx
  ·rw [if_neg ha] at h; cases h
theorem mem_tw {α : Type} {p : α → Bool} {l : List α} {x : α} (h : x ∈ l.takeWhile p) : p x = true := by
 induction l with
 | nil => cases h
 | cons a r ih =>
  rw [List.takeWhile_cons] at h
  by_cases ha : p a = true
  ·rw [if_pos ha] at h
   rcases List.mem_cons.1 h with rfl | h
   ·exact ha
   ·exact ih h
  ·rw [if_neg ha] at h; cases h
theorem trimS_nil {l cs : List UInt8} (h : Lib.trimS l cs = []) : ∀ x ∈ l, cs.contains x = true := by
 unfold Lib.trimS Lib.trimLeftS Lib.trimRightS at h
 have h1 := dropWhile_nil h
 intro x hx
 have hx2 : x ∈ l.reverse := List.mem_reverse.2 hx
 rw [← List.takeWhile_append_dropWhile (p := (cs.contains ·)) (l := l.reverse)] at hx2
 rcases List.mem_append.1 hx2 with hx3 | hx3
 ·exact mem_tw hx3
 ·exact h1 x (List.mem_reverse.2 hx3)
theorem digit_val {x : UInt8} (h : digs.contains x = true) : ∃ d, d ≤ 9 ∧ Lib.digitVal x = some d ∧ x ≠ 45 ∧ x ≠ 43 := by
 unfold digs at h
 simp only [List.contains_cons, List.contains_nil, Bool.or_false, Bool.or_eq_true, beq_iff_eq] at h
 rcases h with rfl | rfl | rfl | rfl | rfl | rfl | rfl | rfl | rfl | rfl <;> exact ⟨_, by decide, rfl, by decide, by decide⟩
theorem dec_some {l : List UInt8} (h : ∀ x ∈ l, digs.contains x = true) : ∀ acc, ∃ n, Lib.decFrom acc l = some n := by
 induction l with
 | nil => intro acc; exact ⟨acc, rfl⟩
 | cons a r ih =>
  intro acc
  obtain ⟨d, _, hd, _⟩ := digit_val (h a (List.mem_cons_self ..))
  obtain ⟨n, hn⟩ := ih (fun x hx => h x (List.mem_cons_of_mem _ hx)) (acc * 10 + d)
  exact ⟨n, by rw [Lib.decFrom, hd]; exact hn⟩
theorem atoi_some {l : List UInt8} (h : numBad l = false) : ∃ n : Nat, Lib.atoi l = some (n : Int) := by
 unfold numBad at h
 simp only [Bool.or_eq_false_iff, decide_eq_false_iff_not, Bool.not_eq_false', l20_] at h
 obtain ⟨⟨⟨h1, _⟩, _⟩, h4⟩ := h
 have hall := trimS_nil h4
 cases l with
 | nil => exact absurd rfl h1
 | cons a r =>
  obtain ⟨d, _, hd, h45, h43⟩ := digit_val (hall a (List.mem_cons_self ..))
  obtain ⟨n, hn⟩ := dec_some hall 0
  refine ⟨n, ?_⟩
  rw [Lib.atoi, if_neg (by simpa using h45), if_neg (by simpa using h43)]
  unfold Lib.decNat
  rw [if_neg (by simp), hn]
  rfl
theorem numV_eq {l : List UInt8} {n : Nat} (h : Lib.atoi l = some (n : Int)) : numV l = n := by unfold numV; rw [h]; rfl
def num0V (l : List UInt8) : Int := if numBad l then 0 else numV l
theorem num_bad {l : List UInt8} (h : numBad l = true) : num0V l = 0 ∧ numOk l = false := by unfold num0V numOk; rw [h]; exact ⟨rfl, rfl⟩
theorem num_good {l : List UInt8} (h : numBad l = false) : num0V l = numV l ∧ numOk l = decide (num0V l ≤ 1000000000) := by unfold num0V numOk; rw [h]; exact ⟨rfl, rfl⟩
theorem head_at {s : ByteArray} (h : 0 < s.size) : s.data.toList.head? = some s[0] := by
 rcases s with ⟨⟨l⟩⟩
 cases l with
 | nil => exact absurd h (by decide)
 | cons a r => rfl
set_option maxHeartbeats 4000000 in
theorem number0_calls (s : ByteArray) (w : World) (hs : s.size ≤ 70000) :
  Calls Tryz.prog 100 #[.string s] w fun E w' => E = .returned (.tuple #[.int .i64 (num0V s.data.toList), .bool (numOk s.data.toList)]) ∧ Below w.heap.size w w' := by
 have HT := mk0 (Tryz.trim_digits s w (by omega))
 have HA := mk0 fun (h : numBad s.data.toList = false) W => by
  obtain ⟨n, hn⟩ := atoi_some h
  have h10 : s.size ≤ 18 := by
   unfold numBad at h
   simp only [Bool.or_eq_false_iff, decide_eq_false_iff_not] at h
   have := h.1.1.2
   have e : s.data.toList.length = s.size := (Lib.size_eq s).symm
   omega
  exact (show Calls Tryz.prog 128 #[.string s] W fun e w' => e = .returned (.tuple #[.int .i64 (numV s.data.toList), .nilIface]) ∧ Below W.heap.size W w' from (Tryz.strconv_Atoi s n h10 hn W).mono fun e w' ⟨he, t, ht⟩ => ⟨by rw [numV_eq hn]; exact he, by rw [ht]; exact Lib.bytesWorld_below _ _ _⟩)
 have HE := mk0 (Lib.toList_data s)
 have HZ := mk0 (Lib.size_eq s)
 go_enter Tryz.func100, Tryz.ntmps100
 cases q1 : s.toList.isEmpty with
 | true =>
  have hb : numBad s.data.toList = true := by
   have : s.data.toList = [] := by rw [← HE.out]; simpa using q1
   unfold numBad; rw [l2_ this]; rfl
  have HV := mk0 (num_bad hb)
  clear hb
  go_wp2
  go_ret2
  exact ⟨by rw [(HV.out).1, (HV.out).2]; rfl, Below.refl _ _⟩
 | false =>
 cases q2 : decide ((s.size : Int) > 10) with
 | true =>
  have hb : numBad s.data.toList = true := by
   have := l0_ q2
   unfold numBad; rw [l2_ (show 10 < s.data.toList.length by rw [← HZ.out]; omega)]; simp
  have HV := mk0 (num_bad hb)
  clear hb
  go_wp2
  go_ret2
  exact ⟨by rw [(HV.out).1, (HV.out).2]; rfl, Below.refl _ _⟩
 | false =>
 have h0 : 0 < s.size := by
  rw [HZ.out]
  cases e : s.data.toList with
  | nil => rw [← HE.out] at e; rw [e] at q1; cases q1
  | cons a r => simp
 have HH := mk0 (head_at h0)
 go_wp2_with fail
 ·have HN48 := mk0 (show (decide (s.data.toList.head? = some 48) && decide (1 < s.data.toList.length)) = false from by rw [HZ.out] at *; rw [l3_ (show ¬ 1 < s.data.toList.length by omega)]; simp)
  refine (HT.out).mono ?_
  rintro E w2 ⟨rfl, hb⟩
  have HB := mk0 hb
  have HTR := mk0 (show Lib.trimS s.data.toList digs = [] ↔ (⟨(Lib.trimS s.data.toList [48, 49, 50, 51, 52, 53, 54, 55, 56, 57]).toArray⟩ : ByteArray).toList.isEmpty = true by rw [Lib.toList_data]; simp [digs])
  clear hb
  generalize (⟨(Lib.trimS s.data.toList [48, 49, 50, 51, 52, 53, 54, 55, 56, 57]).toArray⟩ : ByteArray) = tr at *
  cases q5 : tr.toList.isEmpty with
  | false =>
   have hb : numBad s.data.toList = true := by
    have h1 : ¬ Lib.trimS s.data.toList digs = [] := fun h => by rw [(HTR.out).1 h] at q5; cases q5
    unfold numBad; rw [l3_ h1]; simp
   have HV := mk0 (num_bad hb)
   clear hb
   go_wp2
   go_ret2
   exact ⟨by rw [(HV.out).1, (HV.out).2]; rfl, HB.out⟩
  | true =>
   have hb : numBad s.data.toList = false := by
    unfold numBad
    rw [l2_ ((HTR.out).2 q5), HN48.out, l3_ (show ¬ s.data.toList = [] from fun h => by rw [← HE.out] at h; rw [h] at q1; cases q1), l3_ (show ¬ 10 < s.data.toList.length from by have := of_decide_eq_false q2; rw [← HZ.out]; omega)]
    rfl
   have HV := mk0 (num_good hb)
   have HA2 := mk0 (HA.out hb)
   clear hb
   go_wp2_with fail
   refine (HA2.out _).mono ?_
   rintro E w3 ⟨rfl, hb⟩
   have HB3 := mk0 (aM_ HB.out (HB.out).size hb)
   clear hb
   rw [← (HV.out).1]
   cases q6 : decide (num0V s.data.toList ≤ 1000000000) with
   | false =>
    go_wp2
    go_ret2
    exact ⟨by rw [(HV.out).2, q6]; rfl, HB3.out⟩
   | true =>
    go_wp2
    go_ret2
    exact ⟨by rw [(HV.out).2, q6]; rfl, HB3.out⟩
 ·have hb : numBad s.data.toList = true := by
   have h48 : s[0].toNat = 48 := by omega
   have e : s[0] = 48 := UInt8.toNat_inj.1 h48
   unfold numBad; rw [HH.out, e, l2_ (show 1 < s.data.toList.length by rw [← HZ.out]; omega)]; simp
  have HV := mk0 (num_bad hb)
  clear hb
  go_wp2
  go_ret2
  exact ⟨by rw [(HV.out).1, (HV.out).2]; rfl, Below.refl _ _⟩
 ·have HN48 := mk0 (show (decide (s.data.toList.head? = some 48) && decide (1 < s.data.toList.length)) = false from by rw [HH.out]; have h1 : ¬ s[0] = 48 := fun e => absurd (show ((s[0].toNat : Nat) : Int) = 48 by rw [e]; rfl) (by assumption); simp [h1])
  refine (HT.out).mono ?_
  rintro E w2 ⟨rfl, hb⟩
  have HB := mk0 hb
  have HTR := mk0 (show Lib.trimS s.data.toList digs = [] ↔ (⟨(Lib.trimS s.data.toList [48, 49, 50, 51, 52, 53, 54, 55, 56, 57]).toArray⟩ : ByteArray).toList.isEmpty = true by rw [Lib.toList_data]; simp [digs])
  clear hb
  generalize (⟨(Lib.trimS s.data.toList [48, 49, 50, 51, 52, 53, 54, 55, 56, 57]).toArray⟩ : ByteArray) = tr at *
  cases q5 : tr.toList.isEmpty with
  | false =>
   have hb : numBad s.data.toList = true := by
    have h1 : ¬ Lib.trimS s.data.toList digs = [] := fun h => by rw [(HTR.out).1 h] at q5; cases q5
    unfold numBad; rw [l3_ h1]; simp
   have HV := mk0 (num_bad hb)
   clear hb
   go_wp2
   go_ret2
   exact ⟨by rw [(HV.out).1, (HV.out).2]; rfl, HB.out⟩
  | true =>
   have hb : numBad s.data.toList = false := by
    unfold numBad
    rw [l2_ ((HTR.out).2 q5), HN48.out, l3_ (show ¬ s.data.toList = [] from fun h => by rw [← HE.out] at h; rw [h] at q1; cases q1), l3_ (show ¬ 10 < s.data.toList.length from by have := of_decide_eq_false q2; rw [← HZ.out]; omega)]
    rfl
   have HV := mk0 (num_good hb)
   have HA2 := mk0 (HA.out hb)
   clear hb
   go_wp2_with fail
   refine (HA2.out _).mono ?_
   rintro E w3 ⟨rfl, hb⟩
   have HB3 := mk0 (aM_ HB.out (HB.out).size hb)
   clear hb
   rw [← (HV.out).1]
   cases q6 : decide (num0V s.data.toList ≤ 1000000000) with
   | false =>
    go_wp2
    go_ret2
    exact ⟨by rw [(HV.out).2, q6]; rfl, HB3.out⟩
   | true =>
    go_wp2
    go_ret2
    exact ⟨by rw [(HV.out).2, q6]; rfl, HB3.out⟩
def ki (n : Int) : Value := .int .i64 n
def pwrong : Ending := .panicked [{ v := .iface 85 (.agg #[]), recovered := false }]
abbrev Ents := List (ByteArray × Int)
structure RM (b : Nat) (l : List UInt8) (B1 B2 : Nat) (e1 e2 : Ents) (W : World) : Prop where
 rt : RT b l (.map (some B1)) (.map (some B2)) W
 i1 : MapIs W B1 Value.string ki sdom e1
 i2 : MapIs W B2 Value.string ki sdom e2
 n1 : B1 ≠ b
 n2 : B2 ≠ b
section
variable {b B1 B2 : Nat} {l l2 : List UInt8} {e1 e2 : Ents} {W W1 : World}
theorem RM.call (h : RM b l B1 B2 e1 e2 W) (hr : RT b l2 (.map (some B1)) (.map (some B2)) W1) (hk : KR b W W1) : RM b l2 B1 B2 e1 e2 W1 :=
 ⟨hr, h.i1.kept (hk.keep.2 B1 h.i1.lt h.n1 (by simp)), h.i2.kept (hk.keep.2 B2 h.i2.lt h.n2 (by simp)), h.n1, h.n2⟩
theorem RM.keep (h : RM b l B1 B2 e1 e2 W) (hb : Below W.heap.size W W1) : RM b l B1 B2 e1 e2 W1 := ⟨h.rt.keep hb, h.i1.below hb, h.i2.below hb, h.n1, h.n2⟩
theorem RM.lt (h : RM b l B1 B2 e1 e2 W) : b < W.heap.size := blk_lt h.rt.blk
end
def hdW (e1 e2 : Ents) (w rest : List UInt8) : Option ((Int × Int) × List UInt8) :=
 if Lib.hasPrefix w [36] = true then (if numOk (Lib.trimPrefix w [36]) = true then some ((0, num0V (Lib.trimPrefix w [36])), rest) else none)
 else match mget (⟨(Lib.trimPrefix w [35]).toArray⟩ : ByteArray) (if Lib.hasPrefix w [35] = true then e1 else e2) with
  | none => none
  | some v => if nameB ⟨(Lib.trimPrefix w [35]).toArray⟩ = true then some ((if Lib.hasPrefix w [35] = true then 2 else 1, v), rest) else none
def hdR (e1 e2 : Ents) (l : List UInt8) : Option ((Int × Int) × List UInt8) := hdW e1 e2 (l.take (wordN l)) (l.drop (wordN l))
def HdQ (b : Nat) (l : List UInt8) (B1 B2 : Nat) (e1 e2 : Ents) (W : World) (E : Ending) (w' : World) : Prop :=
 KR b W w' ∧ (hdR e1 e2 l = none ∧ E = pwrong ∨ ∃ k n r, hdR e1 e2 l = some ((k, n), r) ∧ E = .returned (.agg #[.int .i64 k, .int .i64 n, .slice none 0 0]) ∧ RT b r (.map (some B1)) (.map (some B2)) w')
theorem trim_len (l p : List UInt8) : (Lib.trimPrefix l p).length ≤ l.length := by unfold Lib.trimPrefix; split <;> simp
structure FH (b : Nat) (l : List UInt8) (B1 B2 : Nat) (e1 e2 : Ents) (W W1 : World) : Prop where
 rm : RM b l B1 B2 e1 e2 W1
 h2 : W1.heap[W.heap.size]? = some (.cells #[.int .i64 0, .int .i64 0, .slice none 0 0] 50 (0, 0))
 kr : KR b W W1
 lt : b < W.heap.size
section
variable {b B1 B2 : Nat} {l l2 : List UInt8} {e1 e2 : Ents} {W W1 W2 : World}
theorem FH.call (h : FH b l B1 B2 e1 e2 W W1) (hr : RT b l2 (.map (some B1)) (.map (some B2)) W2) (hk : KR b W1 W2) : FH b l2 B1 B2 e1 e2 W W2 :=
 ⟨h.rm.call hr hk, hk.blk (by have := h.lt; omega) h.h2, h.kr.trans hk, h.lt⟩
theorem FH.below (h : FH b l B1 B2 e1 e2 W W1) (hb : Below W1.heap.size W1 W2) : FH b l B1 B2 e1 e2 W W2 :=
 h.call (h.rm.rt.keep hb) (KR.below (Nat.le_of_lt h.rm.lt) hb)
theorem FH.cells (h : FH b l B1 B2 e1 e2 W W1) : (W1.cell? ⟨W.heap.size, 0, none⟩ = some (.int .i64 0) ∧ W1.cell? ⟨W.heap.size, 1, none⟩ = some (.int .i64 0) ∧ W1.cell? ⟨W.heap.size, 2, none⟩ = some (.slice none 0 0)) ∧ W1.frozen? ⟨W.heap.size, 0, none⟩ = false ∧ W1.frozen? ⟨W.heap.size, 1, none⟩ = false ∧ W1.frozen? ⟨W.heap.size, 2, none⟩ = false :=
 ⟨⟨(aC_ h.h2 0).trans rfl, (aC_ h.h2 1).trans rfl, (aC_ h.h2 2).trans rfl⟩, aJ_ h.h2 0, aJ_ h.h2 1, aJ_ h.h2 2⟩
end
theorem KR.far {b g : Nat} {W W1 : World} (h : KR b W W1) (hlt : b < W.heap.size) (hg : W.heap.size ≤ g) (i : Nat) (u : Value) : KR b W (W1.setCell ⟨g, i, none⟩ u) := by
 refine ⟨h.lo.setCell (p := ⟨g, i, none⟩) (by show b ≤ g; omega) _, ?_, ?_⟩
 ·have := h.keep.1
  simpa [World.setCell] using this
 ·intro j hj hne hr
  rw [Below.heap_setCell W1 ⟨g, i, none⟩ _ j (by show j ≠ g; omega)]
  exact h.keep.2 j hj hne hr
theorem RT.far {b g : Nat} {l : List UInt8} {m1 m2 : Value} {W : World} (h : RT b l m1 m2 W) (hg : b ≠ g) (i : Nat) (u : Value) : RT b l m1 m2 (W.setCell ⟨g, i, none⟩ u) := ⟨aT_ h.blk hg _⟩
set_option maxHeartbeats 8000000 in
set_option maxRecDepth 100000 in
theorem rhd_calls (b : Nat) (l : List UInt8) (B1 B2 : Nat) (e1 e2 : Ents) (W : World) (h : RM b l B1 B2 e1 e2 W) (hs : l.length ≤ 70000) :
  Calls Tryz.prog 104 #[.pointer (some ⟨b, 0, none⟩)] W (HdQ b l B1 B2 e1 e2 W) := by
 have hlt := h.lt
 have HLT := mk0 hlt
 have HF := mk0 (FH.mk (h.keep (aA_ (Below.refl W.heap.size W) (.cells #[.int .i64 0, .int .i64 0, .slice none 0 0] 50))) (aU_ W _) (KR.below (Nat.le_of_lt hlt) (aA_ (Below.refl W.heap.size W) (.cells #[.int .i64 0, .int .i64 0, .slice none 0 0] 50))) hlt)
 have HL := mk0 hs
 clear h hs hlt
 go_enter Tryz.func104, Tryz.ntmps104
 go_upto_region 1 with (fail)
 generalize (W.alloc (.cells #[.int .i64 0, .int .i64 0, .slice none 0 0] 50)) = W1 at *
 have HW := mk0 (word_calls b l _ _ W1 (HF.out).rm.rt HL.out)
 go_wp2_with fail
 refine (HW.out).mono ?_
 rintro E w2 ⟨rfl, hr, hk⟩
 have HF2 := mk0 ((HF.out).call hr hk)
 clear hr hk HF HW
 have HDR := mk0 (show hdR e1 e2 l = hdW e1 e2 (l.take (wordN l)) (l.drop (wordN l)) from rfl)
 have HTL := mk0 (show (l.take (wordN l)).length ≤ 70000 by have := HL.out; rw [List.length_take]; omega)
 generalize l.drop (wordN l) = rest at *
 generalize l.take (wordN l) = wd at *
 have HP1 := mk0 (fun (W1 : World) => Tryz.strings_CutPrefix ⟨wd.toArray⟩ ⟨#[36]⟩ W1)
 have HP2 := mk0 (fun (W1 : World) => Tryz.strings_CutPrefix ⟨wd.toArray⟩ ⟨#[35]⟩ W1)
 rw [show (ByteArray.mk wd.toArray).data.toList = wd from rfl, show (ByteArray.mk #[36]).data.toList = [36] from rfl] at HP1
 rw [show (ByteArray.mk wd.toArray).data.toList = wd from rfl, show (ByteArray.mk #[35]).data.toList = [35] from rfl] at HP2
 have HTZ := mk0 (show (ByteArray.mk (Lib.trimPrefix wd [36]).toArray).size ≤ 70000 by
  show (Lib.trimPrefix wd [36]).toArray.size ≤ 70000
  rw [List.size_toArray]; have := trim_len wd [36]; have := HTL.out; omega)
 have HN := mk0 (fun (W1 : World) => number0_calls ⟨(Lib.trimPrefix wd [36]).toArray⟩ W1 HTZ.out)
 rw [show (ByteArray.mk (Lib.trimPrefix wd [36]).toArray).data.toList = Lib.trimPrefix wd [36] from rfl] at HN
 go_wp2_with fail
 refine (HP1.out _).mono ?_
 rintro E w3 ⟨rfl, hw⟩
 subst hw
 cases q1 : Lib.hasPrefix wd [36] with
 | true =>
  have HQ1 := mk0 q1
  clear q1 HP1 HP2
  go_wp2_with fail
  refine (HN.out _).mono ?_
  rintro E w4 ⟨rfl, hb⟩
  have HF4 := mk0 ((HF2.out).below hb)
  clear hb HF2 HN
  cases q2 : numOk (Lib.trimPrefix wd [36]) with
  | true =>
   have HV := mk0 (show hdW e1 e2 wd rest = some ((0, num0V (Lib.trimPrefix wd [36])), rest) by unfold hdW; rw [if_pos HQ1.out, if_pos q2])
   clear q2
   generalize num0V (Lib.trimPrefix wd [36]) = nv at *
   obtain ⟨⟨c0, c1, c2⟩, f0, f1, f2⟩ := (HF4.out).cells
   have HB0 := mk0 (blk_set (blk_set (blk_set (HF4.out).h2 0 (.int .i64 0)) 1 (.int .i64 nv)) 2 (.slice none 0 0))
   have HK0 := mk0 ((((HF4.out).kr.far HLT.out (Nat.le_refl _) 0 (.int .i64 0)).far HLT.out (Nat.le_refl _) 1 (.int .i64 nv)).far HLT.out (Nat.le_refl _) 2 (.slice none 0 0))
   have HR0 := mk0 ((((HF4.out).rm.rt.far (g := W.heap.size) (by have := HLT.out; omega) 0 (.int .i64 0)).far (g := W.heap.size) (by have := HLT.out; omega) 1 (.int .i64 nv)).far (g := W.heap.size) (by have := HLT.out; omega) 2 (.slice none 0 0))
   go_wp2
   refine bodyPost_ret (results_single rfl (.cell W.heap.size 50 #[.int .i64 0, .int .i64 nv, .slice none 0 0] (0, 0) _ rfl HB0.out Tryz.underlying50 rfl (by kernel_rfl) .nil)) rfl ?_
   exact ⟨HK0.out, .inr ⟨0, nv, rest, HDR.out.trans HV.out, rfl, HR0.out⟩⟩
  | false =>
   have HV := mk0 (show hdW e1 e2 wd rest = none by unfold hdW; rw [if_pos HQ1.out, if_neg (by rw [q2]; exact l16_)])
   have HK := mk0 (HF4.out).kr
   clear q2
   go_wp2
   exact ⟨rfl, HK.out, .inl ⟨HDR.out.trans HV.out, rfl⟩⟩
 | false =>
  have HQ1 := mk0 q1
  clear q1 HP1 HN HTZ
  have HTZ := mk0 (show (ByteArray.mk (Lib.trimPrefix wd [35]).toArray).size ≤ 70000 by
   show (Lib.trimPrefix wd [35]).toArray.size ≤ 70000
   rw [List.size_toArray]; have := trim_len wd [35]; have := HTL.out; omega)
  have HK := mk0 (fun (W : World) (hW : Below w3.heap.size w3 W) => And.intro (aP_ hW (HF2.out).rm.rt.cells.2.1) (aP_ hW (HF2.out).rm.rt.cells.2.2))
  have hd := below_drew (Below.refl w3.heap.size w3)
  go_upto_region 8 with (fail)
  go_region_held3 (fun w' => w'.cell? ⟨b, 1, none⟩ = some (.map (some B1)) ∧ w'.cell? ⟨b, 2, none⟩ = some (.map (some B2))) (first | exact HK.out _ hd | fail) (first | fail)
  have HF3 := mk0 ((HF2.out).below hd)
  clear hd HK HF2
  generalize w3.drew = w4 at *
  go_wp2_with fail
  refine (HP2.out _).mono ?_
  rintro E w5 ⟨rfl, hw⟩
  subst hw
  generalize hx : (ByteArray.mk (Lib.trimPrefix wd [35]).toArray) = x at *
  have HX := mk0 hx
  have HDOM := mk0 (show sdom x from by unfold sdom maxLen; have := HTZ.out; omega)
  have HNM := mk0 (fun (W1 : World) => name_calls x W1)
  clear hx HP2
  cases q3 : Lib.hasPrefix wd [35] with
  | false =>
   have HQ3 := mk0 q3
   clear q3
   have hl := MapIs.look (HF3.out).rm.i2 keyStr Tryz.underlying90 (zero3 w5) HDOM.out true
   cases qm : mget x e2 with
   | none =>
    rw [qm] at hl
    simp only [if_true] at hl
    have HV := mk0 (show hdW e1 e2 wd rest = none by unfold hdW; rw [if_neg (by rw [HQ1.out]; exact l16_), HX.out, if_neg (by rw [HQ3.out]; exact l16_), if_neg (by rw [HQ3.out]; exact l16_), qm])
    have HK := mk0 (HF3.out).kr
    clear qm
    go_wp2
    exact ⟨rfl, HK.out, .inl ⟨HDR.out.trans HV.out, rfl⟩⟩
   | some nv =>
    rw [qm] at hl
    simp only [if_true] at hl
    unfold ki at hl
    have HQM := mk0 qm
    clear qm
    go_wp2_with fail
    refine (HNM.out _).mono ?_
    rintro E w6 ⟨rfl, hb⟩
    have HF6 := mk0 ((HF3.out).below hb)
    clear hb HF3 HNM hl
    cases qn : nameB x with
    | false =>
     have HV := mk0 (show hdW e1 e2 wd rest = none by unfold hdW; rw [if_neg (by rw [HQ1.out]; exact l16_), HX.out, if_neg (by rw [HQ3.out]; exact l16_), if_neg (by rw [HQ3.out]; exact l16_), HQM.out]; simp only; rw [if_neg (by rw [qn]; exact l16_)])
     have HK := mk0 (HF6.out).kr
     clear qn
     go_wp2
     exact ⟨rfl, HK.out, .inl ⟨HDR.out.trans HV.out, rfl⟩⟩
    | true =>
     have HV := mk0 (show hdW e1 e2 wd rest = some ((1, nv), rest) by unfold hdW; rw [if_neg (by rw [HQ1.out]; exact l16_), HX.out, if_neg (by rw [HQ3.out]; exact l16_), if_neg (by rw [HQ3.out]; exact l16_), HQM.out]; simp only; rw [if_pos qn])
     clear qn
     obtain ⟨⟨c0, c1, c2⟩, f0, f1, f2⟩ := (HF6.out).cells
     have HB0 := mk0 (blk_set (blk_set (blk_set (HF6.out).h2 0 (.int .i64 1)) 1 (.int .i64 nv)) 2 (.slice none 0 0))
     have HK0 := mk0 ((((HF6.out).kr.far HLT.out (Nat.le_refl _) 0 (.int .i64 1)).far HLT.out (Nat.le_refl _) 1 (.int .i64 nv)).far HLT.out (Nat.le_refl _) 2 (.slice none 0 0))
     have HR0 := mk0 ((((HF6.out).rm.rt.far (g := W.heap.size) (by have := HLT.out; omega) 0 (.int .i64 1)).far (g := W.heap.size) (by have := HLT.out; omega) 1 (.int .i64 nv)).far (g := W.heap.size) (by have := HLT.out; omega) 2 (.slice none 0 0))
     go_wp2
     refine bodyPost_ret (results_single rfl (.cell W.heap.size 50 #[.int .i64 1, .int .i64 nv, .slice none 0 0] (0, 0) _ rfl HB0.out Tryz.underlying50 rfl (by kernel_rfl) .nil)) rfl ?_
     exact ⟨HK0.out, .inr ⟨1, nv, rest, HDR.out.trans HV.out, rfl, HR0.out⟩⟩
  | true =>
   have HQ3 := mk0 q3
   clear q3
   have HK := mk0 (fun (W : World) (hW : Below w5.heap.size w5 W) => And.intro (aP_ hW (HF3.out).rm.rt.cells.2.1) (aP_ hW (HF3.out).rm.rt.cells.2.2))
   have hd := below_drew (Below.refl w5.heap.size w5)
   go_upto_region 11 with (fail)
   go_region_held3 (fun w' => w'.cell? ⟨b, 1, none⟩ = some (.map (some B1)) ∧ w'.cell? ⟨b, 2, none⟩ = some (.map (some B2))) (first | exact HK.out _ hd | fail) (first | fail)
   have HF4 := mk0 ((HF3.out).below hd)
   clear hd HK HF3
   generalize w5.drew = w7 at *
   have hl := MapIs.look (HF4.out).rm.i1 keyStr Tryz.underlying90 (zero3 w7) HDOM.out true
   cases qm : mget x e1 with
   | none =>
    rw [qm] at hl
    simp only [if_true] at hl
    have HV := mk0 (show hdW e1 e2 wd rest = none by unfold hdW; rw [if_neg (by rw [HQ1.out]; exact l16_), HX.out, if_pos HQ3.out, if_pos HQ3.out, qm])
    have HK := mk0 (HF4.out).kr
    clear qm
    go_wp2
    exact ⟨rfl, HK.out, .inl ⟨HDR.out.trans HV.out, rfl⟩⟩
   | some nv =>
    rw [qm] at hl
    simp only [if_true] at hl
    unfold ki at hl
    have HQM := mk0 qm
    clear qm
    go_wp2_with fail
    refine (HNM.out _).mono ?_
    rintro E w6 ⟨rfl, hb⟩
    have HF6 := mk0 ((HF4.out).below hb)
    clear hb HF4 HNM hl
    cases qn : nameB x with
    | false =>
     have HV := mk0 (show hdW e1 e2 wd rest = none by unfold hdW; rw [if_neg (by rw [HQ1.out]; exact l16_), HX.out, if_pos HQ3.out, if_pos HQ3.out, HQM.out]; simp only; rw [if_neg (by rw [qn]; exact l16_)])
     have HK := mk0 (HF6.out).kr
     clear qn
     go_wp2
     exact ⟨rfl, HK.out, .inl ⟨HDR.out.trans HV.out, rfl⟩⟩
    | true =>
     have HV := mk0 (show hdW e1 e2 wd rest = some ((2, nv), rest) by unfold hdW; rw [if_neg (by rw [HQ1.out]; exact l16_), HX.out, if_pos HQ3.out, if_pos HQ3.out, HQM.out]; simp only; rw [if_pos qn])
     clear qn
     obtain ⟨⟨c0, c1, c2⟩, f0, f1, f2⟩ := (HF6.out).cells
     have HB0 := mk0 (blk_set (blk_set (blk_set (HF6.out).h2 0 (.int .i64 2)) 1 (.int .i64 nv)) 2 (.slice none 0 0))
     have HK0 := mk0 ((((HF6.out).kr.far HLT.out (Nat.le_refl _) 0 (.int .i64 2)).far HLT.out (Nat.le_refl _) 1 (.int .i64 nv)).far HLT.out (Nat.le_refl _) 2 (.slice none 0 0))
     have HR0 := mk0 ((((HF6.out).rm.rt.far (g := W.heap.size) (by have := HLT.out; omega) 0 (.int .i64 2)).far (g := W.heap.size) (by have := HLT.out; omega) 1 (.int .i64 nv)).far (g := W.heap.size) (by have := HLT.out; omega) 2 (.slice none 0 0))
     go_wp2
     refine bodyPost_ret (results_single rfl (.cell W.heap.size 50 #[.int .i64 2, .int .i64 nv, .slice none 0 0] (0, 0) _ rfl HB0.out Tryz.underlying50 rfl (by kernel_rfl) .nil)) rfl ?_
     exact ⟨HK0.out, .inr ⟨2, nv, rest, HDR.out.trans HV.out, rfl, HR0.out⟩⟩
theorem hdR_le {e1 e2 : Ents} {l r : List UInt8} {p : Int × Int} (h : hdR e1 e2 l = some (p, r)) : r.length ≤ l.length := by
 unfold hdR hdW at h
 have hd : (l.drop (wordN l)).length ≤ l.length := by rw [l9_]; omega
 split at h
 ·split at h
  ·cases h; exact hd
  ·cases h
 ·split at h
  ·cases h
  ·split at h
   ·cases h; exact hd
   ·cases h
def tmP (e1 e2 : Ents) : Nat → Int × Int → List S50 → List UInt8 → Option (S50 × List UInt8)
 | 0, _, _, _ => none
 | n + 1, kn, acc, l =>
  if Lib.hasPrefix l [32] = true then
   (if Lib.hasPrefix (l.drop 1) [40] = true then
    (hdR e1 e2 ((l.drop 1).drop 1)).bind fun p => (tmP e1 e2 n p.1 [] p.2).bind fun q =>
     if q.1.f2.length = 0 then none else if Lib.hasPrefix q.2 [41] = true then tmP e1 e2 n kn (acc ++ [q.1]) (q.2.drop 1) else none
   else (hdR e1 e2 (l.drop 1)).bind fun p => tmP e1 e2 n kn (acc ++ [⟨p.1.1, p.1.2, []⟩]) p.2)
  else some (⟨kn.1, kn.2, acc⟩, l)
theorem tmP_le (e1 e2 : Ents) (n : Nat) : ∀ (kn : Int × Int) (acc : List S50) (l : List UInt8) (p : S50 × List UInt8), tmP e1 e2 n kn acc l = some p → p.2.length ≤ l.length := by
 induction n with
 | zero => intro kn acc l p h; simp [tmP] at h
 | succ n ih =>
  intro kn acc l p h
  rw [tmP] at h
  split at h
  ·split at h
   ·obtain ⟨a, ha, h⟩ := Option.bind_eq_some_iff.1 h
    obtain ⟨q, hq, h⟩ := Option.bind_eq_some_iff.1 h
    have h1 := hdR_le ha
    have h2 := ih _ _ _ _ hq
    rw [l9_, l9_] at h1
    split at h
    ·cases h
    ·split at h
     ·have h3 := ih _ _ _ _ h
      rw [l9_] at h3
      omega
     ·cases h
   ·obtain ⟨a, ha, h⟩ := Option.bind_eq_some_iff.1 h
    have h1 := hdR_le ha
    have h2 := ih _ _ _ _ h
    rw [l9_] at h1
    omega
  ·cases h
   exact Nat.le_refl _
theorem tmP_fuel (e1 e2 : Ents) (n : Nat) : ∀ (m : Nat) (kn : Int × Int) (acc : List S50) (l : List UInt8), l.length < n → l.length < m → tmP e1 e2 n kn acc l = tmP e1 e2 m kn acc l := by
 induction n with
 | zero => intro m kn acc l h; omega
 | succ n ih =>
  intro m kn acc l h1 h2
  cases m with
  | zero => omega
  | succ m =>
   rw [tmP, tmP]
   by_cases q : Lib.hasPrefix l [32] = true
   ·have hl := hp_len q
    simp only [l8_, List.length_nil] at hl
    rw [if_pos q, if_pos q]
    by_cases q2 : Lib.hasPrefix (l.drop 1) [40] = true
    ·rw [if_pos q2, if_pos q2]
     cases e : hdR e1 e2 ((l.drop 1).drop 1) with
     | none => rfl
     | some p =>
      have h3 := hdR_le e
      rw [l9_, l9_] at h3
      simp only [l21_]
      rw [ih m p.1 [] p.2 (by omega) (by omega)]
      cases e2 : tmP e1 _ m p.1 [] p.2 with
      | none => rfl
      | some q =>
       have h4 := tmP_le _ _ _ _ _ _ _ e2
       simp only [l21_]
       rw [ih m _ _ (q.2.drop 1) (by rw [l9_]; omega) (by rw [l9_]; omega)]
    ·rw [if_neg q2, if_neg q2]
     cases e : hdR e1 e2 (l.drop 1) with
     | none => rfl
     | some p =>
      have h3 := hdR_le e
      rw [l9_] at h3
      simp only [l21_]
      rw [ih m _ _ p.2 (by omega) (by omega)]
   ·rw [if_neg q, if_neg q]
def tmA (e1 e2 : Ents) (kn : Int × Int) (acc : List S50) (l : List UInt8) : Option (S50 × List UInt8) := tmP e1 e2 (l.length + 1) kn acc l
def tmR (e1 e2 : Ents) (l : List UInt8) : Option (S50 × List UInt8) := (hdR e1 e2 l).bind fun p => tmA e1 e2 p.1 [] p.2
theorem tmR_le {e1 e2 : Ents} {l : List UInt8} {p : S50 × List UInt8} (h : tmR e1 e2 l = some p) : p.2.length ≤ l.length := by
 obtain ⟨a, ha, h⟩ := Option.bind_eq_some_iff.1 h
 exact Nat.le_trans (tmP_le _ _ _ _ _ _ _ h) (hdR_le ha)
theorem tmA_end {e1 e2 : Ents} {kn : Int × Int} {acc : List S50} {l : List UInt8} (h : Lib.hasPrefix l [32] = false) : tmA e1 e2 kn acc l = some (⟨kn.1, kn.2, acc⟩, l) := by
 unfold tmA; rw [tmP, if_neg (by rw [h]; exact l16_)]
theorem tmA_head {e1 e2 : Ents} {kn : Int × Int} {acc : List S50} {l : List UInt8} (h : Lib.hasPrefix l [32] = true) (h2 : Lib.hasPrefix (l.drop 1) [40] = false) :
  tmA e1 e2 kn acc l = (hdR e1 e2 (l.drop 1)).bind fun p => tmA e1 e2 kn (acc ++ [⟨p.1.1, p.1.2, []⟩]) p.2 := by
 have hl := hp_len h
 simp only [l8_, List.length_nil] at hl
 unfold tmA
 rw [tmP, if_pos h, if_neg (by rw [h2]; exact l16_)]
 cases e : hdR e1 e2 (l.drop 1) with
 | none => rfl
 | some p =>
  have h3 := hdR_le e
  rw [l9_] at h3
  simp only [l21_]
  exact tmP_fuel _ _ _ _ _ _ _ (by omega) (by omega)
theorem tmA_sub {e1 e2 : Ents} {kn : Int × Int} {acc : List S50} {l : List UInt8} (h : Lib.hasPrefix l [32] = true) (h2 : Lib.hasPrefix (l.drop 1) [40] = true) :
  tmA e1 e2 kn acc l = (tmR e1 e2 ((l.drop 1).drop 1)).bind fun q => if q.1.f2.length = 0 then none else if Lib.hasPrefix q.2 [41] = true then tmA e1 e2 kn (acc ++ [q.1]) (q.2.drop 1) else none := by
 have hl := hp_len h
 have hl2 := hp_len h2
 rw [l9_] at hl2
 simp only [l8_, List.length_nil] at hl hl2
 unfold tmR tmA
 rw [tmP, if_pos h, if_pos h2]
 cases e : hdR e1 e2 ((l.drop 1).drop 1) with
 | none => rfl
 | some p =>
  have h3 := hdR_le e
  rw [l9_, l9_] at h3
  simp only [l21_]
  rw [tmP_fuel _ _ l.length (p.2.length + 1) p.1 [] p.2 (by omega) (by omega)]
  cases e2 : tmP e1 _ (p.2.length + 1) p.1 [] p.2 with
  | none => rfl
  | some q =>
   have h4 := tmP_le _ _ _ _ _ _ _ e2
   simp only [l21_]
   rw [tmP_fuel _ _ l.length ((q.2.drop 1).length + 1) _ _ (q.2.drop 1) (by rw [l9_]; omega) (by omega)]
def TmQ (b : Nat) (l : List UInt8) (B1 B2 : Nat) (e1 e2 : Ents) (W : World) (E : Ending) (w' : World) : Prop :=
 KR b W w' ∧ (tmR e1 e2 l = none ∧ E = pwrong ∨ ∃ t r v, tmR e1 e2 l = some (t, r) ∧ E = .returned (.agg #[.int .i64 t.f0, .int .i64 t.f1, v]) ∧ Kd.R k50 50 w' W.heap.size (fun k => W.heap.size ≤ k) v t.f2 ∧ RT b r (.map (some B1)) (.map (some B2)) w')
structure FT (b : Nat) (l : List UInt8) (B1 B2 : Nat) (e1 e2 : Ents) (W W1 : World) (g : Nat) (kn : Int × Int) (acc : List S50) (A : Option Addr) (c : Nat) : Prop where
 rm : RM b l B1 B2 e1 e2 W1
 h2 : W1.heap[W.heap.size]? = some (.cells #[.int .i64 0, .int .i64 0, .slice none 0 0] 50 (0, 0))
 h3 : W1.heap[g]? = some (.cells #[.int .i64 kn.1, .int .i64 kn.2, .slice A acc.length c] 50 (0, 0))
 row : Kd.R k50 50 W1 W.heap.size (fun k => g < k) (.slice A acc.length c) acc
 kr : KR b W W1
 lt : b < W.heap.size
 lt3 : W.heap.size < g
section
variable {b B1 B2 g : Nat} {l l2 : List UInt8} {e1 e2 : Ents} {W W1 W2 : World} {kn : Int × Int} {acc : List S50} {A : Option Addr} {c : Nat}
theorem FT.call (h : FT b l B1 B2 e1 e2 W W1 g kn acc A c) (hr : RT b l2 (.map (some B1)) (.map (some B2)) W2) (hk : KR b W1 W2) : FT b l2 B1 B2 e1 e2 W W2 g kn acc A c :=
 ⟨h.rm.call hr hk, hk.blk (by have := h.lt; omega) h.h2, hk.blk (by have := h.lt; have := h.lt3; omega) h.h3, hk.rr h.row (fun k hk => by have := h.lt; have := h.lt3; omega), h.kr.trans hk, h.lt, h.lt3⟩
theorem FT.below (h : FT b l B1 B2 e1 e2 W W1 g kn acc A c) (hb : Below W1.heap.size W1 W2) : FT b l B1 B2 e1 e2 W W2 g kn acc A c :=
 h.call (h.rm.rt.keep hb) (KR.below (Nat.le_of_lt h.rm.lt) hb)
theorem FT.set (h : FT b l B1 B2 e1 e2 W W1 g kn acc A c) (s : ByteArray) : FT b s.data.toList B1 B2 e1 e2 W (W1.setCell ⟨b, 0, none⟩ (.string s)) g kn acc A c :=
 h.call (h.rm.rt.set s) ((KR.refl b W1).set 0 _)
theorem FT.push {a : S50} {A2 : Option Addr} {c2 : Nat} (h : FT b l B1 B2 e1 e2 W W1 g kn acc A c) (ho : Kd.R k50 50 W2 W.heap.size (fun k => g < k) (.slice A2 (acc ++ [a]).length c2) (acc ++ [a])) (hb : Below W.heap.size W1 W2) (hg : W1.grownBy W2 (Value.slice A acc.length c).ownBlock) :
  FT b l B1 B2 e1 e2 W (W2.setCell ⟨g, 2, none⟩ (.slice A2 (acc.length + 1) c2)) g kn (acc ++ [a]) A2 c2 := by
 rw [show acc.length + 1 = (acc ++ [a]).length from by simp]
 have hrow : ∀ k, (Value.slice A acc.length c).ownBlock = some k → g < k := h.row.1
 have hlt := h.lt
 have hlt3 := h.lt3
 have h2 := blk_grown h.h2 hg (fun e => by have := hrow _ e.symm; omega)
 have h3 := blk_grown h.h3 hg (fun e => by have := hrow _ e.symm; omega)
 have h4 := blk_grown h.rm.rt.blk hg (fun e => by have := hrow _ e.symm; omega)
 have hm : ∀ B es, B ≠ g → MapIs W1 B Value.string ki sdom es → MapIs (W2.setCell ⟨g, 2, none⟩ (.slice A2 (acc ++ [a]).length c2)) B Value.string ki sdom es := by
  intro B es hB hM
  refine (hM.grown hg (fun e => ?_)).far hB _
  obtain ⟨cc, hcc⟩ := Kd.R_typed h.row _ e.symm
  exact hM.ne_row hcc rfl
 have n1 : B1 ≠ g := fun e => h.rm.i1.ne_row h.h3 e.symm
 have n2 : B2 ≠ g := fun e => h.rm.i2.ne_row h.h3 e.symm
 refine ⟨⟨⟨aT_ h4 (by show b ≠ g; omega) _⟩, hm B1 e1 n1 h.rm.i1, hm B2 e2 n2 h.rm.i2, h.rm.n1, h.rm.n2⟩, aT_ h2 (by show W.heap.size ≠ g; omega) _, blk_set h3 2 _, Kd.R_far ho (fun k hk => by show k ≠ g; omega) _, ⟨?_, ?_, ?_⟩, hlt, hlt3⟩
 ·exact (Below.trans h.kr.lo (Below.mono hb (Nat.le_of_lt hlt))).setCell (p := ⟨g, 2, none⟩) (by show b ≤ g; omega) _
 ·have := Nat.le_trans h.kr.keep.1 hb.size
  simpa [World.setCell] using this
 ·intro i hi hne _
  rw [Below.heap_setCell W2 ⟨g, 2, none⟩ _ i (by show i ≠ g; omega)]
  exact (hb.block i hi).trans (h.kr.keep.2 i hi hne (by simp))
theorem FT.cells (h : FT b l B1 B2 e1 e2 W W1 g kn acc A c) : (W1.cell? ⟨W.heap.size, 0, none⟩ = some (.int .i64 0) ∧ W1.cell? ⟨W.heap.size, 1, none⟩ = some (.int .i64 0) ∧ W1.cell? ⟨W.heap.size, 2, none⟩ = some (.slice none 0 0)) ∧ (W1.cell? ⟨g, 0, none⟩ = some (.int .i64 kn.1) ∧ W1.cell? ⟨g, 1, none⟩ = some (.int .i64 kn.2) ∧ W1.cell? ⟨g, 2, none⟩ = some (.slice A acc.length c)) ∧ W1.frozen? ⟨W.heap.size, 0, none⟩ = false ∧ W1.frozen? ⟨W.heap.size, 1, none⟩ = false ∧ W1.frozen? ⟨W.heap.size, 2, none⟩ = false ∧ W1.frozen? ⟨g, 2, none⟩ = false :=
 ⟨⟨(aC_ h.h2 0).trans rfl, (aC_ h.h2 1).trans rfl, (aC_ h.h2 2).trans rfl⟩, ⟨(aC_ h.h3 0).trans rfl, (aC_ h.h3 1).trans rfl, (aC_ h.h3 2).trans rfl⟩, aJ_ h.h2 0, aJ_ h.h2 1, aJ_ h.h2 2, aJ_ h.h3 2⟩
end
set_option maxHeartbeats 8000000 in
set_option maxRecDepth 100000 in
theorem rtm_calls (b : Nat) (B1 B2 : Nat) (e1 e2 : Ents) (N : Nat) : ∀ (l : List UInt8) (W : World), l.length < N → N ≤ 70000 → RM b l B1 B2 e1 e2 W → Calls Tryz.prog 60 #[.pointer (some ⟨b, 0, none⟩)] W (TmQ b l B1 B2 e1 e2 W) := by
 induction N with
 | zero => intro l W h; omega
 | succ N ih =>
  intro l W hN hN7 hRM
  have IH := mk0 ih
  have HN := mk0 (show l.length < N + 1 ∧ N + 1 ≤ 70000 from ⟨hN, hN7⟩)
  have HLT := mk0 hRM.lt
  have HF := mk0 (FH.mk (hRM.keep (aA_ (Below.refl W.heap.size W) (.cells #[.int .i64 0, .int .i64 0, .slice none 0 0] 50))) (aU_ W _) (KR.below (Nat.le_of_lt hRM.lt) (aA_ (Below.refl W.heap.size W) (.cells #[.int .i64 0, .int .i64 0, .slice none 0 0] 50))) hRM.lt)
  have HSZ1 := mk0 (show W.heap.size < (W.alloc (.cells #[.int .i64 0, .int .i64 0, .slice none 0 0] 50)).heap.size by simp)
  clear ih hN hN7 hRM
  go_enter Tryz.func60, Tryz.ntmps60
  go_upto_region 1 with (fail)
  generalize (W.alloc (.cells #[.int .i64 0, .int .i64 0, .slice none 0 0] 50)) = W1 at *
  have HH := mk0 (rhd_calls b l B1 B2 e1 e2 W1 (HF.out).rm (by have := HN.out; omega))
  go_wp2_with fail
  refine (HH.out).mono ?_
  rintro E w2 ⟨hk, hE⟩
  rcases hE with ⟨hn, rfl⟩ | ⟨k, n, r, hv, rfl, hr⟩
  ·have HK := mk0 ((HF.out).kr.trans hk)
   have HV := mk0 (show tmR e1 e2 l = none by unfold tmR; rw [hn]; rfl)
   clear hn hk HF HH
   unfold pwrong
   go_wp2
   exact ⟨rfl, HK.out, .inl ⟨HV.out, rfl⟩⟩
  ·have HF2 := mk0 ((HF.out).call hr hk)
   have HSZ2 := mk0 (show W.heap.size < w2.heap.size from l12_ HSZ1.out hk.keep.1)
   have HV := mk0 (show tmR e1 e2 l = tmA e1 e2 (k, n) [] r by unfold tmR; rw [hv]; rfl)
   have HLR := mk0 (hdR_le hv)
   clear hr hk hv HF HH HSZ1
   go_upto_region 2 with (fail)
   have HFT := mk0 (show FT b r B1 B2 e1 e2 W (w2.alloc (.cells #[.int .i64 k, .int .i64 n, .slice none 0 0] 50)) w2.heap.size (k, n) [] none 0 from by
    have h := (HF2.out).below (aA_ (Below.refl w2.heap.size w2) (.cells #[.int .i64 k, .int .i64 n, .slice none 0 0] 50))
    exact ⟨h.rm, h.h2, aU_ w2 _, Kd.R_nil _ _ _ _ _, h.kr, h.lt, HSZ2.out⟩)
   clear HF2
   generalize (w2.alloc (.cells #[.int .i64 k, .int .i64 n, .slice none 0 0] 50)) = w3 at *
   generalize w2.heap.size = g at *
   go_loopg [] r.length (fun gg wi => ∃ (acc : List S50) (l1 : List UInt8) (A : Option Addr) (c : Nat), l1.length ≤ gg ∧ Aside0 (tmR e1 e2 l = tmA e1 e2 (k, n) acc l1) ∧ Aside0 (acc.length + l1.length ≤ r.length) ∧ Aside0 (FT b l1 B1 B2 e1 e2 W wi g (k, n) acc A c))
   case atStart => exact ⟨[], r, none, 0, Nat.le_refl _, HV, ⟨by simp⟩, HFT⟩
   case round =>
    clear HFT HV
    obtain ⟨acc, l1, A, c, hgg, HE, HL, HF⟩ := hrel
    obtain ⟨s, hs⟩ : ∃ s : ByteArray, s = ⟨l1.toArray⟩ := ⟨_, rfl⟩
    have HS := mk0 hs
    have HSD := mk0 (show s.data.toList = l1 by rw [hs])
    have c0 := (HF.out).rm.rt.cells.1.1
    have f0 := (HF.out).rm.rt.cells.1.2
    rw [← hs] at c0
    have HP := mk0 (fun (W1 : World) => Tryz.strings_HasPrefix s ⟨#[32]⟩ W1)
    rw [HSD.out, show (ByteArray.mk #[32]).data.toList = [32] from rfl] at HP
    clear hs
    go_wp2_with fail
    refine (HP.out _).mono ?_
    rintro E w4 ⟨rfl, hw⟩
    subst hw
    cases q : Lib.hasPrefix l1 [32] with
    | false =>
     have HV := mk0 (tmA_end (e1 := e1) (e2 := e2) (kn := (k, n)) (acc := acc) q)
     clear q c0 f0 HP HS HSD
     obtain ⟨⟨c0, c1, c2⟩, ⟨d0, d1, d2⟩, f0, f1, f2, _⟩ := (HF.out).cells
     have hlt := (HF.out).lt
     have HB0 := mk0 (blk_set (blk_set (blk_set (HF.out).h2 0 (.int .i64 k)) 1 (.int .i64 n)) 2 (.slice A acc.length c))
     have HK0 := mk0 ((((HF.out).kr.far hlt (Nat.le_refl _) 0 (.int .i64 k)).far hlt (Nat.le_refl _) 1 (.int .i64 n)).far hlt (Nat.le_refl _) 2 (.slice A acc.length c))
     have HR0 := mk0 ((((HF.out).rm.rt.far (g := W.heap.size) (by omega) 0 (.int .i64 k)).far (g := W.heap.size) (by omega) 1 (.int .i64 n)).far (g := W.heap.size) (by omega) 2 (.slice A acc.length c))
     have hne : ∀ q, g < q → q ≠ W.heap.size := fun q hq => by have := (HF.out).lt3; omega
     have HW0 := mk0 (Kd.R_far (p := ⟨W.heap.size, 2, none⟩) (Kd.R_far (p := ⟨W.heap.size, 1, none⟩) (Kd.R_far (p := ⟨W.heap.size, 0, none⟩) (HF.out).row hne (.int .i64 k)) hne (.int .i64 n)) hne (.slice A acc.length c))
     clear hlt hne
     go_wp2
     refine bodyPost_ret (results_single rfl (.cell W.heap.size 50 #[.int .i64 k, .int .i64 n, .slice A acc.length c] (0, 0) _ rfl HB0.out Tryz.underlying50 rfl (by kernel_rfl) .nil)) rfl ?_
     exact ⟨HK0.out, .inr ⟨⟨k, n, acc⟩, l1, .slice A acc.length c, HE.out.trans HV.out, rfl, Kd.R_mono HW0.out (fun q hq => by have := (HF.out).lt3; omega), HR0.out⟩⟩
    | true =>
     have HQ := mk0 q
     have HP1 := mk0 (hp_len q)
     have h1 : 1 ≤ s.size := by rw [Lib.size_eq, HSD.out]; exact hp_len q
     have HF1 := (HF.out).set (s.extract 1 s.size)
     have hx : (s.extract 1 s.size).data.toList = l1.drop 1 := by rw [Lib.extract_to_end, HSD.out]
     rw [hx] at HF1
     have HF1 := mk0 HF1
     have HX := mk0 hx
     clear q hx HP
     go_upto_region 4 with (fail)
     clear c0 f0 HF h1
     generalize (w4.setCell ⟨b, 0, none⟩ (.string (s.extract 1 s.size))) = w5 at *
     obtain ⟨s1, hs1⟩ : ∃ s1 : ByteArray, s.extract 1 s.size = s1 := ⟨_, rfl⟩
     rw [hs1] at HX
     clear hs1
     have hs1 : s1 = ⟨(l1.drop 1).toArray⟩ := ba_eq HX.out
     have c0 := (HF1.out).rm.rt.cells.1.1
     have f0 := (HF1.out).rm.rt.cells.1.2
     rw [← hs1] at c0
     have HP := mk0 (fun (W1 : World) => Tryz.strings_HasPrefix s1 ⟨#[40]⟩ W1)
     rw [HX.out, show (ByteArray.mk #[40]).data.toList = [40] from rfl] at HP
     clear hs1
     go_wp2_with fail
     refine (HP.out _).mono ?_
     rintro E w6 ⟨rfl, hw⟩
     subst hw
     cases q2 : Lib.hasPrefix (l1.drop 1) [40] with
     | false =>
      have HV := mk0 (tmA_head (e1 := e1) (e2 := e2) (kn := (k, n)) (acc := acc) HQ.out q2)
      have HH := mk0 (fun (W7 : World) (hW : Below w6.heap.size w6 W7) => rhd_calls b (l1.drop 1) B1 B2 e1 e2 W7 ((HF1.out).rm.keep hW) (by have := HL.out; have := HN.out; have := HLR.out; rw [l9_]; omega))
      clear c0 f0
      cases qh : hdR e1 e2 (l1.drop 1) with
      | none =>
       rw [qh] at HV
       have HV := mk0 (show tmR e1 e2 l = none from HE.out.trans HV.out)
       have HQH := mk0 qh
       have hq := (HF1.out).cells.2.1.2.2
       have hd := below_drew (Below.refl w6.heap.size w6)
       have HK := mk0 (fun (W7 : World) (hW : Below w6.heap.size w6 W7) => aP_ hW hq)
       clear hq
       have HKR := mk0 ((HF1.out).kr.trans (KR.below (Nat.le_of_lt (HF1.out).rm.lt) hd))
       go_upto_region 5 with (fail)
       have hq := HK.out _ hd
       refine wp_region_any (by kernel_rfl) ?_
       change wpAny _ _ _ _ _ _ _ (World.drew _)
       refine wpAny_ready (rs := [0, 2]) (by kernel_rfl) (by simp) ?_
       refine AllReady.cons rfl (fun K hK => ?_) ?_
       ·go_simp
        refine hK _ _ ?_
        clear hK K
        refine wpAny_ready (rs := [1, 2]) (by kernel_rfl) (by simp) ?_
        refine AllReady.cons rfl (fun K hK => ?_) ?_
        ·go_simp
         refine hK _ _ ?_
         clear hK K
         refine wpAny_ready (rs := [2]) (by kernel_rfl) (by simp) ?_
         refine AllReady.cons rfl (fun K hK => ?_) ?_
         ·go_simp
          refine hK _ _ ?_
          clear hK K
          refine wpAny_ready (rs := [3]) (by kernel_rfl) (by simp) ?_
          refine AllReady.cons rfl (fun K hK => ?_) ?_
          ·go_simp
           go_wp2_with (go_at_call 104; refine (HH.out _ hd).mono ?_; rintro E w8 ⟨hk, hE⟩; (rcases hE with ⟨_, rfl⟩ | ⟨k4, n4, r4, hv, _⟩); (exact ⟨rfl, (HKR.out).trans hk, .inl ⟨HV.out, rfl⟩⟩); (exact absurd (HQH.out.symm.trans hv) (by simp)))
          exact AllReady.nil
         exact AllReady.nil
        refine AllReady.cons rfl (fun K hK => ?_) ?_
        ·go_simp
         refine hK _ _ ?_
         clear hK K
         refine wpAny_ready (rs := [1, 3]) (by kernel_rfl) (by simp) ?_
         refine AllReady.cons rfl (fun K hK => ?_) ?_
         ·go_simp
          refine hK _ _ ?_
          clear hK K
          refine wpAny_ready (rs := [3]) (by kernel_rfl) (by simp) ?_
          refine AllReady.cons rfl (fun K hK => ?_) ?_
          ·go_simp
           go_wp2_with (go_at_call 104; refine (HH.out _ hd).mono ?_; rintro E w8 ⟨hk, hE⟩; (rcases hE with ⟨_, rfl⟩ | ⟨k4, n4, r4, hv, _⟩); (exact ⟨rfl, (HKR.out).trans hk, .inl ⟨HV.out, rfl⟩⟩); (exact absurd (HQH.out.symm.trans hv) (by simp)))
          exact AllReady.nil
         refine AllReady.cons rfl (fun K hK => ?_) ?_
         ·go_simp
          go_wp2_with (go_at_call 104; refine (HH.out _ hd).mono ?_; rintro E w8 ⟨hk, hE⟩; (rcases hE with ⟨_, rfl⟩ | ⟨k4, n4, r4, hv, _⟩); (exact ⟨rfl, (HKR.out).trans hk, .inl ⟨HV.out, rfl⟩⟩); (exact absurd (HQH.out.symm.trans hv) (by simp)))
         exact AllReady.nil
        exact AllReady.nil
       refine AllReady.cons rfl (fun K hK => ?_) ?_
       ·go_simp
        refine hK _ _ ?_
        clear hK K
        refine wpAny_ready (rs := [0, 3]) (by kernel_rfl) (by simp) ?_
        refine AllReady.cons rfl (fun K hK => ?_) ?_
        ·go_simp
         refine hK _ _ ?_
         clear hK K
         refine wpAny_ready (rs := [1, 3]) (by kernel_rfl) (by simp) ?_
         refine AllReady.cons rfl (fun K hK => ?_) ?_
         ·go_simp
          refine hK _ _ ?_
          clear hK K
          refine wpAny_ready (rs := [3]) (by kernel_rfl) (by simp) ?_
          refine AllReady.cons rfl (fun K hK => ?_) ?_
          ·go_simp
           go_wp2_with (go_at_call 104; refine (HH.out _ hd).mono ?_; rintro E w8 ⟨hk, hE⟩; (rcases hE with ⟨_, rfl⟩ | ⟨k4, n4, r4, hv, _⟩); (exact ⟨rfl, (HKR.out).trans hk, .inl ⟨HV.out, rfl⟩⟩); (exact absurd (HQH.out.symm.trans hv) (by simp)))
          exact AllReady.nil
         refine AllReady.cons rfl (fun K hK => ?_) ?_
         ·go_simp
          go_wp2_with (go_at_call 104; refine (HH.out _ hd).mono ?_; rintro E w8 ⟨hk, hE⟩; (rcases hE with ⟨_, rfl⟩ | ⟨k4, n4, r4, hv, _⟩); (exact ⟨rfl, (HKR.out).trans hk, .inl ⟨HV.out, rfl⟩⟩); (exact absurd (HQH.out.symm.trans hv) (by simp)))
         exact AllReady.nil
        refine AllReady.cons rfl (fun K hK => ?_) ?_
        ·go_simp
         go_wp2_with (go_at_call 104; refine (HH.out _ hd).mono ?_; rintro E w8 ⟨hk, hE⟩; (rcases hE with ⟨_, rfl⟩ | ⟨k4, n4, r4, hv, _⟩); (exact ⟨rfl, (HKR.out).trans hk, .inl ⟨HV.out, rfl⟩⟩); (exact absurd (HQH.out.symm.trans hv) (by simp)))
        exact AllReady.nil
       exact AllReady.nil
      | some p =>
       obtain ⟨⟨k4, n4⟩, r4⟩ := p
       rw [qh] at HV
       have HV := mk0 (show tmR e1 e2 l = tmA e1 e2 (k, n) (acc ++ [⟨k4, n4, []⟩]) r4 from HE.out.trans HV.out)
       have HR4 := mk0 (hdR_le qh)
       have hq := (HF1.out).cells.2.1.2.2
       have hd := below_drew (Below.refl w6.heap.size w6)
       have HK := mk0 (fun (W7 : World) (hW : Below w6.heap.size w6 W7) => aP_ hW hq)
       have HH2 : Aside0 (Calls Tryz.prog 104 #[.pointer (some ⟨b, 0, none⟩)] w6.drew fun E w' => E = .returned (.agg #[.int .i64 k4, .int .i64 n4, .slice none 0 0]) ∧ RT b r4 (.map (some B1)) (.map (some B2)) w' ∧ KR b w6.drew w') := ⟨(HH.out _ hd).mono fun E w' hE => by
        obtain ⟨hk, ⟨h0, _⟩ | ⟨k5, n5, r5, hv, rfl, hr⟩⟩ := hE
        ·rw [qh] at h0; cases h0
        ·rw [qh] at hv
         cases hv
         exact ⟨rfl, hr, hk⟩⟩
       have HFD := mk0 ((HF1.out).below hd)
       have HLB := mk0 (show (acc.length + 1) * 40 ≤ 140737488355328 by have := HL.out; have := HN.out; have := HLR.out; omega)
       clear hq qh
       go_upto_region 5 with (fail)
       have hq := HK.out _ hd
       refine wp_region_noPanic ?_
       go_region_law (first
        | (go_simp; go_at_call 104; refine (HH2.out).mono ?_; rintro E w8 ⟨rfl, hr, hk⟩; have HF8 := mk0 ((HFD.out).call hr hk); clear hr hk; have m2 := (HF8.out).cells.2.1.2.2; have l0 := aP_ (aA_ (Below.refl w8.heap.size w8) (.cells #[.int .i64 k4, .int .i64 n4, .slice none 0 0] 50)) m2)
        | (refine Kd.R_append_step k50 (w0 := w8) (W := w8) W.heap.size (by simp [Region.wanted]) (.tmp 27) (.tmp 30) 48 50 (.agg #[.int .i64 0, .int .i64 0, .slice none 0 0]) 40 rfl Tryz.underlying48 Q.info50 rfl (show 0 < 3 by decide) (by decide) (.slice A acc.length c) acc (⟨k4, n4, []⟩ : S50) [.int .i64 k4, .int .i64 n4, .slice none 0 0] (fun k => g < k) (fun _ => False) (by rfl) (by rfl) (Q.k50_mkM _ _ _ (⟨k4, n4, []⟩ : S50) (Kd.R_nil _ _ _ _ _)) (fun _ hk => hk.elim) (fun k hk => l12_ (blk_lt (HF8.out).h3) hk) (HF8.out).row (Below.refl _ _) (by have := (HF8.out).lt3; have := blk_lt (HF8.out).h3; omega) HLB.out ?_; intro v5 w9 ho5 hb5 hg5 hat5; (obtain ⟨A9, c9, rfl⟩ := Kd.R_slice ho5); have HF9 := mk0 ((HF8.out).push ho5 hb5 hg5); have h6 := (blk_grown (HF8.out).h3 hg5 (fun e => by have := (HF8.out).row.1 _ e.symm; omega)); have c6 : w9.cell? ⟨g, 2, none⟩ = some (.slice A acc.length c) := (aC_ h6 2).trans rfl; have f6 : w9.frozen? ⟨g, 2, none⟩ = false := aJ_ h6 2; clear h6 ho5 hb5 hg5 hat5)
        | fail)
       all_goals
        refine NoPanic.normal ?_
        go_wp2
        go_roundg r4.length
        case measure => have := HR4.out; have := HP1.out; rw [l9_] at *; simp only [l8_, List.length_nil] at *; omega
        case rel => exact ⟨acc ++ [⟨k4, n4, []⟩], r4, A9, c9, Nat.le_refl _, HV, ⟨by have h1 := HR4.out; have h2 := HP1.out; have h3 := HL.out; rw [l9_] at h1; simp only [l8_, List.length_nil] at h2; rw [l7_, l10_]; omega⟩, HF9⟩
     | true =>
      have HV := mk0 (tmA_sub (e1 := e1) (e2 := e2) (kn := (k, n)) (acc := acc) HQ.out q2)
      have HP2 := mk0 (hp_len q2)
      have h1 : 1 ≤ s1.size := by rw [Lib.size_eq, HX.out]; exact hp_len q2
      have HF2 := (HF1.out).set (s1.extract 1 s1.size)
      have hx : (s1.extract 1 s1.size).data.toList = (l1.drop 1).drop 1 := by rw [Lib.extract_to_end, HX.out]
      rw [hx] at HF2
      have HF2 := mk0 HF2
      clear q2 hx HP
      go_upto_region 7 with (fail)
      clear c0 f0 HF1 h1
      generalize (w6.setCell ⟨b, 0, none⟩ (.string (s1.extract 1 s1.size))) = w7 at *
      have HLB := mk0 (show (acc.length + 1) * 40 ≤ 140737488355328 by have := HL.out; have := HN.out; have := HLR.out; omega)
      have HLD := mk0 (show ((l1.drop 1).drop 1).length + 2 ≤ l1.length from by
       have h1 := HP1.out
       have h2 := HP2.out
       rw [l9_] at h2
       rw [l9_, l9_]
       simp only [l8_, List.length_nil] at h1 h2
       omega)
      generalize (l1.drop 1).drop 1 = l3 at *
      have HR := mk0 (IH.out l3 w7 (by have := HN.out; have := HL.out; have := HLD.out; have := HLR.out; omega) (by have := HN.out; omega) (HF2.out).rm)
      have HG7 := mk0 (show g < w7.heap.size from blk_lt (HF2.out).h3)
      go_wp2_with fail
      refine (HR.out).mono ?_
      rintro E w8 ⟨hk, hE⟩
      rcases hE with ⟨hn, rfl⟩ | ⟨t, r5, v, hv, rfl, hR, hr⟩
      ·have HK := mk0 ((HF2.out).kr.trans hk)
       have HV2 := mk0 (show tmA e1 e2 (k, n) acc l1 = none by rw [HV.out, hn]; rfl)
       clear hk hn HR
       unfold pwrong
       go_wp2
       exact ⟨rfl, HK.out, .inl ⟨HE.out.trans HV2.out, rfl⟩⟩
      ·obtain ⟨A3, c3, rfl⟩ := Kd.R_slice hR
       have HV5 := mk0 hv
       have HLT5 := mk0 (tmR_le hv)
       have HF8 := mk0 ((HF2.out).call hr hk)
       have HR8 := mk0 (Kd.R_new' hR (Kd.R_lt (HF2.out).row))
       clear hk hv hR hr HF2 HR
       go_upto_region 8 with (fail)
       have HX9 := mk0 (aU_ w8 (.cells #[.int .i64 t.f0, .int .i64 t.f1, .slice A3 t.f2.length c3] 50))
       have HF9 := mk0 ((HF8.out).below (aA_ (Below.refl w8.heap.size w8) (.cells #[.int .i64 t.f0, .int .i64 t.f1, .slice A3 t.f2.length c3] 50)))
       have HR9 := mk0 (Kd.R_below HR8.out (aA_ (Below.refl w8.heap.size w8) (.cells #[.int .i64 t.f0, .int .i64 t.f1, .slice A3 t.f2.length c3] 50)))
       have HBN := mk0 (show w8.heap.size ≠ b ∧ g < w8.heap.size from by have := blk_lt (HF8.out).h3; have := (HF8.out).lt; have := (HF8.out).lt3; exact ⟨by omega, by omega⟩)
       clear HF8 HR8
       generalize (w8.alloc (.cells #[.int .i64 t.f0, .int .i64 t.f1, .slice A3 t.f2.length c3] 50)) = w9 at *
       generalize w8.heap.size = b4 at *
       have p4 : w9.cell? ⟨b4, 2, none⟩ = some (.slice A3 t.f2.length c3) := (aC_ HX9.out 2).trans rfl
       by_cases hz : t.f2.length = 0
       ·have HBAD := mk0 (show tmA e1 e2 (k, n) acc l1 = none by rw [HV.out, HV5.out]; simp only [l21_]; rw [if_pos hz])
        have HK := mk0 (HF9.out).kr
        go_wp2
        exact ⟨rfl, HK.out, .inl ⟨HE.out.trans HBAD.out, rfl⟩⟩
       ·have HZ0 := mk0 hz
        obtain ⟨s5, hs5⟩ : ∃ s5 : ByteArray, s5 = ⟨r5.toArray⟩ := ⟨_, rfl⟩
        have HS5 := mk0 (show s5.data.toList = r5 by rw [hs5])
        have c0 := (HF9.out).rm.rt.cells.1.1
        have f0 := (HF9.out).rm.rt.cells.1.2
        rw [← hs5] at c0
        have HP := mk0 (fun (W1 : World) => Tryz.strings_HasPrefix s5 ⟨#[41]⟩ W1)
        rw [HS5.out, show (ByteArray.mk #[41]).data.toList = [41] from rfl] at HP
        clear hs5
        go_wp2_with fail
        refine (HP.out _).mono ?_
        rintro E w10 ⟨rfl, hw⟩
        subst hw
        cases q5 : Lib.hasPrefix r5 [41] with
        | false =>
         have HBAD := mk0 (show tmA e1 e2 (k, n) acc l1 = none by rw [HV.out, HV5.out]; simp only [l21_]; rw [if_neg HZ0.out, if_neg (by rw [q5]; exact l16_)])
         have HK := mk0 (HF9.out).kr
         clear q5
         go_wp2
         exact ⟨rfl, HK.out, .inl ⟨HE.out.trans HBAD.out, rfl⟩⟩
        | true =>
         have HGO := mk0 (show tmR e1 e2 l = tmA e1 e2 (k, n) (acc ++ [t]) (r5.drop 1) by rw [HE.out, HV.out, HV5.out]; simp only [l21_]; rw [if_neg HZ0.out, if_pos q5])
         have HP5 := mk0 (hp_len q5)
         have h1 : 1 ≤ s5.size := by rw [Lib.size_eq, HS5.out]; exact hp_len q5
         have hx : (s5.extract 1 s5.size).data.toList = r5.drop 1 := by rw [Lib.extract_to_end, HS5.out]
         have HF13 := (HF9.out).set (s5.extract 1 s5.size)
         rw [hx] at HF13
         have HF13 := mk0 HF13
         have HX13 := mk0 (aT_ HX9.out (p := ⟨b, 0, none⟩) (HBN.out).1 (.string (s5.extract 1 s5.size)))
         have HR13 := mk0 (Kd.R_far (p := ⟨b, 0, none⟩) (Kd.R_lower (base' := W.heap.size) (Kd.R_mono (ok' := fun k => (g < k ∧ some k ≠ (Value.slice A acc.length c).ownBlock)) HR9.out (fun q hq => ⟨by have := HG7.out; omega, hq.2⟩)) (by have := HG7.out; have := (HF9.out).lt3; omega)) (fun q hq => by have := (HF9.out).lt; have := (HF9.out).lt3; show q ≠ b; omega) (.string (s5.extract 1 s5.size)))
         clear q5 hx HP
         go_upto_region 11 with (fail)
         clear c0 f0 h1 p4 HF9 HX9 HR9
         generalize (w10.setCell ⟨b, 0, none⟩ (.string (s5.extract 1 s5.size))) = w13 at *
         have p40 : w13.cell? ⟨b4, 0, none⟩ = some (.int .i64 t.f0) := (aC_ HX13.out 0).trans rfl
         have p41 : w13.cell? ⟨b4, 1, none⟩ = some (.int .i64 t.f1) := (aC_ HX13.out 1).trans rfl
         have p42 : w13.cell? ⟨b4, 2, none⟩ = some (.slice A3 t.f2.length c3) := (aC_ HX13.out 2).trans rfl
         have d2 := (HF13.out).cells.2.1.2.2
         go_wp2_with ((with_reducible refine gate_builtin (b := .append) (xs := #[.tmp 66, .tmp 68]) rfl ?_); at_builtin; refine Kd.R_append k50 (w0 := w13) W.heap.size rfl (.tmp 66) (.tmp 68) 48 50 (.agg #[.int .i64 0, .int .i64 0, .slice none 0 0]) 40 rfl Tryz.underlying48 Q.info50 rfl (show 0 < 3 by decide) (by decide) (.slice A acc.length c) acc t [.int .i64 t.f0, .int .i64 t.f1, .slice A3 t.f2.length c3] (fun k => g < k) (fun k => g < k ∧ some k ≠ (Value.slice A acc.length c).ownBlock) rfl rfl (Q.k50_mkM _ _ _ t HR13.out) (fun _ hk => hk) (fun k hk => l12_ (blk_lt (HF13.out).h3) hk) (HF13.out).row (Below.refl _ _) (by have := (HF13.out).lt3; have := blk_lt (HF13.out).h3; omega) HLB.out ?_; intro v5 w9 ho5 hb5 hg5 hat5; (obtain ⟨A9, c9, rfl⟩ := Kd.R_slice ho5); have HF9 := mk0 ((HF13.out).push ho5 hb5 hg5); have h6 := (blk_grown (HF13.out).h3 hg5 (fun e => by have := (HF13.out).row.1 _ e.symm; omega)); have c6 : w9.cell? ⟨g, 2, none⟩ = some (.slice A acc.length c) := (aC_ h6 2).trans rfl; have f6 : w9.frozen? ⟨g, 2, none⟩ = false := aJ_ h6 2; clear h6 ho5 hb5 hg5 hat5)
         have HLN := mk0 (show (r5.drop 1).length + 3 ≤ l1.length from by
          have h1 := HLD.out
          have h2 := HP5.out
          have h3 : r5.length ≤ l3.length := HLT5.out
          rw [l9_]
          simp only [l8_, List.length_nil] at h2
          omega)
         go_roundg (r5.drop 1).length
         case measure => have := HLN.out; omega
         case rel => exact ⟨acc ++ [t], r5.drop 1, A9, c9, Nat.le_refl _, HGO, ⟨by have := HL.out; have := HLN.out; rw [l7_, l10_]; omega⟩, HF9⟩
def MX (w : World) : Prop := ∃ m : Int, w.cell? ⟨0, 0, none⟩ = some (.int .i64 m)
theorem MX.below {w w1 : World} (h : MX w) (hb : Below w.heap.size w w1) : MX w1 := by
 obtain ⟨m, hm⟩ := h
 exact ⟨m, aP_ hb hm⟩
theorem cut_calls (s sep : ByteArray) (w : World) (hs : s.size ≤ 70000) (hm : MX w) :
  Calls Tryz.prog 58 #[.string s, .string sep] w fun e w' => e = .returned (.tuple #[.string ⟨(Lib.cut s.data.toList sep.data.toList).1.toArray⟩, .string ⟨(Lib.cut s.data.toList sep.data.toList).2.1.toArray⟩, .bool (Lib.cut s.data.toList sep.data.toList).2.2]) ∧ Below w.heap.size w w' := by
 obtain ⟨m, hm⟩ := hm
 refine (Tryz.strings_Cut s sep m w (by omega) hm).mono ?_
 rintro e w' ⟨rfl, n, rfl⟩
 exact ⟨rfl, aB_ (Below.refl _ _) n⟩
theorem cut_size (l s : List UInt8) : (Lib.cut l s).1.length ≤ l.length ∧ (Lib.cut l s).2.1.length ≤ l.length := by
 unfold Lib.cut
 split
 ·simp only [List.length_take, l9_]; omega
 ·simp
def symR (l : List UInt8) : Option S71 :=
 if (Lib.cut l [32]).2.2 = true ∧ numOk (Lib.cut l [32]).2.1 = true ∧ nameB ⟨(Lib.cut l [32]).1.toArray⟩ = true then some ⟨⟨(Lib.cut l [32]).1.toArray⟩, num0V (Lib.cut l [32]).2.1⟩ else none
def SymQ (l : List UInt8) (W : World) (E : Ending) (w' : World) : Prop :=
 Below W.heap.size W w' ∧ (symR l = none ∧ E = pwrong ∨ ∃ y, symR l = some y ∧ E = .returned (.agg #[.string y.f0, .int .i64 y.f1]))
set_option maxHeartbeats 4000000 in
set_option maxRecDepth 100000 in
theorem symbol_calls (s : ByteArray) (W : World) (hs : s.size ≤ 70000) (hm : MX W) : Calls Tryz.prog 57 #[.string s] W (SymQ s.data.toList W) := by
 have HB := mk0 (aA_ (Below.refl W.heap.size W) (.cells #[.string ⟨#[]⟩, .int .i64 0] 71))
 have HX := mk0 (aU_ W (.cells #[.string ⟨#[]⟩, .int .i64 0] 71))
 have HC := mk0 (cut_calls s ⟨#[32]⟩ (W.alloc (.cells #[.string ⟨#[]⟩, .int .i64 0] 71)) hs (hm.below (aA_ (Below.refl W.heap.size W) (.cells #[.string ⟨#[]⟩, .int .i64 0] 71))))
 rw [show (ByteArray.mk #[32]).data.toList = [32] from rfl] at HC
 have HSR := mk0 (show symR s.data.toList = (if (Lib.cut s.data.toList [32]).2.2 = true ∧ numOk (Lib.cut s.data.toList [32]).2.1 = true ∧ nameB ⟨(Lib.cut s.data.toList [32]).1.toArray⟩ = true then some ⟨⟨(Lib.cut s.data.toList [32]).1.toArray⟩, num0V (Lib.cut s.data.toList [32]).2.1⟩ else none) from rfl)
 have hcs := (cut_size s.data.toList [32]).2
 rw [← Lib.size_eq] at hcs
 have HCS := mk0 (show (ByteArray.mk (Lib.cut s.data.toList [32]).2.1.toArray).size ≤ 70000 by show (Lib.cut s.data.toList [32]).2.1.toArray.size ≤ 70000; rw [List.size_toArray]; omega)
 generalize (Lib.cut s.data.toList [32]).2.2 = ok at *
 generalize (Lib.cut s.data.toList [32]).2.1 = l2 at *
 generalize hn1 : (ByteArray.mk (Lib.cut s.data.toList [32]).1.toArray) = n1 at *
 clear hs hm hcs
 go_enter Tryz.func57, Tryz.ntmps57
 go_upto_region 1 with (fail)
 generalize W.alloc (.cells #[.string ⟨#[]⟩, .int .i64 0] 71) = W1 at *
 go_wp2_with fail
 refine (HC.out).mono ?_
 rintro E w2 ⟨rfl, hb⟩
 have HB2 := mk0 (aM_ HB.out (HB.out).size hb)
 have HX2 := mk0 (aK_ HX.out hb)
 have HN := mk0 (fun (W1 : World) => number0_calls ⟨l2.toArray⟩ W1 HCS.out)
 rw [show (ByteArray.mk l2.toArray).data.toList = l2 from rfl] at HN
 clear hb HB HX HC
 go_wp2_with fail
 refine (HN.out _).mono ?_
 rintro E w3 ⟨rfl, hb⟩
 have HB3 := mk0 (aM_ HB2.out (HB2.out).size hb)
 have HX3 := mk0 (aK_ HX2.out hb)
 clear hb HB2 HX2 HN
 cases q1 : ok with
 | false =>
  have HV := mk0 (show symR s.data.toList = none by rw [HSR.out, if_neg (fun h => by rw [q1] at h; exact l16_ h.1)])
  clear q1
  go_wp2
  exact ⟨rfl, HB3.out, .inl ⟨HV.out, rfl⟩⟩
 | true =>
  cases q2 : numOk l2 with
  | false =>
   have HV := mk0 (show symR s.data.toList = none by rw [HSR.out, if_neg (fun h => by rw [q2] at h; exact l16_ h.2.1)])
   clear q2
   go_wp2
   exact ⟨rfl, HB3.out, .inl ⟨HV.out, rfl⟩⟩
  | true =>
   have HNM := mk0 (name_calls n1 w3)
   have HQ2 := mk0 q2
   have HQ1 := mk0 q1
   clear q2 q1
   go_wp2_with fail
   refine (HNM.out).mono ?_
   rintro E w4 ⟨rfl, hb⟩
   have HB4 := mk0 (aM_ HB3.out (HB3.out).size hb)
   have HX4 := mk0 (aK_ HX3.out hb)
   clear hb HB3 HX3 HNM
   cases q3 : nameB n1 with
   | false =>
    have HV := mk0 (show symR s.data.toList = none by rw [HSR.out, if_neg (fun h => by rw [q3] at h; exact l16_ h.2.2)])
    clear q3
    go_wp2
    exact ⟨rfl, HB4.out, .inl ⟨HV.out, rfl⟩⟩
   | true =>
    have HV := mk0 (show symR s.data.toList = some ⟨n1, num0V l2⟩ by rw [HSR.out, if_pos ⟨HQ1.out, HQ2.out, q3⟩])
    clear q3
    generalize num0V l2 = nv at *
    have c0 : w4.cell? ⟨W.heap.size, 0, none⟩ = some (.string ⟨#[]⟩) := (aC_ HX4.out 0).trans rfl
    have c1 : w4.cell? ⟨W.heap.size, 1, none⟩ = some (.int .i64 0) := (aC_ HX4.out 1).trans rfl
    have f0 : w4.frozen? ⟨W.heap.size, 0, none⟩ = false := aJ_ HX4.out 0
    have f1 : w4.frozen? ⟨W.heap.size, 1, none⟩ = false := aJ_ HX4.out 1
    have HS0 := mk0 (blk_set (blk_set HX4.out 0 (.string n1)) 1 (.int .i64 nv))
    have HB5 := mk0 (((HB4.out).setCell (p := ⟨W.heap.size, 0, none⟩) (Nat.le_refl _) (.string n1)).setCell (p := ⟨W.heap.size, 1, none⟩) (Nat.le_refl _) (.int .i64 nv))
    go_wp2
    refine bodyPost_ret (results_single rfl (.cell W.heap.size 71 #[.string n1, .int .i64 nv] (0, 0) _ rfl HS0.out Tryz.underlying71 rfl (by kernel_rfl) .nil)) rfl ?_
    exact ⟨HB5.out, .inr ⟨⟨n1, nv⟩, HV.out, rfl⟩⟩
def pbadS : Ending := .panicked [{ v := .iface 138 (.agg #[]), recovered := false }]
def SrtQ (b : Nat) (s : ByteArray) (l : List UInt8) (W : World) (E : Ending) (w' : World) : Prop :=
 KR b W w' ∧ (srtR [] l = none ∧ E = pbadS ∨ ∃ t r v, srtR [] l = some (t, r) ∧ E = .returned (.agg #[v]) ∧ Kd.R k47 47 w' W.heap.size (fun k => W.heap.size ≤ k) v t.f0 ∧ RD b s r w')
structure FS (b : Nat) (s : ByteArray) (W W1 : World) (l : List UInt8) (acc : List S47) (A : Option Addr) (c : Nat) : Prop where
 rd : RD b s l W1
 h2 : W1.heap[W.heap.size]? = some (.cells #[.slice none 0 0] 47 (0, 0))
 h3 : W1.heap[W.heap.size + 1]? = some (.cells #[.slice A acc.length c] 47 (0, 0))
 row : Kd.R k47 47 W1 W.heap.size (fun k => W.heap.size + 2 ≤ k) (.slice A acc.length c) acc
 kr : KR b W W1
 lt : b < W.heap.size
 hlt : W.heap.size + 2 ≤ W1.heap.size
section
variable {b : Nat} {s : ByteArray} {W W1 W2 : World} {l l2 : List UInt8} {acc : List S47} {A : Option Addr} {c : Nat}
theorem FS.call (h : FS b s W W1 l acc A c) (hr : RD b s l2 W2) (hk : KR b W1 W2) : FS b s W W2 l2 acc A c :=
 ⟨hr, hk.blk (by have := h.lt; omega) h.h2, hk.blk (by have := h.lt; omega) h.h3, hk.rr h.row (fun k hk => by have := h.lt; omega), h.kr.trans hk, h.lt, Nat.le_trans h.hlt hk.keep.1⟩
theorem FS.below (h : FS b s W W1 l acc A c) (hb : Below W1.heap.size W1 W2) : FS b s W W2 l acc A c :=
 h.call (h.rd.keep hb) (KR.below (by have := h.lt; have := h.hlt; omega) hb)
theorem FS.push {a : S47} {A2 : Option Addr} {c2 : Nat} (h : FS b s W W1 l acc A c) (ho : Kd.R k47 47 W2 W.heap.size (fun k => W.heap.size + 2 ≤ k) (.slice A2 (acc ++ [a]).length c2) (acc ++ [a])) (hb : Below W.heap.size W1 W2) (hg : W1.grownBy W2 (Value.slice A acc.length c).ownBlock) :
  FS b s W (W2.setCell ⟨W.heap.size + 1, 0, none⟩ (.slice A2 (acc.length + 1) c2)) l (acc ++ [a]) A2 c2 := by
 rw [show acc.length + 1 = (acc ++ [a]).length from by simp]
 have hrow : ∀ k, (Value.slice A acc.length c).ownBlock = some k → W.heap.size + 2 ≤ k := h.row.1
 have hlt := h.lt
 have h2 : W2.heap[W.heap.size]? = some (.cells #[.slice none 0 0] 47 (0, 0)) := blk_grown h.h2 hg (fun e => by have := hrow _ e.symm; omega)
 have h3 : W2.heap[W.heap.size + 1]? = some (.cells #[.slice A acc.length c] 47 (0, 0)) := blk_grown h.h3 hg (fun e => by have := hrow _ e.symm; omega)
 have h4 := blk_grown h.rd.blk hg (fun e => by have := hrow _ e.symm; omega)
 refine ⟨⟨aT_ h4 (by show b ≠ W.heap.size + 1; omega) _, h.rd.suf⟩, aT_ h2 (by show W.heap.size ≠ W.heap.size + 1; omega) _, blk_set h3 0 _, Kd.R_far ho (fun k hk => by show k ≠ W.heap.size + 1; omega) _, ⟨?_, ?_, ?_⟩, hlt, ?_⟩
 ·exact (Below.trans h.kr.lo (Below.mono hb (Nat.le_of_lt hlt))).setCell (p := ⟨W.heap.size + 1, 0, none⟩) (by show b ≤ W.heap.size + 1; omega) _
 ·have := Nat.le_trans h.kr.keep.1 hb.size
  simpa [World.setCell] using this
 ·intro i hi hne _
  rw [Below.heap_setCell W2 ⟨W.heap.size + 1, 0, none⟩ _ i (by show i ≠ W.heap.size + 1; omega)]
  exact (hb.block i hi).trans (h.kr.keep.2 i hi hne (by simp))
 ·have := Nat.le_trans h.hlt hb.size
  simpa [World.setCell] using this
theorem FS.cells (h : FS b s W W1 l acc A c) : (W1.cell? ⟨W.heap.size, 0, none⟩ = some (.slice none 0 0) ∧ W1.frozen? ⟨W.heap.size, 0, none⟩ = false) ∧ W1.cell? ⟨W.heap.size + 1, 0, none⟩ = some (.slice A acc.length c) ∧ W1.frozen? ⟨W.heap.size + 1, 0, none⟩ = false :=
 ⟨⟨(aC_ h.h2 0).trans rfl, aJ_ h.h2 0⟩, (aC_ h.h3 0).trans rfl, aJ_ h.h3 0⟩
theorem FS.len (h : FS b s W W1 l acc A c) : l.length ≤ s.size := h.rd.le
end
theorem skp_t {l p : List UInt8} (h : Lib.hasPrefix l p = true) : skp l p = l.drop p.length := by unfold skp; rw [if_pos h]
theorem skp_f {l p : List UInt8} (h : Lib.hasPrefix l p = false) : skp l p = l := by unfold skp; rw [h]; rfl
set_option maxHeartbeats 8000000 in
set_option maxRecDepth 100000 in
theorem sort_calls (b : Nat) (s : ByteArray) (hs : s.size ≤ 70000) (N : Nat) : ∀ (l : List UInt8) (W : World), l.length < N → RD b s l W → Calls Tryz.prog 103 #[.pointer (some ⟨b, 0, none⟩)] W (SrtQ b s l W) := by
 induction N with
 | zero => intro l W h; omega
 | succ N ih =>
  intro l W hN hRD
  have HS := mk0 hs
  have IH := mk0 ih
  have HN := mk0 hN
  have hlt := blk_lt hRD.blk
  have HF := mk0 (FS.mk (s := s) (acc := []) (A := none) (c := 0) (hRD.keep (aA_ (aA_ (Below.refl W.heap.size W) (.cells #[.slice none 0 0] 47)) (.cells #[.slice none 0 0] 47))) (aD_ (aU_ W _) _) (blk_at2 W (.cells #[.slice none 0 0] 47) (.cells #[.slice none 0 0] 47)) (Kd.R_nil _ _ _ _ _) (KR.below (Nat.le_of_lt hlt) (aA_ (aA_ (Below.refl W.heap.size W) (.cells #[.slice none 0 0] 47)) (.cells #[.slice none 0 0] 47))) hlt (by simp))
  have HT := mk0 (fun (word : ByteArray) (l1 : List UInt8) (W1 : World) (h1 : RD b s l1 W1) (h2 : word.size ≤ 10) => take_calls b s word l1 W1 h1 hs h2)
  clear hs ih hN hRD hlt
  go_enter Tryz.func103, Tryz.ntmps103
  go_upto_region 2 with (fail)
  generalize ((W.alloc (.cells #[.slice none 0 0] 47)).alloc (.cells #[.slice none 0 0] 47)) = W1 at *
  go_loopg [] l.length (fun gg wi => ∃ (acc : List S47) (l1 : List UInt8) (A : Option Addr) (c : Nat), l1.length ≤ gg ∧ Aside0 (srtR [] l = srtR acc l1) ∧ Aside0 (acc.length + l1.length ≤ s.size) ∧ Aside0 (l1.length ≤ l.length) ∧ Aside0 (FS b s W wi l1 acc A c))
  case atStart => exact ⟨[], l, none, 0, Nat.le_refl _, ⟨rfl⟩, ⟨by have := (HF.out).len; simpa using this⟩, ⟨Nat.le_refl _⟩, HF⟩
  case round =>
   clear HF
   obtain ⟨acc, l1, A, c, hgg, HE, HL, HLL, HF⟩ := hrel
   have H1 := mk0 (HT.out ⟨#[40]⟩ l1 wr (HF.out).rd (by decide))
   rw [show (⟨#[40]⟩ : ByteArray).data.toList = [40] from rfl] at H1
   go_wp2_with fail
   refine (H1.out).mono ?_
   rintro E w2 ⟨rfl, hr, hk⟩
   have HF2 := mk0 ((HF.out).call hr hk)
   clear hr hk HF H1
   cases q : Lib.hasPrefix l1 [40] with
   | true =>
    rw [skp_t q] at HF2
    have HO := mk0 (srtR_open (acc := acc) q)
    have HPL := mk0 (hp_len q)
    have HR := mk0 (IH.out (l1.drop 1) w2 (by have := HN.out; have := HLL.out; have := HPL.out; rw [l9_]; simp only [l8_, List.length_nil] at this; omega) (HF2.out).rd)
    have HLT2 := mk0 (show b < w2.heap.size by have := (HF2.out).lt; have := (HF2.out).hlt; omega)
    clear q
    go_wp2_with fail
    refine (HR.out).mono ?_
    rintro E w3 ⟨hk, hE⟩
    rcases hE with ⟨hn, rfl⟩ | ⟨t, r, v, hv, rfl, hR, hr⟩
    ·have HK := mk0 ((HF2.out).kr.trans hk)
     have HN2 := mk0 hn
     clear hk hn
     unfold pbadS
     go_wp2
     exact ⟨rfl, HK.out, .inl ⟨by rw [HE.out, HO.out, HN2.out]; rfl, rfl⟩⟩
    ·have HV := mk0 hv
     have HLR := mk0 (srtR_less hv)
     obtain ⟨A3, c3, rfl⟩ := Kd.R_slice hR
     have HF3 := mk0 ((HF2.out).call hr hk)
     have HR3 := mk0 hR
     have HNW := mk0 (Kd.R_new' hR (Kd.R_lt (HF2.out).row))
     have HSZ := mk0 ((HF2.out).hlt)
     clear hr hk hR hv
     go_upto_region 4 with (fail)
     have HX4 := mk0 (aU_ w3 (.cells #[.slice A3 t.f0.length c3] 47))
     have HF4 := mk0 ((HF3.out).below (aA_ (Below.refl w3.heap.size w3) (.cells #[.slice A3 t.f0.length c3] 47)))
     have HR4 := mk0 (Kd.R_below HNW.out (aA_ (Below.refl w3.heap.size w3) (.cells #[.slice A3 t.f0.length c3] 47)))
     have HB4 := mk0 (show w3.heap.size ≠ b from by have := (HF3.out).lt; have := (HF3.out).hlt; omega)
     clear HF3 HNW HR3
     generalize (w3.alloc (.cells #[.slice A3 t.f0.length c3] 47)) = w4 at *
     generalize w3.heap.size = b4 at *
     have p4 : w4.cell? ⟨b4, 0, none⟩ = some (.slice A3 t.f0.length c3) := (aC_ HX4.out 0).trans rfl
     by_cases hz : t.f0.length = 0
     ·have HBAD := mk0 (show srtR acc l1 = none by rw [HO.out, HV.out]; simp only [l21_]; rw [if_pos hz])
      have HK := mk0 (HF4.out).kr
      go_wp2
      exact ⟨rfl, HK.out, .inl ⟨by rw [HE.out, HBAD.out], rfl⟩⟩
     ·have HZ0 := mk0 hz
      have H5 := mk0 (HT.out ⟨#[41, 32, 62, 32]⟩ r w4 (HF4.out).rd (by decide))
      rw [show (⟨#[41, 32, 62, 32]⟩ : ByteArray).data.toList = [41, 32, 62, 32] from rfl] at H5
      go_wp2_with fail
      refine (H5.out).mono ?_
      rintro E w5 ⟨rfl, hr, hk⟩
      have HF5 := mk0 ((HF4.out).call hr hk)
      have HX5 := mk0 (hk.blk HB4.out HX4.out)
      have HR5 := mk0 (hk.rr HR4.out (fun k hk2 => by have := HLT2.out; omega))
      clear hr hk HF4 H5 p4 HX4 HR4
      have p5 : w5.cell? ⟨b4, 0, none⟩ = some (.slice A3 t.f0.length c3) := (aC_ HX5.out 0).trans rfl
      cases q2 : Lib.hasPrefix r [41, 32, 62, 32] with
      | false =>
       have HBAD := mk0 (show srtR acc l1 = none by rw [HO.out, HV.out]; simp only [l21_]; rw [if_neg HZ0.out, q2]; rfl)
       have HK := mk0 (HF5.out).kr
       clear q2
       go_wp2
       exact ⟨rfl, HK.out, .inl ⟨by rw [HE.out, HBAD.out], rfl⟩⟩
      | true =>
       rw [skp_t q2] at HF5
       have HGO := mk0 (show srtR acc l1 = srtR (acc ++ [t]) (r.drop 4) by rw [HO.out, HV.out]; simp only [l21_]; rw [if_neg HZ0.out, q2]; rfl)
       have HPL2 := mk0 (hp_len q2)
       clear q2
       obtain ⟨⟨c20, f20⟩, c30, f30⟩ := (HF5.out).cells
       have HZ := mk0 ((HF5.out).hlt)
       have HR6 := mk0 (Kd.R_lower (base' := W.heap.size) (Kd.R_mono (ok' := fun k => (W.heap.size + 2 ≤ k ∧ some k ≠ (Value.slice A acc.length c).ownBlock)) HR5.out (fun k hk => ⟨by have := HSZ.out; omega, hk.2⟩)) (by have := HSZ.out; omega))
       go_wp2_with ((with_reducible refine gate_builtin (b := .append) (xs := #[.tmp 21, .tmp 23]) rfl ?_); at_builtin; refine Kd.R_append k47 (w0 := w5) W.heap.size rfl (.tmp 21) (.tmp 23) 43 47 (.agg #[.slice none 0 0]) 24 rfl Tryz.underlying43 Q.info47 rfl (show 0 < 1 by decide) (by decide) (.slice A acc.length c) acc t [.slice A3 t.f0.length c3] (fun k => W.heap.size + 2 ≤ k) (fun k => W.heap.size + 2 ≤ k ∧ some k ≠ (Value.slice A acc.length c).ownBlock) rfl rfl (Q.k47_mkM _ _ _ t HR6.out) (fun _ hk => hk) (fun k hk => Nat.le_trans (HZ.out) hk) (HF5.out).row (Below.refl _ _) (Nat.le_trans (by omega) HZ.out) (by have := HL.out; have := HS.out; omega) ?_; intro v5 w6 ho5 hb5 hg5 hat5; (obtain ⟨A9, c9, rfl⟩ := Kd.R_slice ho5); have HF6 := mk0 ((HF5.out).push ho5 hb5 hg5); have h6 := (blk_grown (HF5.out).h3 hg5 (fun e => by have := (HF5.out).row.1 _ e.symm; omega)); have c6 : w6.cell? ⟨W.heap.size + 1, 0, none⟩ = some (.slice A acc.length c) := (aC_ h6 0).trans rfl; have f6 : w6.frozen? ⟨W.heap.size + 1, 0, none⟩ = false := aJ_ h6 0; clear h6; clear ho5 hb5 hg5 hat5)
       have HLN := mk0 (show (r.drop 4).length + 6 ≤ l1.length from by
        have h1 := HLR.out
        have h2 := HPL2.out
        have h3 := HPL.out
        rw [l9_] at h1 ⊢
        simp only [l8_, List.length_nil] at h2 h3
        omega)
       go_roundg (r.drop 4).length
       case measure => have := HLN.out; omega
       case rel => exact ⟨acc ++ [t], r.drop 4, A9, c9, Nat.le_refl _, ⟨by rw [HE.out, HGO.out]⟩, ⟨by have := HL.out; have := HLN.out; rw [l7_, l10_]; omega⟩, ⟨by have := HLL.out; have := HLN.out; omega⟩, HF6⟩
   | false =>
    rw [skp_f q] at HF2
    have H5 := mk0 (HT.out ⟨#[111]⟩ l1 w2 (HF2.out).rd (by decide))
    rw [show (⟨#[111]⟩ : ByteArray).data.toList = [111] from rfl] at H5
    go_wp2_with fail
    refine (H5.out).mono ?_
    rintro E w3 ⟨rfl, hr, hk⟩
    have HF3 := mk0 ((HF2.out).call hr hk)
    clear hr hk HF2 H5
    cases q2 : Lib.hasPrefix l1 [111] with
    | false =>
     have HBAD := mk0 (srtR_none (acc := acc) q q2)
     have HK := mk0 (HF3.out).kr
     clear q q2
     go_wp2
     exact ⟨rfl, HK.out, .inl ⟨by rw [HE.out, HBAD.out], rfl⟩⟩
    | true =>
     rw [skp_t q2] at HF3
     have H6 := mk0 (HT.out ⟨#[32, 62, 32]⟩ (l1.drop 1) w3 (HF3.out).rd (by decide))
     rw [show (⟨#[32, 62, 32]⟩ : ByteArray).data.toList = [32, 62, 32] from rfl] at H6
     have HPL := mk0 (hp_len q2)
     go_wp2_with fail
     refine (H6.out).mono ?_
     rintro E w4 ⟨rfl, hr, hk⟩
     have HF4 := mk0 ((HF3.out).call hr hk)
     clear hr hk HF3 H6
     cases q3 : Lib.hasPrefix (l1.drop 1) [32, 62, 32] with
     | false =>
      have HGO := mk0 (srtR_last (acc := acc) q q2 q3)
      have HF5 := HF4
      rw [skp_f q3] at HF5
      obtain ⟨⟨c20, f20⟩, c30, f30⟩ := (HF4.out).cells
      clear q q2 q3
      go_wp2
      refine bodyPost_ret (results_single rfl (.cell W.heap.size 47 #[.slice A acc.length c] (0, 0) _ rfl (blk_set (HF4.out).h2 0 _) Tryz.underlying47 rfl (by kernel_rfl) .nil)) rfl ?_
      have hlt := (HF5.out).lt
      refine ⟨⟨(HF5.out).kr.lo.setCell (p := ⟨W.heap.size, 0, none⟩) (Nat.le_of_lt hlt) _, ?_, ?_⟩, .inr ⟨⟨acc⟩, l1.drop 1, .slice A acc.length c, by rw [HE.out, HGO.out], rfl, ?_, ⟨aT_ (HF5.out).rd.blk (by show b ≠ W.heap.size; omega) _, (HF5.out).rd.suf⟩⟩⟩
      ·have := (HF5.out).kr.keep.1
       simpa [World.setCell] using this
      ·intro i hi hne _
       rw [Below.heap_setCell _ ⟨W.heap.size, 0, none⟩ _ i (by show i ≠ W.heap.size; omega)]
       exact (HF5.out).kr.keep.2 i hi hne (by simp)
      ·exact Kd.R_mono (Kd.R_far (HF5.out).row (fun k hk => by show k ≠ W.heap.size; omega) _) (fun k hk => by omega)
     | true =>
      rw [skp_t q3] at HF4
      have HGO := mk0 (srtR_more (acc := acc) q q2 q3)
      have HPL2 := mk0 (hp_len q3)
      clear q q2 q3
      obtain ⟨⟨c20, f20⟩, c30, f30⟩ := (HF4.out).cells
      have HZ := mk0 ((HF4.out).hlt)
      go_wp2_with ((with_reducible refine gate_builtin (b := .append) (xs := #[.tmp 36, .tmp 38]) rfl ?_); at_builtin; refine Kd.R_append k47 (w0 := w4) W.heap.size rfl (.tmp 36) (.tmp 38) 43 47 (.agg #[.slice none 0 0]) 24 rfl Tryz.underlying43 Q.info47 rfl (show 0 < 1 by decide) (by decide) (.slice A acc.length c) acc (⟨[]⟩ : S47) [.slice none 0 0] (fun k => W.heap.size + 2 ≤ k) (fun k => W.heap.size + 2 ≤ k ∧ some k ≠ (Value.slice A acc.length c).ownBlock) rfl rfl (Q.k47_mkM _ _ _ (⟨[]⟩ : S47) (Kd.R_nil _ _ _ _ _)) (fun _ hk => hk) (fun k hk => Nat.le_trans (HZ.out) hk) (HF4.out).row (Below.refl _ _) (Nat.le_trans (by omega) HZ.out) (by have := HL.out; have := HS.out; omega) ?_; intro v5 w6 ho5 hb5 hg5 hat5; (obtain ⟨A9, c9, rfl⟩ := Kd.R_slice ho5); have HF6 := mk0 ((HF4.out).push ho5 hb5 hg5); have h6 := (blk_grown (HF4.out).h3 hg5 (fun e => by have := (HF4.out).row.1 _ e.symm; omega)); have c6 : w6.cell? ⟨W.heap.size + 1, 0, none⟩ = some (.slice A acc.length c) := (aC_ h6 0).trans rfl; have f6 : w6.frozen? ⟨W.heap.size + 1, 0, none⟩ = false := aJ_ h6 0; clear h6; clear ho5 hb5 hg5 hat5)
      have HLN := mk0 (show ((l1.drop 1).drop 3).length + 4 ≤ l1.length from by
       have h2 := HPL2.out
       have h3 := HPL.out
       rw [l9_] at h2
       rw [l9_, l9_]
       simp only [l8_, List.length_nil] at h2 h3
       omega)
      go_roundg ((l1.drop 1).drop 3).length
      case measure => have := HLN.out; omega
      case rel => exact ⟨acc ++ [(⟨[]⟩ : S47)], (l1.drop 1).drop 3, A9, c9, Nat.le_refl _, ⟨by rw [HE.out, HGO.out]⟩, ⟨by have := HL.out; have := HLN.out; rw [l7_, l10_]; omega⟩, ⟨by have := HLL.out; have := HLN.out; omega⟩, HF6⟩
theorem sidle_calls (p q : Addr) (w : World) :
  CallsD Tryz.prog 102 #[.pointer (some p), .pointer (some q)] .returning w fun e u' w' => e = .returned (.tuple #[]) ∧ u' = .returning ∧ w' = w := by
 refine callsD_of_wpS Tryz.func102 rfl fun c₀ cs hu => ?_
 apply wpS_seq
 apply wpS_region
 simp [wpOpsS, go_sem, recoverD, hu, Tryz.ntmps102, Exit.thenS]
 apply wpS_seq
 apply wpS_region
 simp [wpOpsS, go_sem, Exit.thenS]
 refine wpS_cond (t := false) (by simp [Act.eval, Array.replicate]) ?_
 simp only [Bool.false_eq_true, if_false]
 refine wpS_of_wp (wp_skip ?_)
 cases c₀
 simp_all [bodyPostS, results, Tryz.results102]
set_option maxHeartbeats 4000000 in
set_option maxRecDepth 100000 in
theorem sbad_calls (a : Nat) (x e : Value) (w : World) (h0 : w.heap[a]? = some (.cells #[x] 47 (0, 0))) (h1 : w.heap[a + 1]? = some (.cells #[e] 26 (0, 0))) :
  CallsD Tryz.prog 102 #[.pointer (some ⟨a, 0, none⟩), .pointer (some ⟨a + 1, 0, none⟩)] (.panicking [{ v := .iface 138 (.agg #[]), recovered := false }]) w fun e u' w' =>
   e = .returned (.tuple #[]) ∧ u' = .panicking [{ v := .iface 138 (.agg #[]), recovered := true }] ∧ w'.heap[a]? = some (.cells #[.slice none 0 0] 47 (0, 0)) ∧ w'.heap[a + 1]? = some (.cells #[.int .i64 4] 26 (0, 0)) ∧ Below a w w' := by
 refine callsD_of_wpS Tryz.func102 rfl fun c₀ cs hu => ?_
 apply wpS_seq
 apply wpS_region
 simp [wpOpsS, go_sem, recoverD, hu, Tryz.ntmps102, Exit.thenS]
 refine wpS_of_wp ?_
 rw [show (#[Value.pointer (some ⟨a, 0, none⟩), Value.pointer (some ⟨a + 1, 0, none⟩)] ++ ((Array.replicate 15 undef).setIfInBounds 3 (Value.iface 138 (Value.agg #[]))).setIfInBounds 0 (Value.iface 138 (Value.agg #[]))) = #[Value.pointer (some ⟨a, 0, none⟩), Value.pointer (some ⟨a + 1, 0, none⟩), Value.iface 138 (Value.agg #[]), undef, undef, Value.iface 138 (Value.agg #[]), undef, undef, undef, undef, undef, undef, undef, undef, undef, undef, undef] from rfl]
 have hta : ∀ W : World, (Instr.typeAssert (Value.iface 138 (Value.agg #[])) 20 138 true).run Tryz.prog W = .ok (.tuple #[.agg #[], .bool true]) W := fun W => by kernel_rfl
 have HB := mk0 (aA_ (Below.refl w.heap.size w) (.cells #[] 138))
 have HQ0 := mk0 hu
 have ha : a < w.heap.size := (Array.getElem?_eq_some_iff.1 h0).1
 generalize hQ : bodyPostS Tryz.prog Tryz.f102 c₀ cs _ = QQ
 have HQ := mk0 hQ
 clear hQ
 go_upto_region 5 with (fail)
 have H0 := mk0 (aK_ h0 HB.out)
 have H1 := mk0 (aK_ h1 HB.out)
 clear h0 h1
 generalize w.alloc (.cells #[] 138) = W2 at *
 have c0 : W2.cell? ⟨a, 0, none⟩ = some x := (aC_ H0.out 0).trans rfl
 have c3 : W2.cell? ⟨a + 1, 0, none⟩ = some e := (aC_ H1.out 0).trans rfl
 have f0 : W2.frozen? ⟨a, 0, none⟩ = false := aJ_ H0.out 0
 have f3 : W2.frozen? ⟨a + 1, 0, none⟩ = false := aJ_ H1.out 0
 go_wp2
 rw [← HQ.out]
 have hB := Below.mono HB.out (show a ≤ w.heap.size from Nat.le_of_lt ha)
 clear c0 c3 f0 f3
 refine ⟨rfl, _, rfl, _, results_none rfl _ _ _, rfl, rfl, ?_, ?_, ?_⟩
 ·exact aT_ (blk_set H0.out 0 _) (by show a ≠ a + 1; omega) _
 ·exact blk_set (aT_ H1.out (by show a + 1 ≠ a; omega) _) 0 _
 ·exact (hB.setCell (p := ⟨a, 0, none⟩) (Nat.le_refl a) _).setCell (p := ⟨a + 1, 0, none⟩) (Nat.le_succ a) _
def getSV (t : ByteArray) : Option S47 := (srtR [] t.data.toList).bind fun p => if p.2 = [] then some p.1 else none
def getSR (t : ByteArray) : Int × S47 := if 65536 < t.size then (3, ⟨[]⟩) else match getSV t with | none => (4, ⟨[]⟩) | some s => if schkV s = 0 then (0, s) else (6, ⟨[]⟩)
def GetSE (t : ByteArray) (w : World) (E : Ending) (w' : World) : Prop :=
 ∃ A c, E = .returned (.tuple #[.agg #[.slice A (getSR t).2.f0.length c], .int .i64 (getSR t).1]) ∧ Kd.R k47 47 w' w.heap.size (fun k => w.heap.size ≤ k) (.slice A (getSR t).2.f0.length c) (getSR t).2.f0 ∧ Below w.heap.size w w'
structure GS (w W : World) (x : Value) : Prop where
 hb : Below w.heap.size w W
 ha : W.heap[w.heap.size]? = some (.cells #[x] 47 (0, 0))
 he : W.heap[w.heap.size + 1]? = some (.cells #[.int .i64 0] 26 (0, 0))
theorem GS.start (w : World) : GS w ((w.alloc (.cells #[.slice none 0 0] 47)).alloc (.cells #[.int .i64 0] 26)) (.slice none 0 0) :=
 ⟨aA_ (aA_ (Below.refl _ _) _) _, aD_ (aU_ w _) _, blk_at2 w _ _⟩
theorem GS.below {w W W1 : World} {x : Value} (h : GS w W x) (hb : Below W.heap.size W W1) : GS w W1 x := ⟨aM_ h.hb h.hb.size hb, aK_ h.ha hb, aK_ h.he hb⟩
theorem GS.call {w W W1 : World} {x : Value} {b : Nat} (h : GS w W x) (hk : KR b W W1) (hb : w.heap.size + 2 ≤ b) : GS w W1 x := ⟨Below.trans h.hb (Below.mono hk.lo (by omega)), hk.blk (by omega) h.ha, hk.blk (by omega) h.he⟩
theorem GS.cells {w W : World} {x : Value} (h : GS w W x) : (W.cell? ⟨w.heap.size, 0, none⟩ = some x ∧ W.frozen? ⟨w.heap.size, 0, none⟩ = false) ∧ W.cell? ⟨w.heap.size + 1, 0, none⟩ = some (.int .i64 0) ∧ W.frozen? ⟨w.heap.size + 1, 0, none⟩ = false :=
 ⟨⟨(aC_ h.ha 0).trans rfl, aJ_ h.ha 0⟩, (aC_ h.he 0).trans rfl, aJ_ h.he 0⟩
theorem GS.set0 {w W : World} {x : Value} (h : GS w W x) (u : Value) : GS w (W.setCell ⟨w.heap.size, 0, none⟩ u) u := ⟨h.hb.setCell (p := ⟨w.heap.size, 0, none⟩) (Nat.le_refl _) _, blk_set h.ha 0 u, aT_ h.he (by show w.heap.size + 1 ≠ w.heap.size; omega) _⟩
theorem run_mkfun3 (fn : Fn) (first cap : Array Value) (w : World) : (Instr.makeFunc fn first cap).run Tryz.prog w = .ok (.func fn first cap) w := rfl
theorem getSE_zero {t : ByteArray} {w W : World} {e : Int} (h : getSR t = (e, ⟨[]⟩)) (hb : Below w.heap.size w W) : GetSE t w (.returned (.tuple #[.agg #[.slice none 0 0], .int .i64 e])) W := by
 unfold GetSE
 rw [h]
 exact ⟨none, 0, rfl, Kd.R_nil _ _ _ _ _, hb⟩
theorem gets_panic {t : ByteArray} {w W : World} {x : Value} (h : getSR t = (4, ⟨[]⟩)) (hG : GS w W x) (tm : Array Value) (h2 : tm[2]? = some (.pointer (some ⟨w.heap.size, 0, none⟩))) (h3 : tm[3]? = some (.pointer (some ⟨w.heap.size + 1, 0, none⟩))) :
  bodyPostD Tryz.prog Tryz.f59 (GetSE t w) (Exit.panic [{ v := .iface 138 (.agg #[]), recovered := false }]) { tmps := tm, defers := [{ target := .fn (.func 102) #[.pointer (some ⟨w.heap.size, 0, none⟩), .pointer (some ⟨w.heap.size + 1, 0, none⟩)], args := #[] }] } W := by
 refine leaves_cons (f := 102) (args := #[.pointer (some ⟨w.heap.size, 0, none⟩), .pointer (some ⟨w.heap.size + 1, 0, none⟩)]) (by simp) (by simp [go_sem]) ?_
 refine (sbad_calls w.heap.size x _ W hG.ha hG.he).mono ?_
 rintro e u' w'' ⟨rfl, rfl, h0, h1, hb⟩
 have k0 : w''.cell? ⟨w.heap.size, 0, none⟩ = some (.slice none 0 0) := (aC_ h0 0).trans rfl
 have k3 : w''.cell? ⟨w.heap.size + 1, 0, none⟩ = some (.int .i64 4) := (aC_ h1 0).trans rfl
 have hE := getSE_zero (w := w) (W := w'') h (Below.trans hG.hb hb)
 simp [Leaves, settle, results, Tryz.results59, go_sem, h2, h3, k0, k3]
 exact hE
theorem gets_done {t : ByteArray} {w W : World} {A : Option Addr} {c : Nat} {s : S47} {e : Int} (h : getSR t = (e, s)) (hG : Below w.heap.size w W)
  (h0 : W.heap[w.heap.size]? = some (.cells #[.slice A s.f0.length c] 47 (0, 0))) (h1 : W.heap[w.heap.size + 1]? = some (.cells #[.int .i64 e] 26 (0, 0)))
  (hr : Kd.R k47 47 W w.heap.size (fun k => w.heap.size ≤ k) (.slice A s.f0.length c) s.f0)
  (tm : Array Value) (h2 : tm[2]? = some (.pointer (some ⟨w.heap.size, 0, none⟩))) (h3 : tm[3]? = some (.pointer (some ⟨w.heap.size + 1, 0, none⟩))) :
  bodyPostD Tryz.prog Tryz.f59 (GetSE t w) Exit.ret { tmps := tm, defers := [{ target := .fn (.func 102) #[.pointer (some ⟨w.heap.size, 0, none⟩), .pointer (some ⟨w.heap.size + 1, 0, none⟩)], args := #[] }] } W := by
 refine leaves_cons (f := 102) (args := #[.pointer (some ⟨w.heap.size, 0, none⟩), .pointer (some ⟨w.heap.size + 1, 0, none⟩)]) (by simp) (by simp [go_sem]) ?_
 refine (sidle_calls _ _ W).mono ?_
 rintro e' u' w'' ⟨rfl, rfl, rfl⟩
 have k0 : w''.cell? ⟨w.heap.size, 0, none⟩ = some (.slice A s.f0.length c) := (aC_ h0 0).trans rfl
 have k3 : w''.cell? ⟨w.heap.size + 1, 0, none⟩ = some (.int .i64 e) := (aC_ h1 0).trans rfl
 have hE : GetSE t w (.returned (.tuple #[.agg #[.slice A s.f0.length c], .int .i64 e])) w'' := by
  unfold GetSE
  rw [h]
  exact ⟨A, c, rfl, hr, hG⟩
 simp [Leaves, settle, results, Tryz.results59, go_sem, h2, h3, k0, k3]
 exact hE
theorem gets_ret0 {t : ByteArray} {w W : World} {e : Int} (h : getSR t = (e, ⟨[]⟩)) (hG : Below w.heap.size w W)
  (h0 : W.heap[w.heap.size]? = some (.cells #[.slice none 0 0] 47 (0, 0))) (h1 : W.heap[w.heap.size + 1]? = some (.cells #[.int .i64 e] 26 (0, 0)))
  (tm : Array Value) (h2 : tm[2]? = some (.pointer (some ⟨w.heap.size, 0, none⟩))) (h3 : tm[3]? = some (.pointer (some ⟨w.heap.size + 1, 0, none⟩))) :
  bodyPostD Tryz.prog Tryz.f59 (GetSE t w) Exit.ret { tmps := tm, defers := [] } W := by
 have k0 : W.cell? ⟨w.heap.size, 0, none⟩ = some (.slice none 0 0) := (aC_ h0 0).trans rfl
 have k3 : W.cell? ⟨w.heap.size + 1, 0, none⟩ = some (.int .i64 e) := (aC_ h1 0).trans rfl
 have hE := getSE_zero h hG
 simp [bodyPostD, Leaves, settle, results, Tryz.results59, go_sem, h2, h3, k0, k3]
 exact hE
theorem getSR_bad {t : ByteArray} (hs : t.size ≤ 65536) (h : getSV t = none) : getSR t = (4, ⟨[]⟩) := by unfold getSR; rw [if_neg (by omega), h]
set_option maxHeartbeats 8000000 in
set_option maxRecDepth 100000 in
theorem gets_calls (t : ByteArray) (w : World) : Calls Tryz.prog 59 #[.string t] w (GetSE t w) := by
 have hmf := run_mkfun3
 have HG := mk0 (GS.start w)
 have HSZ1 := mk0 (show ((w.alloc (.cells #[.slice none 0 0] 47)).alloc (.cells #[.int .i64 0] 26)).heap.size = w.heap.size + 2 from by simp)
 go_enter_defers Tryz.func59, Tryz.ntmps59
 go_upto_region 1 with (fail)
 generalize ((w.alloc (.cells #[.slice none 0 0] 47)).alloc (.cells #[.int .i64 0] 26)) = W1 at *
 obtain ⟨⟨c0, f0⟩, c1, f1⟩ := (HG.out).cells
 cases q1 : decide ((t.size : Int) > 65536) with
 | true =>
  have HR := mk0 (show getSR t = (3, ⟨[]⟩) by unfold getSR; rw [if_pos (by have := l0_ q1; omega)])
  have HQ := mk0 ((HG.out).set0 (.slice none 0 0))
  go_wp2
  exact gets_ret0 HR.out ((HQ.out).hb.setCell (p := ⟨w.heap.size + 1, 0, none⟩) (Nat.le_succ _) _) (aT_ (HQ.out).ha (by show w.heap.size ≠ w.heap.size + 1; omega) _) (blk_set (HQ.out).he 0 _) _ rfl rfl
 | false =>
 have HSZ := mk0 (show t.size ≤ 65536 by have := of_decide_eq_false q1; omega)
 clear c0 f0 c1 f1
 go_upto_region 5 with (fail)
 have HG2 := mk0 ((HG.out).below (aA_ (Below.refl W1.heap.size W1) (.cells #[.string t, .int .i64 0] 142)))
 have HRD := mk0 (show RD W1.heap.size t t.data.toList (W1.alloc (.cells #[.string t, .int .i64 0] 142)) from by
  have e : t.size - t.data.toList.length = 0 := by rw [← Lib.size_eq]; omega
  refine ⟨?_, ?_⟩
  ·rw [e]; exact aU_ W1 _
  ·rw [e]; rfl)
 have HBB := mk0 (show w.heap.size + 2 ≤ W1.heap.size from by have := HSZ1.out; omega)
 have HLT := mk0 (show W1.heap.size < (W1.alloc (.cells #[.string t, .int .i64 0] 142)).heap.size from by simp)
 clear HG HSZ1
 generalize (W1.alloc (.cells #[.string t, .int .i64 0] 142)) = W2 at *
 generalize W1.heap.size = b at *
 have HS := mk0 (sort_calls b t (by have := HSZ.out; omega) (t.data.toList.length + 1) t.data.toList W2 (Nat.lt_succ_self _) HRD.out)
 obtain ⟨⟨c0, f0⟩, c1, f1⟩ := (HG2.out).cells
 clear c0 f0 c1 f1
 go_wp2_with fail
 refine (HS.out).mono ?_
 rintro E w3 ⟨hk, hE⟩
 have HG3 := mk0 ((HG2.out).call hk HBB.out)
 rcases hE with ⟨hn, rfl⟩ | ⟨s, r, v, hv, rfl, hR, hr⟩
 ·have HN := mk0 (show getSV t = none by unfold getSV; rw [hn]; rfl)
  clear hn hk HG2
  unfold pbadS
  go_wp2
  exact gets_panic (getSR_bad HSZ.out HN.out) HG3.out _ rfl rfl
 ·obtain ⟨A, c, rfl⟩ := Kd.R_slice hR
  have HV := mk0 hv
  have HRR := mk0 (Kd.R_lower (base' := w.heap.size) (Kd.R_mono (ok' := fun k => w.heap.size + 2 ≤ k) hR (fun k hk2 => by have := HBB.out; have := HLT.out; omega)) (by have := HBB.out; have := HLT.out; omega))
  have HRD3 := mk0 hr
  obtain ⟨⟨c0, f0⟩, c1, f1⟩ := (HG3.out).cells
  have HG4 := mk0 ((HG3.out).set0 (.slice A s.f0.length c))
  have HR4 := mk0 (Kd.R_far (p := ⟨w.heap.size, 0, none⟩) HRR.out (fun k hk2 => by show k ≠ w.heap.size; omega) (.slice A s.f0.length c))
  have HB4 := mk0 (aT_ (HRD3.out).blk (p := ⟨w.heap.size, 0, none⟩) (by show b ≠ w.heap.size; have := HBB.out; omega) (.slice A s.f0.length c))
  have HLE := mk0 (HRD3.out).le
  clear hk hv hR hr HG2 HRR HG3 HS
  go_upto_region 6 with (fail)
  generalize (w3.setCell ⟨w.heap.size, 0, none⟩ (.slice A s.f0.length c)) = w4 at *
  clear c0 f0 c1 f1
  obtain ⟨⟨c0, f0⟩, c1, f1⟩ := (HG4.out).cells
  have m0 : w4.cell? ⟨b, 0, none⟩ = some (.string t) := (aC_ HB4.out 0).trans rfl
  have m1 : w4.cell? ⟨b, 1, none⟩ = some (.int .i64 ((t.size - r.length : Nat) : Int)) := (aC_ HB4.out 1).trans rfl
  obtain ⟨p, hp⟩ : ∃ p : Nat, t.size - r.length = p := ⟨_, rfl⟩
  rw [hp] at m1
  have HP := mk0 hp
  clear hp
  by_cases h9 : p = t.size
  ·have hr0 : r = [] := by have := HP.out; have := HLE.out; exact List.eq_nil_of_length_eq_zero (by omega)
   have h99 : (p : Int) = (t.size : Int) := by rw [h9]
   have HGV := mk0 (show getSV t = some s by unfold getSV; rw [HV.out, l21_, hr0, if_pos rfl])
   have HCK := mk0 (scheck_calls s A c w4 (Kd.R_reads' HR4.out).2.2 (Kd.R_reads' HR4.out).2.1)
   clear hr0
   go_wp2_with fail
   refine (HCK.out).mono ?_
   rintro E w5 ⟨rfl, hb⟩
   have HG5 := mk0 ((HG4.out).below hb)
   have HR5 := mk0 (Kd.R_below HR4.out hb)
   clear hb HG4 HR4 HCK m0 m1 c0 f0 c1 f1
   obtain ⟨⟨c0, f0⟩, c1, f1⟩ := (HG5.out).cells
   by_cases hz : schkV s = 0
   ·have HRS := mk0 (show getSR t = (0, s) by unfold getSR; rw [if_neg (by have := HSZ.out; omega), HGV.out]; simp only; rw [if_pos hz])
    rw [hz]
    have HQ := mk0 ((HG5.out).set0 (.slice A s.f0.length c))
    have HR6 := mk0 (Kd.R_far (p := ⟨w.heap.size + 1, 0, none⟩) (Kd.R_far (p := ⟨w.heap.size, 0, none⟩) HR5.out (fun k hk2 => by show k ≠ w.heap.size; omega) (.slice A s.f0.length c)) (fun k hk2 => by show k ≠ w.heap.size + 1; omega) (.int .i64 0))
    clear hz
    go_wp2
    exact gets_done HRS.out ((HQ.out).hb.setCell (p := ⟨w.heap.size + 1, 0, none⟩) (Nat.le_succ _) _) (aT_ (HQ.out).ha (by show w.heap.size ≠ w.heap.size + 1; omega) _) (blk_set (HQ.out).he 0 _) (Kd.R_mono HR6.out (fun k hk2 => by omega)) _ rfl rfl
   ·have h6 : schkV s = 6 := by unfold schkV at hz ⊢; split at hz <;> simp_all
    have HRS := mk0 (show getSR t = (6, ⟨[]⟩) by unfold getSR; rw [if_neg (by have := HSZ.out; omega), HGV.out]; simp only; rw [if_neg hz])
    rw [h6]
    have HQ := mk0 ((HG5.out).set0 (.slice none 0 0))
    clear hz h6
    go_wp2
    exact gets_done HRS.out ((HQ.out).hb.setCell (p := ⟨w.heap.size + 1, 0, none⟩) (Nat.le_succ _) _) (aT_ (HQ.out).ha (by show w.heap.size ≠ w.heap.size + 1; omega) _) (blk_set (HQ.out).he 0 _) (Kd.R_nil _ _ _ _ _) _ rfl rfl
  ·have hr0 : ¬ r = [] := by intro e; have := HP.out; rw [e] at this; simp at this; omega
   have h99 : ¬ (p : Int) = (t.size : Int) := by omega
   have HRS := mk0 (getSR_bad HSZ.out (show getSV t = none by unfold getSV; rw [HV.out, l21_, if_neg hr0]))
   have HQ := mk0 ((HG4.out).set0 (.slice none 0 0))
   clear hr0
   go_wp2
   exact gets_done HRS.out ((HQ.out).hb.setCell (p := ⟨w.heap.size + 1, 0, none⟩) (Nat.le_succ _) _) (aT_ (HQ.out).ha (by show w.heap.size ≠ w.heap.size + 1; omega) _) (blk_set (HQ.out).he 0 _) (Kd.R_nil _ _ _ _ _) _ rfl rfl
theorem gidle_calls (p q : Addr) (w : World) :
  CallsD Tryz.prog 54 #[.pointer (some p), .pointer (some q)] .returning w fun e u' w' => e = .returned (.tuple #[]) ∧ u' = .returning ∧ w' = w := by
 refine callsD_of_wpS Tryz.func54 rfl fun c₀ cs hu => ?_
 apply wpS_seq
 apply wpS_region
 simp [wpOpsS, go_sem, recoverD, hu, Tryz.ntmps54, Exit.thenS]
 apply wpS_seq
 apply wpS_region
 simp [wpOpsS, go_sem, Exit.thenS]
 refine wpS_cond (t := false) (by simp [Act.eval, Array.replicate]) ?_
 simp only [Bool.false_eq_true, if_false]
 refine wpS_of_wp (wp_skip ?_)
 cases c₀
 simp_all [bodyPostS, results, Tryz.results54]
set_option maxHeartbeats 4000000 in
set_option maxRecDepth 100000 in
theorem gbad_calls (a : Nat) (x y e : Value) (w : World) (h0 : w.heap[a]? = some (.cells #[x, y] 25 (0, 0))) (h1 : w.heap[a + 1]? = some (.cells #[e] 26 (0, 0))) :
  CallsD Tryz.prog 54 #[.pointer (some ⟨a, 0, none⟩), .pointer (some ⟨a + 1, 0, none⟩)] (.panicking [{ v := .iface 85 (.agg #[]), recovered := false }]) w fun e u' w' =>
   e = .returned (.tuple #[]) ∧ u' = .panicking [{ v := .iface 85 (.agg #[]), recovered := true }] ∧ w'.heap[a]? = some (.cells #[.slice none 0 0, .slice none 0 0] 25 (0, 0)) ∧ w'.heap[a + 1]? = some (.cells #[.int .i64 4] 26 (0, 0)) ∧ Below a w w' := by
 refine callsD_of_wpS Tryz.func54 rfl fun c₀ cs hu => ?_
 apply wpS_seq
 apply wpS_region
 simp [wpOpsS, go_sem, recoverD, hu, Tryz.ntmps54, Exit.thenS]
 refine wpS_of_wp ?_
 rw [show (#[Value.pointer (some ⟨a, 0, none⟩), Value.pointer (some ⟨a + 1, 0, none⟩)] ++ ((Array.replicate 15 undef).setIfInBounds 3 (Value.iface 85 (Value.agg #[]))).setIfInBounds 0 (Value.iface 85 (Value.agg #[]))) = #[Value.pointer (some ⟨a, 0, none⟩), Value.pointer (some ⟨a + 1, 0, none⟩), Value.iface 85 (Value.agg #[]), undef, undef, Value.iface 85 (Value.agg #[]), undef, undef, undef, undef, undef, undef, undef, undef, undef, undef, undef] from rfl]
 have hta : ∀ W : World, (Instr.typeAssert (Value.iface 85 (Value.agg #[])) 20 85 true).run Tryz.prog W = .ok (.tuple #[.agg #[], .bool true]) W := fun W => by kernel_rfl
 have HB := mk0 (aA_ (Below.refl w.heap.size w) (.cells #[] 85))
 have HQ0 := mk0 hu
 have ha : a < w.heap.size := (Array.getElem?_eq_some_iff.1 h0).1
 generalize hQ : bodyPostS Tryz.prog Tryz.f54 c₀ cs _ = QQ
 have HQ := mk0 hQ
 clear hQ
 go_upto_region 5 with (fail)
 have H0 := mk0 (aK_ h0 HB.out)
 have H1 := mk0 (aK_ h1 HB.out)
 clear h0 h1
 generalize w.alloc (.cells #[] 85) = W2 at *
 have c0 : W2.cell? ⟨a, 0, none⟩ = some x := (aC_ H0.out 0).trans rfl
 have c1 : W2.cell? ⟨a, 1, none⟩ = some y := (aC_ H0.out 1).trans rfl
 have c3 : W2.cell? ⟨a + 1, 0, none⟩ = some e := (aC_ H1.out 0).trans rfl
 have f0 : W2.frozen? ⟨a, 0, none⟩ = false := aJ_ H0.out 0
 have f1 : W2.frozen? ⟨a, 1, none⟩ = false := aJ_ H0.out 1
 have f3 : W2.frozen? ⟨a + 1, 0, none⟩ = false := aJ_ H1.out 0
 go_wp2
 rw [← HQ.out]
 have hB := Below.mono HB.out (show a ≤ w.heap.size from Nat.le_of_lt ha)
 clear c0 c1 c3 f0 f1 f3
 refine ⟨rfl, _, rfl, _, results_none rfl _ _ _, rfl, rfl, ?_, ?_, ?_⟩
 ·exact aT_ (blk_set (blk_set H0.out 0 _) 1 _) (by show a ≠ a + 1; omega) _
 ·exact blk_set (aT_ (aT_ H1.out (by show a + 1 ≠ a; omega) _) (by show a + 1 ≠ a; omega) _) 0 _
 ·exact ((hB.setCell (p := ⟨a, 0, none⟩) (Nat.le_refl a) _).setCell (p := ⟨a, 1, none⟩) (Nat.le_refl a) _).setCell (p := ⟨a + 1, 0, none⟩) (Nat.le_succ a) _
structure GSt where
 sy : List S71
 fs : List S52
 bo : List ByteArray
 large : Bool
def nmE (l : List ByteArray) : Ents := (l.zipIdx).foldl (fun es p => if mget p.1 es = none then es ++ [(p.1, (p.2 : Int))] else es) []
def pSym : List UInt8 := [115, 121, 109, 98, 111, 108, 32]
def pFun : List UInt8 := [102, 117, 110, 32]
def lnStep (g : GSt) (s : ByteArray) : Option GSt :=
 let l := s.data.toList
 if Lib.hasPrefix l pSym = true ∧ g.fs.length = 0 then (symR (Lib.trimPrefix l pSym)).map fun y => { g with sy := g.sy ++ [y] }
 else
  let a := Lib.cut (Lib.trimPrefix l pFun) [32, 58, 32]
  let b := Lib.cut a.2.1 [32, 61, 32]
  if Lib.hasPrefix l pFun = true ∧ a.2.2 = true ∧ b.2.2 = true ∧ nameB ⟨a.1.toArray⟩ = true then
   (if (getSR ⟨b.1.toArray⟩).1 = 4 then none
    else some { sy := g.sy, fs := g.fs ++ [⟨⟨a.1.toArray⟩, (getSR ⟨b.1.toArray⟩).2, ⟨0, 0, []⟩⟩], bo := g.bo ++ [⟨b.2.1.toArray⟩], large := g.large || decide ((getSR ⟨b.1.toArray⟩).1 ≠ 0) })
  else none
def lnAll : GSt → List ByteArray → Option GSt
 | g, [] => some g
 | g, s :: r => (lnStep g s).bind fun g2 => lnAll g2 r
theorem nmE_snoc (l : List ByteArray) (x : ByteArray) : nmE (l ++ [x]) = (if mget x (nmE l) = none then nmE l ++ [(x, (l.length : Int))] else nmE l) := by
 unfold nmE
 rw [List.zipIdx_append, List.foldl_append]
 simp
def chunks (s : ByteArray) (c : UInt8) : List ByteArray := Lib.splitB ⟨#[c]⟩ 0 (Lib.countB s ⟨#[c]⟩) s
def boAll (e1 e2 : Ents) : List S52 → List ByteArray → Option (List S52)
 | f :: r, b :: t => (tmR e1 e2 b.data.toList).bind fun p => if p.2 = [] then (boAll e1 e2 r t).map (⟨f.f0, f.f1, p.1⟩ :: ·) else none
 | _, _ => some []
def getV3 (t : ByteArray) : Option (List S71 × List S52 × Bool) :=
 let L := chunks t 10
 if L.getD (L.length - 1) ByteArray.empty = ByteArray.empty then
  (lnAll ⟨[], [], [], false⟩ (L.take (L.length - 1))).bind fun g => (boAll (nmE (g.sy.map (·.f0))) (nmE (g.fs.map (·.f0))) g.fs g.bo).map fun fs => (g.sy, fs, g.large)
 else none
def getR3 (t : ByteArray) : Int × List S71 × List S52 :=
 if 65536 < t.size then (3, [], []) else match getV3 t with
  | none => (4, [], [])
  | some (sy, fs, large) => if large = true ∨ schV sy fs ≠ 0 then (7, [], []) else (0, sy, fs)
def GetE3 (t : ByteArray) (w : World) (E : Ending) (w' : World) : Prop :=
 ∃ A1 c1 A2 c2, E = .returned (.tuple #[.agg #[.slice A1 (getR3 t).2.1.length c1, .slice A2 (getR3 t).2.2.length c2], .int .i64 (getR3 t).1]) ∧ Kd.C k71 w' A1 (getR3 t).2.1.length (getR3 t).2.1 ∧ (getR3 t).2.1.length ≤ c1 ∧ Kd.C k52 w' A2 (getR3 t).2.2.length (getR3 t).2.2 ∧ (getR3 t).2.2.length ≤ c2 ∧ Below w.heap.size w w'
structure GH3 (w W : World) (x y : Value) : Prop where
 hb : Below w.heap.size w W
 ha : W.heap[w.heap.size]? = some (.cells #[x, y] 25 (0, 0))
 he : W.heap[w.heap.size + 1]? = some (.cells #[.int .i64 0] 26 (0, 0))
theorem GH3.start (w : World) : GH3 w ((w.alloc (.cells #[.slice none 0 0, .slice none 0 0] 25)).alloc (.cells #[.int .i64 0] 26)) (.slice none 0 0) (.slice none 0 0) :=
 ⟨aA_ (aA_ (Below.refl _ _) _) _, aD_ (aU_ w _) _, blk_at2 w _ _⟩
theorem GH3.below {w W W1 : World} {x y : Value} (h : GH3 w W x y) (hb : Below W.heap.size W W1) : GH3 w W1 x y := ⟨aM_ h.hb h.hb.size hb, aK_ h.ha hb, aK_ h.he hb⟩
theorem GH3.grown {w W W1 : World} {x y : Value} (h : GH3 w W x y) {row : Option Nat} (hb : Below w.heap.size w W1) (hg : W.grownBy W1 row) (hne : ∀ k, row = some k → w.heap.size + 2 ≤ k) : GH3 w W1 x y :=
 ⟨hb, blk_grown h.ha hg (fun e => by have := hne _ e.symm; omega), blk_grown h.he hg (fun e => by have := hne _ e.symm; omega)⟩
theorem GH3.call {w W W1 : World} {x y : Value} {b : Nat} (h : GH3 w W x y) (hk : KR b W W1) (hb : w.heap.size + 2 ≤ b) : GH3 w W1 x y := ⟨Below.trans h.hb (Below.mono hk.lo (by omega)), hk.blk (by omega) h.ha, hk.blk (by omega) h.he⟩
theorem GH3.cells {w W : World} {x y : Value} (h : GH3 w W x y) : W.cell? ⟨w.heap.size, 0, none⟩ = some x ∧ W.cell? ⟨w.heap.size, 1, none⟩ = some y ∧ W.cell? ⟨w.heap.size + 1, 0, none⟩ = some (.int .i64 0) :=
 ⟨(aC_ h.ha 0).trans rfl, (aC_ h.ha 1).trans rfl, (aC_ h.he 0).trans rfl⟩
theorem GH3.frozen {w W : World} {x y : Value} (h : GH3 w W x y) : W.frozen? ⟨w.heap.size, 0, none⟩ = false ∧ W.frozen? ⟨w.heap.size, 1, none⟩ = false ∧ W.frozen? ⟨w.heap.size + 1, 0, none⟩ = false :=
 ⟨aJ_ h.ha 0, aJ_ h.ha 1, aJ_ h.he 0⟩
theorem GH3.set0 {w W : World} {x y : Value} (h : GH3 w W x y) (u : Value) : GH3 w (W.setCell ⟨w.heap.size, 0, none⟩ u) u y := ⟨h.hb.setCell (p := ⟨w.heap.size, 0, none⟩) (Nat.le_refl _) _, blk_set h.ha 0 u, aT_ h.he (by show w.heap.size + 1 ≠ w.heap.size; omega) _⟩
theorem GH3.set1 {w W : World} {x y : Value} (h : GH3 w W x y) (u : Value) : GH3 w (W.setCell ⟨w.heap.size, 1, none⟩ u) x u := ⟨h.hb.setCell (p := ⟨w.heap.size, 1, none⟩) (Nat.le_refl _) _, blk_set h.ha 1 u, aT_ h.he (by show w.heap.size + 1 ≠ w.heap.size; omega) _⟩
theorem getE3_zero {t : ByteArray} {w W : World} {e : Int} (h : getR3 t = (e, [], [])) (hb : Below w.heap.size w W) : GetE3 t w (.returned (.tuple #[.agg #[.slice none 0 0, .slice none 0 0], .int .i64 e])) W := by
 unfold GetE3
 rw [h]
 exact ⟨none, 0, none, 0, rfl, ⟨rfl, by simp, fun h => absurd h (by simp)⟩, Nat.le_refl _, ⟨rfl, by simp, fun h => absurd h (by simp)⟩, Nat.le_refl _, hb⟩
theorem get3_panic {t : ByteArray} {w W : World} {x y : Value} (h : getR3 t = (4, [], [])) (hG : GH3 w W x y) (tm : Array Value) (h2 : tm[2]? = some (.pointer (some ⟨w.heap.size, 0, none⟩))) (h3 : tm[3]? = some (.pointer (some ⟨w.heap.size + 1, 0, none⟩))) :
  bodyPostD Tryz.prog Tryz.f19 (GetE3 t w) (Exit.panic [{ v := .iface 85 (.agg #[]), recovered := false }]) { tmps := tm, defers := [{ target := .fn (.func 54) #[.pointer (some ⟨w.heap.size, 0, none⟩), .pointer (some ⟨w.heap.size + 1, 0, none⟩)], args := #[] }] } W := by
 refine leaves_cons (f := 54) (args := #[.pointer (some ⟨w.heap.size, 0, none⟩), .pointer (some ⟨w.heap.size + 1, 0, none⟩)]) (by simp) (by simp [go_sem]) ?_
 refine (gbad_calls w.heap.size x y _ W hG.ha hG.he).mono ?_
 rintro e u' w'' ⟨rfl, rfl, h0, h1, hb⟩
 have k0 : w''.cell? ⟨w.heap.size, 0, none⟩ = some (.slice none 0 0) := (aC_ h0 0).trans rfl
 have k1 : w''.cell? ⟨w.heap.size, 1, none⟩ = some (.slice none 0 0) := (aC_ h0 1).trans rfl
 have k3 : w''.cell? ⟨w.heap.size + 1, 0, none⟩ = some (.int .i64 4) := (aC_ h1 0).trans rfl
 have hE := getE3_zero (w := w) (W := w'') h (Below.trans hG.hb hb)
 simp [Leaves, settle, results, Tryz.results19, go_sem, h2, h3, k0, k1, k3]
 exact hE
theorem get3_done {t : ByteArray} {w W : World} {A1 A2 : Option Addr} {c1 c2 : Nat} {sy : List S71} {fs : List S52} {e : Int} (h : getR3 t = (e, sy, fs)) (hG : Below w.heap.size w W)
  (h0 : W.heap[w.heap.size]? = some (.cells #[.slice A1 sy.length c1, .slice A2 fs.length c2] 25 (0, 0))) (h1 : W.heap[w.heap.size + 1]? = some (.cells #[.int .i64 e] 26 (0, 0)))
  (hr : Kd.C k71 W A1 sy.length sy) (hrc : sy.length ≤ c1) (hM : Kd.C k52 W A2 fs.length fs) (hMc : fs.length ≤ c2)
  (tm : Array Value) (h2 : tm[2]? = some (.pointer (some ⟨w.heap.size, 0, none⟩))) (h3 : tm[3]? = some (.pointer (some ⟨w.heap.size + 1, 0, none⟩))) :
  bodyPostD Tryz.prog Tryz.f19 (GetE3 t w) Exit.ret { tmps := tm, defers := [{ target := .fn (.func 54) #[.pointer (some ⟨w.heap.size, 0, none⟩), .pointer (some ⟨w.heap.size + 1, 0, none⟩)], args := #[] }] } W := by
 refine leaves_cons (f := 54) (args := #[.pointer (some ⟨w.heap.size, 0, none⟩), .pointer (some ⟨w.heap.size + 1, 0, none⟩)]) (by simp) (by simp [go_sem]) ?_
 refine (gidle_calls _ _ W).mono ?_
 rintro e' u' w'' ⟨rfl, rfl, rfl⟩
 have k0 : w''.cell? ⟨w.heap.size, 0, none⟩ = some (.slice A1 sy.length c1) := (aC_ h0 0).trans rfl
 have k1 : w''.cell? ⟨w.heap.size, 1, none⟩ = some (.slice A2 fs.length c2) := (aC_ h0 1).trans rfl
 have k3 : w''.cell? ⟨w.heap.size + 1, 0, none⟩ = some (.int .i64 e) := (aC_ h1 0).trans rfl
 have hE : GetE3 t w (.returned (.tuple #[.agg #[.slice A1 sy.length c1, .slice A2 fs.length c2], .int .i64 e])) w'' := by
  unfold GetE3
  rw [h]
  exact ⟨A1, _, A2, _, rfl, hr, hrc, hM, hMc, hG⟩
 simp [Leaves, settle, results, Tryz.results19, go_sem, h2, h3, k0, k1, k3]
 exact hE
theorem get3_ret0 {t : ByteArray} {w W : World} {e : Int} (h : getR3 t = (e, [], [])) (hG : Below w.heap.size w W)
  (h0 : W.heap[w.heap.size]? = some (.cells #[.slice none 0 0, .slice none 0 0] 25 (0, 0))) (h1 : W.heap[w.heap.size + 1]? = some (.cells #[.int .i64 e] 26 (0, 0)))
  (tm : Array Value) (h2 : tm[2]? = some (.pointer (some ⟨w.heap.size, 0, none⟩))) (h3 : tm[3]? = some (.pointer (some ⟨w.heap.size + 1, 0, none⟩))) :
  bodyPostD Tryz.prog Tryz.f19 (GetE3 t w) Exit.ret { tmps := tm, defers := [] } W := by
 have k0 : W.cell? ⟨w.heap.size, 0, none⟩ = some (.slice none 0 0) := (aC_ h0 0).trans rfl
 have k1 : W.cell? ⟨w.heap.size, 1, none⟩ = some (.slice none 0 0) := (aC_ h0 1).trans rfl
 have k3 : W.cell? ⟨w.heap.size + 1, 0, none⟩ = some (.int .i64 e) := (aC_ h1 0).trans rfl
 have hE := getE3_zero h hG
 simp [bodyPostD, Leaves, settle, results, Tryz.results19, go_sem, h2, h3, k0, k1, k3]
 exact hE
theorem getR3_bad {t : ByteArray} (hs : t.size ≤ 65536) (h : getV3 t = none) : getR3 t = (4, [], []) := by unfold getR3; rw [if_neg (by omega), h]
theorem chunks_len (s : ByteArray) (c : UInt8) : (Lib.splitB ⟨#[c]⟩ 0 (Lib.countB s ⟨#[c]⟩) s).length = Lib.countB s ⟨#[c]⟩ + 1 := Lib.splitB_all _ (show 1 ≤ (ByteArray.mk #[c]).size from Nat.le_refl 1) _ _ _ rfl
theorem chunks_short (s : ByteArray) (c : UInt8) : (chunks s c).length ≤ s.size + 1 := by
 have h : (chunks s c).length = Lib.countB s ⟨#[c]⟩ + 1 := chunks_len s c
 have := Lib.countB_le ⟨#[c]⟩ (Nat.le_refl 1) s.size s (Nat.le_refl _)
 omega
theorem chunks_pos (s : ByteArray) (c : UInt8) : 1 ≤ (chunks s c).length := by
 have h : (chunks s c).length = Lib.countB s ⟨#[c]⟩ + 1 := chunks_len s c
 omega
theorem split_calls (s : ByteArray) (c : UInt8) (w : World) (hs : s.size ≤ 70000) (hm : MX w) :
  Calls Tryz.prog 55 #[.string s, .string ⟨#[c]⟩] w fun E w' => E = .returned (.slice (some ⟨w.heap.size, 0, none⟩) (chunks s c).length (chunks s c).length) ∧ w' = w.alloc (.cells ((chunks s c).map Value.string).toArray 9) := by
 obtain ⟨m, hm⟩ := hm
 have h := Tryz.strings_Split s ⟨#[c]⟩ m w (by omega) hm (Nat.le_refl 1)
 rw [← chunks_len s c] at h
 exact h
theorem strs_cell {W : World} {b : Nat} {L : List ByteArray} {x : Nat × Nat} (h : W.heap[b]? = some (.cells (L.map Value.string).toArray 9 x)) {i : Nat} (hi : i < L.length) : W.cell? ⟨b, i, none⟩ = some (.string (L.getD i ByteArray.empty)) := by
 rw [Lib.cell_of_heap h]
 simp [l18_, hi]
theorem splitB_size (sep : ByteArray) : ∀ (k : Nat) (s : ByteArray), ∀ x ∈ Lib.splitB sep 0 k s, x.size ≤ s.size
 | 0, s, x, hx => by rw [Lib.splitB_zero, List.mem_singleton] at hx; rw [hx]; exact Nat.le_refl _
 | k + 1, s, x, hx => by
  unfold Lib.splitB at hx
  split at hx
  ·rw [List.mem_singleton] at hx; rw [hx]; exact Nat.le_refl _
  ·rcases List.mem_cons.1 hx with rfl | hx
   ·rw [ByteArray.size_extract]; omega
   ·have := splitB_size sep k _ x hx
    rw [ByteArray.size_extract] at this; omega
theorem chunk_size (s : ByteArray) (c : UInt8) (i : Nat) : ((chunks s c).getD i ByteArray.empty).size ≤ s.size := by
 by_cases hi : i < (chunks s c).length
 ·rw [l18_, l17_ hi]
  exact splitB_size _ _ _ _ (l11_ hi)
 ·rw [l18_, List.getElem?_eq_none (by omega)]
  exact Nat.zero_le _
structure FL (w wi : World) (L : List ByteArray) (bl B1 B2 b : Nat) (tx : List UInt8) (sy : List S71) (fs : List S52) (bo : List ByteArray) (e1 e2 : Ents) (A1 : Option Addr) (c1 : Nat) (A2 : Option Addr) (c2 : Nat) (A3 : Option Addr) (c3 : Nat) : Prop where
 g : GH3 w wi (.slice A1 sy.length c1) (.slice A2 fs.length c2)
 l : wi.heap[bl]? = some (.cells (L.map Value.string).toArray 9 (0, 0))
 rt : RT b tx (.map (some B1)) (.map (some B2)) wi
 m1 : MapIs wi B1 Value.string ki sdom e1
 m2 : MapIs wi B2 Value.string ki sdom e2
 r1 : Kd.R k71 71 wi w.heap.size (fun k => b < k) (.slice A1 sy.length c1) sy
 r2 : Kd.R k52 52 wi w.heap.size (fun k => b < k) (.slice A2 fs.length c2) fs
 r3 : Kd.R Kd.string 9 wi w.heap.size (fun k => b < k) (.slice A3 bo.length c3) bo
 n : w.heap.size + 2 ≤ bl ∧ bl < B1 ∧ B1 < B2 ∧ B2 < b
section
variable {w wi w1 : World} {L : List ByteArray} {bl B1 B2 b : Nat} {tx : List UInt8} {sy : List S71} {fs : List S52} {bo : List ByteArray} {e1 e2 : Ents} {A1 A2 A3 : Option Addr} {c1 c2 c3 : Nat}
theorem FL.below (h : FL w wi L bl B1 B2 b tx sy fs bo e1 e2 A1 c1 A2 c2 A3 c3) (hb : Below wi.heap.size wi w1) : FL w w1 L bl B1 B2 b tx sy fs bo e1 e2 A1 c1 A2 c2 A3 c3 :=
 ⟨h.g.below hb, aK_ h.l hb, h.rt.keep hb, h.m1.below hb, h.m2.below hb, Kd.R_below h.r1 hb, Kd.R_below h.r2 hb, Kd.R_below h.r3 hb, h.n⟩
theorem FL.hb (h : FL w wi L bl B1 B2 b tx sy fs bo e1 e2 A1 c1 A2 c2 A3 c3) : Below w.heap.size w wi := h.g.hb
theorem FL.lt (h : FL w wi L bl B1 B2 b tx sy fs bo e1 e2 A1 c1 A2 c2 A3 c3) : b < wi.heap.size := blk_lt h.rt.blk
theorem FL.put1 {e3 : Ents} (h : FL w wi L bl B1 B2 b tx sy fs bo e1 e2 A1 c1 A2 c2 A3 c3) (hm : MapIs w1 B1 Value.string ki sdom e3) (hg : wi.grownBy w1 (some B1)) : FL w w1 L bl B1 B2 b tx sy fs bo e3 e2 A1 c1 A2 c2 A3 c3 := by
 have hn := h.n
 have ne : ∀ k, b < k → some k ≠ some B1 := fun k hk e => by have := l13_ e; omega
 refine ⟨h.g.grown (pw_below_grown h.g.hb _ h.g.hb.size hg (fun k hk => by cases hk; omega)) hg (fun k hk => by cases hk; omega), blk_grown h.l hg (fun e => by have := l13_ e; omega), ⟨blk_grown h.rt.blk hg (fun e => by have := l13_ e; omega)⟩, hm, h.m2.grown hg (fun e => by have := l13_ e; omega), Kd.R_grown h.r1 hg ne, Kd.R_grown h.r2 hg ne, Kd.R_grown h.r3 hg ne, hn⟩
theorem FL.put2 {e3 : Ents} (h : FL w wi L bl B1 B2 b tx sy fs bo e1 e2 A1 c1 A2 c2 A3 c3) (hm : MapIs w1 B2 Value.string ki sdom e3) (hg : wi.grownBy w1 (some B2)) : FL w w1 L bl B1 B2 b tx sy fs bo e1 e3 A1 c1 A2 c2 A3 c3 := by
 have hn := h.n
 have ne : ∀ k, b < k → some k ≠ some B2 := fun k hk e => by have := l13_ e; omega
 refine ⟨h.g.grown (pw_below_grown h.g.hb _ h.g.hb.size hg (fun k hk => by cases hk; omega)) hg (fun k hk => by cases hk; omega), blk_grown h.l hg (fun e => by have := l13_ e; omega), ⟨blk_grown h.rt.blk hg (fun e => by have := l13_ e; omega)⟩, h.m1.grown hg (fun e => by have := l13_ e; omega), hm, Kd.R_grown h.r1 hg ne, Kd.R_grown h.r2 hg ne, Kd.R_grown h.r3 hg ne, hn⟩
theorem FL.push1 {y : S71} {A : Option Addr} {c : Nat} (h : FL w wi L bl B1 B2 b tx sy fs bo e1 e2 A1 c1 A2 c2 A3 c3) (ho : Kd.R k71 71 w1 w.heap.size (fun k => b < k) (.slice A (sy ++ [y]).length c) (sy ++ [y])) (hb : Below w.heap.size w w1) (hg : wi.grownBy w1 (Value.slice A1 sy.length c1).ownBlock) :
  FL w (w1.setCell ⟨w.heap.size, 0, none⟩ (.slice A (sy.length + 1) c)) L bl B1 B2 b tx (sy ++ [y]) fs bo e1 e2 A c A2 c2 A3 c3 := by
 rw [show sy.length + 1 = (sy ++ [y]).length from by simp]
 have hn := h.n
 have hr : ∀ k, (Value.slice A1 sy.length c1).ownBlock = some k → b < k := h.r1.1
 have ne : ∀ k, b < k → k ≠ w.heap.size := fun k hk => by omega
 have nb : ∀ g, g ≤ b → some g ≠ (Value.slice A1 sy.length c1).ownBlock := fun g hg e => by have := hr _ e.symm; omega
 refine ⟨(h.g.grown hb hg (fun k hk => by have := hr k hk; omega)).set0 _, aT_ (blk_grown h.l hg (nb _ (by omega))) (by show bl ≠ w.heap.size; omega) _, (RT.mk (blk_grown h.rt.blk hg (nb _ (Nat.le_refl _)))).far (by omega) _ _, (h.m1.grown hg (nb _ (by omega))).far (by show B1 ≠ w.heap.size; omega) _, (h.m2.grown hg (nb _ (by omega))).far (by show B2 ≠ w.heap.size; omega) _, Kd.R_far ho ne _, Kd.R_far (Kd.R_over h.r2 h.r1 (by decide) hg) ne _, Kd.R_far (Kd.R_over h.r3 h.r1 (by decide) hg) ne _, hn⟩
theorem FL.push2 {y : S52} {A : Option Addr} {c : Nat} (h : FL w wi L bl B1 B2 b tx sy fs bo e1 e2 A1 c1 A2 c2 A3 c3) (ho : Kd.R k52 52 w1 w.heap.size (fun k => b < k) (.slice A (fs ++ [y]).length c) (fs ++ [y])) (hb : Below w.heap.size w w1) (hg : wi.grownBy w1 (Value.slice A2 fs.length c2).ownBlock) :
  FL w (w1.setCell ⟨w.heap.size, 1, none⟩ (.slice A (fs.length + 1) c)) L bl B1 B2 b tx sy (fs ++ [y]) bo e1 e2 A1 c1 A c A3 c3 := by
 rw [show fs.length + 1 = (fs ++ [y]).length from by simp]
 have hn := h.n
 have hr : ∀ k, (Value.slice A2 fs.length c2).ownBlock = some k → b < k := h.r2.1
 have ne : ∀ k, b < k → k ≠ w.heap.size := fun k hk => by omega
 have nb : ∀ g, g ≤ b → some g ≠ (Value.slice A2 fs.length c2).ownBlock := fun g hg e => by have := hr _ e.symm; omega
 refine ⟨(h.g.grown hb hg (fun k hk => by have := hr k hk; omega)).set1 _, aT_ (blk_grown h.l hg (nb _ (by omega))) (by show bl ≠ w.heap.size; omega) _, (RT.mk (blk_grown h.rt.blk hg (nb _ (Nat.le_refl _)))).far (by omega) _ _, (h.m1.grown hg (nb _ (by omega))).far (by show B1 ≠ w.heap.size; omega) _, (h.m2.grown hg (nb _ (by omega))).far (by show B2 ≠ w.heap.size; omega) _, Kd.R_far (Kd.R_over h.r1 h.r2 (by decide) hg) ne _, Kd.R_far ho ne _, Kd.R_far (Kd.R_over h.r3 h.r2 (by decide) hg) ne _, hn⟩
theorem FL.push3 {y : ByteArray} {A : Option Addr} {c : Nat} (h : FL w wi L bl B1 B2 b tx sy fs bo e1 e2 A1 c1 A2 c2 A3 c3) (ho : Kd.R Kd.string 9 w1 w.heap.size (fun k => b < k) (.slice A (bo ++ [y]).length c) (bo ++ [y])) (hb : Below w.heap.size w w1) (hg : wi.grownBy w1 (Value.slice A3 bo.length c3).ownBlock) :
  FL w w1 L bl B1 B2 b tx sy fs (bo ++ [y]) e1 e2 A1 c1 A2 c2 A c := by
 have hn := h.n
 have hr : ∀ k, (Value.slice A3 bo.length c3).ownBlock = some k → b < k := h.r3.1
 have nb : ∀ g, g ≤ b → some g ≠ (Value.slice A3 bo.length c3).ownBlock := fun g hg e => by have := hr _ e.symm; omega
 refine ⟨h.g.grown hb hg (fun k hk => by have := hr k hk; omega), blk_grown h.l hg (nb _ (by omega)), ⟨blk_grown h.rt.blk hg (nb _ (Nat.le_refl _))⟩, h.m1.grown hg (nb _ (by omega)), h.m2.grown hg (nb _ (by omega)), Kd.R_over h.r1 h.r3 (by decide) hg, Kd.R_over h.r2 h.r3 (by decide) hg, ho, hn⟩
end
theorem lnAll_snoc (g : GSt) (l : List ByteArray) (s : ByteArray) : lnAll g (l ++ [s]) = (lnAll g l).bind fun g2 => lnStep g2 s := by
 induction l generalizing g with
 | nil =>
  show (lnStep g s).bind (fun g2 => lnAll g2 []) = lnStep g s
  cases lnStep g s <;> rfl
 | cons a r ih =>
  rw [List.cons_append, lnAll, lnAll]
  cases lnStep g a with
  | none => rfl
  | some g2 => simp only [l21_]; exact ih g2
theorem lnAll_none {g : GSt} {l : List ByteArray} {n i : Nat} (hi : i < n) (hn : n ≤ l.length) (h : lnAll g (l.take (i + 1)) = none) : lnAll g (l.take n) = none := by
 have e : ∀ (a b : List ByteArray) (g : GSt), lnAll g a = none → lnAll g (a ++ b) = none := by
  intro a b
  induction a with
  | nil => intro g h; cases h
  | cons x r ih =>
   intro g h
   rw [List.cons_append, lnAll]
   rw [lnAll] at h
   cases q : lnStep g x with
   | none => rfl
   | some g2 => rw [q] at h; simp only [l21_] at h ⊢; exact ih g2 h
 have e2 := (List.take_append_drop (i + 1) (l.take n)).symm
 rw [List.take_take, show min (i + 1) n = i + 1 by omega] at e2
 rw [e2]
 exact e _ _ _ h
theorem getV3_end {t : ByteArray} (h : (chunks t 10).getD ((chunks t 10).length - 1) ByteArray.empty ≠ ByteArray.empty) : getV3 t = none := by unfold getV3; simp only; rw [if_neg h]
theorem getV3_lines {t : ByteArray} (h : lnAll ⟨[], [], [], false⟩ ((chunks t 10).take ((chunks t 10).length - 1)) = none) : getV3 t = none := by
 unfold getV3
 simp only
 split
 ·rw [h]; rfl
 ·rfl
theorem getV3_main {t : ByteArray} (h0 : (chunks t 10).getD ((chunks t 10).length - 1) ByteArray.empty = ByteArray.empty) {g : GSt} (h : lnAll ⟨[], [], [], false⟩ ((chunks t 10).take ((chunks t 10).length - 1)) = some g) :
  getV3 t = (boAll (nmE (g.sy.map (·.f0))) (nmE (g.fs.map (·.f0))) g.fs g.bo).map fun fs => (g.sy, fs, g.large) := by
 unfold getV3
 simp only
 rw [if_pos h0, h]; rfl
theorem nmE_put {x : ByteArray} {l : List ByteArray} (h : mget x (nmE l) = none) : mput x (l.length : Int) (nmE l) = nmE (l ++ [x]) := by
 rw [nmE_snoc, if_pos h]
 exact mput_new (mget_none.1 h)
theorem nmE_keep {x : ByteArray} {l : List ByteArray} {v : Int} (h : mget x (nmE l) = some v) : nmE l = nmE (l ++ [x]) := by
 rw [nmE_snoc, if_neg (by rw [h]; simp)]
theorem GH3.far {w W : World} {x y : Value} (h : GH3 w W x y) {b : Nat} (hb : w.heap.size + 2 ≤ b) (i : Nat) (u : Value) : GH3 w (W.setCell ⟨b, i, none⟩ u) x y :=
 ⟨h.hb.setCell (p := ⟨b, i, none⟩) (by show w.heap.size ≤ b; omega) _, aT_ h.ha (by show w.heap.size ≠ b; omega) _, aT_ h.he (by show w.heap.size + 1 ≠ b; omega) _⟩
section
variable {w wi w1 : World} {L : List ByteArray} {bl B1 B2 b : Nat} {tx : List UInt8} {sy : List S71} {fs fs2 : List S52} {bo : List ByteArray} {e1 e2 : Ents} {A1 A2 A3 : Option Addr} {c1 c2 c3 : Nat}
theorem FL.setT (h : FL w wi L bl B1 B2 b tx sy fs bo e1 e2 A1 c1 A2 c2 A3 c3) (s : ByteArray) : FL w (wi.setCell ⟨b, 0, none⟩ (.string s)) L bl B1 B2 b s.data.toList sy fs bo e1 e2 A1 c1 A2 c2 A3 c3 := by
 have hn := h.n
 have ne : ∀ k, b < k → k ≠ b := fun k hk => by omega
 exact ⟨h.g.far (by omega) _ _, aT_ h.l (by show bl ≠ b; omega) _, h.rt.set s, h.m1.far (by show B1 ≠ b; omega) _, h.m2.far (by show B2 ≠ b; omega) _, Kd.R_far h.r1 ne _, Kd.R_far h.r2 ne _, Kd.R_far h.r3 ne _, hn⟩
theorem FL.call {l2 : List UInt8} (h : FL w wi L bl B1 B2 b tx sy fs bo e1 e2 A1 c1 A2 c2 A3 c3) (hk : KR b wi w1) (hr : RT b l2 (.map (some B1)) (.map (some B2)) w1) : FL w w1 L bl B1 B2 b l2 sy fs bo e1 e2 A1 c1 A2 c2 A3 c3 := by
 have hn := h.n
 have ne : ∀ k, b < k → k ≠ b := fun k hk => by omega
 exact ⟨h.g.call hk (by omega), hk.blk (by omega) h.l, hr, h.m1.kept (hk.keep.2 B1 h.m1.lt (by omega) (by simp)), h.m2.kept (hk.keep.2 B2 h.m2.lt (by omega) (by simp)), hk.rr h.r1 ne, hk.rr h.r2 ne, hk.rr h.r3 ne, hn⟩
theorem FL.rm (h : FL w wi L bl B1 B2 b tx sy fs bo e1 e2 A1 c1 A2 c2 A3 c3) : RM b tx B1 B2 e1 e2 wi := by
 have hn := h.n
 exact ⟨h.rt, h.m1, h.m2, by omega, by omega⟩
theorem FL.stored (h : FL w wi L bl B1 B2 b tx sy fs bo e1 e2 A1 c1 A2 c2 A3 c3) (hl : fs2.length = fs.length) (ho : Kd.R k52 52 w1 w.heap.size (fun k => b < k) (.slice A2 fs.length c2) fs2) (hg : wi.grownBy w1 (Value.slice A2 fs.length c2).ownBlock) :
  FL w w1 L bl B1 B2 b tx sy fs2 bo e1 e2 A1 c1 A2 c2 A3 c3 := by
 have hn := h.n
 have hr : ∀ k, (Value.slice A2 fs.length c2).ownBlock = some k → b < k := h.r2.1
 have nb : ∀ g, g ≤ b → some g ≠ (Value.slice A2 fs.length c2).ownBlock := fun g hg e => by have := hr _ e.symm; omega
 have hb : Below w.heap.size w w1 := pw_below_grown h.g.hb _ h.g.hb.size hg (fun k hk => by have := hr k hk; omega)
 have hgg := h.g.grown hb hg (fun k hk => by have := hr k hk; omega)
 rw [← hl] at hgg ho
 exact ⟨hgg, blk_grown h.l hg (nb _ (by omega)), ⟨blk_grown h.rt.blk hg (nb _ (Nat.le_refl _))⟩, h.m1.grown hg (nb _ (by omega)), h.m2.grown hg (nb _ (by omega)), Kd.R_over h.r1 h.r2 (by decide) hg, ho, Kd.R_over h.r3 h.r2 (by decide) hg, hn⟩
theorem FL.fin (h : FL w wi L bl B1 B2 b tx sy fs bo e1 e2 A1 c1 A2 c2 A3 c3) (v0 v1 e : Value) :
  (Kd.C k71 (((wi.setCell ⟨w.heap.size, 0, none⟩ v0).setCell ⟨w.heap.size, 1, none⟩ v1).setCell ⟨w.heap.size + 1, 0, none⟩ e) A1 sy.length sy ∧ sy.length ≤ c1 ∧ Kd.C k52 (((wi.setCell ⟨w.heap.size, 0, none⟩ v0).setCell ⟨w.heap.size, 1, none⟩ v1).setCell ⟨w.heap.size + 1, 0, none⟩ e) A2 fs.length fs ∧ fs.length ≤ c2) ∧
  Below w.heap.size w (((wi.setCell ⟨w.heap.size, 0, none⟩ v0).setCell ⟨w.heap.size, 1, none⟩ v1).setCell ⟨w.heap.size + 1, 0, none⟩ e) ∧ (((wi.setCell ⟨w.heap.size, 0, none⟩ v0).setCell ⟨w.heap.size, 1, none⟩ v1).setCell ⟨w.heap.size + 1, 0, none⟩ e).heap[w.heap.size]? = some (.cells #[v0, v1] 25 (0, 0)) ∧
  (((wi.setCell ⟨w.heap.size, 0, none⟩ v0).setCell ⟨w.heap.size, 1, none⟩ v1).setCell ⟨w.heap.size + 1, 0, none⟩ e).heap[w.heap.size + 1]? = some (.cells #[e] 26 (0, 0)) := by
 have hn := h.n
 have ne : ∀ k, b < k → k ≠ w.heap.size := fun k hk => by omega
 have ne1 : ∀ k, b < k → k ≠ w.heap.size + 1 := fun k hk => by omega
 have q := (h.g.set0 v0).set1 v1
 have r1 := Kd.R_reads' (Kd.R_far (p := ⟨w.heap.size + 1, 0, none⟩) (Kd.R_far (p := ⟨w.heap.size, 1, none⟩) (Kd.R_far (p := ⟨w.heap.size, 0, none⟩) h.r1 ne v0) ne v1) ne1 e)
 have r2 := Kd.R_reads' (Kd.R_far (p := ⟨w.heap.size + 1, 0, none⟩) (Kd.R_far (p := ⟨w.heap.size, 1, none⟩) (Kd.R_far (p := ⟨w.heap.size, 0, none⟩) h.r2 ne v0) ne v1) ne1 e)
 exact ⟨⟨r1.2.2, r1.2.1, r2.2.2, r2.2.1⟩, q.hb.setCell (p := ⟨w.heap.size + 1, 0, none⟩) (Nat.le_succ _) _, aT_ q.ha (by show w.heap.size ≠ w.heap.size + 1; omega) _, blk_set q.he 0 _⟩
theorem FL.gone (h : FL w wi L bl B1 B2 b tx sy fs bo e1 e2 A1 c1 A2 c2 A3 c3) (hk : KR b wi w1) : GH3 w w1 (.slice A1 sy.length c1) (.slice A2 fs.length c2) := by
 have hn := h.n
 exact h.g.call hk (by omega)
end
theorem row_body {W : World} {base g n cap : Nat} {ok okp : Nat → Prop} {xs : List S52} (HO : Kd.R k52 52 W base ok (.slice (some ⟨g, 0, none⟩) n cap) xs) {j : Nat} (hi : j < n) (tt : S50) {v : Value} (hv : k50.R 50 W base okp v tt.f2) (hokp : ∀ k, okp k → ok k ∧ k ≠ g) :
  Kd.R k52 52 (W.setCells g (j * 5 + 2) [.int .i64 tt.f0, .int .i64 tt.f1, v]) base ok (.slice (some ⟨g, 0, none⟩) n cap) (xs.set j ⟨(xs.getD j z52).f0, (xs.getD j z52).f1, tt⟩) ∧ W.grownBy (W.setCells g (j * 5 + 2) [.int .i64 tt.f0, .int .i64 tt.f1, v]) (some g) := by
 obtain ⟨c, hcl, hM, hcc, _⟩ := Kd.R_elem HO z52 (j : Int) (by omega) (by omega)
 rw [l14_] at hM hcc
 obtain ⟨v1, v4, rfl, g1, g4⟩ := Q.k52_openM hM
 have h := Kd.R_seg (okp := fun k => ok k ∧ k ≠ g) HO (j : Int) (by omega) (by omega) hcl (j := 2) (seg := [.int .i64 tt.f0, .int .i64 tt.f1, v]) (by rw [l14_]; exact hcc) (by show 2 + 3 ≤ 5; decide) (x' := ⟨(xs.getD j z52).f0, (xs.getD j z52).f1, tt⟩)
  (Q.k52_mkM W base _ ⟨(xs.getD j z52).f0, (xs.getD j z52).f1, tt⟩ g1 (Kd.R_mono hv hokp)) (fun k hk => hk)
 rw [l14_] at h
 exact h
theorem body_cells {W : World} {base g n cap : Nat} {ok : Nat → Prop} {xs : List S52} (HO : Kd.R k52 52 W base ok (.slice (some ⟨g, 0, none⟩) n cap) xs) {j : Nat} (hi : j < n) :
  (∃ x y z, W.cell? ⟨g, j * 5 + 2, none⟩ = some x ∧ W.cell? ⟨g, j * 5 + 2 + 1, none⟩ = some y ∧ W.cell? ⟨g, j * 5 + 2 + 2, none⟩ = some z) ∧ W.frozen? ⟨g, j * 5 + 2, none⟩ = false ∧ W.frozen? ⟨g, j * 5 + 2 + 1, none⟩ = false ∧ W.frozen? ⟨g, j * 5 + 2 + 2, none⟩ = false := by
 obtain ⟨c, hcl, hM, hcc, hf⟩ := Kd.R_elem HO z52 (j : Int) (by omega) (by omega)
 rw [l14_] at hM hcc hf
 obtain ⟨v1, v4, rfl, g1, g4⟩ := Q.k52_openM hM
 exact ⟨⟨_, _, _, hcc 2 _ rfl, hcc 3 _ rfl, hcc 4 _ rfl⟩, hf 2, hf 3, hf 4⟩
theorem lnStep_bo {g g2 : GSt} {s : ByteArray} (h : lnStep g s = some g2) : ∀ x ∈ g2.bo, x ∈ g.bo ∨ x.size ≤ s.size := by
 unfold lnStep at h
 simp only at h
 split at h
 ·obtain ⟨y, _, rfl⟩ := Option.map_eq_some_iff.1 h
  exact fun x hx => .inl hx
 ·split at h
  ·split at h
   ·cases h
   ·obtain rfl := l13_ h
    intro x hx
    rcases List.mem_append.1 hx with hx | hx
    ·exact .inl hx
    ·obtain rfl := List.mem_singleton.1 hx
     right
     show (Lib.cut (Lib.cut (Lib.trimPrefix s.data.toList pFun) [32, 58, 32]).2.1 [32, 61, 32]).2.1.toArray.size ≤ s.size
     rw [List.size_toArray, Lib.size_eq]
     have i1 := (cut_size (Lib.trimPrefix s.data.toList pFun) [32, 58, 32]).2
     have i2 := (cut_size (Lib.cut (Lib.trimPrefix s.data.toList pFun) [32, 58, 32]).2.1 [32, 61, 32]).2
     have := trim_len s.data.toList pFun
     omega
  ·cases h
theorem lnAll_bo {m : Nat} : ∀ (l : List ByteArray) (g g2 : GSt), (∀ s ∈ l, s.size ≤ m) → (∀ x ∈ g.bo, x.size ≤ m) → lnAll g l = some g2 → ∀ x ∈ g2.bo, x.size ≤ m := by
 intro l
 induction l with
 | nil => intro g g2 _ hg h; obtain rfl := l13_ h; exact hg
 | cons s r ih =>
  intro g g2 hl hg h
  rw [lnAll] at h
  obtain ⟨g1, h1, h⟩ := Option.bind_eq_some_iff.1 h
  refine ih g1 g2 (fun x hx => hl x (List.mem_cons_of_mem _ hx)) (fun x hx => ?_) h
  rcases lnStep_bo h1 x hx with hx | hx
  ·exact hg x hx
  ·exact Nat.le_trans hx (hl s (List.mem_cons_self ..))
theorem boAll_next {e1 e2 : Ents} {fs : List S52} {bo : List ByteArray} {j : Nat} (h : j < bo.length) (h2 : bo.length = fs.length) {dn : List S52} (hd : dn.length = j) :
  boAll e1 e2 (fs.drop j) (bo.drop j) = (tmR e1 e2 (bo.getD j ByteArray.empty).data.toList).bind fun p => if p.2 = [] then (boAll e1 e2 (fs.drop (j + 1)) (bo.drop (j + 1))).map (⟨(fs.getD j z52).f0, (fs.getD j z52).f1, p.1⟩ :: ·) else none := by
 have h3 : j < fs.length := by omega
 rw [List.drop_eq_getElem_cons h, List.drop_eq_getElem_cons h3, boAll]
 simp [l18_, h, h3]
theorem boAll_end {e1 e2 : Ents} {fs : List S52} {bo : List ByteArray} (h2 : bo.length = fs.length) : boAll e1 e2 (fs.drop bo.length) (bo.drop bo.length) = some [] := by
 rw [l15_ (by omega), l15_ (Nat.le_refl _)]; rfl
theorem set_next {fs dn : List S52} {j : Nat} (hd : dn.length = j) (h : j < fs.length) (x : S52) : (dn ++ fs.drop j).set j x = (dn ++ [x]) ++ fs.drop (j + 1) := by
 subst hd
 rw [List.set_append_right _ _ (Nat.le_refl _), Nat.sub_self, List.drop_eq_getElem_cons h, l5_, List.append_assoc]
 rfl
theorem get_next {fs dn : List S52} {j : Nat} (hd : dn.length = j) (h : j < fs.length) : (dn ++ fs.drop j).getD j z52 = fs.getD j z52 := by
 subst hd
 rw [l18_, l18_, List.getElem?_append_right (Nat.le_refl _), Nat.sub_self, List.getElem?_drop, Nat.add_zero]
end Go.Proofs.YthflpbgloeimfaaGreatDoor.H
