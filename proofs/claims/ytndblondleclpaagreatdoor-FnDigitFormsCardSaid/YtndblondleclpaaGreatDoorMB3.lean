/- Some of the texts of this claim, joined in one file: Shelf, DgI, LaidT, RdI, EnvL. -/
import Derived.Shelf.Strings.OnBuilder
import Derived.Shelf.Small.Wraps
import Derived.Shelf.LaysM
import Derived.Shelf.Strconv.Itoa4
import Derived.Shelf.LaysC
import Derived.Shelf.Strconv.ParseIntPublic10
import Derived.Shelf.Strconv.ErrVarParseInt
import Derived.Shelf.Strings.Cut
import Derived.Shelf.Strings.Prefix
import Derived.Shelf.Strings.Split
import Derived.Test.YtndblondleclpaaGreatDoorProg
import Derived.Test.YtndblondleclpaaGreatDoorMB2
import Derived.Lib.AppendIntMem
import Derived.Test.YtndblondleclpaaGreatDoorRows
import Derived.LaidMore
import Derived.LaidOnce
import Derived.Stop.LaidErr
import Derived.Stop.Joined
import Derived.Shelf.Vars
/- The contracts of the library that this seat takes, laid over its translation by the guide's own tools. No condition beyond those that each theorem names. -/
namespace Go.Proofs
open Go.Shelf

def Tryz.lays156_ren : Go.Shelf.Ren := ⟨fun | 156 => 58 | 165 => 106 | 166 => 107 | 169 => 108 | 240 => 140 | 241 => 141 | 276 => 164 | 277 => 165 | n => n, fun | 31 => 80 | 9 => 9 | 3 => 3 | 4 => 4 | 0 => 0 | 20 => 20 | 72 => 130 | 76 => 134 | 70 => 128 | 37 => 22 | 75 => 133 | 127 => 155 | 164 => 179 | 5 => 5 | 80 => 136 | n => n, fun | n => n⟩
theorem Tryz.lays156 : Go.Proofs.Lays.n156 Tryz.prog Tryz.lays156_ren := {
  mixed := by kernel_rfl
  f156 := Tryz.func58.trans (congrArg some (by kernel_rfl))
  f165 := Tryz.func106.trans (congrArg some (by kernel_rfl))
  f166 := Tryz.func107.trans (congrArg some (by kernel_rfl))
  f169 := Tryz.func108.trans (congrArg some (by kernel_rfl))
  f240 := Tryz.func140.trans (congrArg some (by kernel_rfl))
  f241 := Tryz.func141.trans (congrArg some (by kernel_rfl))
  f276 := Tryz.func164.trans (congrArg some (by kernel_rfl))
  f277 := Tryz.func165.trans (congrArg some (by kernel_rfl))
  t0 := Tryz.underlying0
  a0 := Tryz.isAgg0
  z0 := Tryz.sizeOf0
  v0 := Tryz.zeroValue0
  t3 := Tryz.underlying3
  a3 := Tryz.isAgg3
  z3 := Tryz.sizeOf3
  v3 := Tryz.zeroValue3
  t4 := Tryz.underlying4
  a4 := Tryz.isAgg4
  z4 := Tryz.sizeOf4
  v4 := Tryz.zeroValue4
  t9 := Tryz.underlying9
  a9 := Tryz.isAgg9
  z9 := Tryz.sizeOf9
  v9 := Tryz.zeroValue9
  t20 := Tryz.underlying20
  a20 := Tryz.isAgg20
  z20 := Tryz.sizeOf20
  v20 := Tryz.zeroValue20
  t31 := Tryz.underlying80
  a31 := Tryz.isAgg80
  z31 := Tryz.sizeOf80
  v31 := Tryz.zeroValue80
  t37 := Tryz.underlying22
  a37 := Tryz.isAgg22
  z37 := Tryz.sizeOf22
  v37 := Tryz.zeroValue22
  t70 := Tryz.underlying128
  a70 := Tryz.isAgg128
  z70 := Tryz.sizeOf128
  v70 := Tryz.zeroValue128
  t72 := Tryz.underlying130
  a72 := Tryz.isAgg130
  z72 := Tryz.sizeOf130
  v72 := Tryz.zeroValue130
  t75 := Tryz.underlying133
  a75 := Tryz.isAgg133
  z75 := Tryz.sizeOf133
  v75 := Tryz.zeroValue133
  t76 := Tryz.underlying134
  a76 := Tryz.isAgg134
  z76 := Tryz.sizeOf134
  v76 := Tryz.zeroValue134
  t127 := Tryz.underlying155
  a127 := Tryz.isAgg155
  z127 := Tryz.sizeOf155
  v127 := Tryz.zeroValue155
  t164 := Tryz.underlying179
  a164 := Tryz.isAgg179
  z164 := Tryz.sizeOf179
  v164 := Tryz.zeroValue179 }
theorem Tryz.Builder_Extra_156 : Builder.Extra Tryz.prog Tryz.lays156_ren := {
  sizeBuilder := by kernel_rfl
  liesBuilder := by kernel_rfl
  t5 := Tryz.underlying5
  a5 := Tryz.isAgg5
  z5 := Tryz.sizeOf5
  v5 := Tryz.zeroValue5
  infoByte := by kernel_rfl
  cellsByte := by kernel_rfl
  sizeByte := by kernel_rfl
  neB5 := by decide }
open Go.RowKit in
theorem Tryz.strings_Join_none (a : Option Addr) (c : Nat) (sep : ByteArray) (w : World) :
    Calls Tryz.prog 58 #[.slice a 0 c, .string sep] w fun e w' => e = .returned (.string ⟨#[]⟩) ∧ w' = w := Any.strings_Join_none Tryz.lays156 Tryz.Builder_Extra_156 a c sep w
open Go.RowKit in
theorem Tryz.strings_Join (bk o c : Nat) (xs : List ByteArray) (sep : ByteArray) (w : World) (hcells : ∀ (j : Nat) x, xs[j]? = some x → w.cell? ⟨bk, o + j, none⟩ = some (.string x)) (hbk : bk < w.heap.size) (hN : xs.length ≤ 140737488355328) (hcap : xs.length ≤ c) (hlen : (Lib.join (xs.map (·.data.toList)) sep.data.toList).length ≤ 140737488355328) :
    Calls Tryz.prog 58 #[.slice (some ⟨bk, o, none⟩) xs.length c, .string sep] w fun e w' => e = .returned (.string ⟨(Lib.join (xs.map (·.data.toList)) sep.data.toList).toArray⟩) ∧ Below w.heap.size w w' := Any.strings_Join Tryz.lays156 Tryz.Builder_Extra_156 bk o c xs sep w hcells hbk hN hcap hlen
def Tryz.lays103_ren : Go.Shelf.Ren := ⟨fun | 103 => 60 | 210 => 110 | 206 => 145 | n => n, fun | 9 => 9 | 4 => 4 | 24 => 84 | 3 => 3 | n => n, fun | n => n⟩
theorem Tryz.lays103 : Go.Proofs.Lays.n103 Tryz.prog Tryz.lays103_ren := {
  mixed := by kernel_rfl
  f103 := Tryz.func60.trans (congrArg some (by kernel_rfl))
  f206 := Tryz.func145.trans (congrArg some (by kernel_rfl))
  f210 := Tryz.func110.trans (congrArg some (by kernel_rfl))
  t3 := Tryz.underlying3
  a3 := Tryz.isAgg3
  z3 := Tryz.sizeOf3
  v3 := Tryz.zeroValue3
  t4 := Tryz.underlying4
  a4 := Tryz.isAgg4
  z4 := Tryz.sizeOf4
  v4 := Tryz.zeroValue4
  t9 := Tryz.underlying9
  a9 := Tryz.isAgg9
  z9 := Tryz.sizeOf9
  v9 := Tryz.zeroValue9
  t24 := Tryz.underlying84
  a24 := Tryz.isAgg84
  z24 := Tryz.sizeOf84
  v24 := Tryz.zeroValue84 }
open Go.RowKit in
theorem Tryz.strings_CutPrefix (s p : ByteArray) (w : World) :
    Calls Tryz.prog 60 #[.string s, .string p] w fun e w' => e = .returned (.tuple #[.string ⟨(Lib.trimPrefix s.data.toList p.data.toList).toArray⟩, .bool (Lib.hasPrefix s.data.toList p.data.toList)]) ∧ w' = w := Any.strings_CutPrefix Tryz.lays103 s p w
def Tryz.lays104_ren : Go.Shelf.Ren := ⟨fun | 104 => 61 | 211 => 111 | 207 => 146 | n => n, fun | 9 => 9 | 4 => 4 | 24 => 84 | 3 => 3 | n => n, fun | n => n⟩
theorem Tryz.lays104 : Go.Proofs.Lays.n104 Tryz.prog Tryz.lays104_ren := {
  mixed := by kernel_rfl
  f104 := Tryz.func61.trans (congrArg some (by kernel_rfl))
  f207 := Tryz.func146.trans (congrArg some (by kernel_rfl))
  f211 := Tryz.func111.trans (congrArg some (by kernel_rfl))
  t3 := Tryz.underlying3
  a3 := Tryz.isAgg3
  z3 := Tryz.sizeOf3
  v3 := Tryz.zeroValue3
  t4 := Tryz.underlying4
  a4 := Tryz.isAgg4
  z4 := Tryz.sizeOf4
  v4 := Tryz.zeroValue4
  t9 := Tryz.underlying9
  a9 := Tryz.isAgg9
  z9 := Tryz.sizeOf9
  v9 := Tryz.zeroValue9
  t24 := Tryz.underlying84
  a24 := Tryz.isAgg84
  z24 := Tryz.sizeOf84
  v24 := Tryz.zeroValue84 }
open Go.RowKit in
theorem Tryz.strings_CutSuffix (s p : ByteArray) (w : World) (hs : s.size ≤ 9223372036854775807) :
    Calls Tryz.prog 61 #[.string s, .string p] w fun e w' => e = .returned (.tuple #[.string ⟨(Lib.trimSuffix s.data.toList p.data.toList).toArray⟩, .bool (Lib.hasSuffix s.data.toList p.data.toList)]) ∧ w' = w := Any.strings_CutSuffix Tryz.lays104 s p w hs
def Tryz.laysM173_ren : Go.Shelf.Ren := ⟨fun | 173 => 105 | 246 => 139 | 283 => 160 | 284 => 161 | 285 => 162 | 286 => 163 | 129 => 183 | 317 => 182 | 318 => 184 | 319 => 185 | 320 => 186 | 337 => 199 | 338 => 200 | n => n, fun | 2 => 2 | 3 => 3 | 9 => 9 | 4 => 4 | 171 => 174 | 0 => 0 | 53 => 124 | 37 => 22 | 5 => 5 | 173 => 177 | 212 => 197 | 51 => 198 | 20 => 20 | 213 => 199 | 46 => 167 | 232 => 222 | 233 => 223 | n => n, fun | 17 => 1 | 18 => 6 | 19 => 7 | n => n⟩
theorem Tryz.laysM173 : Go.Proofs.LaysM.n173 Tryz.prog Tryz.laysM173_ren := {
  mixed := by kernel_rfl
  f129 := Tryz.func183.trans (congrArg some (by kernel_rfl))
  f173 := Tryz.func105.trans (congrArg some (by kernel_rfl))
  f246 := Tryz.func139.trans (congrArg some (by kernel_rfl))
  f283 := Tryz.func160.trans (congrArg some (by kernel_rfl))
  f284 := Tryz.func161.trans (congrArg some (by kernel_rfl))
  f285 := Tryz.func162.trans (congrArg some (by kernel_rfl))
  f286 := Tryz.func163.trans (congrArg some (by kernel_rfl))
  f317 := Tryz.func182.trans (congrArg some (by kernel_rfl))
  f318 := Tryz.func184.trans (congrArg some (by kernel_rfl))
  f319 := Tryz.func185.trans (congrArg some (by kernel_rfl))
  f320 := Tryz.func186.trans (congrArg some (by kernel_rfl))
  f337 := Tryz.func199.trans (congrArg some (by kernel_rfl))
  f338 := Tryz.func200.trans (congrArg some (by kernel_rfl))
  t0 := Tryz.underlying0
  a0 := Tryz.isAgg0
  z0 := Tryz.sizeOf0
  v0 := Tryz.zeroValue0
  t2 := Tryz.underlying2
  a2 := Tryz.isAgg2
  z2 := Tryz.sizeOf2
  v2 := Tryz.zeroValue2
  t3 := Tryz.underlying3
  a3 := Tryz.isAgg3
  z3 := Tryz.sizeOf3
  v3 := Tryz.zeroValue3
  t4 := Tryz.underlying4
  a4 := Tryz.isAgg4
  z4 := Tryz.sizeOf4
  v4 := Tryz.zeroValue4
  t5 := Tryz.underlying5
  a5 := Tryz.isAgg5
  z5 := Tryz.sizeOf5
  v5 := Tryz.zeroValue5
  t9 := Tryz.underlying9
  a9 := Tryz.isAgg9
  z9 := Tryz.sizeOf9
  v9 := Tryz.zeroValue9
  t20 := Tryz.underlying20
  a20 := Tryz.isAgg20
  z20 := Tryz.sizeOf20
  v20 := Tryz.zeroValue20
  t37 := Tryz.underlying22
  a37 := Tryz.isAgg22
  z37 := Tryz.sizeOf22
  v37 := Tryz.zeroValue22
  t46 := Tryz.underlying167
  a46 := Tryz.isAgg167
  z46 := Tryz.sizeOf167
  v46 := Tryz.zeroValue167
  t51 := Tryz.underlying198
  a51 := Tryz.isAgg198
  z51 := Tryz.sizeOf198
  v51 := Tryz.zeroValue198
  t53 := Tryz.underlying124
  a53 := Tryz.isAgg124
  z53 := Tryz.sizeOf124
  v53 := Tryz.zeroValue124
  t171 := Tryz.underlying174
  a171 := Tryz.isAgg174
  z171 := Tryz.sizeOf174
  v171 := Tryz.zeroValue174
  t173 := Tryz.underlying177
  a173 := Tryz.isAgg177
  z173 := Tryz.sizeOf177
  v173 := Tryz.zeroValue177
  t212 := Tryz.underlying197
  a212 := Tryz.isAgg197
  z212 := Tryz.sizeOf197
  v212 := Tryz.zeroValue197
  t213 := Tryz.underlying199
  a213 := Tryz.isAgg199
  z213 := Tryz.sizeOf199
  t232 := Tryz.underlying222
  a232 := Tryz.isAgg222
  z232 := Tryz.sizeOf222
  v232 := Tryz.zeroValue222
  t233 := Tryz.underlying223
  a233 := Tryz.isAgg223
  z233 := Tryz.sizeOf223
  v233 := Tryz.zeroValue223
  g17 := by kernel_rfl
  g18 := by kernel_rfl
  g19 := by kernel_rfl
  i0 := by kernel_rfl
  i2 := by kernel_rfl
  i3 := by kernel_rfl
  i4 := by kernel_rfl
  i5 := by kernel_rfl
  i9 := by kernel_rfl
  i20 := by kernel_rfl
  i37 := by kernel_rfl
  i46 := by kernel_rfl
  i51 := by kernel_rfl
  i53 := by kernel_rfl
  i171 := by kernel_rfl
  i173 := by kernel_rfl
  i212 := by kernel_rfl
  i232 := by kernel_rfl
  i233 := by kernel_rfl
  m17 := by kernel_rfl
  m18 := by kernel_rfl
  m19 := by kernel_rfl }
open Go.RowKit Go.Sort Go.Lib in
theorem Tryz.strconv_FormatInt_10 (n : Int) (h0 : -9223372036854775808 ≤ n) (h1 : n ≤ 9223372036854775807) (w : World) (htab : Lib.TabIs Tryz.prog w "internal/strconv.uint64pow10" .u64 Lib.pow10Tab) :
    Calls Tryz.prog 105 #[.int .i64 n, .int .i64 10] w fun e w' => e = .returned (.string ⟨(Lib.itoa n).toArray⟩) ∧ ∃ k os, w' = grow (w.drewN k) os := Any.strconv_FormatInt_10 Tryz.laysM173 n h0 h1 w htab
def Tryz.laysC174_ren : Go.Shelf.Ren := ⟨fun | 174 => 114 | 247 => 149 | 245 => 150 | 287 => 173 | 279 => 174 | 280 => 175 | 281 => 176 | 282 => 177 | 321 => 190 | 322 => 191 | 316 => 192 | 171 => 194 | 205 => 193 | 243 => 201 | 246 => 139 | 283 => 160 | 284 => 161 | 285 => 162 | 286 => 163 | 129 => 183 | 317 => 182 | 318 => 184 | 319 => 185 | 320 => 186 | 337 => 199 | 338 => 200 | n => n, fun | 9 => 9 | 3 => 3 | 2 => 2 | 75 => 133 | 85 => 139 | 4 => 4 | 167 => 187 | 5 => 5 | 53 => 124 | 175 => 188 | 46 => 167 | 168 => 190 | 37 => 22 | 0 => 0 | 210 => 208 | 21 => 21 | 127 => 155 | 145 => 221 | 143 => 219 | 171 => 174 | 173 => 177 | 212 => 197 | 51 => 198 | 20 => 20 | 213 => 199 | 232 => 222 | 233 => 223 | 80 => 136 | n => n, fun | 15 => 2 | 16 => 3 | 17 => 1 | 18 => 6 | 19 => 7 | n => n⟩
theorem Tryz.laysC174 : Go.Proofs.LaysC.n174 Tryz.prog Tryz.laysC174_ren := {
  mixed := by kernel_rfl
  f129 := Tryz.func183.trans (congrArg some (by kernel_rfl))
  f171 := Tryz.func194.trans (congrArg some (by kernel_rfl))
  f174 := Tryz.func114.trans (congrArg some (by kernel_rfl))
  f205 := Tryz.func193.trans (congrArg some (by kernel_rfl))
  f243 := Tryz.func201.trans (congrArg some (by kernel_rfl))
  f245 := Tryz.func150.trans (congrArg some (by kernel_rfl))
  f246 := Tryz.func139.trans (congrArg some (by kernel_rfl))
  f247 := Tryz.func149.trans (congrArg some (by kernel_rfl))
  f279 := Tryz.func174.trans (congrArg some (by kernel_rfl))
  f280 := Tryz.func175.trans (congrArg some (by kernel_rfl))
  f281 := Tryz.func176.trans (congrArg some (by kernel_rfl))
  f282 := Tryz.func177.trans (congrArg some (by kernel_rfl))
  f283 := Tryz.func160.trans (congrArg some (by kernel_rfl))
  f284 := Tryz.func161.trans (congrArg some (by kernel_rfl))
  f285 := Tryz.func162.trans (congrArg some (by kernel_rfl))
  f286 := Tryz.func163.trans (congrArg some (by kernel_rfl))
  f287 := Tryz.func173.trans (congrArg some (by kernel_rfl))
  f316 := Tryz.func192.trans (congrArg some (by kernel_rfl))
  f317 := Tryz.func182.trans (congrArg some (by kernel_rfl))
  f318 := Tryz.func184.trans (congrArg some (by kernel_rfl))
  f319 := Tryz.func185.trans (congrArg some (by kernel_rfl))
  f320 := Tryz.func186.trans (congrArg some (by kernel_rfl))
  f321 := Tryz.func190.trans (congrArg some (by kernel_rfl))
  f322 := Tryz.func191.trans (congrArg some (by kernel_rfl))
  f337 := Tryz.func199.trans (congrArg some (by kernel_rfl))
  f338 := Tryz.func200.trans (congrArg some (by kernel_rfl))
  t0 := Tryz.underlying0
  a0 := Tryz.isAgg0
  z0 := Tryz.sizeOf0
  v0 := Tryz.zeroValue0
  t2 := Tryz.underlying2
  a2 := Tryz.isAgg2
  z2 := Tryz.sizeOf2
  v2 := Tryz.zeroValue2
  t3 := Tryz.underlying3
  a3 := Tryz.isAgg3
  z3 := Tryz.sizeOf3
  v3 := Tryz.zeroValue3
  t4 := Tryz.underlying4
  a4 := Tryz.isAgg4
  z4 := Tryz.sizeOf4
  v4 := Tryz.zeroValue4
  t5 := Tryz.underlying5
  a5 := Tryz.isAgg5
  z5 := Tryz.sizeOf5
  v5 := Tryz.zeroValue5
  t9 := Tryz.underlying9
  a9 := Tryz.isAgg9
  z9 := Tryz.sizeOf9
  v9 := Tryz.zeroValue9
  t20 := Tryz.underlying20
  a20 := Tryz.isAgg20
  z20 := Tryz.sizeOf20
  v20 := Tryz.zeroValue20
  t21 := Tryz.underlying21
  a21 := Tryz.isAgg21
  z21 := Tryz.sizeOf21
  v21 := Tryz.zeroValue21
  t37 := Tryz.underlying22
  a37 := Tryz.isAgg22
  z37 := Tryz.sizeOf22
  v37 := Tryz.zeroValue22
  t46 := Tryz.underlying167
  a46 := Tryz.isAgg167
  z46 := Tryz.sizeOf167
  v46 := Tryz.zeroValue167
  t51 := Tryz.underlying198
  a51 := Tryz.isAgg198
  z51 := Tryz.sizeOf198
  v51 := Tryz.zeroValue198
  t53 := Tryz.underlying124
  a53 := Tryz.isAgg124
  z53 := Tryz.sizeOf124
  v53 := Tryz.zeroValue124
  t75 := Tryz.underlying133
  a75 := Tryz.isAgg133
  z75 := Tryz.sizeOf133
  v75 := Tryz.zeroValue133
  t85 := Tryz.underlying139
  a85 := Tryz.isAgg139
  z85 := Tryz.sizeOf139
  v85 := Tryz.zeroValue139
  t127 := Tryz.underlying155
  a127 := Tryz.isAgg155
  z127 := Tryz.sizeOf155
  v127 := Tryz.zeroValue155
  t143 := Tryz.underlying219
  a143 := Tryz.isAgg219
  z143 := Tryz.sizeOf219
  v143 := Tryz.zeroValue219
  t145 := Tryz.underlying221
  a145 := Tryz.isAgg221
  z145 := Tryz.sizeOf221
  v145 := Tryz.zeroValue221
  t167 := Tryz.underlying187
  a167 := Tryz.isAgg187
  z167 := Tryz.sizeOf187
  v167 := Tryz.zeroValue187
  t168 := Tryz.underlying190
  a168 := Tryz.isAgg190
  z168 := Tryz.sizeOf190
  v168 := Tryz.zeroValue190
  t171 := Tryz.underlying174
  a171 := Tryz.isAgg174
  z171 := Tryz.sizeOf174
  v171 := Tryz.zeroValue174
  t173 := Tryz.underlying177
  a173 := Tryz.isAgg177
  z173 := Tryz.sizeOf177
  v173 := Tryz.zeroValue177
  t175 := Tryz.underlying188
  a175 := Tryz.isAgg188
  z175 := Tryz.sizeOf188
  v175 := Tryz.zeroValue188
  t210 := Tryz.underlying208
  a210 := Tryz.isAgg208
  z210 := Tryz.sizeOf208
  v210 := Tryz.zeroValue208
  t212 := Tryz.underlying197
  a212 := Tryz.isAgg197
  z212 := Tryz.sizeOf197
  v212 := Tryz.zeroValue197
  t213 := Tryz.underlying199
  a213 := Tryz.isAgg199
  z213 := Tryz.sizeOf199
  t232 := Tryz.underlying222
  a232 := Tryz.isAgg222
  z232 := Tryz.sizeOf222
  v232 := Tryz.zeroValue222
  t233 := Tryz.underlying223
  a233 := Tryz.isAgg223
  z233 := Tryz.sizeOf223
  v233 := Tryz.zeroValue223
  g15 := by kernel_rfl
  g16 := by kernel_rfl
  g17 := by kernel_rfl
  g18 := by kernel_rfl
  g19 := by kernel_rfl
  t80 := Tryz.underlying136
  a80 := Tryz.isAgg136
  z80 := Tryz.sizeOf136
  v80 := Tryz.zeroValue136
  i0 := by kernel_rfl
  i2 := by kernel_rfl
  i3 := by kernel_rfl
  i4 := by kernel_rfl
  i5 := by kernel_rfl
  i9 := by kernel_rfl
  i20 := by kernel_rfl
  i21 := by kernel_rfl
  i37 := by kernel_rfl
  i46 := by kernel_rfl
  i51 := by kernel_rfl
  i53 := by kernel_rfl
  i75 := by kernel_rfl
  i80 := by kernel_rfl
  i85 := by kernel_rfl
  i127 := by kernel_rfl
  i143 := by kernel_rfl
  i145 := by kernel_rfl
  i167 := by kernel_rfl
  i168 := by kernel_rfl
  i171 := by kernel_rfl
  i173 := by kernel_rfl
  i175 := by kernel_rfl
  i210 := by kernel_rfl
  i212 := by kernel_rfl
  i232 := by kernel_rfl
  i233 := by kernel_rfl
  m15 := by kernel_rfl
  m16 := by kernel_rfl
  m17 := by kernel_rfl
  m18 := by kernel_rfl
  m19 := by kernel_rfl
  c0 := by kernel_rfl
  c2 := by kernel_rfl
  c3 := by kernel_rfl
  c4 := by kernel_rfl
  c5 := by kernel_rfl
  c9 := by kernel_rfl
  c20 := by kernel_rfl
  c21 := by kernel_rfl
  c37 := by kernel_rfl
  c46 := by kernel_rfl
  c51 := by kernel_rfl
  c53 := by kernel_rfl
  c75 := by kernel_rfl
  c80 := by kernel_rfl
  c85 := by kernel_rfl
  c127 := by kernel_rfl
  c143 := by kernel_rfl
  c145 := by kernel_rfl
  c167 := by kernel_rfl
  c168 := by kernel_rfl
  c171 := by kernel_rfl
  c173 := by kernel_rfl
  c175 := by kernel_rfl
  c210 := by kernel_rfl
  c212 := by kernel_rfl
  c213 := by kernel_rfl
  c232 := by kernel_rfl
  c233 := by kernel_rfl }
open Go.RowKit in
theorem Tryz.strconv_ParseInt_10_at64_ok (s : ByteArray) (hmax : s.size ≤ 9223372036854775806) (v : Int) (h : Lib.parseIntB 64 s.data.toList = .ok v) (w : World) :
    Calls Tryz.prog 114 #[.string s, .int .i64 10, .int .i64 64] w fun e w' => e = .returned (.tuple #[.int .i64 v, .nilIface]) ∧ (w' = w ∨ ∃ t, w' = Lib.bytesWorld w 5 t) := Any.strconv_ParseInt_10_at64_ok Tryz.laysC174 s hmax v h w
open Go.RowKit in
theorem Tryz.strconv_ParseInt_10_at64_syn (s : ByteArray) (hlim : s.size ≤ 281474976710656) (h : ∀ v, Lib.parseIntB 64 s.data.toList ≠ .ok v) (h2 : Lib.parseIntB 64 s.data.toList ≠ .range) (tp : TypeId) (p : Value) (w : World) (hvar : w.var? Tryz.prog "strconv.ErrSyntax" = some #[.iface tp p]) :
    Calls Tryz.prog 114 #[.string s, .int .i64 10, .int .i64 64] w fun e w' => ∃ N, e = .returned (.tuple #[.int .i64 (0), .iface 190 (.pointer (some ⟨N, 0, none⟩))]) ∧ w.heap.size ≤ N ∧ w'.heap[N]? = some (.cells #[.string ⟨#[80, 97, 114, 115, 101, 73, 110, 116]⟩, .string s, .iface tp p] 208 (0, 0)) ∧ Below w.heap.size w w' := by
  cases e : Lib.parseIntB 64 s.data.toList with
  | ok v => exact absurd e (h v)
  | range => exact absurd e h2
  | _ => exact Any.strconv_ParseInt_10_at64_syntax_var Tryz.laysC174 s hlim e tp p w hvar
open Go.RowKit in
theorem Tryz.strconv_ParseInt_10_at64_range_var (s : ByteArray) (hlim : s.size ≤ 281474976710656) (h : Lib.parseIntB 64 s.data.toList = .range) (tp : TypeId) (p : Value) (w : World) (hvar : w.var? Tryz.prog "strconv.ErrRange" = some #[.iface tp p]) :
    Calls Tryz.prog 114 #[.string s, .int .i64 10, .int .i64 64] w fun e w' => ∃ N, e = .returned (.tuple #[.int .i64 (Lib.intSat 64 s.data.toList), .iface 190 (.pointer (some ⟨N, 0, none⟩))]) ∧ w.heap.size ≤ N ∧ w'.heap[N]? = some (.cells #[.string ⟨#[80, 97, 114, 115, 101, 73, 110, 116]⟩, .string s, .iface tp p] 208 (0, 0)) ∧ Below w.heap.size w w' := Any.strconv_ParseInt_10_at64_range_var Tryz.laysC174 s hlim h tp p w hvar
def Tryz.lays145_ren : Go.Shelf.Ren := ⟨fun | 145 => 62 | 220 => 112 | 219 => 147 | 217 => 169 | 225 => 170 | 224 => 171 | 267 => 172 | 266 => 188 | 314 => 189 | n => n, fun | 9 => 9 | 4 => 4 | 59 => 86 | 3 => 3 | 5 => 5 | 46 => 167 | 146 => 202 | 51 => 198 | n => n, fun | 1 => 0 | n => n⟩
theorem Tryz.lays145 : Go.Proofs.Lays.n145 Tryz.prog Tryz.lays145_ren := {
  mixed := by kernel_rfl
  f145 := Tryz.func62.trans (congrArg some (by kernel_rfl))
  f217 := Tryz.func169.trans (congrArg some (by kernel_rfl))
  f219 := Tryz.func147.trans (congrArg some (by kernel_rfl))
  f220 := Tryz.func112.trans (congrArg some (by kernel_rfl))
  f224 := Tryz.func171.trans (congrArg some (by kernel_rfl))
  f225 := Tryz.func170.trans (congrArg some (by kernel_rfl))
  f266 := Tryz.func188.trans (congrArg some (by kernel_rfl))
  f267 := Tryz.func172.trans (congrArg some (by kernel_rfl))
  f314 := Tryz.func189.trans (congrArg some (by kernel_rfl))
  t3 := Tryz.underlying3
  a3 := Tryz.isAgg3
  z3 := Tryz.sizeOf3
  v3 := Tryz.zeroValue3
  t4 := Tryz.underlying4
  a4 := Tryz.isAgg4
  z4 := Tryz.sizeOf4
  v4 := Tryz.zeroValue4
  t5 := Tryz.underlying5
  a5 := Tryz.isAgg5
  z5 := Tryz.sizeOf5
  v5 := Tryz.zeroValue5
  t9 := Tryz.underlying9
  a9 := Tryz.isAgg9
  z9 := Tryz.sizeOf9
  v9 := Tryz.zeroValue9
  t46 := Tryz.underlying167
  a46 := Tryz.isAgg167
  z46 := Tryz.sizeOf167
  v46 := Tryz.zeroValue167
  t51 := Tryz.underlying198
  a51 := Tryz.isAgg198
  z51 := Tryz.sizeOf198
  v51 := Tryz.zeroValue198
  t59 := Tryz.underlying86
  a59 := Tryz.isAgg86
  z59 := Tryz.sizeOf86
  v59 := Tryz.zeroValue86
  t146 := Tryz.underlying202
  a146 := Tryz.isAgg202
  z146 := Tryz.sizeOf202
  v146 := Tryz.zeroValue202
  g1 := by kernel_rfl }
open Go.RowKit Go.Lib in
theorem Tryz.strings_Cut (s sep : ByteArray) (m : Int) (w : World) (hs : s.size < 4294967281) (hm : w.cell? ⟨0, 0, none⟩ = some (.int .i64 m)) :
    Calls Tryz.prog 62 #[.string s, .string sep] w fun e w' => e = .returned (.tuple #[.string ⟨(Lib.cut s.data.toList sep.data.toList).1.toArray⟩, .string ⟨(Lib.cut s.data.toList sep.data.toList).2.1.toArray⟩, .bool (Lib.cut s.data.toList sep.data.toList).2.2]) ∧ ∃ n, w' = w.drewN n := Any.strings_Cut Tryz.lays145 s sep m w hs hm
def Tryz.lays101_ren : Go.Shelf.Ren := ⟨fun | 101 => 113 | 208 => 148 | 206 => 145 | n => n, fun | 9 => 9 | 4 => 4 | 3 => 3 | n => n, fun | n => n⟩
theorem Tryz.lays101 : Go.Proofs.Lays.n101 Tryz.prog Tryz.lays101_ren := {
  mixed := by kernel_rfl
  f101 := Tryz.func113.trans (congrArg some (by kernel_rfl))
  f206 := Tryz.func145.trans (congrArg some (by kernel_rfl))
  f208 := Tryz.func148.trans (congrArg some (by kernel_rfl))
  t3 := Tryz.underlying3
  a3 := Tryz.isAgg3
  z3 := Tryz.sizeOf3
  v3 := Tryz.zeroValue3
  t4 := Tryz.underlying4
  a4 := Tryz.isAgg4
  z4 := Tryz.sizeOf4
  v4 := Tryz.zeroValue4
  t9 := Tryz.underlying9
  a9 := Tryz.isAgg9
  z9 := Tryz.sizeOf9
  v9 := Tryz.zeroValue9 }
open Go.RowKit Go.Lib in
theorem Tryz.strings_TrimPrefix (s p : ByteArray) (w : World) :
    Calls Tryz.prog 113 #[.string s, .string p] w fun e w' => e = .returned (.string ⟨(Lib.trimPrefix s.data.toList p.data.toList).toArray⟩) ∧ w' = w := Any.strings_TrimPrefix Tryz.lays101 s p w
def Tryz.lays146_ren : Go.Shelf.Ren := ⟨fun | 146 => 59 | 221 => 109 | 268 => 142 | 138 => 143 | 143 => 144 | 195 => 166 | 197 => 167 | 218 => 168 | 219 => 147 | 260 => 187 | 217 => 169 | 225 => 170 | 224 => 171 | 267 => 172 | 266 => 188 | 314 => 189 | n => n, fun | 9 => 9 | 31 => 80 | 3 => 3 | 4 => 4 | 0 => 0 | 105 => 183 | 21 => 21 | 5 => 5 | 46 => 167 | 119 => 215 | 139 => 218 | 138 => 217 | 146 => 202 | 51 => 198 | n => n, fun | 1 => 0 | 3 => 4 | 4 => 5 | n => n⟩
theorem Tryz.lays146 : Go.Proofs.Lays.n146 Tryz.prog Tryz.lays146_ren := {
  mixed := by kernel_rfl
  f138 := Tryz.func143.trans (congrArg some (by kernel_rfl))
  f143 := Tryz.func144.trans (congrArg some (by kernel_rfl))
  f146 := Tryz.func59.trans (congrArg some (by kernel_rfl))
  f195 := Tryz.func166.trans (congrArg some (by kernel_rfl))
  f197 := Tryz.func167.trans (congrArg some (by kernel_rfl))
  f217 := Tryz.func169.trans (congrArg some (by kernel_rfl))
  f218 := Tryz.func168.trans (congrArg some (by kernel_rfl))
  f219 := Tryz.func147.trans (congrArg some (by kernel_rfl))
  f221 := Tryz.func109.trans (congrArg some (by kernel_rfl))
  f224 := Tryz.func171.trans (congrArg some (by kernel_rfl))
  f225 := Tryz.func170.trans (congrArg some (by kernel_rfl))
  f260 := Tryz.func187.trans (congrArg some (by kernel_rfl))
  f266 := Tryz.func188.trans (congrArg some (by kernel_rfl))
  f267 := Tryz.func172.trans (congrArg some (by kernel_rfl))
  f268 := Tryz.func142.trans (congrArg some (by kernel_rfl))
  f314 := Tryz.func189.trans (congrArg some (by kernel_rfl))
  t0 := Tryz.underlying0
  a0 := Tryz.isAgg0
  z0 := Tryz.sizeOf0
  v0 := Tryz.zeroValue0
  t3 := Tryz.underlying3
  a3 := Tryz.isAgg3
  z3 := Tryz.sizeOf3
  v3 := Tryz.zeroValue3
  t4 := Tryz.underlying4
  a4 := Tryz.isAgg4
  z4 := Tryz.sizeOf4
  v4 := Tryz.zeroValue4
  t5 := Tryz.underlying5
  a5 := Tryz.isAgg5
  z5 := Tryz.sizeOf5
  v5 := Tryz.zeroValue5
  t9 := Tryz.underlying9
  a9 := Tryz.isAgg9
  z9 := Tryz.sizeOf9
  v9 := Tryz.zeroValue9
  t21 := Tryz.underlying21
  a21 := Tryz.isAgg21
  z21 := Tryz.sizeOf21
  v21 := Tryz.zeroValue21
  t31 := Tryz.underlying80
  a31 := Tryz.isAgg80
  z31 := Tryz.sizeOf80
  v31 := Tryz.zeroValue80
  t46 := Tryz.underlying167
  a46 := Tryz.isAgg167
  z46 := Tryz.sizeOf167
  v46 := Tryz.zeroValue167
  t51 := Tryz.underlying198
  a51 := Tryz.isAgg198
  z51 := Tryz.sizeOf198
  v51 := Tryz.zeroValue198
  t105 := Tryz.underlying183
  a105 := Tryz.isAgg183
  z105 := Tryz.sizeOf183
  v105 := Tryz.zeroValue183
  t119 := Tryz.underlying215
  a119 := Tryz.isAgg215
  z119 := Tryz.sizeOf215
  t138 := Tryz.underlying217
  a138 := Tryz.isAgg217
  z138 := Tryz.sizeOf217
  v138 := Tryz.zeroValue217
  t139 := Tryz.underlying218
  a139 := Tryz.isAgg218
  z139 := Tryz.sizeOf218
  v139 := Tryz.zeroValue218
  t146 := Tryz.underlying202
  a146 := Tryz.isAgg202
  z146 := Tryz.sizeOf202
  v146 := Tryz.zeroValue202
  g1 := by kernel_rfl
  g3 := by kernel_rfl
  g4 := by kernel_rfl }
open Go.RowKit Go.Lib in
theorem Tryz.strings_Split (s sep : ByteArray) (m : Int) (w : World) (hs : s.size < 4294967281) (hm : w.cell? ⟨0, 0, none⟩ = some (.int .i64 m)) (h1 : 1 ≤ sep.size) :
    Calls Tryz.prog 59 #[.string s, .string sep] w fun e w' =>
      e = .returned (.slice (some ⟨w.heap.size, 0, none⟩) (Lib.countB s sep + 1) (Lib.countB s sep + 1)) ∧ w' = w.alloc (.cells ((Lib.splitB sep 0 (Lib.countB s sep) s).map Value.string).toArray 9) := Any.strings_Split Tryz.lays146 (by kernel_rfl) s sep m w hs hm h1
end Go.Proofs

/- Texts of digits, by the reference and by the program. Each theorem names its conditions. -/
namespace Go.Proofs.YtndblondleclpaaGreatDoor
open Go.RowKit
set_option linter.unusedVariables false
set_option linter.unusedSimpArgs false

/-- The library's table of powers of ten lies as its text says. -/
def Tab (w : World) : Prop := Lib.TabIs Tryz.prog w "internal/strconv.uint64pow10" .u64 Lib.pow10Tab
theorem Tab.below {w w' : World} (h : Tab w) (hb : Bl w w') : Tab w' := Lib.tabBelow_of_tabIs h w' hb

set_option maxHeartbeats 400000 in
theorem idec_any (n : Int) (hn : R64 n) (w : World) (ht : Tab w) :
    Calls Tryz.prog 57 #[.int .i64 n] w fun e w' => e = .returned (.string ⟨(Lib.itoa n).toArray⟩) ∧ Bl w w' := by
  go_enter Tryz.func57, Tryz.ntmps57
  go_wp2_with fail
  refine (Tryz.strconv_FormatInt_10 n hn.1 hn.2 w ht).mono ?_
  rintro e w' ⟨rfl, k, os, rfl⟩
  have B1 := Lib.below_grow w.heap.size w (Nat.le_refl _) k os
  generalize Sort.grow (w.drewN k) os = w1 at *
  go_wp2
  go_ret
  exact ⟨rfl, B1⟩

theorem dv_of {base whole : Int} {xs : List Int} (e1 : inB base 2 36 = true) (e2 : inB whole (-1000000000) 1000000000 = true) (e3 : digP base xs = true) (h : xs.length ≤ 1000) : DV base whole xs :=
  ⟨inB_iff.1 e1, inB_iff.1 e2, h, fun x hx => by have := digP_mem e3 x hx; omega⟩
theorem digP_of {base : Int} {xs : List Int} (h : ∀ x ∈ xs, 0 ≤ x ∧ x < base) : digP base xs = true := by
  unfold digP
  have : (xs.any fun x => !inB x 0 (base - 1)) = false := List.any_eq_false.2 fun x hx => by
    have := h x hx
    simp [inB_iff.2 (show 0 ≤ x ∧ x ≤ base - 1 by omega)]
  rw [this]; rfl
theorem dt_no1 {base whole : Int} {xs : List Int} (e : inB base 2 36 = false) : (⟨#[]⟩ : ByteArray) = ⟨(dtxt base whole xs).toArray⟩ := by
  rw [dtxt_no (fun v => by rw [inB_iff.2 v.b] at e; cases e)]
theorem dt_no2 {base whole : Int} {xs : List Int} (e : inB whole (-1000000000) 1000000000 = false) : (⟨#[]⟩ : ByteArray) = ⟨(dtxt base whole xs).toArray⟩ := by
  rw [dtxt_no (fun v => by rw [inB_iff.2 v.w] at e; cases e)]
theorem dt_no3 {base whole : Int} {xs : List Int} (e : digP base xs = false) : (⟨#[]⟩ : ByteArray) = ⟨(dtxt base whole xs).toArray⟩ := by
  rw [dtxt_no (fun v => by rw [digP_of v.d] at e; cases e)]
theorem dt_no4 {base whole : Int} {xs : List Int} (e : ¬ xs.length ≤ 1000) : (⟨#[]⟩ : ByteArray) = ⟨(dtxt base whole xs).toArray⟩ := by
  rw [dtxt_no (fun v => e v.l)]
theorem dt_yes {base whole : Int} {xs : List Int} (h : DV base whole xs) : (⟨(dtext whole xs).toArray⟩ : ByteArray) = ⟨(dtxt base whole xs).toArray⟩ := by rw [dtxt_yes h]

set_option maxRecDepth 100000 in
set_option maxHeartbeats 3200000 in
theorem spec_DigitsText (base whole : Int) (va : Value) (xs : List Int) (w : World) (ha : Sl w va xs) (hl : xs.length ≤ 1048576) :
    Calls Tryz.prog 41 #[.int .i64 base, .int .i64 whole, va] w fun e w' => e = .returned (.string ⟨(dtxt base whole xs).toArray⟩) ∧ Bl w w' := by
  obtain ⟨av, cv, rfl, hcv⟩ := ha.form'
  have HA := Lib.hid ha
  clear ha
  cases qb : inB base 2 36 with
  | false =>
    have HX := Lib.hid (dt_no1 (whole := whole) (xs := xs) qb)
    have E1 := Lib.hid qb
    clear qb
    go_enter Tryz.func41, Tryz.ntmps41
    go_wp2_with fail
    refine (sbase_eq E1.out _).mono ?_
    rintro e w9 ⟨rfl, rfl⟩
    go_wp2
    go_ret
    exact ⟨by rw [← HX.out]; rfl, by first | exact bl_refl _ | exact Bd⟩
  | true =>
    have E1 := Lib.hid qb
    have hbb := inB_iff.1 qb
    clear qb
    cases qd : digP base xs with
    | false =>
      have HX := Lib.hid (dt_no3 (whole := whole) qd)
      have E3 := Lib.hid qd
      clear qd
      go_enter Tryz.func41, Tryz.ntmps41
      go_wp2_with fail
      refine (sbase_eq E1.out _).mono ?_
      rintro e w9 ⟨rfl, rfl⟩
      go_wp2_with fail
      refine (sdig_eq E3.out _ hbb HA.out hl).mono ?_
      rintro e wd ⟨rfl, Bd⟩
      go_wp2
      go_ret
      exact ⟨by rw [← HX.out]; rfl, by first | exact bl_refl _ | exact Bd⟩
    | true =>
      have E3 := Lib.hid qd
      clear qd
      by_cases hlen : xs.length ≤ 1000
      · skip
        cases qw : inB whole (-1000000000) 1000000000 with
        | false =>
          have HX := Lib.hid (dt_no2 (base := base) (xs := xs) qw)
          have E2 := Lib.hid qw
          clear qw
          go_enter Tryz.func41, Tryz.ntmps41
          go_wp2_with fail
          refine (sbase_eq E1.out _).mono ?_
          rintro e w9 ⟨rfl, rfl⟩
          go_wp2_with fail
          refine (sdig_eq E3.out _ hbb HA.out hl).mono ?_
          rintro e wd ⟨rfl, Bd⟩
          go_wp2_with fail
          refine (in_eq' E2.out _).mono ?_
          rintro e w9 ⟨rfl, rfl⟩
          go_wp2
          go_ret
          exact ⟨by rw [← HX.out]; rfl, by first | exact bl_refl _ | exact Bd⟩
        | true =>
          have E2 := Lib.hid qw
          have hww := inB_iff.1 qw
          clear qw
          have HV := Lib.hid (dv_of E1.out E2.out E3.out hlen)
          go_enter Tryz.func41, Tryz.ntmps41
          go_wp2_with fail
          refine (sbase_eq E1.out _).mono ?_
          rintro e w9 ⟨rfl, rfl⟩
          go_wp2_with fail
          refine (sdig_eq E3.out _ hbb HA.out hl).mono ?_
          rintro e wd ⟨rfl, Bd⟩
          go_wp2_with fail
          refine (in_eq' E2.out _).mono ?_
          rintro e w9 ⟨rfl, rfl⟩
          go_wp2_with fail
          refine (ltext_any whole _ xs _ (by unfold R64; omega) (HA.out.below Bd) hlen (fun x hx => by have := HV.out.d x hx; omega)).mono ?_
          rintro e w2 ⟨rfl, B2⟩
          have HX := Lib.hid (dt_yes HV.out)
          go_wp2
          go_ret
          exact ⟨by rw [← HX.out]; rfl, bl_call Bd B2⟩
      · have HX := Lib.hid (dt_no4 (base := base) (whole := whole) hlen)
        go_enter Tryz.func41, Tryz.ntmps41
        go_wp2_with fail
        refine (sbase_eq E1.out _).mono ?_
        rintro e w9 ⟨rfl, rfl⟩
        go_wp2_with fail
        refine (sdig_eq E3.out _ hbb HA.out hl).mono ?_
        rintro e wd ⟨rfl, Bd⟩
        go_wp2
        go_ret
        exact ⟨by rw [← HX.out]; rfl, by first | exact bl_refl _ | exact Bd⟩

theorem mark_tab : ∀ d : Fin 36, (⟨#[48, 49, 50, 51, 52, 53, 54, 55, 56, 57, 97, 98, 99, 100, 101, 102, 103, 104, 105, 106, 107, 108, 109, 110, 111, 112, 113, 114, 115, 116, 117, 118, 119, 120, 121, 122]⟩ : ByteArray)[d.val]'(by have := d.isLt; simp [ByteArray.size]) = sgc (d.val : Int) := by decide
theorem mark_at {x : Int} (h0 : 0 ≤ x) (h1 : x < 36) (h : x.toNat < (⟨#[48, 49, 50, 51, 52, 53, 54, 55, 56, 57, 97, 98, 99, 100, 101, 102, 103, 104, 105, 106, 107, 108, 109, 110, 111, 112, 113, 114, 115, 116, 117, 118, 119, 120, 121, 122]⟩ : ByteArray).size) : (⟨#[48, 49, 50, 51, 52, 53, 54, 55, 56, 57, 97, 98, 99, 100, 101, 102, 103, 104, 105, 106, 107, 108, 109, 110, 111, 112, 113, 114, 115, 116, 117, 118, 119, 120, 121, 122]⟩ : ByteArray)[x.toNat]'h = sgc x := by
  have := mark_tab ⟨x.toNat, by omega⟩
  simp only at this
  rw [this, Int.toNat_of_nonneg h0]
/-- The characters that are written when k digits are. -/
def partB (xs : List Int) (k : Nat) : List UInt8 := (xs.take k).map sgc ++ List.replicate (xs.length - k) 0
theorem partB_len (xs : List Int) (k : Nat) (h : k ≤ xs.length) : (partB xs k).length = xs.length := by simp [partB]; omega
theorem partB_set (xs : List Int) (k : Nat) (x : Int) (h : xs[k]? = some x) : (partB xs k).set k (sgc x) = partB xs (k + 1) := by
  have hj := (List.getElem?_eq_some_iff.1 h).1
  have e : xs.length - k = (xs.length - (k + 1)) + 1 := by omega
  rw [partB, partB, List.set_append_right _ _ (by simp; omega), List.take_add_one, h, e, List.replicate_succ]
  simp [Nat.min_eq_left (Nat.le_of_lt hj)]
theorem partB_all (xs : List Int) : partB xs xs.length = xs.map sgc := by simp [partB]
theorem partB_zero (xs : List Int) : cB (partB xs 0) = List.replicate xs.length (.int .u8 0) := by simp [partB, cB]

set_option maxRecDepth 100000 in
set_option maxHeartbeats 3200000 in
theorem impl_DigitsText (base whole : Int) (va : Value) (xs : List Int) (w : World) (ha : Sl w va xs) (hl : xs.length ≤ 1048576) (ht : Tab w) :
    Calls Tryz.prog 37 #[.int .i64 base, .int .i64 whole, va] w fun e w' => e = .returned (.string ⟨(dtxt base whole xs).toArray⟩) ∧ Bl w w' := by
  have HT := Lib.hid ht
  clear ht
  obtain ⟨i0, hi, hz0, hz1, hz2⟩ := info_partsB info_u8
  obtain ⟨av, cv, rfl, hcv⟩ := ha.form'
  have HA := Lib.hid ha
  clear ha
  cases qb : inB base 2 36 with
  | false =>
    have HX := Lib.hid (dt_no1 (whole := whole) (xs := xs) qb)
    have E1 := Lib.hid qb
    clear qb
    go_enter Tryz.func37, Tryz.ntmps37
    go_wp2_with fail
    refine (ibase_eq E1.out _).mono ?_
    rintro e w9 ⟨rfl, rfl⟩
    go_wp2
    go_ret
    exact ⟨by rw [← HX.out]; rfl, by first | exact bl_refl _ | exact Bd⟩
  | true =>
    have E1 := Lib.hid qb
    have hbb := inB_iff.1 qb
    clear qb
    cases qw : inB whole (-1000000000) 1000000000 with
    | false =>
      have HX := Lib.hid (dt_no2 (base := base) (xs := xs) qw)
      have E2 := Lib.hid qw
      clear qw
      go_enter Tryz.func37, Tryz.ntmps37
      go_wp2_with fail
      refine (ibase_eq E1.out _).mono ?_
      rintro e w9 ⟨rfl, rfl⟩
      go_wp2_with fail
      refine (inB_eq E2.out _).mono ?_
      rintro e w9 ⟨rfl, rfl⟩
      go_wp2
      go_ret
      exact ⟨by rw [← HX.out]; rfl, by first | exact bl_refl _ | exact Bd⟩
    | true =>
      have E2 := Lib.hid qw
      have hww := inB_iff.1 qw
      clear qw
      cases qd : digP base xs with
      | false =>
        have HX := Lib.hid (dt_no3 (whole := whole) qd)
        have E3 := Lib.hid qd
        clear qd
        go_enter Tryz.func37, Tryz.ntmps37
        go_wp2_with fail
        refine (ibase_eq E1.out _).mono ?_
        rintro e w9 ⟨rfl, rfl⟩
        go_wp2_with fail
        refine (inB_eq E2.out _).mono ?_
        rintro e w9 ⟨rfl, rfl⟩
        go_wp2_with fail
        refine (areD_eq E3.out _ hbb HA.out hl).mono ?_
        rintro e wd ⟨rfl, Bd⟩
        go_wp2
        go_ret
        exact ⟨by rw [← HX.out]; rfl, by first | exact bl_refl _ | exact Bd⟩
      | true =>
        have E3 := Lib.hid qd
        clear qd
        by_cases hlen : xs.length ≤ 1000
        · skip
          have HV := Lib.hid (dv_of E1.out E2.out E3.out hlen)
          go_enter Tryz.func37, Tryz.ntmps37
          go_wp2_with fail
          refine (ibase_eq E1.out _).mono ?_
          rintro e w9 ⟨rfl, rfl⟩
          go_wp2_with fail
          refine (inB_eq E2.out _).mono ?_
          rintro e w9 ⟨rfl, rfl⟩
          go_wp2_with fail
          refine (areD_eq E3.out _ hbb HA.out hl).mono ?_
          rintro e wd ⟨rfl, Bd⟩
          go_wp2_with fail
          refine (idec_any whole (by unfold R64; omega) _ (HT.out.below Bd)).mono ?_
          rintro e w2 ⟨rfl, B2'⟩
          have B2 := bl_call Bd B2'
          clear B2'
          have hsz : (⟨(Lib.itoa whole).toArray⟩ : ByteArray).size ≤ 21 := by
            have := Lib.itoa_length_le whole (by omega) (by omega)
            simpa [ByteArray.size] using this
          obtain ⟨s, hs⟩ : ∃ s : ByteArray, s = ⟨(Lib.itoa whole).toArray⟩ := ⟨_, rfl⟩
          rw [← hs] at hsz ⊢
          have HS := Lib.hid hs
          clear hs
          by_cases h0 : xs.length = 0
          · have HX := Lib.hid (show s = ⟨(dtxt base whole xs).toArray⟩ by
              rw [dtxt_yes HV.out, HS.out, List.eq_nil_of_length_eq_zero h0]; simp [dtext])
            go_wp2
            go_ret
            exact ⟨by rw [← HX.out]; rfl, B2⟩
          · go_wp2_with (at_make; refine wpList_make_full _ rfl _ _ 22 rfl w.heap.size 5 i0 (.int .u8 0) 1 Tryz.underlying22 hi hz0 hz1 .i64 .i64 _ _ xs.length rfl rfl rfl rfl ?c1 ?c2 ?c3 ?_)
            case c1 => rw [hz2]; omega
            case c2 => unfold maxLen; omega
            case c3 => exact B2.size
            intro w3 hown3 hgrow3
            have B3 := bl_call B2 (below_of_grown hgrow3)
            clear hgrow3
            go_wp2
            have hgB : w.heap.size ≤ w2.heap.size := B2.size
            generalize w2.heap.size = g at *
            go_loopw [9, 10, 41] (fun _ _ s41 wr => ∃ j : Nat, j ≤ xs.length ∧ s41 = .int .i64 j ∧ wr.ownsRow w.heap.size 5 1 (.slice (some ⟨g, 0, none⟩) xs.length xs.length) xs.length (cB (partB xs j)) ∧ Bl w wr) (fun _ _ s41 _ => xs.length - (intOf s41).toNat)
            case atStart => exact ⟨0, Nat.zero_le _, rfl, by rw [partB_zero]; simpa [toList_madeCells_one] using hown3, B3⟩
            case round =>
              obtain ⟨j, hj, rfl, hO, hB⟩ := hrel
              by_cases hlt : j < xs.length
              · obtain ⟨b0, o0, rfl, hb0, x, hxk, hr, HC⟩ := HA.out.cellIn hlt
                have hxd := HV.out.d x (List.mem_of_getElem? hxk)
                have hcx := HC.out wr hB
                have hgl : g < wr.heap.size := (hO.lt g rfl).2
                have c1 : wr.cell? ⟨g, j, none⟩ = some (.int .u8 0) := by
                  rw [hO.cellAt j (by omega)]
                  have : (partB xs j)[j]? = some 0 := by
                    rw [partB, List.getElem?_append_right (by simp; omega)]
                    simp [Nat.min_eq_left (Nat.le_of_lt hlt), List.getElem?_replicate]
                    omega
                  exact cB_get this
                have c2 : wr.frozen? ⟨g, j, none⟩ = false := hO.frozenAt j
                have hS := (hO.stored j (.int .u8 ((sgc x).toNat : Int))).1
                have e : (cB (partB xs j)).set j (.int .u8 ((sgc x).toNat : Int)) = cB (partB xs (j + 1)) := by
                  rw [← partB_set xs j x hxk]; simp [cB, List.map_set]
                rw [e] at hS
                have HS1 := Lib.hid hS
                have HS2 := Lib.hid (hB.setCell (p := ⟨g, j, none⟩) hgB (.int .u8 ((sgc x).toNat : Int)))
                clear e hS hxk HC hown3
                go_wp2
                go_roundw
                case rel => exact ⟨j + 1, by omega, by simp, by rw [mark_at hxd.1 (by omega)]; exact HS1.out, by rw [mark_at hxd.1 (by omega)]; exact HS2.out⟩
                case measure => simp only [intOf]; omega
              · obtain rfl : j = xs.length := by omega
                have hO2 : OwB wr w.heap.size (.slice (some ⟨g, 0, none⟩) xs.length xs.length) (xs.map sgc) := by
                  rw [partB_all] at hO
                  exact owX_of_row (cB_one _) hO
                have hst := run_string_b hO2
                have HX := Lib.hid (show s ++ ⟨#[46]⟩ ++ ⟨(xs.map sgc).toArray⟩ = ⟨(dtxt base whole xs).toArray⟩ by
                  rw [dtxt_yes HV.out, HS.out, dtext, if_neg (fun q => h0 (by rw [q]; rfl))]
                  rw [str_app (Lib.itoa whole) [46], str_app]; simp)
                clear hO hO2 hown3
                have hsz2 : (⟨(xs.map sgc).toArray⟩ : ByteArray).size ≤ 1000 := by simpa [ByteArray.size] using hlen
                go_wp2
                go_ret
                exact ⟨by rw [← HX.out]; rfl, hB⟩
        · have HX := Lib.hid (dt_no4 (base := base) (whole := whole) hlen)
          go_enter Tryz.func37, Tryz.ntmps37
          go_wp2_with fail
          refine (ibase_eq E1.out _).mono ?_
          rintro e w9 ⟨rfl, rfl⟩
          go_wp2_with fail
          refine (inB_eq E2.out _).mono ?_
          rintro e w9 ⟨rfl, rfl⟩
          go_wp2_with fail
          refine (areD_eq E3.out _ hbb HA.out hl).mono ?_
          rintro e wd ⟨rfl, Bd⟩
          go_wp2
          go_ret
          exact ⟨by rw [← HX.out]; rfl, by first | exact bl_refl _ | exact Bd⟩

end Go.Proofs.YtndblondleclpaaGreatDoor

/- What the listed variables give: the table of powers of ten. Each theorem names its conditions. -/
namespace Go.Proofs.YtndblondleclpaaGreatDoor
open Go.RowKit
set_option linter.unusedVariables false
set_option maxRecDepth 100000

theorem tab_data : (Rows.laid_internal_strconv_uint64pow10 : DataW Unit) = Lib.tabData .u64 Lib.pow10Tab := by kernel_rfl
theorem tab_of_head {W : World} {r : List (String × DataW Unit)} (h : laidMet Tryz.prog (("internal/strconv.uint64pow10", Rows.laid_internal_strconv_uint64pow10) :: r) W) : Tab W := by
  rw [tab_data] at h
  exact Lib.tabIs_of_head (g := 1) (t := 197) (e := 124) (n := 20) (by kernel_rfl) (by kernel_rfl) Tryz.underlying197 Tryz.underlying124 (by kernel_rfl) (by kernel_rfl) h
theorem tab_of_laid {W : World} {a b : String × DataW Unit} {r : List (String × DataW Unit)} (h : laidMet Tryz.prog (a :: b :: ("internal/strconv.uint64pow10", Rows.laid_internal_strconv_uint64pow10) :: r) W) : Tab W := tab_of_head h.tail.tail

end Go.Proofs.YtndblondleclpaaGreatDoor

/- Decimal texts, as the program reads them. Each theorem names its conditions. -/
namespace Go.Proofs.YtndblondleclpaaGreatDoor
open Go.RowKit
set_option linter.unusedVariables false
set_option linter.unusedSimpArgs false

/-- What the library's variables give: the table of powers of ten, the two errors, a number. -/
structure Env (w : World) : Prop where
  tab : Tab w
  syn : ∃ tp p, w.var? Tryz.prog "strconv.ErrSyntax" = some #[.iface tp p]
  rng : ∃ tp p, w.var? Tryz.prog "strconv.ErrRange" = some #[.iface tp p]
  mx : ∃ m : Int, w.cell? ⟨0, 0, none⟩ = some (.int .i64 m)
theorem var_below {w w' : World} {n : String} {cs : Array Value} (h : w.var? Tryz.prog n = some cs) (hb : Bl w w') : w'.var? Tryz.prog n = some cs := by
  unfold World.var? at *
  cases hg : Tryz.prog.globalNamed n with
  | none => simp [hg] at h
  | some g =>
    simp only [hg, Option.bind_some] at h ⊢
    have hlt : g < w.heap.size := by
      rcases Nat.lt_or_ge g w.heap.size with h' | h'
      · exact h'
      · rw [Array.getElem?_eq_none h'] at h; simp at h
    rw [hb.block g hlt]
    exact h
theorem Env.below {w w' : World} (h : Env w) (hb : Bl w w') : Env w' := by
  obtain ⟨h1, ⟨t2, p2, h2⟩, ⟨t3, p3, h3⟩, m, h4⟩ := h
  exact ⟨h1.below hb, ⟨t2, p2, var_below h2 hb⟩, ⟨t3, p3, var_below h3 hb⟩, m, (hb.cell (p := ⟨_, 0, none⟩) (cell_lt h4)).trans h4⟩

/-- strconv.ParseInt(s, 10, 64). -/
theorem parse_any (s : ByteArray) (w : World) (hs : s.size ≤ 2000000) (hE : Env w) :
    Calls Tryz.prog 114 #[.string s, .int .i64 10, .int .i64 64] w fun e w' =>
      ((∃ v, Lib.parseIntB 64 s.data.toList = .ok v ∧ e = .returned (.tuple #[.int .i64 v, .nilIface])) ∨
       ((∀ v, Lib.parseIntB 64 s.data.toList ≠ .ok v) ∧ ∃ x t p, e = .returned (.tuple #[.int .i64 x, .iface t p]))) ∧ Bl w w' := by
  obtain ⟨_, ⟨t2, p2, h2⟩, ⟨t3, p3, h3⟩, _⟩ := hE
  by_cases hr : Lib.parseIntB 64 s.data.toList = .range
  · refine (Tryz.strconv_ParseInt_10_at64_range_var s (by omega) hr t3 p3 w h3).mono ?_
    rintro e w' ⟨N, rfl, _, _, hb⟩
    exact ⟨.inr ⟨fun v q => (by rw [hr] at q; cases q), _, _, _, rfl⟩, hb⟩
  · cases hk : Lib.parseIntB 64 s.data.toList with
    | ok v =>
      refine (Tryz.strconv_ParseInt_10_at64_ok s (by omega) v hk w).mono ?_
      rintro e w' ⟨rfl, hw⟩
      refine ⟨.inl ⟨v, rfl, rfl⟩, ?_⟩
      rcases hw with rfl | ⟨t, rfl⟩
      · exact bl_refl _
      · exact ⟨rfl, rfl, rfl, by rw [Lib.bytesWorld_size]; omega, fun k hk => Lib.bytesWorld_at_old w _ t k hk⟩
    | range => exact absurd hk hr
    | _ =>
      have hno : ∀ v, Lib.parseIntB 64 s.data.toList ≠ .ok v := fun v q => by rw [hk] at q; cases q
      refine (Tryz.strconv_ParseInt_10_at64_syn s (by omega) hno hr t2 p2 w h2).mono ?_
      rintro e w' ⟨N, rfl, _, _, hb⟩
      exact ⟨.inr ⟨fun v q => (by cases q), _, _, _, rfl⟩, hb⟩

set_option maxRecDepth 100000 in
set_option maxHeartbeats 3200000 in
theorem irdec_any (s : ByteArray) (w : World) (hs : s.size ≤ 2000000) (hE : Env w) :
    Calls Tryz.prog 63 #[.string s] w fun e w' => e = .returned (.tuple #[.int .i64 ((rdec s.data.toList).getD 0), .bool (rdec s.data.toList).isSome]) ∧ Bl w w' := by
  have HI := Lib.hid (rdI_eq s.data.toList)
  have HE := Lib.hid hE
  clear hE
  obtain ⟨T, hT⟩ : ∃ T : ByteArray, (⟨(Lib.trimPrefix s.data.toList [45]).toArray⟩ : ByteArray) = T := ⟨_, rfl⟩
  have HTL := Lib.hid (show Lib.trimPrefix s.data.toList [45] = tl s.data.toList from trim_tl _)
  have HTN := Lib.hid (show (tl s.data.toList).length = T.size by rw [← hT, ← HTL.out]; simp [ByteArray.size])
  have HTT := Lib.hid hT
  clear hT
  by_cases hl : 18 < T.size
  · have HR := Lib.hid (rdec_short (l := s.data.toList) (.inr (by rw [HTN.out]; exact hl)))
    go_enter Tryz.func63, Tryz.ntmps63
    go_wp2_with fail
    refine (Tryz.strings_TrimPrefix s ⟨#[45]⟩ _).mono ?_
    rintro e w' ⟨rfl, rfl⟩
    rw [HTT.out]
    go_wp2
    refine bodyPost_ret (v := .tuple #[.int .i64 0, .bool false]) (by simp only [results, Tryz.results63]; go_simp) rfl ?_
    exact ⟨ret_rd HR.out rfl rfl, bl_refl _⟩
  · have HLN := Lib.hid hl
    go_enter Tryz.func63, Tryz.ntmps63
    go_wp2_with fail
    refine (Tryz.strings_TrimPrefix s ⟨#[45]⟩ _).mono ?_
    rintro e w' ⟨rfl, rfl⟩
    rw [HTT.out]
    go_wp2_with fail
    refine (parse_any s _ hs HE.out).mono ?_
    rintro e w1 ⟨⟨v, hv, rfl⟩ | ⟨hv, x, t, p, rfl⟩, B1⟩
    · have hvb := Lib.parseIntB_bounds hv
      have e63 : ((2 ^ (64 - 1) : Nat) : Int) = 9223372036854775808 := by decide
      rw [e63] at hvb
      have HR := Lib.hid (show rdec s.data.toList = if Lib.itoa v = s.data.toList then some v else none by
        rw [← HI.out, rdI, HTL.out, if_neg (by rw [HTN.out]; exact HLN.out), hv])
      clear hv e63
      go_wp2_with fail
      refine (idec_any v (by unfold R64; omega) _ (HE.out.tab.below B1)).mono ?_
      rintro e w2 ⟨rfl, B2⟩
      by_cases hn : Lib.itoa v = s.data.toList
      · have HN := Lib.hid (show rdec s.data.toList = some v by rw [HR.out, if_pos hn])
        have hcmp : (Lib.itoa v == s.toList) = true := by rw [ByteArray.toList_eq]; exact beq_iff_eq.2 hn
        clear hn
        go_wp2
        refine bodyPost_ret (v := .tuple #[.int .i64 v, .bool true]) (by simp only [results, Tryz.results63]; go_simp) rfl ?_
        exact ⟨ret_rd HN.out rfl rfl, bl_call B1 B2⟩
      · have HN := Lib.hid (show rdec s.data.toList = none by rw [HR.out, if_neg hn])
        have hcmp : (Lib.itoa v == s.toList) = false := by rw [ByteArray.toList_eq]; exact beq_eq_false_iff_ne.2 hn
        clear hn
        go_wp2
        refine bodyPost_ret (v := .tuple #[.int .i64 0, .bool false]) (by simp only [results, Tryz.results63]; go_simp) rfl ?_
        exact ⟨ret_rd HN.out rfl rfl, bl_call B1 B2⟩
    · have HN := Lib.hid (show rdec s.data.toList = none by
        rw [← HI.out, rdI, HTL.out, if_neg (by rw [HTN.out]; exact HLN.out)]
        cases hk : Lib.parseIntB 64 s.data.toList with
        | ok v => exact absurd hk (hv v)
        | _ => rfl)
      clear hv
      go_wp2
      refine bodyPost_ret (v := .tuple #[.int .i64 0, .bool false]) (by simp only [results, Tryz.results63]; go_simp) rfl ?_
      exact ⟨ret_rd HN.out rfl rfl, B1⟩

end Go.Proofs.YtndblondleclpaaGreatDoor

/- What the listed variables and the world's shape give; a row with listed variables whose contract is handed the world's shape. Each theorem names its conditions. -/
namespace Go.Proofs.YtndblondleclpaaGreatDoor
open Go.RowKit
set_option linter.unusedVariables false
set_option maxRecDepth 100000

theorem mx_of_shape {W : World} (h : W.ShapedOpen Tryz.prog) : ∃ m : Int, W.cell? ⟨0, 0, none⟩ = some (.int .i64 m) :=
  cell_of_shapedOpen_int (P := Tryz.prog) (g := 0) (t := 3) (zero := #[.int .i64 0]) h (of_decide_eq_true (by kernel_rfl)) (by kernel_rfl) rfl (by kernel_rfl) (by kernel_rfl) Tryz.underlying3
theorem es_star : "*errors.errorString" = "*" ++ "errors.errorString" := by decide
theorem es_row (u : TypeId) (h : Tryz.prog.typeName? 3 u = some "*errors.errorString") : u = 219 :=
  typeName_ptr_named (nm := "errors.errorString") (by rw [← es_star]; kernel_rfl) (by kernel_rfl) (by decide) u (by rw [← es_star]; exact h)
theorem rng_of_head {W : World} {r : List (String × DataW Unit)} (h : laidMet Tryz.prog (("strconv.ErrRange", Rows.laid_strconv_ErrRange) :: r) W) : ∃ tp p, W.var? Tryz.prog "strconv.ErrRange" = some #[.iface tp p] := by
  obtain ⟨a, s, hv, _⟩ := laid_sentinel h (g := 3) (ti := 133) (tp := 219) (te := 221) (ts := 9) (by kernel_rfl) (by kernel_rfl) Tryz.underlying133 es_row Tryz.underlying219 Tryz.underlying221 rfl rfl Tryz.underlying9 (by kernel_rfl) (by kernel_rfl)
  exact ⟨_, _, hv⟩
theorem syn_of_head {W : World} {r : List (String × DataW Unit)} (h : laidMet Tryz.prog (("strconv.ErrSyntax", Rows.laid_strconv_ErrSyntax) :: r) W) : ∃ tp p, W.var? Tryz.prog "strconv.ErrSyntax" = some #[.iface tp p] := by
  obtain ⟨a, s, hv, _⟩ := laid_sentinel h (g := 2) (ti := 133) (tp := 219) (te := 221) (ts := 9) (by kernel_rfl) (by kernel_rfl) Tryz.underlying133 es_row Tryz.underlying219 Tryz.underlying221 rfl rfl Tryz.underlying9 (by kernel_rfl) (by kernel_rfl)
  exact ⟨_, _, hv⟩

section
variable {H : Type} {enc : TypeId × Value → H}
/-- A row with a premise X on the world, the contract handed the world's shape. -/
theorem handed_shaped {C : Checked} {os : Os} {f : FuncId} {fn : Func} {s : ChangeSpec} {X : World → Array Value → Prop} (hX : ∀ (w w' : World) (args : Array Value), w.heap = w'.heap → X w args → X w' args)
    (own : ownKnob C.prog.godebug = none) (started : os.Started) (noInit : C.prog.inits.idxOf? f = none) (hfn : C.prog.funcs[f]? = some fn)
    (witness : ∃ (w : World) (tape : Tape) (i : Input), w.os = os ∧ (w.forCall tape i).Shaped C.prog ∧ i.vars = [] ∧ Input.okWide C.prog (w.forCall tape i) .any w.heap.size f i ∧
      ((s.pre enc C.prog fn [] false (w.forCall tape i).memory i.args ∧ X (w.forCall tape i).memory i.args) ∧ sizedMet enc C.prog fn (OpenSpec.ofChange s) false (w.forCall tape i).memory i.args) ∧ ({} : Assume).holds C.prog (lone (Frame.enter C.prog f i.args .normal) [] (w.forCall tape i)))
    (contract : ∀ (W : World) (base : Nat) (args : Array Value) (ds gs : List (DataW H)) (before : List MemPlace),
      (∀ (j : Nat) t v, fn.params[j]? = some t → args[j]? = some v → Value.okWide C.prog W .any base t v) →
      DataW.Whole enc C.prog fn.params.toList s.vars false W args.toList ds gs before → X W args → W.ShapedOpen C.prog →
      Calls C.prog f args W fun e W' => ∃ v, e = .returned v ∧ s.post enc C.prog fn false true false false W args v W') :
    ReturnsInHanded {} C os f .any (fun w args => (s.pre enc C.prog fn [] false w args ∧ X w args) ∧ sizedMet enc C.prog fn (OpenSpec.ofChange s) false w args) (s.post enc C.prog fn false true false false) := by
  apply returnsInHanded_of_calls own started noInit witness
  intro w tape i h1 hshape h3 hok hp h6
  have hb : ∀ (j : Nat) t v, fn.params[j]? = some t → i.args[j]? = some v → Value.okWide C.prog (w.forCall tape i) .any w.heap.size t v := by
    obtain ⟨_, _, _, g, hg, _, _, _, _, hv⟩ := hok
    cases Option.some.inj (hg.symm.trans hfn)
    exact hv
  rcases hp with ⟨⟨⟨ds, gs, b, hwhole, _⟩, hx⟩, _⟩
  have hc := contract (w.forCall tape i) w.heap.size i.args ds gs b hb (DataW.Whole.of_heap (w' := w.forCall tape i) (by rfl) hwhole) (hX _ _ _ (by rfl) hx) hshape
  refine hc.mono ?_
  rintro e W' ⟨v, rfl, hpost⟩
  exact ChangeSpec.post_blind hpost
end
end Go.Proofs.YtndblondleclpaaGreatDoor

