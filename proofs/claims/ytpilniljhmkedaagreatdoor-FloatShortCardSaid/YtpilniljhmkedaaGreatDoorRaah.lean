/- Contracts of Go's library at this program's numbers, as the kit's shelf lays them (lay-shelf.mjs, lay-plain.mjs): cut to those that are used. The contracts of pointed, written and Show. The contract of Show, of a number that is not nought. -/
import Derived.Shelf.Strings.Builder1
import Derived.Shelf.Strings.Builder2
import Derived.Shelf.Strings.Trim
import Derived.Shelf.Small.Utf8
import Derived.Shelf.Small.Bits
import Derived.Shelf.Small.Strs
import Derived.Shelf.Small.Wraps
import Derived.Shelf.Strings.BuilderF
import Derived.Shelf.Strings.BuilderK
import Derived.Shelf.Utf8.RuneCount
import Derived.Shelf.Strings.Builder2Cap
import Derived.Shelf.Strconv.Atoi
import Derived.Shelf.Strconv.Itoa0
import Derived.Shelf.Strconv.Itoa1
import Derived.Shelf.LaysM
import Derived.Shelf.Strconv.Itoa2
import Derived.Shelf.Strconv.Itoa3
import Derived.Shelf.Strconv.AtoiErrFast
import Derived.Shelf.Strconv.ParseIntEmpty
import Derived.Shelf.Strconv.AtoiFail
import Derived.Shelf.Strconv.Clone
import Derived.Shelf.Strconv.SyntaxError
import Derived.Shelf.Strconv.Lower
import Derived.Shelf.Strconv.ParseUint10
import Derived.Shelf.Strconv.ParseUint10Empty
import Derived.Shelf.Strconv.RangeError
import Derived.Shelf.Strconv.ParseUintEmpty
import Derived.Shelf.Strconv.ParseUint10b64
import Derived.Shelf.Strconv.ParseUint10b32
import Derived.Shelf.Strconv.ParseUint10b16
import Derived.Shelf.Strconv.ParseUint10b8
import Derived.Shelf.Strings.Search1
import Derived.Shelf.Strings.Search2
import Derived.Shelf.Strings.Search3
import Derived.Shelf.Strings.Cut
import Derived.Shelf.Strings.Count
import Derived.Shelf.Strings.Shaped
import Derived.Shelf.Strconv.AppendUint10
import Derived.Shelf.Strconv.AppendInt10
import Derived.Shelf.Strings.Prefix
import Derived.Shelf.Strings.Split
import Derived.Shelf.Strings.Replace
import Derived.Shelf.Strings.SplitShaped
import Derived.Shelf.Unicode.Decode
import Derived.Shelf.Strings.Runes
import Derived.Shelf.Strings.RuneCount
import Derived.Shelf.Strings.AsciiSet
import Derived.Shelf.Bits.Mul64
import Derived.Shelf.Strings.Repeat
import Derived.Test.YtpilniljhmkedaaGreatDoorProg
import Derived.Shelf.Strings.SlTrimAscii
import Derived.Test.YtpilniljhmkedaaGreatDoorRaab
import Derived.Test.YtpilniljhmkedaaGreatDoorRaag
namespace Go.Proofs
open Go.Shelf
def Tryz.lays103_ren : Go.Shelf.Ren := ⟨fun | 103 => 23 | 210 => 43 | 206 => 77 | n => n, fun | 9 => 9 | 4 => 4 | 24 => 52 | 3 => 3 | n => n, fun | n => n⟩
theorem Tryz.lays103 : Go.Proofs.Lays.n103 Tryz.prog Tryz.lays103_ren := {
  mixed := by kernel_rfl
  f103 := Tryz.func23.trans (congrArg some (by kernel_rfl))
  f206 := Tryz.func77.trans (congrArg some (by kernel_rfl))
  f210 := Tryz.func43.trans (congrArg some (by kernel_rfl))
  t3 := Tryz.underlying3
  a3 := Tryz.isAgg3
  z3 := Tryz.sizeOf3
  v3 := Tryz.zeroValue3
  t4 := Tryz.underlying4
  a4 := Tryz.isAgg4
  z4 := Tryz.sizeOf4
  v4 := Tryz.zeroValue4
  t9 := Tryz.underlying9
  a9 := Tryz.isAgg9
  z9 := Tryz.sizeOf9
  v9 := Tryz.zeroValue9
  t24 := Tryz.underlying52
  a24 := Tryz.isAgg52
  z24 := Tryz.sizeOf52
  v24 := Tryz.zeroValue52 }
open Go.RowKit in
theorem Tryz.strings_CutPrefix (s p : ByteArray) (w : World) :
    Calls Tryz.prog 23 #[.string s, .string p] w fun e w' => e = .returned (.tuple #[.string ⟨(Lib.trimPrefix s.data.toList p.data.toList).toArray⟩, .bool (Lib.hasPrefix s.data.toList p.data.toList)]) ∧ w' = w := Any.strings_CutPrefix Tryz.lays103 s p w
def Tryz.lays172_ren : Go.Shelf.Ren := ⟨fun | 172 => 25 | 244 => 45 | 245 => 38 | 247 => 79 | 279 => 71 | 280 => 72 | 281 => 73 | 282 => 74 | 287 => 121 | 316 => 101 | 171 => 47 | 205 => 102 | 321 => 145 | 322 => 166 | 243 => 80 | 246 => 122 | 283 => 167 | 284 => 110 | 285 => 154 | 286 => 168 | 129 => 33 | 317 => 111 | 318 => 155 | 319 => 178 | 320 => 179 | 337 => 182 | 338 => 183 | n => n, fun | 9 => 9 | 3 => 3 | 75 => 44 | 76 => 56 | 4 => 4 | 5 => 5 | 167 => 95 | 37 => 76 | 0 => 0 | 85 => 103 | 2 => 2 | 168 => 96 | 53 => 22 | 175 => 145 | 46 => 65 | 210 => 126 | 127 => 109 | 145 => 183 | 143 => 181 | 21 => 21 | 171 => 138 | 173 => 203 | 212 => 197 | 51 => 68 | 20 => 20 | 213 => 220 | 232 => 132 | 233 => 224 | 80 => 82 | n => n, fun | 15 => 1 | 16 => 2 | 17 => 9 | 18 => 15 | 19 => 16 | n => n⟩
theorem Tryz.lays172 : Go.Proofs.Lays.n172 Tryz.prog Tryz.lays172_ren := {
  mixed := by kernel_rfl
  f129 := Tryz.func33.trans (congrArg some (by kernel_rfl))
  f171 := Tryz.func47.trans (congrArg some (by kernel_rfl))
  f172 := Tryz.func25.trans (congrArg some (by kernel_rfl))
  f205 := Tryz.func102.trans (congrArg some (by kernel_rfl))
  f243 := Tryz.func80.trans (congrArg some (by kernel_rfl))
  f244 := Tryz.func45.trans (congrArg some (by kernel_rfl))
  f245 := Tryz.func38.trans (congrArg some (by kernel_rfl))
  f246 := Tryz.func122.trans (congrArg some (by kernel_rfl))
  f247 := Tryz.func79.trans (congrArg some (by kernel_rfl))
  f279 := Tryz.func71.trans (congrArg some (by kernel_rfl))
  f280 := Tryz.func72.trans (congrArg some (by kernel_rfl))
  f281 := Tryz.func73.trans (congrArg some (by kernel_rfl))
  f282 := Tryz.func74.trans (congrArg some (by kernel_rfl))
  f283 := Tryz.func167.trans (congrArg some (by kernel_rfl))
  f284 := Tryz.func110.trans (congrArg some (by kernel_rfl))
  f285 := Tryz.func154.trans (congrArg some (by kernel_rfl))
  f286 := Tryz.func168.trans (congrArg some (by kernel_rfl))
  f287 := Tryz.func121.trans (congrArg some (by kernel_rfl))
  f316 := Tryz.func101.trans (congrArg some (by kernel_rfl))
  f317 := Tryz.func111.trans (congrArg some (by kernel_rfl))
  f318 := Tryz.func155.trans (congrArg some (by kernel_rfl))
  f319 := Tryz.func178.trans (congrArg some (by kernel_rfl))
  f320 := Tryz.func179.trans (congrArg some (by kernel_rfl))
  f321 := Tryz.func145.trans (congrArg some (by kernel_rfl))
  f322 := Tryz.func166.trans (congrArg some (by kernel_rfl))
  f337 := Tryz.func182.trans (congrArg some (by kernel_rfl))
  f338 := Tryz.func183.trans (congrArg some (by kernel_rfl))
  t0 := Tryz.underlying0
  a0 := Tryz.isAgg0
  z0 := Tryz.sizeOf0
  v0 := Tryz.zeroValue0
  t2 := Tryz.underlying2
  a2 := Tryz.isAgg2
  z2 := Tryz.sizeOf2
  v2 := Tryz.zeroValue2
  t3 := Tryz.underlying3
  a3 := Tryz.isAgg3
  z3 := Tryz.sizeOf3
  v3 := Tryz.zeroValue3
  t4 := Tryz.underlying4
  a4 := Tryz.isAgg4
  z4 := Tryz.sizeOf4
  v4 := Tryz.zeroValue4
  t5 := Tryz.underlying5
  a5 := Tryz.isAgg5
  z5 := Tryz.sizeOf5
  v5 := Tryz.zeroValue5
  t9 := Tryz.underlying9
  a9 := Tryz.isAgg9
  z9 := Tryz.sizeOf9
  v9 := Tryz.zeroValue9
  t20 := Tryz.underlying20
  a20 := Tryz.isAgg20
  z20 := Tryz.sizeOf20
  v20 := Tryz.zeroValue20
  t21 := Tryz.underlying21
  a21 := Tryz.isAgg21
  z21 := Tryz.sizeOf21
  v21 := Tryz.zeroValue21
  t37 := Tryz.underlying76
  a37 := Tryz.isAgg76
  z37 := Tryz.sizeOf76
  v37 := Tryz.zeroValue76
  t46 := Tryz.underlying65
  a46 := Tryz.isAgg65
  z46 := Tryz.sizeOf65
  v46 := Tryz.zeroValue65
  t51 := Tryz.underlying68
  a51 := Tryz.isAgg68
  z51 := Tryz.sizeOf68
  v51 := Tryz.zeroValue68
  t53 := Tryz.underlying22
  a53 := Tryz.isAgg22
  z53 := Tryz.sizeOf22
  v53 := Tryz.zeroValue22
  t75 := Tryz.underlying44
  a75 := Tryz.isAgg44
  z75 := Tryz.sizeOf44
  v75 := Tryz.zeroValue44
  t76 := Tryz.underlying56
  a76 := Tryz.isAgg56
  z76 := Tryz.sizeOf56
  v76 := Tryz.zeroValue56
  t85 := Tryz.underlying103
  a85 := Tryz.isAgg103
  z85 := Tryz.sizeOf103
  v85 := Tryz.zeroValue103
  t127 := Tryz.underlying109
  a127 := Tryz.isAgg109
  z127 := Tryz.sizeOf109
  v127 := Tryz.zeroValue109
  t143 := Tryz.underlying181
  a143 := Tryz.isAgg181
  z143 := Tryz.sizeOf181
  v143 := Tryz.zeroValue181
  t145 := Tryz.underlying183
  a145 := Tryz.isAgg183
  z145 := Tryz.sizeOf183
  v145 := Tryz.zeroValue183
  t167 := Tryz.underlying95
  a167 := Tryz.isAgg95
  z167 := Tryz.sizeOf95
  v167 := Tryz.zeroValue95
  t168 := Tryz.underlying96
  a168 := Tryz.isAgg96
  z168 := Tryz.sizeOf96
  v168 := Tryz.zeroValue96
  t171 := Tryz.underlying138
  a171 := Tryz.isAgg138
  z171 := Tryz.sizeOf138
  v171 := Tryz.zeroValue138
  t173 := Tryz.underlying203
  a173 := Tryz.isAgg203
  z173 := Tryz.sizeOf203
  v173 := Tryz.zeroValue203
  t175 := Tryz.underlying145
  a175 := Tryz.isAgg145
  z175 := Tryz.sizeOf145
  v175 := Tryz.zeroValue145
  t210 := Tryz.underlying126
  a210 := Tryz.isAgg126
  z210 := Tryz.sizeOf126
  v210 := Tryz.zeroValue126
  t212 := Tryz.underlying197
  a212 := Tryz.isAgg197
  z212 := Tryz.sizeOf197
  v212 := Tryz.zeroValue197
  t213 := Tryz.underlying220
  a213 := Tryz.isAgg220
  z213 := Tryz.sizeOf220
  t232 := Tryz.underlying132
  a232 := Tryz.isAgg132
  z232 := Tryz.sizeOf132
  v232 := Tryz.zeroValue132
  t233 := Tryz.underlying224
  a233 := Tryz.isAgg224
  z233 := Tryz.sizeOf224
  v233 := Tryz.zeroValue224
  g15 := by kernel_rfl
  g16 := by kernel_rfl
  g17 := by kernel_rfl
  g18 := by kernel_rfl
  g19 := by kernel_rfl }
open Go.RowKit in
theorem Tryz.strconv_Atoi (s : ByteArray) (n : Int) (hl : s.size ≤ 18) (h : Lib.atoi s.data.toList = some n) (w : World) :
    Calls Tryz.prog 25 #[.string s] w fun e w' => e = .returned (.tuple #[.int .i64 n, .nilIface]) ∧ ∃ t, w' = Lib.bytesWorld w 5 t := Any.strconv_Atoi Tryz.lays172 s n hl h w
def Tryz.laysM171_ren : Go.Shelf.Ren := ⟨fun | 171 => 47 | 243 => 80 | 246 => 122 | 283 => 167 | 284 => 110 | 285 => 154 | 286 => 168 | 129 => 33 | 317 => 111 | 318 => 155 | 319 => 178 | 320 => 179 | 337 => 182 | 338 => 183 | n => n, fun | 3 => 3 | 9 => 9 | 2 => 2 | 4 => 4 | 171 => 138 | 0 => 0 | 53 => 22 | 37 => 76 | 5 => 5 | 173 => 203 | 212 => 197 | 51 => 68 | 20 => 20 | 213 => 220 | 46 => 65 | 232 => 132 | 233 => 224 | n => n, fun | 17 => 9 | 18 => 15 | 19 => 16 | n => n⟩
theorem Tryz.laysM171 : Go.Proofs.LaysM.n171 Tryz.prog Tryz.laysM171_ren := {
  mixed := by kernel_rfl
  f129 := Tryz.func33.trans (congrArg some (by kernel_rfl))
  f171 := Tryz.func47.trans (congrArg some (by kernel_rfl))
  f243 := Tryz.func80.trans (congrArg some (by kernel_rfl))
  f246 := Tryz.func122.trans (congrArg some (by kernel_rfl))
  f283 := Tryz.func167.trans (congrArg some (by kernel_rfl))
  f284 := Tryz.func110.trans (congrArg some (by kernel_rfl))
  f285 := Tryz.func154.trans (congrArg some (by kernel_rfl))
  f286 := Tryz.func168.trans (congrArg some (by kernel_rfl))
  f317 := Tryz.func111.trans (congrArg some (by kernel_rfl))
  f318 := Tryz.func155.trans (congrArg some (by kernel_rfl))
  f319 := Tryz.func178.trans (congrArg some (by kernel_rfl))
  f320 := Tryz.func179.trans (congrArg some (by kernel_rfl))
  f337 := Tryz.func182.trans (congrArg some (by kernel_rfl))
  f338 := Tryz.func183.trans (congrArg some (by kernel_rfl))
  t0 := Tryz.underlying0
  a0 := Tryz.isAgg0
  z0 := Tryz.sizeOf0
  v0 := Tryz.zeroValue0
  t2 := Tryz.underlying2
  a2 := Tryz.isAgg2
  z2 := Tryz.sizeOf2
  v2 := Tryz.zeroValue2
  t3 := Tryz.underlying3
  a3 := Tryz.isAgg3
  z3 := Tryz.sizeOf3
  v3 := Tryz.zeroValue3
  t4 := Tryz.underlying4
  a4 := Tryz.isAgg4
  z4 := Tryz.sizeOf4
  v4 := Tryz.zeroValue4
  t5 := Tryz.underlying5
  a5 := Tryz.isAgg5
  z5 := Tryz.sizeOf5
  v5 := Tryz.zeroValue5
  t9 := Tryz.underlying9
  a9 := Tryz.isAgg9
  z9 := Tryz.sizeOf9
  v9 := Tryz.zeroValue9
  t20 := Tryz.underlying20
  a20 := Tryz.isAgg20
  z20 := Tryz.sizeOf20
  v20 := Tryz.zeroValue20
  t37 := Tryz.underlying76
  a37 := Tryz.isAgg76
  z37 := Tryz.sizeOf76
  v37 := Tryz.zeroValue76
  t46 := Tryz.underlying65
  a46 := Tryz.isAgg65
  z46 := Tryz.sizeOf65
  v46 := Tryz.zeroValue65
  t51 := Tryz.underlying68
  a51 := Tryz.isAgg68
  z51 := Tryz.sizeOf68
  v51 := Tryz.zeroValue68
  t53 := Tryz.underlying22
  a53 := Tryz.isAgg22
  z53 := Tryz.sizeOf22
  v53 := Tryz.zeroValue22
  t171 := Tryz.underlying138
  a171 := Tryz.isAgg138
  z171 := Tryz.sizeOf138
  v171 := Tryz.zeroValue138
  t173 := Tryz.underlying203
  a173 := Tryz.isAgg203
  z173 := Tryz.sizeOf203
  v173 := Tryz.zeroValue203
  t212 := Tryz.underlying197
  a212 := Tryz.isAgg197
  z212 := Tryz.sizeOf197
  v212 := Tryz.zeroValue197
  t213 := Tryz.underlying220
  a213 := Tryz.isAgg220
  z213 := Tryz.sizeOf220
  t232 := Tryz.underlying132
  a232 := Tryz.isAgg132
  z232 := Tryz.sizeOf132
  v232 := Tryz.zeroValue132
  t233 := Tryz.underlying224
  a233 := Tryz.isAgg224
  z233 := Tryz.sizeOf224
  v233 := Tryz.zeroValue224
  g17 := by kernel_rfl
  g18 := by kernel_rfl
  g19 := by kernel_rfl
  i0 := by kernel_rfl
  i2 := by kernel_rfl
  i3 := by kernel_rfl
  i4 := by kernel_rfl
  i5 := by kernel_rfl
  i9 := by kernel_rfl
  i20 := by kernel_rfl
  i37 := by kernel_rfl
  i46 := by kernel_rfl
  i51 := by kernel_rfl
  i53 := by kernel_rfl
  i171 := by kernel_rfl
  i173 := by kernel_rfl
  i212 := by kernel_rfl
  i232 := by kernel_rfl
  i233 := by kernel_rfl
  m17 := by kernel_rfl
  m18 := by kernel_rfl
  m19 := by kernel_rfl }
open Go.RowKit Go.Sort Go.Lib in
theorem Tryz.strconv_Itoa (n : Int) (h0 : -9223372036854775808 ≤ n) (h1 : n ≤ 9223372036854775807) (w : World) (htab : Lib.TabIs Tryz.prog w "internal/strconv.uint64pow10" .u64 Lib.pow10Tab) :
    Calls Tryz.prog 47 #[.int .i64 n] w fun e w' => e = .returned (.string ⟨(Lib.itoa n).toArray⟩) ∧ ∃ k os, w' = grow (w.drewN k) os := Any.strconv_Itoa Tryz.laysM171 n h0 h1 w htab
def Tryz.lays171_ren : Go.Shelf.Ren := ⟨fun | 171 => 47 | 243 => 80 | 246 => 122 | 283 => 167 | 284 => 110 | 285 => 154 | 286 => 168 | 129 => 33 | 317 => 111 | 318 => 155 | 319 => 178 | 320 => 179 | 337 => 182 | 338 => 183 | n => n, fun | 3 => 3 | 9 => 9 | 2 => 2 | 4 => 4 | 171 => 138 | 0 => 0 | 53 => 22 | 37 => 76 | 5 => 5 | 173 => 203 | 212 => 197 | 51 => 68 | 20 => 20 | 213 => 220 | 46 => 65 | 232 => 132 | 233 => 224 | n => n, fun | 17 => 9 | 18 => 15 | 19 => 16 | n => n⟩
theorem Tryz.lays171 : Go.Proofs.Lays.n171 Tryz.prog Tryz.lays171_ren := {
  mixed := by kernel_rfl
  f129 := Tryz.func33.trans (congrArg some (by kernel_rfl))
  f171 := Tryz.func47.trans (congrArg some (by kernel_rfl))
  f243 := Tryz.func80.trans (congrArg some (by kernel_rfl))
  f246 := Tryz.func122.trans (congrArg some (by kernel_rfl))
  f283 := Tryz.func167.trans (congrArg some (by kernel_rfl))
  f284 := Tryz.func110.trans (congrArg some (by kernel_rfl))
  f285 := Tryz.func154.trans (congrArg some (by kernel_rfl))
  f286 := Tryz.func168.trans (congrArg some (by kernel_rfl))
  f317 := Tryz.func111.trans (congrArg some (by kernel_rfl))
  f318 := Tryz.func155.trans (congrArg some (by kernel_rfl))
  f319 := Tryz.func178.trans (congrArg some (by kernel_rfl))
  f320 := Tryz.func179.trans (congrArg some (by kernel_rfl))
  f337 := Tryz.func182.trans (congrArg some (by kernel_rfl))
  f338 := Tryz.func183.trans (congrArg some (by kernel_rfl))
  t0 := Tryz.underlying0
  a0 := Tryz.isAgg0
  z0 := Tryz.sizeOf0
  v0 := Tryz.zeroValue0
  t2 := Tryz.underlying2
  a2 := Tryz.isAgg2
  z2 := Tryz.sizeOf2
  v2 := Tryz.zeroValue2
  t3 := Tryz.underlying3
  a3 := Tryz.isAgg3
  z3 := Tryz.sizeOf3
  v3 := Tryz.zeroValue3
  t4 := Tryz.underlying4
  a4 := Tryz.isAgg4
  z4 := Tryz.sizeOf4
  v4 := Tryz.zeroValue4
  t5 := Tryz.underlying5
  a5 := Tryz.isAgg5
  z5 := Tryz.sizeOf5
  v5 := Tryz.zeroValue5
  t9 := Tryz.underlying9
  a9 := Tryz.isAgg9
  z9 := Tryz.sizeOf9
  v9 := Tryz.zeroValue9
  t20 := Tryz.underlying20
  a20 := Tryz.isAgg20
  z20 := Tryz.sizeOf20
  v20 := Tryz.zeroValue20
  t37 := Tryz.underlying76
  a37 := Tryz.isAgg76
  z37 := Tryz.sizeOf76
  v37 := Tryz.zeroValue76
  t46 := Tryz.underlying65
  a46 := Tryz.isAgg65
  z46 := Tryz.sizeOf65
  v46 := Tryz.zeroValue65
  t51 := Tryz.underlying68
  a51 := Tryz.isAgg68
  z51 := Tryz.sizeOf68
  v51 := Tryz.zeroValue68
  t53 := Tryz.underlying22
  a53 := Tryz.isAgg22
  z53 := Tryz.sizeOf22
  v53 := Tryz.zeroValue22
  t171 := Tryz.underlying138
  a171 := Tryz.isAgg138
  z171 := Tryz.sizeOf138
  v171 := Tryz.zeroValue138
  t173 := Tryz.underlying203
  a173 := Tryz.isAgg203
  z173 := Tryz.sizeOf203
  v173 := Tryz.zeroValue203
  t212 := Tryz.underlying197
  a212 := Tryz.isAgg197
  z212 := Tryz.sizeOf197
  v212 := Tryz.zeroValue197
  t213 := Tryz.underlying220
  a213 := Tryz.isAgg220
  z213 := Tryz.sizeOf220
  t232 := Tryz.underlying132
  a232 := Tryz.isAgg132
  z232 := Tryz.sizeOf132
  v232 := Tryz.zeroValue132
  t233 := Tryz.underlying224
  a233 := Tryz.isAgg224
  z233 := Tryz.sizeOf224
  v233 := Tryz.zeroValue224
  g17 := by kernel_rfl
  g18 := by kernel_rfl
  g19 := by kernel_rfl }
open Go.RowKit Go.Sort Go.Lib in
theorem Tryz.strconv_Itoa_small (i : Nat) (hi : i < 100) (w : World) :
    Calls Tryz.prog 47 #[.int .i64 i] w fun e w' => e = .returned (.string ⟨(Lib.decDigits i).toArray⟩) ∧ w' = w := Any.strconv_Itoa_small Tryz.lays171 i hi w
def Tryz.laysM316_ren : Go.Shelf.Ren := ⟨fun | 316 => 101 | n => n, fun | 9 => 9 | 3 => 3 | 4 => 4 | 37 => 76 | 0 => 0 | 127 => 109 | 5 => 5 | n => n, fun | n => n⟩
theorem Tryz.laysM316 : Go.Proofs.LaysM.n316 Tryz.prog Tryz.laysM316_ren := {
  mixed := by kernel_rfl
  f316 := Tryz.func101.trans (congrArg some (by kernel_rfl))
  t0 := Tryz.underlying0
  a0 := Tryz.isAgg0
  z0 := Tryz.sizeOf0
  v0 := Tryz.zeroValue0
  t3 := Tryz.underlying3
  a3 := Tryz.isAgg3
  z3 := Tryz.sizeOf3
  v3 := Tryz.zeroValue3
  t4 := Tryz.underlying4
  a4 := Tryz.isAgg4
  z4 := Tryz.sizeOf4
  v4 := Tryz.zeroValue4
  t9 := Tryz.underlying9
  a9 := Tryz.isAgg9
  z9 := Tryz.sizeOf9
  v9 := Tryz.zeroValue9
  t37 := Tryz.underlying76
  a37 := Tryz.isAgg76
  z37 := Tryz.sizeOf76
  v37 := Tryz.zeroValue76
  t127 := Tryz.underlying109
  a127 := Tryz.isAgg109
  z127 := Tryz.sizeOf109
  v127 := Tryz.zeroValue109
  t5 := Tryz.underlying5
  a5 := Tryz.isAgg5
  z5 := Tryz.sizeOf5
  v5 := Tryz.zeroValue5
  i0 := by kernel_rfl
  i3 := by kernel_rfl
  i4 := by kernel_rfl
  i5 := by kernel_rfl
  i9 := by kernel_rfl
  i37 := by kernel_rfl
  i127 := by kernel_rfl }
open Go.RowKit in
theorem Tryz.stringslite_Clone (s : ByteArray) (w : World) (hlim : s.size ≤ 281474976710656) :
    Calls Tryz.prog 101 #[.string s] w fun e w' => e = .returned (.string s) ∧ Below w.heap.size w w' := Any.stringslite_Clone Tryz.laysM316 s w hlim
def Tryz.lays321_ren : Go.Shelf.Ren := ⟨fun | 321 => 145 | n => n, fun | 5 => 5 | n => n, fun | n => n⟩
theorem Tryz.lays321 : Go.Proofs.Lays.n321 Tryz.prog Tryz.lays321_ren := {
  mixed := by kernel_rfl
  f321 := Tryz.func145.trans (congrArg some (by kernel_rfl))
  t5 := Tryz.underlying5
  a5 := Tryz.isAgg5
  z5 := Tryz.sizeOf5
  v5 := Tryz.zeroValue5 }
open Go.RowKit in
theorem Tryz.internal_strconv_lower (c : Int) (w : World) :
    Calls Tryz.prog 145 #[.int .u8 c] w fun e w' => e = .returned (.int .u8 (bits .or .u8 c 32)) ∧ w' = w := Any.internal_strconv_lower Tryz.lays321 c w
def Tryz.laysM280_ren : Go.Shelf.Ren := ⟨fun | 280 => 72 | 316 => 101 | n => n, fun | 9 => 9 | 168 => 96 | 75 => 44 | 210 => 126 | 3 => 3 | 4 => 4 | 37 => 76 | 0 => 0 | 127 => 109 | 80 => 82 | 5 => 5 | n => n, fun | 16 => 2 | n => n⟩
theorem Tryz.laysM280 : Go.Proofs.LaysM.n280 Tryz.prog Tryz.laysM280_ren := {
  mixed := by kernel_rfl
  f280 := Tryz.func72.trans (congrArg some (by kernel_rfl))
  f316 := Tryz.func101.trans (congrArg some (by kernel_rfl))
  t0 := Tryz.underlying0
  a0 := Tryz.isAgg0
  z0 := Tryz.sizeOf0
  v0 := Tryz.zeroValue0
  t3 := Tryz.underlying3
  a3 := Tryz.isAgg3
  z3 := Tryz.sizeOf3
  v3 := Tryz.zeroValue3
  t4 := Tryz.underlying4
  a4 := Tryz.isAgg4
  z4 := Tryz.sizeOf4
  v4 := Tryz.zeroValue4
  t9 := Tryz.underlying9
  a9 := Tryz.isAgg9
  z9 := Tryz.sizeOf9
  v9 := Tryz.zeroValue9
  t37 := Tryz.underlying76
  a37 := Tryz.isAgg76
  z37 := Tryz.sizeOf76
  v37 := Tryz.zeroValue76
  t75 := Tryz.underlying44
  a75 := Tryz.isAgg44
  z75 := Tryz.sizeOf44
  v75 := Tryz.zeroValue44
  t127 := Tryz.underlying109
  a127 := Tryz.isAgg109
  z127 := Tryz.sizeOf109
  v127 := Tryz.zeroValue109
  t168 := Tryz.underlying96
  a168 := Tryz.isAgg96
  z168 := Tryz.sizeOf96
  v168 := Tryz.zeroValue96
  t210 := Tryz.underlying126
  a210 := Tryz.isAgg126
  z210 := Tryz.sizeOf126
  v210 := Tryz.zeroValue126
  g16 := by kernel_rfl
  t5 := Tryz.underlying5
  a5 := Tryz.isAgg5
  z5 := Tryz.sizeOf5
  v5 := Tryz.zeroValue5
  t80 := Tryz.underlying82
  a80 := Tryz.isAgg82
  z80 := Tryz.sizeOf82
  v80 := Tryz.zeroValue82
  i0 := by kernel_rfl
  i3 := by kernel_rfl
  i4 := by kernel_rfl
  i5 := by kernel_rfl
  i9 := by kernel_rfl
  i37 := by kernel_rfl
  i75 := by kernel_rfl
  i80 := by kernel_rfl
  i127 := by kernel_rfl
  i168 := by kernel_rfl
  i210 := by kernel_rfl
  m16 := by kernel_rfl }
open Go.RowKit in
theorem Tryz.strconv_rangeError (fn s : ByteArray) (ev : Value) (w : World) (hlim : s.size ≤ 281474976710656) (hv : w.cell? ⟨2, 0, none⟩ = some ev) (hev : ev = .nilIface ∨ ∃ te pe, ev = .iface te pe) :
    Calls Tryz.prog 72 #[.string fn, .string s] w fun e w' => ∃ N, e = .returned (.pointer (some ⟨N, 0, none⟩)) ∧ w.heap.size ≤ N ∧ w'.heap[N]? = some (.cells #[.string fn, .string s, ev] 126 (0, 0)) ∧ Below w.heap.size w w' := Any.strconv_rangeError Tryz.laysM280 fn s ev w hlim hv hev
def Tryz.lays145_ren : Go.Shelf.Ren := ⟨fun | 145 => 24 | 220 => 44 | 219 => 78 | 217 => 117 | 225 => 118 | 224 => 119 | 267 => 120 | 266 => 164 | 314 => 165 | n => n, fun | 9 => 9 | 4 => 4 | 59 => 54 | 3 => 3 | 5 => 5 | 46 => 65 | 146 => 112 | 51 => 68 | n => n, fun | 1 => 4 | n => n⟩
theorem Tryz.lays145 : Go.Proofs.Lays.n145 Tryz.prog Tryz.lays145_ren := {
  mixed := by kernel_rfl
  f145 := Tryz.func24.trans (congrArg some (by kernel_rfl))
  f217 := Tryz.func117.trans (congrArg some (by kernel_rfl))
  f219 := Tryz.func78.trans (congrArg some (by kernel_rfl))
  f220 := Tryz.func44.trans (congrArg some (by kernel_rfl))
  f224 := Tryz.func119.trans (congrArg some (by kernel_rfl))
  f225 := Tryz.func118.trans (congrArg some (by kernel_rfl))
  f266 := Tryz.func164.trans (congrArg some (by kernel_rfl))
  f267 := Tryz.func120.trans (congrArg some (by kernel_rfl))
  f314 := Tryz.func165.trans (congrArg some (by kernel_rfl))
  t3 := Tryz.underlying3
  a3 := Tryz.isAgg3
  z3 := Tryz.sizeOf3
  v3 := Tryz.zeroValue3
  t4 := Tryz.underlying4
  a4 := Tryz.isAgg4
  z4 := Tryz.sizeOf4
  v4 := Tryz.zeroValue4
  t5 := Tryz.underlying5
  a5 := Tryz.isAgg5
  z5 := Tryz.sizeOf5
  v5 := Tryz.zeroValue5
  t9 := Tryz.underlying9
  a9 := Tryz.isAgg9
  z9 := Tryz.sizeOf9
  v9 := Tryz.zeroValue9
  t46 := Tryz.underlying65
  a46 := Tryz.isAgg65
  z46 := Tryz.sizeOf65
  v46 := Tryz.zeroValue65
  t51 := Tryz.underlying68
  a51 := Tryz.isAgg68
  z51 := Tryz.sizeOf68
  v51 := Tryz.zeroValue68
  t59 := Tryz.underlying54
  a59 := Tryz.isAgg54
  z59 := Tryz.sizeOf54
  v59 := Tryz.zeroValue54
  t146 := Tryz.underlying112
  a146 := Tryz.isAgg112
  z146 := Tryz.sizeOf112
  v146 := Tryz.zeroValue112
  g1 := by kernel_rfl }
open Go.RowKit Go.Lib in
theorem Tryz.strings_Cut (s sep : ByteArray) (m : Int) (w : World) (hs : s.size < 4294967281) (hm : w.cell? ⟨4, 0, none⟩ = some (.int .i64 m)) :
    Calls Tryz.prog 24 #[.string s, .string sep] w fun e w' => e = .returned (.tuple #[.string ⟨(Lib.cut s.data.toList sep.data.toList).1.toArray⟩, .string ⟨(Lib.cut s.data.toList sep.data.toList).2.1.toArray⟩, .bool (Lib.cut s.data.toList sep.data.toList).2.2]) ∧ ∃ n, w' = w.drewN n := Any.strings_Cut Tryz.lays145 s sep m w hs hm
def Tryz.lays101_ren : Go.Shelf.Ren := ⟨fun | 101 => 35 | 208 => 68 | 206 => 77 | n => n, fun | 9 => 9 | 4 => 4 | 3 => 3 | n => n, fun | n => n⟩
theorem Tryz.lays101 : Go.Proofs.Lays.n101 Tryz.prog Tryz.lays101_ren := {
  mixed := by kernel_rfl
  f101 := Tryz.func35.trans (congrArg some (by kernel_rfl))
  f206 := Tryz.func77.trans (congrArg some (by kernel_rfl))
  f208 := Tryz.func68.trans (congrArg some (by kernel_rfl))
  t3 := Tryz.underlying3
  a3 := Tryz.isAgg3
  z3 := Tryz.sizeOf3
  v3 := Tryz.zeroValue3
  t4 := Tryz.underlying4
  a4 := Tryz.isAgg4
  z4 := Tryz.sizeOf4
  v4 := Tryz.zeroValue4
  t9 := Tryz.underlying9
  a9 := Tryz.isAgg9
  z9 := Tryz.sizeOf9
  v9 := Tryz.zeroValue9 }
open Go.RowKit Go.Lib in
theorem Tryz.strings_TrimPrefix (s p : ByteArray) (w : World) :
    Calls Tryz.prog 35 #[.string s, .string p] w fun e w' => e = .returned (.string ⟨(Lib.trimPrefix s.data.toList p.data.toList).toArray⟩) ∧ w' = w := Any.strings_TrimPrefix Tryz.lays101 s p w
def Tryz.lays154_ren : Go.Shelf.Ren := ⟨fun | 154 => 27 | 138 => 49 | 165 => 50 | 143 => 51 | 166 => 52 | 197 => 53 | 169 => 54 | 195 => 84 | 218 => 85 | 240 => 86 | 241 => 87 | 219 => 78 | 260 => 88 | 276 => 125 | 277 => 126 | 217 => 117 | 225 => 118 | 224 => 119 | 267 => 120 | 266 => 164 | 314 => 165 | n => n, fun | 9 => 9 | 3 => 3 | 4 => 4 | 72 => 78 | 0 => 0 | 76 => 56 | 105 => 80 | 21 => 21 | 5 => 5 | 70 => 75 | 20 => 20 | 37 => 76 | 75 => 44 | 127 => 109 | 164 => 151 | 46 => 65 | 119 => 154 | 139 => 157 | 138 => 156 | 146 => 112 | 51 => 68 | 80 => 82 | n => n, fun | 1 => 4 | 3 => 5 | 4 => 6 | n => n⟩
theorem Tryz.lays154 : Go.Proofs.Lays.n154 Tryz.prog Tryz.lays154_ren := {
  mixed := by kernel_rfl
  f138 := Tryz.func49.trans (congrArg some (by kernel_rfl))
  f143 := Tryz.func51.trans (congrArg some (by kernel_rfl))
  f154 := Tryz.func27.trans (congrArg some (by kernel_rfl))
  f165 := Tryz.func50.trans (congrArg some (by kernel_rfl))
  f166 := Tryz.func52.trans (congrArg some (by kernel_rfl))
  f169 := Tryz.func54.trans (congrArg some (by kernel_rfl))
  f195 := Tryz.func84.trans (congrArg some (by kernel_rfl))
  f197 := Tryz.func53.trans (congrArg some (by kernel_rfl))
  f217 := Tryz.func117.trans (congrArg some (by kernel_rfl))
  f218 := Tryz.func85.trans (congrArg some (by kernel_rfl))
  f219 := Tryz.func78.trans (congrArg some (by kernel_rfl))
  f224 := Tryz.func119.trans (congrArg some (by kernel_rfl))
  f225 := Tryz.func118.trans (congrArg some (by kernel_rfl))
  f240 := Tryz.func86.trans (congrArg some (by kernel_rfl))
  f241 := Tryz.func87.trans (congrArg some (by kernel_rfl))
  f260 := Tryz.func88.trans (congrArg some (by kernel_rfl))
  f266 := Tryz.func164.trans (congrArg some (by kernel_rfl))
  f267 := Tryz.func120.trans (congrArg some (by kernel_rfl))
  f276 := Tryz.func125.trans (congrArg some (by kernel_rfl))
  f277 := Tryz.func126.trans (congrArg some (by kernel_rfl))
  f314 := Tryz.func165.trans (congrArg some (by kernel_rfl))
  t0 := Tryz.underlying0
  a0 := Tryz.isAgg0
  z0 := Tryz.sizeOf0
  v0 := Tryz.zeroValue0
  t3 := Tryz.underlying3
  a3 := Tryz.isAgg3
  z3 := Tryz.sizeOf3
  v3 := Tryz.zeroValue3
  t4 := Tryz.underlying4
  a4 := Tryz.isAgg4
  z4 := Tryz.sizeOf4
  v4 := Tryz.zeroValue4
  t5 := Tryz.underlying5
  a5 := Tryz.isAgg5
  z5 := Tryz.sizeOf5
  v5 := Tryz.zeroValue5
  t9 := Tryz.underlying9
  a9 := Tryz.isAgg9
  z9 := Tryz.sizeOf9
  v9 := Tryz.zeroValue9
  t20 := Tryz.underlying20
  a20 := Tryz.isAgg20
  z20 := Tryz.sizeOf20
  v20 := Tryz.zeroValue20
  t21 := Tryz.underlying21
  a21 := Tryz.isAgg21
  z21 := Tryz.sizeOf21
  v21 := Tryz.zeroValue21
  t37 := Tryz.underlying76
  a37 := Tryz.isAgg76
  z37 := Tryz.sizeOf76
  v37 := Tryz.zeroValue76
  t46 := Tryz.underlying65
  a46 := Tryz.isAgg65
  z46 := Tryz.sizeOf65
  v46 := Tryz.zeroValue65
  t51 := Tryz.underlying68
  a51 := Tryz.isAgg68
  z51 := Tryz.sizeOf68
  v51 := Tryz.zeroValue68
  t70 := Tryz.underlying75
  a70 := Tryz.isAgg75
  z70 := Tryz.sizeOf75
  v70 := Tryz.zeroValue75
  t72 := Tryz.underlying78
  a72 := Tryz.isAgg78
  z72 := Tryz.sizeOf78
  v72 := Tryz.zeroValue78
  t75 := Tryz.underlying44
  a75 := Tryz.isAgg44
  z75 := Tryz.sizeOf44
  v75 := Tryz.zeroValue44
  t76 := Tryz.underlying56
  a76 := Tryz.isAgg56
  z76 := Tryz.sizeOf56
  v76 := Tryz.zeroValue56
  t105 := Tryz.underlying80
  a105 := Tryz.isAgg80
  z105 := Tryz.sizeOf80
  v105 := Tryz.zeroValue80
  t119 := Tryz.underlying154
  a119 := Tryz.isAgg154
  z119 := Tryz.sizeOf154
  t127 := Tryz.underlying109
  a127 := Tryz.isAgg109
  z127 := Tryz.sizeOf109
  v127 := Tryz.zeroValue109
  t138 := Tryz.underlying156
  a138 := Tryz.isAgg156
  z138 := Tryz.sizeOf156
  v138 := Tryz.zeroValue156
  t139 := Tryz.underlying157
  a139 := Tryz.isAgg157
  z139 := Tryz.sizeOf157
  v139 := Tryz.zeroValue157
  t146 := Tryz.underlying112
  a146 := Tryz.isAgg112
  z146 := Tryz.sizeOf112
  v146 := Tryz.zeroValue112
  t164 := Tryz.underlying151
  a164 := Tryz.isAgg151
  z164 := Tryz.sizeOf151
  v164 := Tryz.zeroValue151
  g1 := by kernel_rfl
  g3 := by kernel_rfl
  g4 := by kernel_rfl }
theorem Tryz.Builder_Extra_154 : Builder.Extra Tryz.prog Tryz.lays154_ren := {
  sizeBuilder := by kernel_rfl
  liesBuilder := by kernel_rfl
  t5 := Tryz.underlying5
  a5 := Tryz.isAgg5
  z5 := Tryz.sizeOf5
  v5 := Tryz.zeroValue5
  infoByte := by kernel_rfl
  cellsByte := by kernel_rfl
  sizeByte := by kernel_rfl
  neB5 := by decide }
open Go.RowKit Go.Lib in
theorem Tryz.strings_Replace (s old new : ByteArray) (n : Int) (m : Int) (w : World) (hs : s.size < 4294967281) (hm : w.cell? ⟨4, 0, none⟩ = some (.int .i64 m)) (h1 : 1 ≤ old.size) (hlen : s.size + Lib.countB s old * new.size ≤ 140737488355328) :
    Calls Tryz.prog 27 #[.string s, .string old, .string new, .int .i64 n] w fun e w' =>
      e = .returned (.string ⟨(Lib.replace s.data.toList old.data.toList new.data.toList n).toArray⟩) ∧ Below w.heap.size w w' := Any.strings_Replace Tryz.lays154 Tryz.Builder_Extra_154 s old new n m w hs hm h1 hlen
def Tryz.lays227_ren : Go.Shelf.Ren := ⟨fun | 227 => 96 | n => n, fun | 9 => 9 | 116 => 116 | 4 => 4 | 0 => 0 | 3 => 3 | 5 => 5 | n => n, fun | n => n⟩
theorem Tryz.lays227 : Go.Proofs.Lays.n227 Tryz.prog Tryz.lays227_ren := {
  mixed := by kernel_rfl
  f227 := Tryz.func96.trans (congrArg some (by kernel_rfl))
  t0 := Tryz.underlying0
  a0 := Tryz.isAgg0
  z0 := Tryz.sizeOf0
  v0 := Tryz.zeroValue0
  t3 := Tryz.underlying3
  a3 := Tryz.isAgg3
  z3 := Tryz.sizeOf3
  v3 := Tryz.zeroValue3
  t4 := Tryz.underlying4
  a4 := Tryz.isAgg4
  z4 := Tryz.sizeOf4
  v4 := Tryz.zeroValue4
  t5 := Tryz.underlying5
  a5 := Tryz.isAgg5
  z5 := Tryz.sizeOf5
  v5 := Tryz.zeroValue5
  t9 := Tryz.underlying9
  a9 := Tryz.isAgg9
  z9 := Tryz.sizeOf9
  v9 := Tryz.zeroValue9
  t116 := Tryz.underlying116
  a116 := Tryz.isAgg116
  z116 := Tryz.sizeOf116 }
open Go.RowKit Go.Lib in
theorem Tryz.strings_makeASCIISet (hv116 : ∀ w, (zeroValue 116).run Tryz.prog w = .ok (.agg (Array.replicate 256 (.bool false))) w) (chars : ByteArray) (w : World) (hs : chars.size < 4294967281) (hascii : ∀ (j : Nat) b, chars.data.toList[j]? = some b → b.toNat < 128) :
    Calls Tryz.prog 96 #[.string chars] w fun e w' => e = .returned (.tuple #[.agg (Lib.setCells chars.data.toList), .bool true]) ∧ w' = w.alloc (.cells (Lib.setCells chars.data.toList) 116) := Any.strings_makeASCIISet Tryz.lays227 hv116 (by kernel_rfl) chars w hs hascii
def Tryz.lays228_ren : Go.Shelf.Ren := ⟨fun | 228 => 128 | n => n, fun | 124 => 120 | 5 => 5 | 4 => 4 | 0 => 0 | 116 => 116 | n => n, fun | n => n⟩
theorem Tryz.lays228 : Go.Proofs.Lays.n228 Tryz.prog Tryz.lays228_ren := {
  mixed := by kernel_rfl
  f228 := Tryz.func128.trans (congrArg some (by kernel_rfl))
  t0 := Tryz.underlying0
  a0 := Tryz.isAgg0
  z0 := Tryz.sizeOf0
  v0 := Tryz.zeroValue0
  t4 := Tryz.underlying4
  a4 := Tryz.isAgg4
  z4 := Tryz.sizeOf4
  v4 := Tryz.zeroValue4
  t5 := Tryz.underlying5
  a5 := Tryz.isAgg5
  z5 := Tryz.sizeOf5
  v5 := Tryz.zeroValue5
  t116 := Tryz.underlying116
  a116 := Tryz.isAgg116
  z116 := Tryz.sizeOf116
  t124 := Tryz.underlying120
  a124 := Tryz.isAgg120
  z124 := Tryz.sizeOf120
  v124 := Tryz.zeroValue120 }
open Go.RowKit Go.Lib in
theorem Tryz.asciiSet_contains (b : Nat) (x : UInt8) (v : Bool) (w : World) (hc : w.cell? ⟨b, x.toNat, none⟩ = some (.bool v)) :
    Calls Tryz.prog 128 #[.pointer (some ⟨b, 0, none⟩), .int .u8 x.toNat] w fun e w' => e = .returned (.bool v) ∧ w' = w := Any.asciiSet_contains Tryz.lays228 b x v w hc
def Tryz.lays105_ren : Go.Shelf.Ren := ⟨fun | 105 => 48 | 212 => 81 | 99 => 82 | 165 => 50 | 166 => 52 | 170 => 83 | 169 => 54 | 263 => 123 | 264 => 124 | 206 => 77 | 240 => 86 | 241 => 87 | 276 => 125 | 277 => 126 | n => n, fun | 9 => 9 | 3 => 3 | 4 => 4 | 20 => 20 | 0 => 0 | 46 => 65 | 109 => 105 | 5 => 5 | 72 => 78 | 76 => 56 | 51 => 68 | 146 => 112 | 53 => 22 | 148 => 149 | 70 => 75 | 37 => 76 | 75 => 44 | 127 => 109 | 164 => 151 | 80 => 82 | n => n, fun | n => n⟩
theorem Tryz.lays105 : Go.Proofs.Lays.n105 Tryz.prog Tryz.lays105_ren := {
  mixed := by kernel_rfl
  f99 := Tryz.func82.trans (congrArg some (by kernel_rfl))
  f105 := Tryz.func48.trans (congrArg some (by kernel_rfl))
  f165 := Tryz.func50.trans (congrArg some (by kernel_rfl))
  f166 := Tryz.func52.trans (congrArg some (by kernel_rfl))
  f169 := Tryz.func54.trans (congrArg some (by kernel_rfl))
  f170 := Tryz.func83.trans (congrArg some (by kernel_rfl))
  f206 := Tryz.func77.trans (congrArg some (by kernel_rfl))
  f212 := Tryz.func81.trans (congrArg some (by kernel_rfl))
  f240 := Tryz.func86.trans (congrArg some (by kernel_rfl))
  f241 := Tryz.func87.trans (congrArg some (by kernel_rfl))
  f263 := Tryz.func123.trans (congrArg some (by kernel_rfl))
  f264 := Tryz.func124.trans (congrArg some (by kernel_rfl))
  f276 := Tryz.func125.trans (congrArg some (by kernel_rfl))
  f277 := Tryz.func126.trans (congrArg some (by kernel_rfl))
  t0 := Tryz.underlying0
  a0 := Tryz.isAgg0
  z0 := Tryz.sizeOf0
  v0 := Tryz.zeroValue0
  t3 := Tryz.underlying3
  a3 := Tryz.isAgg3
  z3 := Tryz.sizeOf3
  v3 := Tryz.zeroValue3
  t4 := Tryz.underlying4
  a4 := Tryz.isAgg4
  z4 := Tryz.sizeOf4
  v4 := Tryz.zeroValue4
  t5 := Tryz.underlying5
  a5 := Tryz.isAgg5
  z5 := Tryz.sizeOf5
  v5 := Tryz.zeroValue5
  t9 := Tryz.underlying9
  a9 := Tryz.isAgg9
  z9 := Tryz.sizeOf9
  v9 := Tryz.zeroValue9
  t20 := Tryz.underlying20
  a20 := Tryz.isAgg20
  z20 := Tryz.sizeOf20
  v20 := Tryz.zeroValue20
  t37 := Tryz.underlying76
  a37 := Tryz.isAgg76
  z37 := Tryz.sizeOf76
  v37 := Tryz.zeroValue76
  t46 := Tryz.underlying65
  a46 := Tryz.isAgg65
  z46 := Tryz.sizeOf65
  v46 := Tryz.zeroValue65
  t51 := Tryz.underlying68
  a51 := Tryz.isAgg68
  z51 := Tryz.sizeOf68
  v51 := Tryz.zeroValue68
  t53 := Tryz.underlying22
  a53 := Tryz.isAgg22
  z53 := Tryz.sizeOf22
  v53 := Tryz.zeroValue22
  t70 := Tryz.underlying75
  a70 := Tryz.isAgg75
  z70 := Tryz.sizeOf75
  v70 := Tryz.zeroValue75
  t72 := Tryz.underlying78
  a72 := Tryz.isAgg78
  z72 := Tryz.sizeOf78
  v72 := Tryz.zeroValue78
  t75 := Tryz.underlying44
  a75 := Tryz.isAgg44
  z75 := Tryz.sizeOf44
  v75 := Tryz.zeroValue44
  t76 := Tryz.underlying56
  a76 := Tryz.isAgg56
  z76 := Tryz.sizeOf56
  v76 := Tryz.zeroValue56
  t109 := Tryz.underlying105
  a109 := Tryz.isAgg105
  z109 := Tryz.sizeOf105
  v109 := Tryz.zeroValue105
  t127 := Tryz.underlying109
  a127 := Tryz.isAgg109
  z127 := Tryz.sizeOf109
  v127 := Tryz.zeroValue109
  t146 := Tryz.underlying112
  a146 := Tryz.isAgg112
  z146 := Tryz.sizeOf112
  v146 := Tryz.zeroValue112
  t148 := Tryz.underlying149
  a148 := Tryz.isAgg149
  z148 := Tryz.sizeOf149
  v148 := Tryz.zeroValue149
  t164 := Tryz.underlying151
  a164 := Tryz.isAgg151
  z164 := Tryz.sizeOf151
  v164 := Tryz.zeroValue151 }
theorem Tryz.Builder_Extra_105 : Builder.Extra Tryz.prog Tryz.lays105_ren := {
  sizeBuilder := by kernel_rfl
  liesBuilder := by kernel_rfl
  t5 := Tryz.underlying5
  a5 := Tryz.isAgg5
  z5 := Tryz.sizeOf5
  v5 := Tryz.zeroValue5
  infoByte := by kernel_rfl
  cellsByte := by kernel_rfl
  sizeByte := by kernel_rfl
  neB5 := by decide }
open Go.RowKit Go.Lib in
theorem Tryz.strings_Repeat (s : ByteArray) (c : Nat) (w : World) (hc : c ≤ 9223372036854775807) (hlen : s.size * c ≤ 140737488355328) :
    Calls Tryz.prog 48 #[.string s, .int .i64 c] w fun e w' => e = .returned (.string ⟨(Lib.repeatL s.data.toList c).toArray⟩) ∧ Below w.heap.size w w' := Any.strings_Repeat Tryz.lays105 Tryz.Builder_Extra_105 s c w hc hlen
def Tryz.lays161_ren : Go.Shelf.Ren := ⟨fun | 161 => 69 | 231 => 95 | 227 => 96 | 233 => 97 | 235 => 98 | 228 => 128 | 197 => 53 | 151 => 129 | 260 => 88 | 152 => 169 | 137 => 180 | 119 => 181 | 224 => 119 | 225 => 118 | 217 => 117 | 266 => 164 | n => n, fun | 9 => 9 | 4 => 4 | 3 => 3 | 5 => 5 | 117 => 117 | 116 => 116 | 0 => 0 | 124 => 120 | 105 => 80 | 21 => 21 | 119 => 154 | 46 => 65 | 139 => 157 | 138 => 156 | n => n, fun | 3 => 5 | 4 => 6 | n => n⟩
theorem Tryz.lays161 : Go.Proofs.Lays.n161 Tryz.prog Tryz.lays161_ren := {
  mixed := by kernel_rfl
  f119 := Tryz.func181.trans (congrArg some (by kernel_rfl))
  f137 := Tryz.func180.trans (congrArg some (by kernel_rfl))
  f151 := Tryz.func129.trans (congrArg some (by kernel_rfl))
  f152 := Tryz.func169.trans (congrArg some (by kernel_rfl))
  f161 := Tryz.func69.trans (congrArg some (by kernel_rfl))
  f197 := Tryz.func53.trans (congrArg some (by kernel_rfl))
  f217 := Tryz.func117.trans (congrArg some (by kernel_rfl))
  f224 := Tryz.func119.trans (congrArg some (by kernel_rfl))
  f225 := Tryz.func118.trans (congrArg some (by kernel_rfl))
  f227 := Tryz.func96.trans (congrArg some (by kernel_rfl))
  f228 := Tryz.func128.trans (congrArg some (by kernel_rfl))
  f231 := Tryz.func95.trans (congrArg some (by kernel_rfl))
  f233 := Tryz.func97.trans (congrArg some (by kernel_rfl))
  f235 := Tryz.func98.trans (congrArg some (by kernel_rfl))
  f260 := Tryz.func88.trans (congrArg some (by kernel_rfl))
  f266 := Tryz.func164.trans (congrArg some (by kernel_rfl))
  t0 := Tryz.underlying0
  a0 := Tryz.isAgg0
  z0 := Tryz.sizeOf0
  v0 := Tryz.zeroValue0
  t3 := Tryz.underlying3
  a3 := Tryz.isAgg3
  z3 := Tryz.sizeOf3
  v3 := Tryz.zeroValue3
  t4 := Tryz.underlying4
  a4 := Tryz.isAgg4
  z4 := Tryz.sizeOf4
  v4 := Tryz.zeroValue4
  t5 := Tryz.underlying5
  a5 := Tryz.isAgg5
  z5 := Tryz.sizeOf5
  v5 := Tryz.zeroValue5
  t9 := Tryz.underlying9
  a9 := Tryz.isAgg9
  z9 := Tryz.sizeOf9
  v9 := Tryz.zeroValue9
  t21 := Tryz.underlying21
  a21 := Tryz.isAgg21
  z21 := Tryz.sizeOf21
  v21 := Tryz.zeroValue21
  t46 := Tryz.underlying65
  a46 := Tryz.isAgg65
  z46 := Tryz.sizeOf65
  v46 := Tryz.zeroValue65
  t105 := Tryz.underlying80
  a105 := Tryz.isAgg80
  z105 := Tryz.sizeOf80
  v105 := Tryz.zeroValue80
  t116 := Tryz.underlying116
  a116 := Tryz.isAgg116
  z116 := Tryz.sizeOf116
  t117 := Tryz.underlying117
  a117 := Tryz.isAgg117
  z117 := Tryz.sizeOf117
  v117 := Tryz.zeroValue117
  t119 := Tryz.underlying154
  a119 := Tryz.isAgg154
  z119 := Tryz.sizeOf154
  t124 := Tryz.underlying120
  a124 := Tryz.isAgg120
  z124 := Tryz.sizeOf120
  v124 := Tryz.zeroValue120
  t138 := Tryz.underlying156
  a138 := Tryz.isAgg156
  z138 := Tryz.sizeOf156
  v138 := Tryz.zeroValue156
  t139 := Tryz.underlying157
  a139 := Tryz.isAgg157
  z139 := Tryz.sizeOf157
  v139 := Tryz.zeroValue157
  g3 := by kernel_rfl
  g4 := by kernel_rfl }
open Go.RowKit in
theorem Tryz.strings_TrimLeft (s cutset : ByteArray) (w : World) (hcs : cutset.size < 4294967281) (hascii : ∀ (j : Nat) b, cutset.data.toList[j]? = some b → b.toNat < 128) : Calls Tryz.prog 69 #[.string s, .string cutset] w fun e w' => e = .returned (.string ⟨(Lib.trimLeftS s.data.toList cutset.data.toList).toArray⟩) ∧ Below w.heap.size w w' := Any.strings_TrimLeft_laid Tryz.lays161 (by kernel_rfl) s cutset w hcs hascii
end Go.Proofs

namespace Go.Proofs.YtpilniljhmkedaaGreatDoor
open Go.RowKit Go.Lib
/-- A string of bytes. -/
abbrev bs (l : List UInt8) : ByteArray := ⟨l.toArray⟩
theorem bs_app (a b : List UInt8) : bs a ++ bs b = bs (a ++ b) := by
  apply ByteArray.ext
  simp [ByteArray.data_append]
theorem bs_size (l : List UInt8) : (bs l).size = l.length := rfl
theorem bs_extract (l : List UInt8) (a b : Nat) : (bs l).extract a b = bs ((l.drop a).take (b - a)) := by
  apply ByteArray.ext
  simp [ByteArray.data_extract]
theorem ret_bs {s t : ByteArray} (h : s = t) : Ending.returned (.string s) = .returned (.string t) := by rw [h]
set_option maxHeartbeats 400000 in
theorem pointed_any (l : List UInt8) (p : Nat) (w : World) (h : p ≤ l.length) (hl : l.length ≤ 1000) :
    Calls Tryz.prog 46 #[.string (bs l), .int .i64 p] w fun e w' => e = .returned (.string (bs (Pl.pointed l p))) ∧ ∃ n, w' = w.drewN n := by
  have hsz : (bs l).size = l.length := rfl
  by_cases hp : p = l.length
  · have HP := Lib.hid (show Pl.pointed l p = l ++ [46, 48] by unfold Pl.pointed; rw [if_pos hp])
    have hb : ((p : Int) == (l.length : Int)) = true := by rw [beq_iff_eq]; omega
    clear hp
    generalize hs : bs l = s at hsz ⊢
    have HS := Lib.hid hs
    clear hs
    go_enter Tryz.func46, Tryz.ntmps46
    go_wp2_with fail
    go_ret
    exact ⟨ret_bs (by rw [HP.out, ← HS.out]; exact bs_app l [46, 48]), 0, rfl⟩
  · have HP := Lib.hid (show Pl.pointed l p = l.take p ++ [46] ++ l.drop p by unfold Pl.pointed; rw [if_neg hp])
    have hb : ((p : Int) == (l.length : Int)) = false := by rw [beq_eq_false_iff_ne]; omega
    have hlt : p < l.length := by omega
    clear hp
    generalize hs : bs l = s at hsz ⊢
    have HS := Lib.hid hs
    clear hs
    go_enter Tryz.func46, Tryz.ntmps46
    go_wp2_with fail
    go_quiet (fail)
    go_wp2_with fail
    go_ret
    refine ⟨ret_bs ?_, _, rfl⟩
    rw [HP.out, ← HS.out]
    rw [bs_extract, bs_extract, show (⟨#[46]⟩ : ByteArray) = bs [46] from rfl, bs_app, bs_app]
    congr 3
    rw [List.take_of_length_le (by simp)]
theorem pointed_len (l : List UInt8) (p : Nat) : (Pl.pointed l p).length ≤ l.length + 2 := by
  unfold Pl.pointed; split <;> simp; omega
theorem itoa_len (p : Int) (h : -400 ≤ p ∧ p ≤ 400) : (Lib.itoa p).length ≤ 21 := by
  have key : ∀ u : Nat, u ≤ 400 → (decDigits u).length ≤ 20 := by
    intro u hu
    rw [decDigits_length]
    by_cases h0 : u = 0
    · subst h0; rw [nDigits_small (by decide)]; decide
    · exact nDigits_le (by omega) (by omega)
  unfold Lib.itoa
  split
  · simp; have := key p.natAbs (by omega); omega
  · have := key p.toNat (by omega); omega
theorem below_grown (w : World) (k : Nat) (os : Array Obj) : Below w.heap.size w (Go.Sort.grow (w.drewN k) os) := by
  refine ⟨rfl, rfl, rfl, by simp [Go.Sort.grow], fun i hi => ?_⟩
  show (w.heap ++ os)[i]? = _
  rw [Array.getElem?_append_left hi]
set_option maxHeartbeats 1000000 in
theorem written_far (l : List UInt8) (p : Int) (w : World) (he : Env w) (h1 : 1 ≤ l.length) (hl : l.length ≤ 100) (hp : -400 ≤ p ∧ p ≤ 400) (c1 : p < -4 ∨ 15 < p) :
    Calls Tryz.prog 26 #[.string (bs l), .int .i64 p] w fun e w' => e = .returned (.string (bs (Pl.written l p))) ∧ Below w.heap.size w w' := by
  have hsz : (bs l).size = l.length := rfl
  have HI := Lib.hid (fun (w : World) (h : Env w) => Tryz.strconv_Itoa p (by omega) (by omega) w h.p10)
  have HPT := Lib.hid (fun (q : Nat) (w : World) (h : q ≤ l.length) => pointed_any l q w h (by omega))
  have HR := Lib.hid (show Pl.written l p = Pl.pointed l 1 ++ [101] ++ Lib.itoa p by unfold Pl.written; rw [if_pos c1])
  generalize bs l = s at hsz HPT ⊢
  rcases c1 with c1 | c1
  all_goals
    go_enter Tryz.func26, Tryz.ntmps26
    go_wp2_with fail
    refine (HPT.out 1 _ h1).mono ?_
    rintro e w' ⟨rfl, n1, rfl⟩
    have hqs : (bs (Pl.pointed l 1)).size ≤ 102 := by have := pointed_len l 1; rw [bs_size]; omega
    generalize hq : bs (Pl.pointed l 1) = q at hqs ⊢
    have HQ := Lib.hid hq
    clear hq
    go_wp2_with fail
    refine (HI.out _ (he.below (below_drewN (Below.refl _ _) _))).mono ?_
    rintro e w' ⟨rfl, k, os, rfl⟩
    have hB : Below w.heap.size w (Go.Sort.grow ((w.drewN n1).drewN k) os) := (below_drewN (Below.refl _ _) _).trans (below_grown (w.drewN n1) k os)
    generalize Go.Sort.grow ((w.drewN n1).drewN k) os = w1 at hB ⊢
    have HT := Lib.hid (show (⟨(Lib.itoa p).toArray⟩ : ByteArray) = bs (Lib.itoa p) from rfl)
    generalize (⟨(Lib.itoa p).toArray⟩ : ByteArray) = t at HT ⊢
    have hts : t.size ≤ 21 := by rw [HT.out, bs_size]; exact itoa_len p hp
    go_wp2_with fail
    go_ret
    refine ⟨ret_bs ?_, hB⟩
    rw [HR.out, HT.out, ← HQ.out, show (⟨#[101]⟩ : ByteArray) = bs [101] from rfl, bs_app, bs_app]
set_option maxHeartbeats 1000000 in
theorem written_low (l : List UInt8) (p : Int) (w : World) (hl : l.length ≤ 100) (c1 : -4 ≤ p) (c2 : p + 1 ≤ 0) :
    Calls Tryz.prog 26 #[.string (bs l), .int .i64 p] w fun e w' => e = .returned (.string (bs (Pl.written l p))) ∧ Below w.heap.size w w' := by
  have hsz : (bs l).size = l.length := rfl
  obtain ⟨c, hc⟩ : ∃ c : Nat, -(p + 1) = (c : Int) := ⟨(-(p + 1)).toNat, by omega⟩
  have HR := Lib.hid (show bs (Pl.written l p) = bs [48, 46] ++ bs (Lib.repeatL [48] c) ++ bs l by unfold Pl.written; rw [if_neg (by omega), if_pos c2, show (-(p + 1)).toNat = c by omega, bs_app, bs_app])
  have hc3 : c ≤ 3 := by omega
  have HC := Lib.hid hc
  have HP := Lib.hid (fun (w : World) => Tryz.strings_Repeat (bs [48]) c w (by omega) (by rw [bs_size]; simp; omega))
  generalize bs l = s at hsz HR ⊢
  clear hc
  go_enter Tryz.func26, Tryz.ntmps26
  go_wp2_with fail
  rw [HC.out]
  refine (HP.out _).mono ?_
  rintro e w' ⟨rfl, hB⟩
  have HT := Lib.hid (show (⟨(Lib.repeatL (bs [48]).data.toList c).toArray⟩ : ByteArray) = bs (Lib.repeatL [48] c) from rfl)
  generalize (⟨(Lib.repeatL (bs [48]).data.toList c).toArray⟩ : ByteArray) = t at HT ⊢
  have hts : t.size ≤ 3 := by rw [HT.out, bs_size, Lib.repeatL_length]; simp; omega
  go_wp2_with fail
  go_ret
  exact ⟨ret_bs (by rw [HR.out, HT.out]), hB⟩
set_option maxHeartbeats 1000000 in
theorem written_wide (l : List UInt8) (p : Int) (w : World) (hl : l.length ≤ 100) (c1 : p ≤ 15) (c2 : 0 < p + 1) (c3 : (l.length : Int) < p + 1) :
    Calls Tryz.prog 26 #[.string (bs l), .int .i64 p] w fun e w' => e = .returned (.string (bs (Pl.written l p))) ∧ Below w.heap.size w w' := by
  have hsz : (bs l).size = l.length := rfl
  obtain ⟨c, hc⟩ : ∃ c : Nat, p + 1 - l.length = (c : Int) := ⟨(p + 1 - l.length).toNat, by omega⟩
  obtain ⟨q, hq⟩ : ∃ q : Nat, p + 1 = (q : Int) := ⟨(p + 1).toNat, by omega⟩
  have HR := Lib.hid (show Pl.written l p = Pl.pointed (l ++ Lib.repeatL [48] c) q by unfold Pl.written; rw [if_neg (by omega), if_neg (by omega), if_pos c3, show (p + 1 - l.length).toNat = c by omega, show (p + 1).toNat = q by omega])
  have hc3 : c ≤ 16 := by omega
  have hlen : (l ++ Lib.repeatL [48] c).length ≤ 200 := by simp [Lib.repeatL_length]; omega
  have hqc : q ≤ (l ++ Lib.repeatL [48] c).length := by simp [Lib.repeatL_length]; omega
  have HC := Lib.hid hc
  have HQ := Lib.hid hq
  have HP := Lib.hid (fun (w : World) => Tryz.strings_Repeat (bs [48]) c w (by omega) (by rw [bs_size]; simp; omega))
  have HPT := Lib.hid (fun (w : World) => pointed_any (l ++ Lib.repeatL [48] c) q w hqc (by omega))
  have HS := Lib.hid (bs_app l (Lib.repeatL [48] c))
  generalize bs l = s at hsz HS ⊢
  clear hc hq hlen hqc
  go_enter Tryz.func26, Tryz.ntmps26
  go_wp2_with fail
  rw [HC.out]
  refine (HP.out _).mono ?_
  rintro e w' ⟨rfl, hB⟩
  have HT := Lib.hid (show (⟨(Lib.repeatL (bs [48]).data.toList c).toArray⟩ : ByteArray) = bs (Lib.repeatL [48] c) from rfl)
  generalize (⟨(Lib.repeatL (bs [48]).data.toList c).toArray⟩ : ByteArray) = t at HT ⊢
  have hts : t.size ≤ 16 := by rw [HT.out, bs_size, Lib.repeatL_length]; simp; omega
  go_wp2_with fail
  rw [HT.out, HS.out, HQ.out]
  refine (HPT.out _).mono ?_
  rintro e w' ⟨rfl, n, rfl⟩
  go_wp2_with fail
  go_ret
  exact ⟨ret_bs (by rw [HR.out]), below_drewN hB _⟩
set_option maxHeartbeats 1000000 in
theorem written_near (l : List UInt8) (p : Int) (w : World) (hl : l.length ≤ 100) (c1 : p ≤ 15) (c2 : 0 < p + 1) (c3 : p + 1 ≤ (l.length : Int)) :
    Calls Tryz.prog 26 #[.string (bs l), .int .i64 p] w fun e w' => e = .returned (.string (bs (Pl.written l p))) ∧ Below w.heap.size w w' := by
  have hsz : (bs l).size = l.length := rfl
  obtain ⟨q, hq⟩ : ∃ q : Nat, p + 1 = (q : Int) := ⟨(p + 1).toNat, by omega⟩
  have HR := Lib.hid (show Pl.written l p = Pl.pointed l q by unfold Pl.written; rw [if_neg (by omega), if_neg (by omega), if_neg (by omega), show (p + 1).toNat = q by omega])
  have hqc : q ≤ l.length := by omega
  have HQ := Lib.hid hq
  have HPT := Lib.hid (fun (w : World) => pointed_any l q w hqc (by omega))
  generalize bs l = s at hsz HPT ⊢
  clear hq hqc
  go_enter Tryz.func26, Tryz.ntmps26
  go_wp2_with fail
  rw [HQ.out]
  refine (HPT.out _).mono ?_
  rintro e w' ⟨rfl, n, rfl⟩
  go_wp2_with fail
  go_ret
  exact ⟨ret_bs (by rw [HR.out]), below_drewN (Below.refl _ _) _⟩
theorem written_any (l : List UInt8) (p : Int) (w : World) (he : Env w) (h1 : 1 ≤ l.length) (hl : l.length ≤ 100) (hp : -400 ≤ p ∧ p ≤ 400) :
    Calls Tryz.prog 26 #[.string (bs l), .int .i64 p] w fun e w' => e = .returned (.string (bs (Pl.written l p))) ∧ Below w.heap.size w w' := by
  by_cases c1 : p < -4 ∨ 15 < p
  · exact written_far l p w he h1 hl hp c1
  · by_cases c2 : p + 1 ≤ 0
    · exact written_low l p w hl (by omega) c2
    · by_cases c3 : (l.length : Int) < p + 1
      · exact written_wide l p w hl (by omega) (by omega) c3
      · exact written_near l p w hl (by omega) (by omega) (by omega)
end Go.Proofs.YtpilniljhmkedaaGreatDoor
namespace Go.Proofs.YtpilniljhmkedaaGreatDoor
open Go.RowKit Go.Lib
namespace Fl
open Ieee
theorem order_zero {a : Nat} (hf : a % 9223372036854775808 < 9218868437227405312) (hz : a % 9223372036854775808 ≠ 0) : D.order a 0 = some .lt ∨ D.order a 0 = some .gt := by
  have hn : isNan a = false := by simp [isNan]; omega
  rw [order_key hn (by decide)]
  have h0 : val (D.read 0) = 0 := by rw [read_eq]; decide +kernel
  have hv : val (D.read a) ≠ 0 := by
    obtain ⟨s, m, i, e, hm⟩ : ∃ s m i, D.read a = .number s m i ∧ m ≠ 0 := by
      rw [read_eq, if_pos hf]
      split
      · exact ⟨_, _, _, rfl, hz⟩
      · exact ⟨_, _, _, rfl, by omega⟩
    rw [e]
    simp only [val]
    unfold Ieee.signed
    rw [Nat.shiftLeft_eq]
    have hp : 0 < m * 2 ^ (i + 1074).toNat := Nat.mul_pos (by omega) (Nat.pow_pos (by decide))
    generalize m * 2 ^ (i + 1074).toNat = v at *
    cases s <;> simp <;> omega
  rw [h0]
  rcases Int.lt_or_gt_of_ne hv with h | h
  · left; rw [cmp_lt h]
  · right; rw [cmp_gt h]
end Fl
theorem Pl.trim_fmt (neg : Bool) (ds : List UInt8) (x : Int) (h : ∀ c ∈ ds, 48 ≤ c.toNat ∧ c.toNat ≤ 57) (hl : 1 ≤ ds.length) : Lib.trimPrefix (Pl.fmtE neg ds x) [45] = Pl.headOf ds ++ 101 :: Pl.expo x ∧ Lib.hasPrefix (Pl.fmtE neg ds x) [45] = neg := by
  rw [Pl.fmtE_head]
  cases ds with
  | nil => simp at hl
  | cons d r =>
    have hd : d ≠ 45 := Pl.digit_ne (h d (by simp)) (by decide)
    have hh : Lib.hasPrefix (Pl.headOf (d :: r) ++ 101 :: Pl.expo x) [45] = false := by
      unfold Lib.hasPrefix Pl.headOf
      simp [List.isPrefixOf]
      exact fun e => hd e.symm
    cases neg
    · unfold Lib.trimPrefix
      simp only [Bool.false_eq_true, if_false, List.nil_append]
      rw [hh]; simp
    · have : Lib.hasPrefix ((if true = true then [45] else []) ++ (Pl.headOf (d :: r) ++ 101 :: Pl.expo x)) [45] = true := by
        unfold Lib.hasPrefix; simp [List.isPrefixOf]
      refine ⟨?_, this⟩
      unfold Lib.trimPrefix
      rw [this]; simp
theorem written_len (d : List UInt8) (p : Int) (hp : -400 ≤ p ∧ p ≤ 400) : (Pl.written d p).length ≤ d.length + 440 := by
  unfold Pl.written
  have h1 := pointed_len d 1
  have h2 := itoa_len p hp
  split
  · simp; omega
  · split
    · simp [Lib.repeatL_length]; omega
    · split
      · have := pointed_len (d ++ Lib.repeatL [48] (p + 1 - d.length).toNat) (p + 1).toNat
        rw [List.length_append, Lib.repeatL_length] at this
        simp only [List.length_cons, List.length_nil] at this
        omega
      · have := pointed_len d (p + 1).toNat
        omega
set_option maxHeartbeats 2000000 in
theorem show_any (a : Nat) (w : World) (ha : a < 18446744073709551616) (hf : a % 9223372036854775808 < 9218868437227405312) (hz : a % 9223372036854775808 ≠ 0) (he : Env w) :
    Calls Tryz.prog 8 #[.int .u64 a] w fun e w' => e = .returned (.string (bs (Pl.showN a))) ∧ Below w.heap.size w w' := by
  have hf' : a / 4503599627370496 % 2048 < 2047 := by omega
  obtain ⟨hd1, hd2, hd3, hd4, hd5⟩ := Pl.digs_ok hf' hz
  have ho : FloatKind.f64.format.order a a = some .eq := by rw [Fl.order_self]; unfold Fl.isNan; rw [if_neg (by simp; omega)]
  have i1 : decide (a = 9218868437227405312) = false := by simp; omega
  have i2 : decide (a = 18442240474082181120) = false := by simp; omega
  have HI1 := Lib.hid (fun w => isInf1_any a ha w)
  have HI2 := Lib.hid (fun w => isInfn_any a ha w)
  rw [i1] at HI1; rw [i2] at HI2
  have HZ := Lib.hid (Fl.order_zero hf hz)
  have HF := Lib.hid (format_any a w ha hf' hz he)
  obtain ⟨neg, hneg⟩ : ∃ neg : Bool, decide (9223372036854775808 ≤ a) = neg := ⟨_, rfl⟩
  obtain ⟨ds, hds⟩ : ∃ ds, Pl.digs a = ds := ⟨_, rfl⟩
  obtain ⟨x, hx⟩ : ∃ x, Pl.dpt a - 1 = x := ⟨_, rfl⟩
  have hT : Pl.ftoa a = Pl.fmtE neg ds x := by unfold Pl.ftoa; rw [hneg, hds, hx]
  rw [hT] at HF
  rw [hds] at hd1 hd2 hd3
  have hx1 : -400 ≤ x := by omega
  have hx2 : x ≤ 400 := by omega
  have HR := Lib.hid (show bs (Pl.showN a) = bs ((if neg then [45] else []) ++ Pl.written ds x) by unfold Pl.showN; rw [hds, hx, ← hneg]; simp)
  obtain ⟨t1, t2⟩ := Pl.trim_fmt neg ds x hd1 hd2
  have HC1 := Lib.hid (show ∀ w, Calls Tryz.prog 23 #[.string (bs (Pl.fmtE neg ds x)), .string (bs [45])] w fun e w' => e = .returned (.tuple #[.string (bs (Pl.headOf ds ++ 101 :: Pl.expo x)), .bool neg]) ∧ w' = w from fun w => by
    have h := Tryz.strings_CutPrefix (bs (Pl.fmtE neg ds x)) (bs [45]) w
    change Calls _ _ _ w (fun e w' => e = .returned (.tuple #[.string (bs (Lib.trimPrefix (Pl.fmtE neg ds x) [45])), .bool (Lib.hasPrefix (Pl.fmtE neg ds x) [45])]) ∧ w' = w) at h
    rw [t1, t2] at h
    exact h)
  have hhl := Pl.head_len ds
  have hel := Pl.expo_len x
  have HC2 := Lib.hid (show ∀ w, Env w → Calls Tryz.prog 24 #[.string (bs (Pl.headOf ds ++ 101 :: Pl.expo x)), .string (bs [101])] w fun e w' => e = .returned (.tuple #[.string (bs (Pl.headOf ds)), .string (bs (Pl.expo x)), .bool true]) ∧ ∃ n, w' = w.drewN n from fun w he => by
    obtain ⟨mm, hmm⟩ := he.mlen
    have h := Tryz.strings_Cut (bs (Pl.headOf ds ++ 101 :: Pl.expo x)) (bs [101]) mm w (by rw [bs_size]; simp; omega) hmm
    change Calls _ _ _ w (fun e w' => e = .returned (.tuple #[.string (bs (Lib.cut (Pl.headOf ds ++ 101 :: Pl.expo x) [101]).1), .string (bs (Lib.cut (Pl.headOf ds ++ 101 :: Pl.expo x) [101]).2.1), .bool (Lib.cut (Pl.headOf ds ++ 101 :: Pl.expo x) [101]).2.2]) ∧ ∃ n, w' = w.drewN n) at h
    rw [Pl.cut_at 101 _ _ (Pl.head_mem hd1 (by decide) (by decide))] at h
    exact h)
  have HC3 := Lib.hid (show ∀ w, Calls Tryz.prog 25 #[.string (bs (Pl.expo x))] w fun e w' => e = .returned (.tuple #[.int .i64 x, .nilIface]) ∧ Below w.heap.size w w' from fun w => by
    refine (Tryz.strconv_Atoi (bs (Pl.expo x)) x (by rw [bs_size]; omega) (Pl.atoi_expo (by omega) (by omega)) w).mono ?_
    rintro e w' ⟨rfl, t, rfl⟩
    exact ⟨rfl, bytesWorld_below _ _ _⟩)
  have HC4 := Lib.hid (show ∀ w, Env w → Calls Tryz.prog 27 #[.string (bs (Pl.headOf ds)), .string (bs [46]), .string (bs []), .int .i64 1] w fun e w' => e = .returned (.string (bs ds)) ∧ Below w.heap.size w w' from fun w he => by
    obtain ⟨mm, hmm⟩ := he.mlen
    have h := Tryz.strings_Replace (bs (Pl.headOf ds)) (bs [46]) (bs []) 1 mm w (by rw [bs_size]; omega) hmm (by decide) (by rw [bs_size, bs_size]; simp; omega)
    change Calls _ _ _ w (fun e w' => e = .returned (.string (bs (Lib.replace (Pl.headOf ds) [46] [] 1))) ∧ Below w.heap.size w w') at h
    rw [Pl.head_dot hd1] at h
    exact h)
  have HC5 := Lib.hid (fun w he => written_any ds x w he hd2 (by omega) ⟨hx1, hx2⟩)
  have hws : (bs (Pl.written ds x)).size ≤ 1000 := by rw [bs_size]; have := written_len ds x ⟨hx1, hx2⟩; omega
  have HG := Lib.hid (show Calls Tryz.prog 22 #[.float .f64 a, .int .u8 101, .int .i64 (-1), .int .i64 64] w fun e w' => e = .returned (.string (bs (Pl.fmtE neg ds x))) ∧ Below w.heap.size w w' from HF.out)
  clear HF
  have HW := Lib.hid (bs_app [45] (Pl.written ds x))
  clear hd1 hd2 hd3 hd4 hd5 hhl hel t1 t2 hT hds hx hneg i1 i2 hf hz hf' hx1 hx2
  generalize bs (Pl.fmtE neg ds x) = S1 at *
  generalize bs (Pl.headOf ds ++ 101 :: Pl.expo x) = S2 at *
  generalize bs (Pl.headOf ds) = S3 at *
  generalize bs (Pl.expo x) = S4 at *
  generalize bs ds = S5 at *
  have HZ0 : FloatKind.f64.format.order a 0 = some .lt ∨ FloatKind.f64.format.order a 0 = some .gt := HZ.out
  clear HZ
  rcases HZ0 with hz0 | hz0
  all_goals
    go_enter Tryz.func8, Tryz.ntmps8
    go_wp2_with fail
    refine (of_any _ _).mono ?_
    rintro e w' ⟨rfl, rfl⟩
    go_wp2_with fail
    refine (HI1.out _).mono ?_
    rintro e w' ⟨rfl, rfl⟩
    go_wp2_with fail
    refine (HI2.out _).mono ?_
    rintro e w' ⟨rfl, rfl⟩
    go_wp2_with fail
    refine HG.out.mono ?_
    rintro e w1 ⟨rfl, hB1⟩
    go_wp2_with fail
    refine (HC1.out _).mono ?_
    rintro e w' ⟨rfl, rfl⟩
    have he1 := he.below hB1
    go_wp2_with fail
    refine (HC2.out _ he1).mono ?_
    rintro e w' ⟨rfl, n2, rfl⟩
    go_wp2_with fail
    refine (HC3.out _).mono ?_
    rintro e w3 ⟨rfl, hB3⟩
    have hB4 : Below w.heap.size w w3 := (below_drewN hB1 n2).trans (hB3.mono hB1.size)
    have he3 := he.below hB4
    clear hB1 hB3 he1
    go_wp2_with fail
    refine (HC4.out _ he3).mono ?_
    rintro e w4 ⟨rfl, hB5⟩
    have hB6 : Below w.heap.size w w4 := hB4.trans (hB5.mono hB4.size)
    have he4 := he3.below hB5
    clear hB5
    go_wp2_with fail
    refine (HC5.out _ he4).mono ?_
    rintro e w5 ⟨rfl, hB7⟩
    have HB := Lib.hid (hB6.trans (hB7.mono hB6.size))
    obtain ⟨S6, hS6⟩ : ∃ s, bs (Pl.written ds x) = s := ⟨_, rfl⟩
    rw [hS6] at hws HW ⊢
    have H6 := Lib.hid hS6
    clear hS6 hB6 hB7 hB4 he3 he4
    cases neg
    · go_wp2_with fail
      go_ret
      exact ⟨ret_bs (by rw [HR.out, ← H6.out]; rfl), HB.out⟩
    · go_wp2_with fail
      go_ret
      exact ⟨ret_bs (by rw [HR.out]; exact HW.out), HB.out⟩
end Go.Proofs.YtpilniljhmkedaaGreatDoor
