/- Lemmas. -/
import Derived.Test.YtkhphoonnkoipaaGreatDoorVa0
import Derived.Shelf.Small.Bits
import Derived.Shelf.Small.Utf8
import Derived.Shelf.Small.Wraps
import Derived.Shelf.Strings.BuilderK
import Derived.Shelf.Utf8.RuneCount
import Derived.Shelf.Strings.Builder2Cap
import Derived.Shelf.Strconv.Atoi
import Derived.Shelf.Strconv.Itoa3
import Derived.Shelf.Strconv.AtoiFail
import Derived.Shelf.Strings.Shaped
import Derived.Shelf.Strconv.AppendInt10
import Derived.Shelf.Strings.SplitShaped
import Derived.Shelf.Unicode.Decode
import Derived.Shelf.Strings.RuneCount
import Derived.Shelf.Strings.Repeat
import Derived.Shelf.Strings.SlTrimAscii
import Derived.Shelf.Strconv.ParseIntPublic10
set_option linter.all false
open Go.Proofs.Tryz Go.RowKit Go.Lib
open Option renaming some→U
open Go renaming World→af,Calls→aq
open Go.Proofs.Tryz renaming prog→ak
namespace Go.Proofs
open Go.Proofs.YtkhphoonnkoipaaGreatDoor Go.Proofs.Tryz
open Go.Shelf
def af8:Go.Shelf.Ren:=⟨fun | 129=>146 | n=>n,fun | 53=>26 | 3=>3 | 4=>4 | 46=>106 | 5=>5 | 9=>9 | n=>n,fun | n=>n⟩
theorem af9:Go.Proofs.Lays.n129 ak af8:={
 mixed:=by kernel_rfl
 f129:=bX EV (by kernel_rfl)
 t3:=hG
 a3:=py
 z3:=pw
 v3:=pt
 t4:=nV
 a4:=pz
 z4:=px
 v4:=qe
 t5:=ke
 a5:=oS
 z5:=oO
 v5:=oN
 t9:=jH
 a9:=oT
 z9:=oP
 v9:=pv
 t46:=ra
 a46:=ta
 z46:=s'
 v46:=s5
 t53:=r'
 a53:=xB
 z53:=xv
 v53:=xo }
theorem bits_Len64 (x:Int) (w:af) (ar:0≤x) (aa:x≤18446744073709551615) :
 aq ak 146 #[.int .u64 x] w fun e w'=>e=.returned (.int .i64 (Lib.bitLen x.toNat))∧w'=w:=Any.bits_Len64 af9 x w ar aa
def af':Go.Shelf.Ren:=⟨fun | 284=>229 | 129=>146 | 317=>230 | 318=>263 | n=>n,fun | 53=>26 | 3=>3 | 212=>253 | 0=>0 | 4=>4 | 46=>106 | 5=>5 | 9=>9 | n=>n,fun | 17=>8 | n=>n⟩
theorem aga:Go.Proofs.LaysM.n284 ak af':={
 mixed:=by kernel_rfl
 f129:=bX EV (by kernel_rfl)
 f284:=bX Jk (by kernel_rfl)
 f317:=bX EW (by kernel_rfl)
 f318:=bX BQ (by kernel_rfl)
 t0:=vJ
 a0:=vO
 z0:=vM
 v0:=vK
 t3:=hG
 a3:=py
 z3:=pw
 v3:=pt
 t4:=nV
 a4:=pz
 z4:=px
 v4:=qe
 t5:=ke
 a5:=oS
 z5:=oO
 v5:=oN
 t9:=jH
 a9:=oT
 z9:=oP
 v9:=pv
 t46:=ra
 a46:=ta
 z46:=s'
 v46:=s5
 t53:=r'
 a53:=xB
 z53:=xv
 v53:=xo
 t212:=Em
 a212:=Jd
 z212:=I9
 v212:=IV
 g17:=by kernel_rfl
 i0:=by kernel_rfl
 i3:=by kernel_rfl
 i4:=by kernel_rfl
 i5:=by kernel_rfl
 i9:=by kernel_rfl
 i46:=by kernel_rfl
 i53:=by kernel_rfl
 i212:=by kernel_rfl
 m17:=by kernel_rfl }
open Go.Lib in
theorem internal_strconv_numDigits (u:Nat) (aa:1≤u) (ae:u<18446744073709551616) (w:af) (PW:Lib.TabIs ak w "internal/strconv.uint64pow10" .u64 Lib.pow10Tab) :
 aq ak 229 #[.int .u64 u] w fun e w'=>e=.returned (.int .i64 (Lib.nDigits u))∧w'=w:=Any.internal_strconv_numDigits aga u aa ae w PW
def agb:Go.Shelf.Ren:=⟨fun | 285=>262 | n=>n,fun | 37=>109 | 53=>26 | 3=>3 | 4=>4 | 51=>96 | 9=>9 | 5=>5 | 0=>0 | n=>n,fun | n=>n⟩
theorem agc:Go.Proofs.Lays.n285 ak agb:={
 mixed:=by kernel_rfl
 f285:=bX Jl (by kernel_rfl)
 t0:=vJ
 a0:=vO
 z0:=vM
 v0:=vK
 t3:=hG
 a3:=py
 z3:=pw
 v3:=pt
 t4:=nV
 a4:=pz
 z4:=px
 v4:=qe
 t5:=ke
 a5:=oS
 z5:=oO
 v5:=oN
 t9:=jH
 a9:=oT
 z9:=oP
 v9:=pv
 t37:=mL
 a37:=zv
 z37:=zt
 v37:=zl
 t51:=xm
 a51:=xC
 z51:=xw
 v51:=xp
 t53:=r'
 a53:=xB
 z53:=xv
 v53:=xo }
open Go.RowKit Go.Sort Go.Lib in
theorem internal_strconv_formatBase10 (JW off cap:Nat) (u:Nat) (d:Array UInt8) (w:af) (rj:Holds (fun (b:UInt8)=>Value.int .u8 (b.toNat:Int)) w JW off d) (hu:u<10^d.size) (agd:u<18446744073709551616) (b5:d.size<4611686018427387904) :
 aq ak 262 #[.slice (U ⟨JW,off,none⟩) d.size cap,.int .u64 u] w fun e w'=>
  e=.returned (.tuple #[])∧∃(n dv:Nat) (uG:Array UInt8),w'=(putRow (fun (b:UInt8)=>Value.int .u8 (b.toNat:Int)) w JW off uG).drewN n∧FmtInv d.size u 0 dv uG:=Any.internal_strconv_formatBase10 agc JW off cap u d w rj hu agd b5
def age:Go.Shelf.Ren:=⟨fun | 264=>244 | n=>n,fun | 53=>26 | 46=>106 | n=>n,fun | n=>n⟩
theorem agf:Go.Proofs.Lays.n264 ak age:={
 mixed:=by kernel_rfl
 f264:=bX func244 (by kernel_rfl)
 t46:=ra
 a46:=ta
 z46:=s'
 v46:=s5
 t53:=r'
 a53:=xB
 z53:=xv
 v53:=xo }
open Go.RowKit Go.Lib in
theorem bits_Mul64 (x y:Nat) (hx:x<18446744073709551616) (aW:y<18446744073709551616) (w:af) :
 aq ak 244 #[.int .u64 x,.int .u64 y] w fun e w'=>e=.returned (.tuple #[.int .u64 ((x*y/18446744073709551616:Nat):Int),.int .u64 ((x*y%18446744073709551616:Nat):Int)])∧w'=w:=Any.bits_Mul64 agf x y hx aW w
def ahu:Go.Shelf.Ren:=⟨fun | 103=>149 | 210=>178 | 206=>200 | n=>n,fun | 9=>9 | 4=>4 | 24=>148 | 3=>3 | n=>n,fun | n=>n⟩
theorem ahv:Go.Proofs.Lays.n103 ak ahu:={
 mixed:=by kernel_rfl
 f103:=bX func149 (by kernel_rfl)
 f206:=bX O9 (by kernel_rfl)
 f210:=bX func178 (by kernel_rfl)
 t3:=hG
 a3:=py
 z3:=pw
 v3:=pt
 t4:=nV
 a4:=pz
 z4:=px
 v4:=qe
 t9:=jH
 a9:=oT
 z9:=oP
 v9:=pv
 t24:=underlying148
 a24:=isAgg148
 z24:=sizeOf148
 v24:=zeroValue148 }
open Go.RowKit in
theorem strings_CutPrefix (s p:ByteArray) (w:af) :
 aq ak 149 #[.string s,.string p] w fun e w'=>e=.returned (.tuple #[.string ⟨(Lib.trimPrefix s.data.toList p.data.toList).toArray⟩,.bool (Lib.hasPrefix s.data.toList p.data.toList)])∧w'=w:=Any.strings_CutPrefix ahv s p w
def ahw:Go.Shelf.Ren:=⟨fun | 172=>151 | 244=>180 | 245=>181 | 247=>202 | 279=>203 | 280=>204 | 281=>205 | 282=>206 | 287=>239 | 316=>240 | 171=>183 | 205=>241 | 321=>253 | 322=>273 | 243=>207 | 246=>242 | 283=>274 | 284=>229 | 285=>262 | 286=>275 | 129=>146 | 317=>230 | 318=>263 | 319=>292 | 320=>293 | 337=>301 | 338=>302 | n=>n,fun | 9=>9 | 3=>3 | 75=>153 | 76=>154 | 4=>4 | 5=>5 | 167=>188 | 37=>109 | 0=>0 | 85=>181 | 2=>2 | 168=>189 | 53=>26 | 175=>220 | 46=>106 | 210=>223 | 127=>194 | 145=>261 | 143=>259 | 21=>21 | 171=>213 | 173=>262 | 212=>253 | 51=>96 | 20=>20 | 213=>293 | 232=>208 | 233=>303 | 80=>179 | n=>n,fun | 15=>4 | 16=>5 | 17=>8 | 18=>16 | 19=>17 | n=>n⟩
theorem ahx:Go.Proofs.Lays.n172 ak ahw:={
 mixed:=by kernel_rfl
 f129:=bX EV (by kernel_rfl)
 f171:=bX O' (by kernel_rfl)
 f172:=bX func151 (by kernel_rfl)
 f205:=bX func241 (by kernel_rfl)
 f243:=bX Pa (by kernel_rfl)
 f244:=bX func180 (by kernel_rfl)
 f245:=bX Pb (by kernel_rfl)
 f246:=bX Pc (by kernel_rfl)
 f247:=bX func202 (by kernel_rfl)
 f279:=bX func203 (by kernel_rfl)
 f280:=bX Pd (by kernel_rfl)
 f281:=bX func205 (by kernel_rfl)
 f282:=bX func206 (by kernel_rfl)
 f283:=bX Pe (by kernel_rfl)
 f284:=bX Jk (by kernel_rfl)
 f285:=bX Jl (by kernel_rfl)
 f286:=bX Pf (by kernel_rfl)
 f287:=bX func239 (by kernel_rfl)
 f316:=bX Pg (by kernel_rfl)
 f317:=bX EW (by kernel_rfl)
 f318:=bX BQ (by kernel_rfl)
 f319:=bX Ph (by kernel_rfl)
 f320:=bX Pj (by kernel_rfl)
 f321:=bX Pk (by kernel_rfl)
 f322:=bX func273 (by kernel_rfl)
 f337:=bX Pl (by kernel_rfl)
 f338:=bX Pm (by kernel_rfl)
 t0:=vJ
 a0:=vO
 z0:=vM
 v0:=vK
 t2:=I2
 a2:=isAgg2
 z2:=Pn
 v2:=Og
 t3:=hG
 a3:=py
 z3:=pw
 v3:=pt
 t4:=nV
 a4:=pz
 z4:=px
 v4:=qe
 t5:=ke
 a5:=oS
 z5:=oO
 v5:=oN
 t9:=jH
 a9:=oT
 z9:=oP
 v9:=pv
 t20:=Ev
 a20:=EY
 z20:=EP
 v20:=ED
 t21:=IY
 a21:=Jp
 z21:=Jg
 v21:=I3
 t37:=mL
 a37:=zv
 z37:=zt
 v37:=zl
 t46:=ra
 a46:=ta
 z46:=s'
 v46:=s5
 t51:=xm
 a51:=xC
 z51:=xw
 v51:=xp
 t53:=r'
 a53:=xB
 z53:=xv
 v53:=xo
 t75:=zi
 a75:=ER
 z75:=EI
 v75:=Ew
 t76:=NK
 a76:=OO
 z76:=Ou
 v76:=NZ
 t85:=underlying181
 a85:=isAgg181
 z85:=sizeOf181
 v85:=zeroValue181
 t127:=Eo
 a127:=ES
 z127:=EJ
 v127:=Ex
 t143:=underlying259
 a143:=isAgg259
 z143:=sizeOf259
 v143:=zeroValue259
 t145:=underlying261
 a145:=isAgg261
 z145:=sizeOf261
 v145:=zeroValue261
 t167:=NL
 a167:=isAgg188
 z167:=sizeOf188
 v167:=zeroValue188
 t168:=NM
 a168:=OP
 z168:=Ov
 v168:=N0
 t171:=NN
 a171:=OQ
 z171:=Ow
 v171:=N1
 t173:=NO
 a173:=OR
 z173:=Ox
 v173:=N2
 t175:=underlying220
 a175:=isAgg220
 z175:=sizeOf220
 v175:=zeroValue220
 t210:=NP
 a210:=OS
 z210:=Oy
 v210:=N3
 t212:=Em
 a212:=Jd
 z212:=I9
 v212:=IV
 t213:=NQ
 a213:=OT
 z213:=Oz
 t232:=NR
 a232:=OU
 z232:=OA
 v232:=N4
 t233:=NS
 a233:=OV
 z233:=OB
 v233:=N5
 g15:=by kernel_rfl
 g16:=by kernel_rfl
 g17:=by kernel_rfl
 g18:=by kernel_rfl
 g19:=by kernel_rfl }
open Go.RowKit in
theorem strconv_Atoi (s:ByteArray) (n:Int) (ao:s.size≤18) (h:Lib.atoi s.data.toList=U n) (w:af) :
 aq ak 151 #[.string s] w fun e w'=>e=.returned (.tuple #[.int .i64 n,.nilIface])∧∃t,w'=Lib.bytesWorld w 5 t:=Any.strconv_Atoi ahx s n ao h w
def ahy:Go.Shelf.Ren:=⟨fun | 171=>183 | 243=>207 | 246=>242 | 283=>274 | 284=>229 | 285=>262 | 286=>275 | 129=>146 | 317=>230 | 318=>263 | 319=>292 | 320=>293 | 337=>301 | 338=>302 | n=>n,fun | 3=>3 | 9=>9 | 2=>2 | 4=>4 | 171=>213 | 0=>0 | 53=>26 | 37=>109 | 5=>5 | 173=>262 | 212=>253 | 51=>96 | 20=>20 | 213=>293 | 46=>106 | 232=>208 | 233=>303 | n=>n,fun | 17=>8 | 18=>16 | 19=>17 | n=>n⟩
theorem ahz:Go.Proofs.LaysM.n171 ak ahy:={
 mixed:=by kernel_rfl
 f129:=bX EV (by kernel_rfl)
 f171:=bX O' (by kernel_rfl)
 f243:=bX Pa (by kernel_rfl)
 f246:=bX Pc (by kernel_rfl)
 f283:=bX Pe (by kernel_rfl)
 f284:=bX Jk (by kernel_rfl)
 f285:=bX Jl (by kernel_rfl)
 f286:=bX Pf (by kernel_rfl)
 f317:=bX EW (by kernel_rfl)
 f318:=bX BQ (by kernel_rfl)
 f319:=bX Ph (by kernel_rfl)
 f320:=bX Pj (by kernel_rfl)
 f337:=bX Pl (by kernel_rfl)
 f338:=bX Pm (by kernel_rfl)
 t0:=vJ
 a0:=vO
 z0:=vM
 v0:=vK
 t2:=I2
 a2:=isAgg2
 z2:=Pn
 v2:=Og
 t3:=hG
 a3:=py
 z3:=pw
 v3:=pt
 t4:=nV
 a4:=pz
 z4:=px
 v4:=qe
 t5:=ke
 a5:=oS
 z5:=oO
 v5:=oN
 t9:=jH
 a9:=oT
 z9:=oP
 v9:=pv
 t20:=Ev
 a20:=EY
 z20:=EP
 v20:=ED
 t37:=mL
 a37:=zv
 z37:=zt
 v37:=zl
 t46:=ra
 a46:=ta
 z46:=s'
 v46:=s5
 t51:=xm
 a51:=xC
 z51:=xw
 v51:=xp
 t53:=r'
 a53:=xB
 z53:=xv
 v53:=xo
 t171:=NN
 a171:=OQ
 z171:=Ow
 v171:=N1
 t173:=NO
 a173:=OR
 z173:=Ox
 v173:=N2
 t212:=Em
 a212:=Jd
 z212:=I9
 v212:=IV
 t213:=NQ
 a213:=OT
 z213:=Oz
 t232:=NR
 a232:=OU
 z232:=OA
 v232:=N4
 t233:=NS
 a233:=OV
 z233:=OB
 v233:=N5
 g17:=by kernel_rfl
 g18:=by kernel_rfl
 g19:=by kernel_rfl
 i0:=by kernel_rfl
 i2:=by kernel_rfl
 i3:=by kernel_rfl
 i4:=by kernel_rfl
 i5:=by kernel_rfl
 i9:=by kernel_rfl
 i20:=by kernel_rfl
 i37:=by kernel_rfl
 i46:=by kernel_rfl
 i51:=by kernel_rfl
 i53:=by kernel_rfl
 i171:=by kernel_rfl
 i173:=by kernel_rfl
 i212:=by kernel_rfl
 i232:=by kernel_rfl
 i233:=by kernel_rfl
 m17:=by kernel_rfl
 m18:=by kernel_rfl
 m19:=by kernel_rfl }
open Go.RowKit Go.Sort Go.Lib in
theorem strconv_Itoa (n:Int) (ar:-9223372036854775808≤n) (aa:n≤9223372036854775807) (w:af) (PW:Lib.TabIs ak w "internal/strconv.uint64pow10" .u64 Lib.pow10Tab) :
 aq ak 183 #[.int .i64 n] w fun e w'=>e=.returned (.string ⟨(Lib.itoa n).toArray⟩)∧∃k os,w'=grow (w.drewN k) os:=Any.strconv_Itoa ahz n ar aa w PW
def ahA:Go.Shelf.Ren:=⟨fun | 321=>253 | n=>n,fun | 5=>5 | n=>n,fun | n=>n⟩
theorem ahB:Go.Proofs.Lays.n321 ak ahA:={
 mixed:=by kernel_rfl
 f321:=bX Pk (by kernel_rfl)
 t5:=ke
 a5:=oS
 z5:=oO
 v5:=oN }
open Go.RowKit in
theorem internal_strconv_lower (c:Int) (w:af) :
 aq ak 253 #[.int .u8 c] w fun e w'=>e=.returned (.int .u8 (bits .or .u8 c 32))∧w'=w:=Any.internal_strconv_lower ahB c w
def ahC:Go.Shelf.Ren:=⟨fun | 280=>204 | 316=>240 | n=>n,fun | 9=>9 | 168=>189 | 75=>153 | 210=>223 | 3=>3 | 4=>4 | 37=>109 | 0=>0 | 127=>194 | 80=>179 | 5=>5 | n=>n,fun | 16=>5 | n=>n⟩
theorem ahD:Go.Proofs.LaysM.n280 ak ahC:={
 mixed:=by kernel_rfl
 f280:=bX Pd (by kernel_rfl)
 f316:=bX Pg (by kernel_rfl)
 t0:=vJ
 a0:=vO
 z0:=vM
 v0:=vK
 t3:=hG
 a3:=py
 z3:=pw
 v3:=pt
 t4:=nV
 a4:=pz
 z4:=px
 v4:=qe
 t9:=jH
 a9:=oT
 z9:=oP
 v9:=pv
 t37:=mL
 a37:=zv
 z37:=zt
 v37:=zl
 t75:=zi
 a75:=ER
 z75:=EI
 v75:=Ew
 t127:=Eo
 a127:=ES
 z127:=EJ
 v127:=Ex
 t168:=NM
 a168:=OP
 z168:=Ov
 v168:=N0
 t210:=NP
 a210:=OS
 z210:=Oy
 v210:=N3
 g16:=by kernel_rfl
 t5:=ke
 a5:=oS
 z5:=oO
 v5:=oN
 t80:=underlying179
 a80:=isAgg179
 z80:=sizeOf179
 v80:=zeroValue179
 i0:=by kernel_rfl
 i3:=by kernel_rfl
 i4:=by kernel_rfl
 i5:=by kernel_rfl
 i9:=by kernel_rfl
 i37:=by kernel_rfl
 i75:=by kernel_rfl
 i80:=by kernel_rfl
 i127:=by kernel_rfl
 i168:=by kernel_rfl
 i210:=by kernel_rfl
 m16:=by kernel_rfl }
open Go.RowKit in
theorem strconv_rangeError (fn s:ByteArray) (fZ:Value) (w:af) (QH:s.size≤281474976710656) (aD:w.cell? ⟨5,0,none⟩=U fZ) (lS:fZ=.nilIface∨∃gr nz,fZ=.iface gr nz) :
 aq ak 204 #[.string fn,.string s] w fun e w'=>∃N,e=.returned (.pointer (U ⟨N,0,none⟩))∧w.heap.size≤N∧w'.heap[N]? = U (.cells #[.string fn,.string s,fZ] 223 (0,0))∧Below w.heap.size w w':=Any.strconv_rangeError ahD fn s fZ w QH aD lS
def ahE:Go.Shelf.Ren:=⟨fun | 145=>150 | 220=>179 | 219=>201 | 217=>155 | 225=>236 | 224=>237 | 267=>238 | 266=>191 | 314=>272 | n=>n,fun | 9=>9 | 4=>4 | 59=>150 | 3=>3 | 5=>5 | 46=>106 | 146=>140 | 51=>96 | n=>n,fun | 1=>2 | n=>n⟩
theorem ahF:Go.Proofs.Lays.n145 ak ahE:={
 mixed:=by kernel_rfl
 f145:=bX func150 (by kernel_rfl)
 f217:=bX Jq (by kernel_rfl)
 f219:=bX func201 (by kernel_rfl)
 f220:=bX func179 (by kernel_rfl)
 f224:=bX Po (by kernel_rfl)
 f225:=bX Pp (by kernel_rfl)
 f266:=bX Jr (by kernel_rfl)
 f267:=bX func238 (by kernel_rfl)
 f314:=bX func272 (by kernel_rfl)
 t3:=hG
 a3:=py
 z3:=pw
 v3:=pt
 t4:=nV
 a4:=pz
 z4:=px
 v4:=qe
 t5:=ke
 a5:=oS
 z5:=oO
 v5:=oN
 t9:=jH
 a9:=oT
 z9:=oP
 v9:=pv
 t46:=ra
 a46:=ta
 z46:=s'
 v46:=s5
 t51:=xm
 a51:=xC
 z51:=xw
 v51:=xp
 t59:=underlying150
 a59:=isAgg150
 z59:=sizeOf150
 v59:=zeroValue150
 t146:=NT
 a146:=OW
 z146:=OC
 v146:=N6
 g1:=by kernel_rfl }
open Go.RowKit Go.Lib in
theorem strings_Cut (s sep:ByteArray) (m:Int) (w:af) (a1:s.size<4294967281) (hm:w.cell? ⟨2,0,none⟩=U (.int .i64 m)) :
 aq ak 150 #[.string s,.string sep] w fun e w'=>e=.returned (.tuple #[.string ⟨(Lib.cut s.data.toList sep.data.toList).1.toArray⟩,.string ⟨(Lib.cut s.data.toList sep.data.toList).2.1.toArray⟩,.bool (Lib.cut s.data.toList sep.data.toList).2.2])∧∃n,w'=w.drewN n:=Any.strings_Cut ahF s sep m w a1 hm
def ahG:Go.Shelf.Ren:=⟨fun | 101=>194 | 208=>220 | 206=>200 | n=>n,fun | 9=>9 | 4=>4 | 3=>3 | n=>n,fun | n=>n⟩
theorem ahH:Go.Proofs.Lays.n101 ak ahG:={
 mixed:=by kernel_rfl
 f101:=bX func194 (by kernel_rfl)
 f206:=bX O9 (by kernel_rfl)
 f208:=bX func220 (by kernel_rfl)
 t3:=hG
 a3:=py
 z3:=pw
 v3:=pt
 t4:=nV
 a4:=pz
 z4:=px
 v4:=qe
 t9:=jH
 a9:=oT
 z9:=oP
 v9:=pv }
open Go.RowKit Go.Lib in
theorem strings_TrimPrefix (s p:ByteArray) (w:af) :
 aq ak 194 #[.string s,.string p] w fun e w'=>e=.returned (.string ⟨(Lib.trimPrefix s.data.toList p.data.toList).toArray⟩)∧w'=w:=Any.strings_TrimPrefix ahH s p w
def WR:Go.Shelf.Ren:=⟨fun | 154=>153 | 138=>185 | 165=>186 | 143=>187 | 166=>188 | 197=>189 | 169=>190 | 195=>211 | 218=>212 | 240=>213 | 241=>214 | 219=>201 | 260=>215 | 276=>245 | 277=>246 | 217=>155 | 225=>236 | 224=>237 | 267=>238 | 266=>191 | 314=>272 | n=>n,fun | 9=>9 | 3=>3 | 4=>4 | 72=>175 | 0=>0 | 76=>154 | 105=>177 | 21=>21 | 5=>5 | 70=>173 | 20=>20 | 37=>109 | 75=>153 | 127=>194 | 164=>229 | 46=>106 | 119=>232 | 139=>235 | 138=>234 | 146=>140 | 51=>96 | 80=>179 | n=>n,fun | 1=>2 | 3=>6 | 4=>7 | n=>n⟩
theorem ahI:Go.Proofs.Lays.n154 ak WR:={
 mixed:=by kernel_rfl
 f138:=bX func185 (by kernel_rfl)
 f143:=bX func187 (by kernel_rfl)
 f154:=bX func153 (by kernel_rfl)
 f165:=bX func186 (by kernel_rfl)
 f166:=bX func188 (by kernel_rfl)
 f169:=bX func190 (by kernel_rfl)
 f195:=bX func211 (by kernel_rfl)
 f197:=bX func189 (by kernel_rfl)
 f217:=bX Jq (by kernel_rfl)
 f218:=bX func212 (by kernel_rfl)
 f219:=bX func201 (by kernel_rfl)
 f224:=bX Po (by kernel_rfl)
 f225:=bX Pp (by kernel_rfl)
 f240:=bX func213 (by kernel_rfl)
 f241:=bX func214 (by kernel_rfl)
 f260:=bX func215 (by kernel_rfl)
 f266:=bX Jr (by kernel_rfl)
 f267:=bX func238 (by kernel_rfl)
 f276:=bX func245 (by kernel_rfl)
 f277:=bX func246 (by kernel_rfl)
 f314:=bX func272 (by kernel_rfl)
 t0:=vJ
 a0:=vO
 z0:=vM
 v0:=vK
 t3:=hG
 a3:=py
 z3:=pw
 v3:=pt
 t4:=nV
 a4:=pz
 z4:=px
 v4:=qe
 t5:=ke
 a5:=oS
 z5:=oO
 v5:=oN
 t9:=jH
 a9:=oT
 z9:=oP
 v9:=pv
 t20:=Ev
 a20:=EY
 z20:=EP
 v20:=ED
 t21:=IY
 a21:=Jp
 z21:=Jg
 v21:=I3
 t37:=mL
 a37:=zv
 z37:=zt
 v37:=zl
 t46:=ra
 a46:=ta
 z46:=s'
 v46:=s5
 t51:=xm
 a51:=xC
 z51:=xw
 v51:=xp
 t70:=underlying173
 a70:=isAgg173
 z70:=sizeOf173
 v70:=zeroValue173
 t72:=underlying175
 a72:=isAgg175
 z72:=sizeOf175
 v72:=zeroValue175
 t75:=zi
 a75:=ER
 z75:=EI
 v75:=Ew
 t76:=NK
 a76:=OO
 z76:=Ou
 v76:=NZ
 t105:=underlying177
 a105:=isAgg177
 z105:=sizeOf177
 v105:=zeroValue177
 t119:=underlying232
 a119:=isAgg232
 z119:=sizeOf232
 t127:=Eo
 a127:=ES
 z127:=EJ
 v127:=Ex
 t138:=underlying234
 a138:=isAgg234
 z138:=sizeOf234
 v138:=zeroValue234
 t139:=underlying235
 a139:=isAgg235
 z139:=sizeOf235
 v139:=zeroValue235
 t146:=NT
 a146:=OW
 z146:=OC
 v146:=N6
 t164:=underlying229
 a164:=isAgg229
 z164:=sizeOf229
 v164:=zeroValue229
 g1:=by kernel_rfl
 g3:=by kernel_rfl
 g4:=by kernel_rfl }
theorem Tryz.ahJ:Builder.Extra ak WR:={
 sizeBuilder:=by kernel_rfl
 liesBuilder:=by kernel_rfl
 t5:=ke
 a5:=oS
 z5:=oO
 v5:=oN
 infoByte:=by kernel_rfl
 cellsByte:=by kernel_rfl
 sizeByte:=by kernel_rfl
 neB5:=by decide }
open Go.RowKit Go.Lib in
theorem strings_Replace (s rm new:ByteArray) (n:Int) (m:Int) (w:af) (a1:s.size<4294967281) (hm:w.cell? ⟨2,0,none⟩=U (.int .i64 m)) (aa:1≤rm.size) (hlen:s.size+Lib.countB s rm*new.size≤140737488355328) :
 aq ak 153 #[.string s,.string rm,.string new,.int .i64 n] w fun e w'=>
  e=.returned (.string ⟨(Lib.replace s.data.toList rm.data.toList new.data.toList n).toArray⟩)∧Below w.heap.size w w':=Any.strings_Replace ahI Tryz.ahJ s rm new n m w a1 hm aa hlen
def WS:Go.Shelf.Ren:=⟨fun | 105=>184 | 212=>208 | 99=>209 | 165=>186 | 166=>188 | 170=>210 | 169=>190 | 263=>243 | 264=>244 | 206=>200 | 240=>213 | 241=>214 | 276=>245 | 277=>246 | n=>n,fun | 9=>9 | 3=>3 | 4=>4 | 20=>20 | 0=>0 | 46=>106 | 109=>192 | 5=>5 | 72=>175 | 76=>154 | 51=>96 | 146=>140 | 53=>26 | 148=>227 | 70=>173 | 37=>109 | 75=>153 | 127=>194 | 164=>229 | 80=>179 | n=>n,fun | n=>n⟩
theorem ahK:Go.Proofs.Lays.n105 ak WS:={
 mixed:=by kernel_rfl
 f99:=bX func209 (by kernel_rfl)
 f105:=bX func184 (by kernel_rfl)
 f165:=bX func186 (by kernel_rfl)
 f166:=bX func188 (by kernel_rfl)
 f169:=bX func190 (by kernel_rfl)
 f170:=bX func210 (by kernel_rfl)
 f206:=bX O9 (by kernel_rfl)
 f212:=bX func208 (by kernel_rfl)
 f240:=bX func213 (by kernel_rfl)
 f241:=bX func214 (by kernel_rfl)
 f263:=bX func243 (by kernel_rfl)
 f264:=bX func244 (by kernel_rfl)
 f276:=bX func245 (by kernel_rfl)
 f277:=bX func246 (by kernel_rfl)
 t0:=vJ
 a0:=vO
 z0:=vM
 v0:=vK
 t3:=hG
 a3:=py
 z3:=pw
 v3:=pt
 t4:=nV
 a4:=pz
 z4:=px
 v4:=qe
 t5:=ke
 a5:=oS
 z5:=oO
 v5:=oN
 t9:=jH
 a9:=oT
 z9:=oP
 v9:=pv
 t20:=Ev
 a20:=EY
 z20:=EP
 v20:=ED
 t37:=mL
 a37:=zv
 z37:=zt
 v37:=zl
 t46:=ra
 a46:=ta
 z46:=s'
 v46:=s5
 t51:=xm
 a51:=xC
 z51:=xw
 v51:=xp
 t53:=r'
 a53:=xB
 z53:=xv
 v53:=xo
 t70:=underlying173
 a70:=isAgg173
 z70:=sizeOf173
 v70:=zeroValue173
 t72:=underlying175
 a72:=isAgg175
 z72:=sizeOf175
 v72:=zeroValue175
 t75:=zi
 a75:=ER
 z75:=EI
 v75:=Ew
 t76:=NK
 a76:=OO
 z76:=Ou
 v76:=NZ
 t109:=underlying192
 a109:=isAgg192
 z109:=sizeOf192
 v109:=zeroValue192
 t127:=Eo
 a127:=ES
 z127:=EJ
 v127:=Ex
 t146:=NT
 a146:=OW
 z146:=OC
 v146:=N6
 t148:=underlying227
 a148:=isAgg227
 z148:=sizeOf227
 v148:=zeroValue227
 t164:=underlying229
 a164:=isAgg229
 z164:=sizeOf229
 v164:=zeroValue229 }
theorem Tryz.ahL:Builder.Extra ak WS:={
 sizeBuilder:=by kernel_rfl
 liesBuilder:=by kernel_rfl
 t5:=ke
 a5:=oS
 z5:=oO
 v5:=oN
 infoByte:=by kernel_rfl
 cellsByte:=by kernel_rfl
 sizeByte:=by kernel_rfl
 neB5:=by decide }
open Go.RowKit Go.Lib in
theorem strings_Repeat (s:ByteArray) (c:Nat) (w:af) (an:c≤9223372036854775807) (hlen:s.size*c≤140737488355328) :
 aq ak 184 #[.string s,.int .i64 c] w fun e w'=>e=.returned (.string ⟨(Lib.repeatL s.data.toList c).toArray⟩)∧Below w.heap.size w w':=Any.strings_Repeat ahK Tryz.ahL s c w an hlen
def ahM:Go.Shelf.Ren:=⟨fun | 161=>192 | 231=>216 | 227=>217 | 233=>218 | 235=>219 | 228=>247 | 197=>189 | 151=>248 | 260=>215 | 152=>276 | 137=>110 | 119=>294 | 224=>237 | 225=>236 | 217=>155 | 266=>191 | n=>n,fun | 9=>9 | 4=>4 | 3=>3 | 5=>5 | 117=>198 | 116=>197 | 0=>0 | 124=>201 | 105=>177 | 21=>21 | 119=>232 | 46=>106 | 139=>235 | 138=>234 | n=>n,fun | 3=>6 | 4=>7 | n=>n⟩
theorem WT:Go.Proofs.Lays.n161 ak ahM:={
 mixed:=by kernel_rfl
 f119:=bX func294 (by kernel_rfl)
 f137:=bX func110 (by kernel_rfl)
 f151:=bX func248 (by kernel_rfl)
 f152:=bX func276 (by kernel_rfl)
 f161:=bX func192 (by kernel_rfl)
 f197:=bX func189 (by kernel_rfl)
 f217:=bX Jq (by kernel_rfl)
 f224:=bX Po (by kernel_rfl)
 f225:=bX Pp (by kernel_rfl)
 f227:=bX func217 (by kernel_rfl)
 f228:=bX func247 (by kernel_rfl)
 f231:=bX func216 (by kernel_rfl)
 f233:=bX func218 (by kernel_rfl)
 f235:=bX func219 (by kernel_rfl)
 f260:=bX func215 (by kernel_rfl)
 f266:=bX Jr (by kernel_rfl)
 t0:=vJ
 a0:=vO
 z0:=vM
 v0:=vK
 t3:=hG
 a3:=py
 z3:=pw
 v3:=pt
 t4:=nV
 a4:=pz
 z4:=px
 v4:=qe
 t5:=ke
 a5:=oS
 z5:=oO
 v5:=oN
 t9:=jH
 a9:=oT
 z9:=oP
 v9:=pv
 t21:=IY
 a21:=Jp
 z21:=Jg
 v21:=I3
 t46:=ra
 a46:=ta
 z46:=s'
 v46:=s5
 t105:=underlying177
 a105:=isAgg177
 z105:=sizeOf177
 v105:=zeroValue177
 t116:=underlying197
 a116:=isAgg197
 z116:=sizeOf197
 t117:=underlying198
 a117:=isAgg198
 z117:=sizeOf198
 v117:=zeroValue198
 t119:=underlying232
 a119:=isAgg232
 z119:=sizeOf232
 t124:=underlying201
 a124:=isAgg201
 z124:=sizeOf201
 v124:=zeroValue201
 t138:=underlying234
 a138:=isAgg234
 z138:=sizeOf234
 v138:=zeroValue234
 t139:=underlying235
 a139:=isAgg235
 z139:=sizeOf235
 v139:=zeroValue235
 g3:=by kernel_rfl
 g4:=by kernel_rfl }
open Go.RowKit in
theorem ahN (s FJ:ByteArray) (w:af) (jL:FJ.size<4294967281) (ahO:∀(j:Nat) b,FJ.data.toList[j]? = U b→b.toNat<128):aq ak 192 #[.string s,.string FJ] w fun e w'=>e=.returned (.string ⟨(Lib.trimLeftS s.data.toList FJ.data.toList).toArray⟩)∧Below w.heap.size w w':=Any.strings_TrimLeft_laid WT (by kernel_rfl) s FJ w jL ahO
end Go.Proofs
namespace Go.Proofs.YtkhphoonnkoipaaGreatDoor.o
theorem Xm (a b:Nat):(a &&& b)/2147483648=(a/2147483648) &&& (b/2147483648):=by
 have:=Nat.shiftRight_and_distrib (a:=a) (b:=b) (i:=31);simpa[Np] using this
theorem ais (a b:Nat):(a ||| b)/2147483648=(a/2147483648) ||| (b/2147483648):=by
 have:=Nat.shiftRight_or_distrib (a:=a) (b:=b) (i:=31);simpa[Np] using this
theorem ait (a b:Nat):(a ^^^ b)/2147483648=(a/2147483648) ^^^ (b/2147483648):=by
 have:=Nat.shiftRight_xor_distrib (a:=a) (b:=b) (i:=31);simpa[Np] using this
theorem aiu {x y b d:Nat} (hx:x<4294967296) (aW:y<4294967296) (ad:b≤1) (aL:d=(x+8589934592-y-b)%4294967296) :
 (((4294967295-x) &&& y) ||| ((4294967295-(x ^^^ y)) &&& d))/2147483648=if x<y+b then 1 else 0:=by
 have Kw:x ^^^ y<4294967296:=Ep (n:=32) hx aW;have Kr:=ait x y;rw[ais,Xm,Xm];have aH:(4294967295-x)/2147483648=1-x/2147483648:=by omega
 have aT:(4294967295-(x ^^^ y))/2147483648=1-(x/2147483648 ^^^ y/2147483648):=by rw[←Kr];omega
 rw[aH,aT];have fs:x/2147483648=0∨x/2147483648=1:=by omega
 have gb:y/2147483648=0∨y/2147483648=1:=by omega
 have dz:d/2147483648=0∨d/2147483648=1:=by omega
 rcases fs with X | X<;>rcases gb with Y | Y<;>rcases dz with D | D<;>rw[X,Y,D]<;>simp<;>omega
theorem Q3 {x y b d:Nat} (hx:x<4294967296) (aW:y<4294967296) (ad:b≤1) (aL:d=(x+8589934592-y-b)%4294967296) :
 x+4294967296*(if x<y+b then 1 else 0)=d+y+b:=by
 split<;>omega
end Go.Proofs.YtkhphoonnkoipaaGreatDoor.o
namespace Go.Proofs
open Go.Proofs.YtkhphoonnkoipaaGreatDoor Go.Proofs.Tryz
open Go.Shelf
def ajH:Go.Shelf.Ren:=⟨fun | 128=>167 | n=>n,fun | 3=>3 | 4=>4 | 5=>5 | 9=>9 | 46=>106 | 51=>96 | n=>n,fun | n=>n⟩
theorem ajI:Go.Proofs.Lays.n128 ak ajH:={
 mixed:=by kernel_rfl
 f128:=bX func167 (by kernel_rfl)
 t3:=hG
 a3:=py
 z3:=pw
 v3:=pt
 t4:=nV
 a4:=pz
 z4:=px
 v4:=qe
 t5:=ke
 a5:=oS
 z5:=oO
 v5:=oN
 t9:=jH
 a9:=oT
 z9:=oP
 v9:=pv
 t46:=ra
 a46:=ta
 z46:=s'
 v46:=s5
 t51:=xm
 a51:=xC
 z51:=xw
 v51:=xp }
theorem bits_Len32 (x:Int) (w:af) (ar:0≤x) (aa:x≤4294967295) :
 aq ak 167 #[.int .u32 x] w fun e w'=>e=.returned (.int .i64 (Lib.bitLen x.toNat))∧w'=w:=Any.bits_Len32 ajI x w ar aa
end Go.Proofs
namespace Go.Proofs.YtkhphoonnkoipaaGreatDoor
namespace abb
structure h9 (B C dO dV dS mE v1 v2 jD bo V:Nat):Prop where
 c:0<C
 u:bo=((dO*B+dV)*B+dS)*C+mE
 v:V=(v1*B+v2)*C+jD
 mE:mE<C
 jD:jD<C
 cd:dV<B
 cF:dS<B
 fw:v1<B
 lP:v2<B
 half:B≤2*v1
 lt:bo<V*B
theorem h9.b {B C dO dV dS mE v1 v2 jD bo V:Nat} (h:h9 B C dO dV dS mE v1 v2 jD bo V):0<B∧0<v1∧0<V:=by
 have aa:=h.cd;have ae:=h.half;refine⟨by omega,by omega,?_⟩;rw[h.v];have:0<(v1*B+v2)*C:=lM (Nat.add_pos_left (lM (by omega) (by omega)) _) h.c;omega
theorem h9.dO {B C dO dV dS mE v1 v2 jD bo V:Nat} (h:h9 B C dO dV dS mE v1 v2 jD bo V):dO≤v1:=by
 obtain⟨az,_,_⟩:=h.b;have hC:=h.c;have hI:0<B*B*C:=lM (lM az az) hC;have aH:dO*(B*B*C)≤bo:=by
  rw[h.u];have:dO*(B*B*C)=dO*B*B*C:=by ac_rfl
  rw[this];have aa:dO*B*B*C≤((dO*B+dV)*B+dS)*C:=fD C (by rw[ff];omega);omega
 have aT:V<(v1+1)*(B*C):=by
  rw[h.v];have bQ:=h.lP;have aa:(v1*B+v2+1)*C≤(v1+1)*B*C:=fD C (by rw[ff,fW];omega);have ae:(v1*B+v2+1)*C=(v1*B+v2)*C+C:=by rw[ff (v1*B+v2),fW]
  have aJ:=h.jD;rw[←cE];omega
 have b8:V*B<(v1+1)*(B*B*C):=by
  have:=jG aT az;have e:(v1+1)*(B*C)*B=(v1+1)*(B*B*C):=by ac_rfl
  rw[e] at this;exact this
 have:=h.lt;have:dO*(B*B*C)<(v1+1)*(B*B*C):=by omega
 have:=vF this;omega
theorem h9.start {B C dO dV dS mE v1 v2 jD bo V:Nat} (h:h9 B C dO dV dS mE v1 v2 jD bo V):bo/V≤(dO*B+dV)/v1:=by
 obtain⟨az,aa,cA⟩:=h.b;have hC:=h.c;rw[kP aa];have axz:0<B*C:=lM az hC;apply Nat.le_of_lt_succ;apply vF (a:=B*C);have aH:bo/V*v1*(B*C)≤bo/V*V:=by
  rw[cE];apply gp;rw[h.v];have:v1*(B*C)≤(v1*B+v2)*C:=by rw[←cE];exact fD C (by omega)
  omega
 have aT:=Ej bo V;have b8:bo<(dO*B+dV+1)*(B*C):=by
  rw[h.u];have ae:=h.cF;have aG:((dO*B+dV)*B+dS+1)*C≤(dO*B+dV+1)*B*C:=fD C (by rw[ff (dO*B+dV),fW];omega);have bj:((dO*B+dV)*B+dS+1)*C=((dO*B+dV)*B+dS)*C+C:=by rw[ff ((dO*B+dV)*B+dS),fW]
  have bq:=h.mE;rw[←cE];omega
 show bo/V*v1*(B*C)<(dO*B+dV+1)*(B*C);omega
theorem h9.amf {B C dO dV dS mE v1 v2 jD bo V:Nat} (h:h9 B C dO dV dS mE v1 v2 jD bo V):bo/V<B:=by
 rw[kQ h.b.2.2,dx];exact h.lt
theorem h9.down {B C dO dV dS mE v1 v2 jD bo V g r:Nat} (h:h9 B C dO dV dS mE v1 v2 jD bo V) (aY:g*v1+r=dO*B+dV) (bn:B≤g∨r*B+dS<g*v2):bo/V≤g-1:=by
 have bV:=h.amf;rcases bn with bn | bn
 ·exact Nat.le_sub_one_of_lt (cv bV bn)
 ·have key:bo<g*V:=by
   have aH:(dO*B+dV)*B+dS+1≤g*(v1*B+v2):=by
    rw[fP,←cE,←aY,ff (g*v1) r B];omega
   have aT:=fD C aH;have b8:((dO*B+dV)*B+dS+1)*C=((dO*B+dV)*B+dS)*C+C:=by rw[ff ((dO*B+dV)*B+dS),fW]
   have eb:g*(v1*B+v2)*C≤g*V:=by
    rw[cE];apply gp;rw[h.v];omega
   have vR:=h.mE;rw[h.u];omega
  have:bo/V<g:=by rw[kQ h.b.2.2];exact key
  exact Nat.le_sub_one_of_lt this
theorem h9.S5 {B C dO dV dS mE v1 v2 jD bo V g r:Nat} (h:h9 B C dO dV dS mE v1 v2 jD bo V) (aY:g*v1+r=dO*B+dV) (az:g<B) (bn:g*v2≤r*B+dS):g≤bo/V+1:=by
 rcases kd g with ar | ar
 ·rw[ar];exact il _
 obtain⟨k,rfl⟩:∃k,g=k+1:=⟨g-1,by omega⟩;have aa:=h.b.2.1;apply Nat.succ_le_succ;rw[kP h.b.2.2];have aH:(k+1)*(v1*B+v2)≤(dO*B+dV)*B+dS:=by
  rw[fP,←cE,←aY,ff ((k+1)*v1) r B];omega
 have aT:V≤(v1*B+v2+1)*C:=by
  rw[h.v,ff (v1*B+v2),fW];have:=h.jD;omega
 have b8:k*(v1*B+v2+1)≤(k+1)*(v1*B+v2):=by
  rw[fP,fI,ff k 1,fW];have:B≤v1*B:=V6 B aa;omega
 calc k*V≤k*((v1*B+v2+1)*C):=gp k aT
  _=k*(v1*B+v2+1)*C:=by rw[cE]
  _≤((dO*B+dV)*B+dS)*C:=fD C (cp b8 aH)
  _≤bo:=by rw[h.u];omega
theorem h9.abc {B C dO dV dS mE v1 v2 jD bo V g r:Nat} (h:h9 B C dO dV dS mE v1 v2 jD bo V) (aY:g*v1+r=dO*B+dV) (aF:B≤r):g<B∧g*v2≤r*B+dS:=by
 have ar:=h.dO;have dD:=h.cd;have bb:=h.lP;have QW:g<B:=by
  apply vF (a:=v1);have:dO*B≤v1*B:=fD B ar;have e:B*v1=v1*B:=dx _ _;omega
 refine⟨QW,?_⟩;have aH:g*v2≤B*B:=kz (qf QW) (qf bb);have aT:B*B≤r*B:=fD B aF;omega
end abb
def jumps (dk:Nat→Act→af→Prop) (Q:Exit→Act→af→Prop):Exit→Act→af→Prop
 | .goto l,a,w=>dk l a w
 | e,a,w=>Q e a w
theorem asX {P:Program} {a:Act} {w:af} {Q:Exit→Act→af→Prop} {c:Code} (dk:Nat→Act→af→Prop) (Vo:Nat→Nat) (first:c.wp P (jumps dk Q) a w)
 (pass:∀l a w,dk l a w→∃rest,findLabel c l=U rest∧rest.wp P (jumps (fun tG lz w'=>dk tG lz w'∧Vo tG<Vo l) Q) a w):(Code.scope c).wp P Q a w:=by
 intro b k cs;have key:∀n l a w,Vo l=n→dk l a w→∃rest,gotoIn l (.inScope c::k)=U (.code rest :: .inScope c::k)∧∃e lz w',Q e lz w'∧Arrives P (lone (b.at a (.code rest :: .inScope c::k)) cs w) b k cs e lz w':=by
  intro n;induction n using Nat.strongRecOn with
  | _ n dw=>
    intro l a w aB H9;obtain⟨rest,bd,hp⟩:=pass l a w H9;refine⟨rest,by simp[gotoIn,bd],?_⟩;obtain⟨e,r4,r5,aE,r6⟩:=hp b (.inScope c::k) cs;cases e with
    | normal=>exact⟨.normal,r4,r5,aE,Steps.trans r6 (.one step_inScope)⟩
    | exit id=>exact⟨.exit id,r4,r5,aE,fun k' aA=>r6 k' (by simp[exitTo,aA])⟩
    | goto tG=>
      obtain⟨asY,bV⟩:=aE;obtain⟨azz,aY,Vp,Vq,Vr,Vs,Vt⟩:=dw _ (by omega) tG r4 r5 rfl asY;exact⟨Vp,Vq,Vr,Vs,.of_steps (r6 _ aY) Vt⟩
    | ret=>exact⟨_,r4,r5,aE,r6⟩
    | panic asZ=>exact⟨_,r4,r5,aE,r6⟩
    | outgrown=>exact⟨_,r4,r5,aE,r6⟩
 obtain⟨e,r4,r5,aE,r6⟩:=first b (.inScope c::k) cs
 cases e with
 | normal=>exact⟨.normal,r4,r5,aE,.head B1 (Steps.trans r6 (.one step_inScope))⟩
 | exit id=>exact⟨.exit id,r4,r5,aE,fun k' aA=>.head B1 (r6 k' (by simp[exitTo,aA]))⟩
 | goto tG=>
   obtain⟨rest,aY,Vp,Vq,Vr,Vs,Vt⟩:=key _ tG r4 r5 rfl aE;exact⟨Vp,Vq,Vr,Vs,.of_steps (.head B1 (r6 _ aY)) Vt⟩
 | ret=>exact⟨_,r4,r5,aE,.of_steps (.one B1) r6⟩
 | panic asZ=>exact⟨_,r4,r5,aE,.of_steps (.one B1) r6⟩
 | outgrown=>exact⟨_,r4,r5,aE,.of_steps (.one B1) r6⟩
end Go.Proofs.YtkhphoonnkoipaaGreatDoor
namespace Go.Proofs
open Go.Proofs.YtkhphoonnkoipaaGreatDoor Go.Proofs.Tryz
open Go.Shelf Go.RowKit
def atC:Go.Shelf.Ren:=⟨fun | 129=>146 | 171=>183 | 174=>193 | 205=>241 | 243=>207 | 245=>181 | 246=>242 | 247=>202 | 279=>203 | 280=>204 | 281=>205 | 282=>206 | 283=>274 | 284=>229 | 285=>262 | 286=>275 | 287=>239 | 316=>240 | 317=>230 | 318=>263 | 319=>292 | 320=>293 | 321=>253 | 322=>273 | 337=>301 | 338=>302 | n=>n,fun | 0=>0 | 2=>2 | 3=>3 | 4=>4 | 5=>5 | 9=>9 | 20=>20 | 21=>21 | 37=>109 | 46=>106 | 51=>96 | 53=>26 | 75=>153 | 80=>179 | 85=>181 | 127=>194 | 143=>259 | 145=>261 | 167=>188 | 168=>189 | 171=>213 | 173=>262 | 175=>220 | 210=>223 | 212=>253 | 213=>293 | 232=>208 | 233=>303 | n=>n,fun | 15=>4 | 16=>5 | 17=>8 | 18=>16 | 19=>17 | n=>n⟩
theorem aeY:Go.Proofs.LaysC.n174 ak atC:={
 mixed:=by kernel_rfl
 f129:=bX EV (by kernel_rfl)
 f171:=bX O' (by kernel_rfl)
 f174:=bX func193 (by kernel_rfl)
 f205:=bX func241 (by kernel_rfl)
 f243:=bX Pa (by kernel_rfl)
 f245:=bX Pb (by kernel_rfl)
 f246:=bX Pc (by kernel_rfl)
 f247:=bX func202 (by kernel_rfl)
 f279:=bX func203 (by kernel_rfl)
 f280:=bX Pd (by kernel_rfl)
 f281:=bX func205 (by kernel_rfl)
 f282:=bX func206 (by kernel_rfl)
 f283:=bX Pe (by kernel_rfl)
 f284:=bX Jk (by kernel_rfl)
 f285:=bX Jl (by kernel_rfl)
 f286:=bX Pf (by kernel_rfl)
 f287:=bX func239 (by kernel_rfl)
 f316:=bX Pg (by kernel_rfl)
 f317:=bX EW (by kernel_rfl)
 f318:=bX BQ (by kernel_rfl)
 f319:=bX Ph (by kernel_rfl)
 f320:=bX Pj (by kernel_rfl)
 f321:=bX Pk (by kernel_rfl)
 f322:=bX func273 (by kernel_rfl)
 f337:=bX Pl (by kernel_rfl)
 f338:=bX Pm (by kernel_rfl)
 t0:=vJ
 a0:=vO
 z0:=vM
 v0:=vK
 t2:=I2
 a2:=isAgg2
 z2:=Pn
 v2:=Og
 t3:=hG
 a3:=py
 z3:=pw
 v3:=pt
 t4:=nV
 a4:=pz
 z4:=px
 v4:=qe
 t5:=ke
 a5:=oS
 z5:=oO
 v5:=oN
 t9:=jH
 a9:=oT
 z9:=oP
 v9:=pv
 t20:=Ev
 a20:=EY
 z20:=EP
 v20:=ED
 t21:=IY
 a21:=Jp
 z21:=Jg
 v21:=I3
 t37:=mL
 a37:=zv
 z37:=zt
 v37:=zl
 t46:=ra
 a46:=ta
 z46:=s'
 v46:=s5
 t51:=xm
 a51:=xC
 z51:=xw
 v51:=xp
 t53:=r'
 a53:=xB
 z53:=xv
 v53:=xo
 t75:=zi
 a75:=ER
 z75:=EI
 v75:=Ew
 t85:=underlying181
 a85:=isAgg181
 z85:=sizeOf181
 v85:=zeroValue181
 t127:=Eo
 a127:=ES
 z127:=EJ
 v127:=Ex
 t143:=underlying259
 a143:=isAgg259
 z143:=sizeOf259
 v143:=zeroValue259
 t145:=underlying261
 a145:=isAgg261
 z145:=sizeOf261
 v145:=zeroValue261
 t167:=NL
 a167:=isAgg188
 z167:=sizeOf188
 v167:=zeroValue188
 t168:=NM
 a168:=OP
 z168:=Ov
 v168:=N0
 t171:=NN
 a171:=OQ
 z171:=Ow
 v171:=N1
 t173:=NO
 a173:=OR
 z173:=Ox
 v173:=N2
 t175:=underlying220
 a175:=isAgg220
 z175:=sizeOf220
 v175:=zeroValue220
 t210:=NP
 a210:=OS
 z210:=Oy
 v210:=N3
 t212:=Em
 a212:=Jd
 z212:=I9
 v212:=IV
 t213:=NQ
 a213:=OT
 z213:=Oz
 t232:=NR
 a232:=OU
 z232:=OA
 v232:=N4
 t233:=NS
 a233:=OV
 z233:=OB
 v233:=N5
 g15:=by kernel_rfl
 g16:=by kernel_rfl
 g17:=by kernel_rfl
 g18:=by kernel_rfl
 g19:=by kernel_rfl
 t80:=underlying179
 a80:=isAgg179
 z80:=sizeOf179
 v80:=zeroValue179
 i0:=by kernel_rfl
 i2:=by kernel_rfl
 i3:=by kernel_rfl
 i4:=by kernel_rfl
 i5:=by kernel_rfl
 i9:=by kernel_rfl
 i20:=by kernel_rfl
 i21:=by kernel_rfl
 i37:=by kernel_rfl
 i46:=by kernel_rfl
 i51:=by kernel_rfl
 i53:=by kernel_rfl
 i75:=by kernel_rfl
 i80:=by kernel_rfl
 i85:=by kernel_rfl
 i127:=by kernel_rfl
 i143:=by kernel_rfl
 i145:=by kernel_rfl
 i167:=by kernel_rfl
 i168:=by kernel_rfl
 i171:=by kernel_rfl
 i173:=by kernel_rfl
 i175:=by kernel_rfl
 i210:=by kernel_rfl
 i212:=by kernel_rfl
 i232:=by kernel_rfl
 i233:=by kernel_rfl
 m15:=by kernel_rfl
 m16:=by kernel_rfl
 m17:=by kernel_rfl
 m18:=by kernel_rfl
 m19:=by kernel_rfl
 c0:=by kernel_rfl
 c2:=by kernel_rfl
 c3:=by kernel_rfl
 c4:=by kernel_rfl
 c5:=by kernel_rfl
 c9:=by kernel_rfl
 c20:=by kernel_rfl
 c21:=by kernel_rfl
 c37:=by kernel_rfl
 c46:=by kernel_rfl
 c51:=by kernel_rfl
 c53:=by kernel_rfl
 c75:=by kernel_rfl
 c80:=by kernel_rfl
 c85:=by kernel_rfl
 c127:=by kernel_rfl
 c143:=by kernel_rfl
 c145:=by kernel_rfl
 c167:=by kernel_rfl
 c168:=by kernel_rfl
 c171:=by kernel_rfl
 c173:=by kernel_rfl
 c175:=by kernel_rfl
 c210:=by kernel_rfl
 c212:=by kernel_rfl
 c213:=by kernel_rfl
 c232:=by kernel_rfl
 c233:=by kernel_rfl }
theorem aeZ (s:ByteArray) (yn:s.size≤9223372036854775806) (v:Int) (h:Lib.parseIntB 64 s.data.toList=.ok v) (w:af) :
 aq ak 193 #[.string s,.int .i64 10,.int .i64 64] w fun e w'=>e=.returned (.tuple #[.int .i64 v,.nilIface])∧(w'=w∨∃t,w'=Lib.bytesWorld w 5 t):=Any.strconv_ParseInt_10_at64_ok aeY s yn v h w
theorem ae0 (s:ByteArray) (QH:s.size≤281474976710656) (h:Lib.parseIntB 64 s.data.toList=.range) (fZ:Value) (w:af) (aD:w.cell? ⟨5,0,none⟩=U fZ) (lS:fZ=.nilIface∨∃gr nz,fZ=.iface gr nz) :
 aq ak 193 #[.string s,.int .i64 10,.int .i64 64] w fun e w'=>∃N,e=.returned (.tuple #[.int .i64 (Lib.intSat 64 s.data.toList),.iface 189 (.pointer (U ⟨N,0,none⟩))])∧w.heap.size≤N∧w'.heap[N]? = U (.cells #[.string ⟨#[80,97,114,115,101,73,110,116]⟩,.string s,fZ] 223 (0,0))∧Below w.heap.size w w':=Any.strconv_ParseInt_10_at64_range aeY s QH h fZ w aD lS
end Go.Proofs
