/- A float or a character as a value: the contract of of (printed by gen_pog.py). The contract of strconv.ParseInt at this program's numbers (the kit's shelf, laid). -/
import Derived.Test.YtlodbibagmblkaaGreatDoorTaan
import Derived.Test.YtlodbibagmblkaaGreatDoorProg
import Derived.Shelf.LaysC
import Derived.Shelf.Strconv.ParseIntPublic10
namespace Go.Proofs.YtlodbibagmblkaaGreatDoor
open Go.RowKit Go.Lib
theorem P5.set2 {W : World} {k : Nat} {a b c d e : Value} (h : P5 W k a b c d e) (x : Value) : P5 (W.setCell ⟨k, 2, none⟩ x) k a b x d e := by
  unfold P5 at *
  simp [World.setCell, Array.getElem?_modify, h]
set_option maxRecDepth 4000 in
set_option maxHeartbeats 4000000 in
theorem of_flt (b : Int) (ia : Option Addr) (ic : Nat) (w : World) :
    Calls Tryz.prog 19 #[litv 6 0 b ⟨#[]⟩ (.slice ia 0 ic), .int .u8 70] w fun e w' => e = .returned (.tuple #[valv 6 0 b ⟨#[]⟩ (.slice ia 0 ic) false ⟨#[]⟩, .bool true]) ∧ Below w.heap.size w w' := by
  have HO := Lib.hid (OfW.new w 6 0 b ⟨#[]⟩ (.slice ia 0 ic))
  obtain ⟨W4, hW4⟩ : ∃ W4, (((w.alloc (.cells #[.int .u8 6, .int .i64 0, .int .u64 b, .string ⟨#[]⟩, .slice ia 0 ic] 26)).alloc (.cells #[.int .u8 0, .int .i64 0, .int .u64 0, .string ⟨#[]⟩, .slice none 0 0, .bool false, .string ⟨#[]⟩] 54)).alloc (.cells #[.int .u8 6, .int .i64 0, .int .u64 b, .string ⟨#[]⟩, .slice ia 0 ic, .bool false, .string ⟨#[]⟩] 54)).alloc (.cells #[.int .u8 6, .int .i64 0, .int .u64 b, .string ⟨#[]⟩, .slice ia 0 ic] 26) = W4 := ⟨_, rfl⟩
  rw [hW4] at HO
  unfold litv valv
  obtain ⟨a0, a1, a2, a3, a4, _, _, _, _, _⟩ := HO.out.l.cells
  have HU8 := Lib.hid (HO.out.u.other (j := w.heap.size + 3) (i := 2) (x := .int .u64 0) (by omega))
  have HR8 := Lib.hid (HO.out.r.other (j := w.heap.size + 3) (i := 2) (x := .int .u64 0) (by omega))
  have HQ8 := Lib.hid (HO.out.q.set2 (.int .u64 0))
  have HL8 := Lib.hid (HO.out.low.setCell (p := ⟨w.heap.size + 3, 2, none⟩) (by show w.heap.size ≤ w.heap.size + 3; omega) (.int .u64 0))
  obtain ⟨W8, hW8⟩ : ∃ W8, W4.setCell ⟨w.heap.size + 3, 2, none⟩ (.int .u64 0) = W8 := ⟨_, rfl⟩
  rw [hW8] at HU8 HR8 HQ8 HL8
  obtain ⟨q0, q1, q2, q3, q4, q5, q6, q7, q8, q9⟩ := HO.out.q.cells
  go_enter Tryz.func19, Tryz.ntmps19
  obtain ⟨u0, u1, u2, u3, u4, u5, u6, _, _, _, _, _, _, _⟩ := HU8.out.cells
  obtain ⟨s0, s1, s2, s3, s4, _, _, _, _, _⟩ := HQ8.out.cells
  obtain ⟨r0, r1, r2, r3, r4, r5, r6, f0, f1, f2, f3, f4, f5, f6⟩ := HR8.out.cells
  go_wp2_with fail
  go_region
  go_wp2_with fail
  have hk := (HR8.out.set (.int .u8 6) (.int .i64 0) (.int .u64 b) (.string ⟨#[]⟩) (.slice ia 0 ic) (.bool false) (.string ⟨#[]⟩)).drew.cells
  have hB := (below_set7 HL8.out (show w.heap.size ≤ w.heap.size + 1 by omega) (.int .u8 6) (.int .i64 0) (.int .u64 b) (.string ⟨#[]⟩) (.slice ia 0 ic) (.bool false) (.string ⟨#[]⟩)).drew
  clear u0 u1 u2 u3 u4 u5 u6 s0 s1 s2 s3 s4 r0 r1 r2 r3 r4 r5 r6 f0 f1 f2 f3 f4 f5 f6 a0 a1 a2 a3 a4 q0 q1 q2 q3 q4 q5 q6 q7 q8 q9
  generalize hWf : (set7 W8 (w.heap.size + 1) (.int .u8 6) (.int .i64 0) (.int .u64 b) (.string ⟨#[]⟩) (.slice ia 0 ic) (.bool false) (.string ⟨#[]⟩)).drew = Wf at hk hB
  clear hWf
  obtain ⟨k0, k1, k2, k3, k4, k5, k6, _, _, _, _, _, _, _⟩ := hk
  exact bodyPost_ret (v := .tuple #[.agg #[.int .u8 6, .int .i64 0, .int .u64 b, .string ⟨#[]⟩, .slice ia 0 ic, .bool false, .string ⟨#[]⟩], .bool true]) (by simp [results, Tryz.results19, go_sem, k0, k1, k2, k3, k4, k5, k6]) rfl ⟨rfl, hB⟩
end Go.Proofs.YtlodbibagmblkaaGreatDoor
namespace Go.Proofs
open Go.Shelf Go.RowKit
def Tryz.lC174_ren : Go.Shelf.Ren := ⟨fun | 129 => 153 | 171 => 187 | 174 => 197 | 205 => 244 | 243 => 210 | 245 => 185 | 246 => 245 | 247 => 205 | 279 => 206 | 280 => 207 | 281 => 208 | 282 => 209 | 283 => 277 | 284 => 232 | 285 => 265 | 286 => 278 | 287 => 242 | 316 => 243 | 317 => 233 | 318 => 266 | 319 => 295 | 320 => 296 | 321 => 256 | 322 => 276 | 337 => 304 | 338 => 305 | n => n, fun | 0 => 0 | 2 => 2 | 3 => 3 | 4 => 4 | 5 => 5 | 9 => 9 | 20 => 20 | 21 => 21 | 37 => 85 | 46 => 34 | 51 => 103 | 53 => 23 | 75 => 158 | 80 => 182 | 85 => 184 | 127 => 196 | 143 => 261 | 145 => 263 | 167 => 190 | 168 => 191 | 171 => 215 | 173 => 264 | 175 => 222 | 210 => 225 | 212 => 255 | 213 => 295 | 232 => 210 | 233 => 305 | n => n, fun | 15 => 4 | 16 => 5 | 17 => 8 | 18 => 16 | 19 => 17 | n => n⟩
theorem Tryz.lC174 : Go.Proofs.LaysC.n174 Tryz.prog Tryz.lC174_ren := {
  mixed := by kernel_rfl
  f129 := Tryz.func153.trans (congrArg some (by kernel_rfl))
  f171 := Tryz.func187.trans (congrArg some (by kernel_rfl))
  f174 := Tryz.func197.trans (congrArg some (by kernel_rfl))
  f205 := Tryz.func244.trans (congrArg some (by kernel_rfl))
  f243 := Tryz.func210.trans (congrArg some (by kernel_rfl))
  f245 := Tryz.func185.trans (congrArg some (by kernel_rfl))
  f246 := Tryz.func245.trans (congrArg some (by kernel_rfl))
  f247 := Tryz.func205.trans (congrArg some (by kernel_rfl))
  f279 := Tryz.func206.trans (congrArg some (by kernel_rfl))
  f280 := Tryz.func207.trans (congrArg some (by kernel_rfl))
  f281 := Tryz.func208.trans (congrArg some (by kernel_rfl))
  f282 := Tryz.func209.trans (congrArg some (by kernel_rfl))
  f283 := Tryz.func277.trans (congrArg some (by kernel_rfl))
  f284 := Tryz.func232.trans (congrArg some (by kernel_rfl))
  f285 := Tryz.func265.trans (congrArg some (by kernel_rfl))
  f286 := Tryz.func278.trans (congrArg some (by kernel_rfl))
  f287 := Tryz.func242.trans (congrArg some (by kernel_rfl))
  f316 := Tryz.func243.trans (congrArg some (by kernel_rfl))
  f317 := Tryz.func233.trans (congrArg some (by kernel_rfl))
  f318 := Tryz.func266.trans (congrArg some (by kernel_rfl))
  f319 := Tryz.func295.trans (congrArg some (by kernel_rfl))
  f320 := Tryz.func296.trans (congrArg some (by kernel_rfl))
  f321 := Tryz.func256.trans (congrArg some (by kernel_rfl))
  f322 := Tryz.func276.trans (congrArg some (by kernel_rfl))
  f337 := Tryz.func304.trans (congrArg some (by kernel_rfl))
  f338 := Tryz.func305.trans (congrArg some (by kernel_rfl))
  t0 := Tryz.underlying0
  a0 := Tryz.isAgg0
  z0 := Tryz.sizeOf0
  v0 := Tryz.zeroValue0
  t2 := Tryz.underlying2
  a2 := Tryz.isAgg2
  z2 := Tryz.sizeOf2
  v2 := Tryz.zeroValue2
  t3 := Tryz.underlying3
  a3 := Tryz.isAgg3
  z3 := Tryz.sizeOf3
  v3 := Tryz.zeroValue3
  t4 := Tryz.underlying4
  a4 := Tryz.isAgg4
  z4 := Tryz.sizeOf4
  v4 := Tryz.zeroValue4
  t5 := Tryz.underlying5
  a5 := Tryz.isAgg5
  z5 := Tryz.sizeOf5
  v5 := Tryz.zeroValue5
  t9 := Tryz.underlying9
  a9 := Tryz.isAgg9
  z9 := Tryz.sizeOf9
  v9 := Tryz.zeroValue9
  t20 := Tryz.underlying20
  a20 := Tryz.isAgg20
  z20 := Tryz.sizeOf20
  v20 := Tryz.zeroValue20
  t21 := Tryz.underlying21
  a21 := Tryz.isAgg21
  z21 := Tryz.sizeOf21
  v21 := Tryz.zeroValue21
  t37 := Tryz.underlying85
  a37 := Tryz.isAgg85
  z37 := Tryz.sizeOf85
  v37 := Tryz.zeroValue85
  t46 := Tryz.underlying34
  a46 := Tryz.isAgg34
  z46 := Tryz.sizeOf34
  v46 := Tryz.zeroValue34
  t51 := Tryz.underlying103
  a51 := Tryz.isAgg103
  z51 := Tryz.sizeOf103
  v51 := Tryz.zeroValue103
  t53 := Tryz.underlying23
  a53 := Tryz.isAgg23
  z53 := Tryz.sizeOf23
  v53 := Tryz.zeroValue23
  t75 := Tryz.underlying158
  a75 := Tryz.isAgg158
  z75 := Tryz.sizeOf158
  v75 := Tryz.zeroValue158
  t85 := Tryz.underlying184
  a85 := Tryz.isAgg184
  z85 := Tryz.sizeOf184
  v85 := Tryz.zeroValue184
  t127 := Tryz.underlying196
  a127 := Tryz.isAgg196
  z127 := Tryz.sizeOf196
  v127 := Tryz.zeroValue196
  t143 := Tryz.underlying261
  a143 := Tryz.isAgg261
  z143 := Tryz.sizeOf261
  v143 := Tryz.zeroValue261
  t145 := Tryz.underlying263
  a145 := Tryz.isAgg263
  z145 := Tryz.sizeOf263
  v145 := Tryz.zeroValue263
  t167 := Tryz.underlying190
  a167 := Tryz.isAgg190
  z167 := Tryz.sizeOf190
  v167 := Tryz.zeroValue190
  t168 := Tryz.underlying191
  a168 := Tryz.isAgg191
  z168 := Tryz.sizeOf191
  v168 := Tryz.zeroValue191
  t171 := Tryz.underlying215
  a171 := Tryz.isAgg215
  z171 := Tryz.sizeOf215
  v171 := Tryz.zeroValue215
  t173 := Tryz.underlying264
  a173 := Tryz.isAgg264
  z173 := Tryz.sizeOf264
  v173 := Tryz.zeroValue264
  t175 := Tryz.underlying222
  a175 := Tryz.isAgg222
  z175 := Tryz.sizeOf222
  v175 := Tryz.zeroValue222
  t210 := Tryz.underlying225
  a210 := Tryz.isAgg225
  z210 := Tryz.sizeOf225
  v210 := Tryz.zeroValue225
  t212 := Tryz.underlying255
  a212 := Tryz.isAgg255
  z212 := Tryz.sizeOf255
  v212 := Tryz.zeroValue255
  t213 := Tryz.underlying295
  a213 := Tryz.isAgg295
  z213 := Tryz.sizeOf295
  t232 := Tryz.underlying210
  a232 := Tryz.isAgg210
  z232 := Tryz.sizeOf210
  v232 := Tryz.zeroValue210
  t233 := Tryz.underlying305
  a233 := Tryz.isAgg305
  z233 := Tryz.sizeOf305
  v233 := Tryz.zeroValue305
  g15 := by kernel_rfl
  g16 := by kernel_rfl
  g17 := by kernel_rfl
  g18 := by kernel_rfl
  g19 := by kernel_rfl
  t80 := Tryz.underlying182
  a80 := Tryz.isAgg182
  z80 := Tryz.sizeOf182
  v80 := Tryz.zeroValue182
  i0 := by kernel_rfl
  i2 := by kernel_rfl
  i3 := by kernel_rfl
  i4 := by kernel_rfl
  i5 := by kernel_rfl
  i9 := by kernel_rfl
  i20 := by kernel_rfl
  i21 := by kernel_rfl
  i37 := by kernel_rfl
  i46 := by kernel_rfl
  i51 := by kernel_rfl
  i53 := by kernel_rfl
  i75 := by kernel_rfl
  i80 := by kernel_rfl
  i85 := by kernel_rfl
  i127 := by kernel_rfl
  i143 := by kernel_rfl
  i145 := by kernel_rfl
  i167 := by kernel_rfl
  i168 := by kernel_rfl
  i171 := by kernel_rfl
  i173 := by kernel_rfl
  i175 := by kernel_rfl
  i210 := by kernel_rfl
  i212 := by kernel_rfl
  i232 := by kernel_rfl
  i233 := by kernel_rfl
  m15 := by kernel_rfl
  m16 := by kernel_rfl
  m17 := by kernel_rfl
  m18 := by kernel_rfl
  m19 := by kernel_rfl
  c0 := by kernel_rfl
  c2 := by kernel_rfl
  c3 := by kernel_rfl
  c4 := by kernel_rfl
  c5 := by kernel_rfl
  c9 := by kernel_rfl
  c20 := by kernel_rfl
  c21 := by kernel_rfl
  c37 := by kernel_rfl
  c46 := by kernel_rfl
  c51 := by kernel_rfl
  c53 := by kernel_rfl
  c75 := by kernel_rfl
  c80 := by kernel_rfl
  c85 := by kernel_rfl
  c127 := by kernel_rfl
  c143 := by kernel_rfl
  c145 := by kernel_rfl
  c167 := by kernel_rfl
  c168 := by kernel_rfl
  c171 := by kernel_rfl
  c173 := by kernel_rfl
  c175 := by kernel_rfl
  c210 := by kernel_rfl
  c212 := by kernel_rfl
  c213 := by kernel_rfl
  c232 := by kernel_rfl
  c233 := by kernel_rfl }
theorem Tryz.strconv_ParseInt_ok (s : ByteArray) (hmax : s.size ≤ 9223372036854775806) (v : Int) (h : Lib.parseIntB 64 s.data.toList = .ok v) (w : World) :
    Calls Tryz.prog 197 #[.string s, .int .i64 10, .int .i64 64] w fun e w' => e = .returned (.tuple #[.int .i64 v, .nilIface]) ∧ (w' = w ∨ ∃ t, w' = Lib.bytesWorld w 5 t) := Any.strconv_ParseInt_10_at64_ok Tryz.lC174 s hmax v h w
theorem Tryz.strconv_ParseInt_range (s : ByteArray) (hlim : s.size ≤ 281474976710656) (h : Lib.parseIntB 64 s.data.toList = .range) (ev : Value) (w : World) (hv : w.cell? ⟨5, 0, none⟩ = some ev) (hev : ev = .nilIface ∨ ∃ te pe, ev = .iface te pe) :
    Calls Tryz.prog 197 #[.string s, .int .i64 10, .int .i64 64] w fun e w' => ∃ N, e = .returned (.tuple #[.int .i64 (Lib.intSat 64 s.data.toList), .iface 191 (.pointer (some ⟨N, 0, none⟩))]) ∧ w.heap.size ≤ N ∧ w'.heap[N]? = some (.cells #[.string ⟨#[80, 97, 114, 115, 101, 73, 110, 116]⟩, .string s, ev] 225 (0, 0)) ∧ Below w.heap.size w w' := Any.strconv_ParseInt_10_at64_range Tryz.lC174 s hlim h ev w hv hev
end Go.Proofs
