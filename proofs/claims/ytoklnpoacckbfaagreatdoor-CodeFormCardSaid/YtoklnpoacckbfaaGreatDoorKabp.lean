/- code.Unpack. -/
import Derived.Test.YtoklnpoacckbfaaGreatDoorKabo
import Derived.Test.YtoklnpoacckbfaaGreatDoorKabj
import Derived.Test.YtoklnpoacckbfaaGreatDoorKabb
import Derived.Deep.RegionLaw
import Derived.RegionDies
namespace Go.Proofs.YtoklnpoacckbfaaGreatDoor
open Go Go.RowKit Go.Lib
theorem info_unt : (Tryz.prog.info? 58).map (fun i => (i.zero, i.size, i.bytes)) = some (some (.agg #[.int .i64 0, .int .i64 0, .int .i64 0, .int .i64 0, .slice none 0 0]), 5, 56) := by kernel_rfl
theorem step_appU {ops : Array Oper} {o : Oper} {a : Act} {K : Act → World → Prop} {Q : Exit → Act → World → Prop} {E : Prop} {w : World} (hgd : o.guard = none) (s x : Operand)
    (ho : o.op = .call { callee := .builtin .append, args := #[s, x], argTypes := #[23, 23] }) (base : Nat) (v : Value) (ps : List (Pl.Unt × Value)) (hs : a.eval s = v) (hown : Owns w base 58 5 v ps.length (rowOf untCells ps))
    (p : Pl.Unt × Value) (hp : p.2.oneCell' = true) (cs : Array Value) (hc : cs.toList = untCells p.1 p.2) (hx : a.eval x = .slice (some ⟨w.heap.size, 0, none⟩) 1 1) (hlen : ps.length ≤ 1099511627776) (hbase : base ≤ w.heap.size)
    (h : ∀ v' w', Owns w' base 58 5 v' (ps.length + 1) (rowOf untCells (ps ++ [p])) → Grow w v w' v' → K (a.put o.dst v') w') :
    if Region.wanted o (yielded ops a.tmps) = true then Oper.wp Tryz.prog o a (w.alloc (.cells cs 58)) K Q else E := by
  have hw : Region.wanted o (yielded ops a.tmps) = true := by simp [Region.wanted, hgd]
  rw [if_pos hw]
  obtain ⟨i0, hi, hz0, hz1, hz2⟩ := info_parts info_unt
  obtain ⟨v', w', hr, h2, h3⟩ := run_append_owns (P := Tryz.prog) 23 o.type i0 _ 56 Tryz.underlying23 hi hz0 hz1 hz2 rfl (hown.alloc (.cells cs 58)) ⟨w.heap.size, 0, none⟩ 1 1 (untCells p.1 p.2) rfl
    (fun j u hj => new_cells w cs _ j u (by rw [hc]; exact hj)) (by
      intro u hu
      unfold untCells at hu
      simp at hu
      rcases hu with rfl | rfl | rfl | rfl | rfl <;> first | rfl | exact hp) (by unfold maxLen; omega) (by omega) (by simp; omega)
  unfold Oper.wp execOp
  simp only [ho, resolve, invoke, builtin, Sem.run_bind, Sem.run_pure, Result.andThen_ok, List.map_toArray, List.map_cons, List.map_nil, hs, hx, hr]
  refine h v' w' ?_ ((Grow.alloc w v _).trans h3)
  rw [rowOf_append, rowOf_one]
  exact h2
/-- how Unpack ends -/
def UnpEnd (sel : ByteArray) (lits : List Pl.Lit) (b : ByteArray) (w : World) (e : Ending) (w' : World) : Prop :=
  ((∃ c L' U', Pl.unpackC sel lits b = some c ∧ e = .returned (.tuple #[codV c L' U', .int .i64 0]) ∧ LitsOf (fun k => w.heap.size ≤ k) w' lits L' ∧ CodAt w'.heap.size w' c L' U') ∨
    (Pl.unpackC sel lits b = none ∧ e = .returned (.tuple #[.agg #[.string ⟨#[]⟩, .int .i64 0, .slice none 0 0, .slice none 0 0], .int .i64 203]))) ∧ Below w.heap.size w w'
theorem CodBox.set2 {w : World} {R : Nat} {s p l u : Value} (h : CodBox w R s p l u) (l' : Value) : CodBox (w.setCell ⟨R, 2, none⟩ l') R s p l' u :=
  ⟨by rw [World.cell?_setCell_other _ _ _ _ (by simp)]; exact h.c0, by rw [World.cell?_setCell_other _ _ _ _ (by simp)]; exact h.c1, by rw [World.cell?_setCell_same' _ _ _ (by rw [h.c2]; rfl)], by rw [World.cell?_setCell_other _ _ _ _ (by simp)]; exact h.c3,
    by rw [World.frozen?_setCell]; exact h.f0, by rw [World.frozen?_setCell]; exact h.f1, by rw [World.frozen?_setCell]; exact h.f2, by rw [World.frozen?_setCell]; exact h.f3, by simpa using h.lt⟩
theorem CodBox.drew' {w : World} {R : Nat} {s p l u : Value} (h : CodBox w R s p l u) : CodBox w.drew R s p l u := ⟨h.c0, h.c1, h.c2, h.c3, h.f0, h.f1, h.f2, h.f3, h.lt⟩
theorem CodBox.set3 {w : World} {R : Nat} {s p l u : Value} (h : CodBox w R s p l u) (u' : Value) : CodBox (w.setCell ⟨R, 3, none⟩ u') R s p l u' :=
  ⟨by rw [World.cell?_setCell_other _ _ _ _ (by simp)]; exact h.c0, by rw [World.cell?_setCell_other _ _ _ _ (by simp)]; exact h.c1, by rw [World.cell?_setCell_other _ _ _ _ (by simp)]; exact h.c2, by rw [World.cell?_setCell_same' _ _ _ (by rw [h.c3]; rfl)],
    by rw [World.frozen?_setCell]; exact h.f0, by rw [World.frozen?_setCell]; exact h.f1, by rw [World.frozen?_setCell]; exact h.f2, by rw [World.frozen?_setCell]; exact h.f3, by simpa using h.lt⟩
set_option maxRecDepth 100000 in
set_option maxHeartbeats 8000000 in
theorem unpack_any {B : Nat} {w : World} {sel b : ByteArray} {lits : List Pl.Lit} {L : Value} (hL : LitsAt B w lits L) (hBw : B ≤ w.heap.size) (hsel : sel.size ≤ 140737488355328) (hbs : b.size ≤ 140737488355328) (he : ErrAt w) (hEB : 9 < B) (hbig : Pl.litsBig lits ≤ 262144) :
    Calls Tryz.prog 20 #[.string sel, L, .string b] w (UnpEnd sel lits b w) := by
  have HL := Lib.hid hL
  have HE := Lib.hid he
  obtain ⟨Al, capl, Vl, rfl, _⟩ := hL.out
  clear hL he
  obtain ⟨l, hl⟩ : ∃ l, Pl.sb b = l := ⟨_, rfl⟩
  have hll : l.length ≤ 140737488355328 := by rw [← hl, Pl.sb_size]; exact hbs
  have hlt : ∀ x ∈ l, x < 256 := by rw [← hl]; exact Pl.sb_lt b
  have hbl : b = Pl.bs l := by rw [← hl, Pl.bs_sb]
  have HNO := Lib.hid (fun (h : Pl.rd l = none) => Pl.unpackC_none (sel := sel) (lits := lits) (b := b) (by rw [hl]; exact h))
  have HBAD := Lib.hid (fun (p : Int) (us : List Pl.Unt) (h : Pl.rd l = some (p, us)) => Pl.unpackC_bad (sel := sel) (lits := lits) (b := b) (by rw [hl]; exact h))
  have HYES := Lib.hid (fun (p : Int) (us : List Pl.Unt) (h : Pl.rd l = some (p, us)) => Pl.unpackC_ok (sel := sel) (lits := lits) (b := b) (by rw [hl]; exact h))
  have hmf : ∀ (fn : Fn) (first cap : Array Value) (w : World), (Instr.makeFunc fn first cap).run Tryz.prog w = .ok (.func fn first cap) w := fun _ _ _ _ => rfl
  have HR3 := Lib.hid (show CodBox (((w.alloc (.cells #[.string ⟨#[]⟩, .int .i64 0, .slice none 0 0, .slice none 0 0] 25)).alloc (.cells #[.int .i64 0] 29)).alloc (.cells #[.string b] 96)) w.heap.size (.string ⟨#[]⟩) (.int .i64 0) (.slice none 0 0) (.slice none 0 0) from ⟨by simp [go_sem], by simp [go_sem], by simp [go_sem], by simp [go_sem], by simp [go_sem], by simp [go_sem], by simp [go_sem], by simp [go_sem], by simp; omega⟩)
  have HE3 := Lib.hid (show (((w.alloc (.cells #[.string ⟨#[]⟩, .int .i64 0, .slice none 0 0, .slice none 0 0] 25)).alloc (.cells #[.int .i64 0] 29)).alloc (.cells #[.string b] 96)).cell? ⟨w.heap.size + 1, 0, none⟩ = some (.int .i64 0) ∧ (((w.alloc (.cells #[.string ⟨#[]⟩, .int .i64 0, .slice none 0 0, .slice none 0 0] 25)).alloc (.cells #[.int .i64 0] 29)).alloc (.cells #[.string b] 96)).frozen? ⟨w.heap.size + 1, 0, none⟩ = false from ⟨by simp [go_sem], by simp [go_sem]⟩)
  have HB3 := Lib.hid (show Below w.heap.size w (((w.alloc (.cells #[.string ⟨#[]⟩, .int .i64 0, .slice none 0 0, .slice none 0 0] 25)).alloc (.cells #[.int .i64 0] 29)).alloc (.cells #[.string b] 96)) from (((Below.refl _ _).alloc (Nat.le_refl _) _).alloc (by simp) _).alloc (by simp; omega) _)
  have HZ3 := Lib.hid (show (((w.alloc (.cells #[.string ⟨#[]⟩, .int .i64 0, .slice none 0 0, .slice none 0 0] 25)).alloc (.cells #[.int .i64 0] 29)).alloc (.cells #[.string b] 96)).heap.size = w.heap.size + 3 by simp)
  have HS3 := Lib.hid (show RS (fun k => k = w.heap.size + 1 + 1 ∨ k = w.heap.size) (((w.alloc (.cells #[.string ⟨#[]⟩, .int .i64 0, .slice none 0 0, .slice none 0 0] 25)).alloc (.cells #[.int .i64 0] 29)).alloc (.cells #[.string b] 96)) (((w.alloc (.cells #[.string ⟨#[]⟩, .int .i64 0, .slice none 0 0, .slice none 0 0] 25)).alloc (.cells #[.int .i64 0] 29)).alloc (.cells #[.string b] 96)) (w.heap.size + 1 + 1) l from ⟨by rw [← hbl]; simp [go_sem], by simp [go_sem], hlt, hll, by simp, Save.refl _ _⟩)
  clear hl hlt hbl
  go_enter_defers Tryz.func20, Tryz.ntmps20
  go_wp2_with fail
  generalize ((w.alloc (.cells #[.string ⟨#[]⟩, .int .i64 0, .slice none 0 0, .slice none 0 0] 25)).alloc (.cells #[.int .i64 0] 29)).alloc (.cells #[.string b] 96) = w3 at HR3 HE3 HB3 HZ3 HS3 ⊢
  have hz3 := HZ3.out
  have hPR : ¬ w.heap.size = w.heap.size + 1 + 1 := by omega
  have hPE : ¬ w.heap.size + 1 = w.heap.size + 1 + 1 := by omega
  have hE3 : w.heap.size + 1 < w3.heap.size := by omega
  have hB3s : w.heap.size ≤ w3.heap.size := by omega
  have HKE := Lib.hid (fun (W : World) (h : Save (fun k => k = w.heap.size + 1 + 1 ∨ k = w.heap.size) w3 W) => show W.cell? ⟨w.heap.size + 1, 0, none⟩ = some (.int .i64 0) ∧ W.frozen? ⟨w.heap.size + 1, 0, none⟩ = false ∧ w.heap.size + 1 < W.heap.size ∧ Below w.heap.size w W ∧ w.heap.size ≤ W.heap.size from
    ⟨(h.cell 0 hE3 (by omega)).trans HE3.out.1, (h.frozen 0 hE3 (by omega)).trans HE3.out.2, Nat.lt_of_lt_of_le hE3 h.size, HB3.out.trans (h.below hB3s (fun j hj => by omega)), Nat.le_trans hB3s h.size⟩)
  rcases l with _ | ⟨p, l⟩
  · refine (nextR HS3.out (by exact .inl rfl)).mono ?_
    rintro e w5 (⟨b', t, hl', rfl, hr, hbt⟩ | ⟨hl', rfl, rfl⟩) <;> cases hl'
    have HNONE := HNO.out (Pl.rd_few (by simp))
    obtain ⟨k0, k1, k2, k3, k4⟩ := HKE.out _ (Save.refl _ w5)
    go_wp2_with fail
    refine leaves_cons (f := 46) (args := #[.pointer (some ⟨w.heap.size, 0, none⟩), .pointer (some ⟨w.heap.size + 1, 0, none⟩)]) (by simp) (by simp [go_sem]) ?_
    refine (ucaught_panicking w.heap.size (w.heap.size + 1) _ _ _ _ 0 _ (by omega) HR3.out k0 k1 k2).mono ?_
    rintro e u' w7 ⟨rfl, rfl, ec, hR7, hs7⟩
    obtain ⟨r0, r1, r2, r3, _, _, _, _, _⟩ := hR7
    have hfin : Below w.heap.size w w7 := k3.trans (hs7.below k4 (fun j hj => by omega))
    simp [Leaves, settle, results, Tryz.results20, go_sem, ec, r0, r1, r2, r3, UnpEnd, HNONE, hfin]

  have hp := HS3.out.lt p (by simp)
  refine (nextR HS3.out (by exact .inl rfl)).mono ?_
  rintro e w5 (⟨b', t, hl', rfl, hr, hbt⟩ | ⟨hl', rfl, rfl⟩) <;> cases hl'
  have HR5 := HR3.out.save hbt.save hPR
  have HR6 := Lib.hid (HR5.put (.string sel) (.int .i64 (p : Int)) (.slice Al lits.length capl) (.slice none 0 0))
  have HS6 := Lib.hid (RS.save hr (CodBox.put_save w5 w.heap.size (.string sel) (.int .i64 (p : Int)) (.slice Al lits.length capl) (.slice none 0 0)) (fun e => hPR e.symm) (fun j _ e => .inr e))
  obtain ⟨r0, r1, r2, r3, f0, f1, f2, f3, hRl⟩ := HR5
  clear hr hbt
  go_wp2_with fail
  clear r0 r1 r2 r3 f0 f1 f2 f3 hRl
  generalize (((w5.setCell ⟨w.heap.size, 0, none⟩ (.string sel)).setCell ⟨w.heap.size, 1, none⟩ (.int .i64 (p : Int))).setCell ⟨w.heap.size, 2, none⟩ (.slice Al lits.length capl)).setCell ⟨w.heap.size, 3, none⟩ (.slice none 0 0) = w6 at HR6 HS6 ⊢
  rcases l with _ | ⟨n, l⟩
  · refine (nextR HS6.out (by exact .inl rfl)).mono ?_
    rintro e w8 (⟨b', t, hl', rfl, hr, hbt⟩ | ⟨hl', rfl, rfl⟩) <;> cases hl'
    have HNONE := HNO.out (Pl.rd_few (by simp))
    obtain ⟨k0, k1, k2, k3, k4⟩ := HKE.out _ HS6.out.s
    go_wp2_with fail
    refine leaves_cons (f := 46) (args := #[.pointer (some ⟨w.heap.size, 0, none⟩), .pointer (some ⟨w.heap.size + 1, 0, none⟩)]) (by simp) (by simp [go_sem]) ?_
    refine (ucaught_panicking w.heap.size (w.heap.size + 1) _ _ _ _ 0 _ (by omega) HR6.out k0 k1 k2).mono ?_
    rintro e u' w7 ⟨rfl, rfl, ec, hR7, hs7⟩
    obtain ⟨r0, r1, r2, r3, _, _, _, _, _⟩ := hR7
    have hfin : Below w.heap.size w w7 := k3.trans (hs7.below k4 (fun j hj => by omega))
    simp [Leaves, settle, results, Tryz.results20, go_sem, ec, r0, r1, r2, r3, UnpEnd, HNONE, hfin]

  have hn := HS6.out.lt n (by simp)
  refine (nextR HS6.out (by exact .inl rfl)).mono ?_
  rintro e w8 (⟨b', t, hl', rfl, hr, hbt⟩ | ⟨hl', rfl, rfl⟩) <;> cases hl'
  have HR8 := Lib.hid (HR6.out.save hbt.save hPR)
  have HS8 := Lib.hid hr
  have HO8 := Lib.hid (Owns.nil w8 w3.heap.size 58 5)
  clear hr hbt
  go_wp2_with fail
  generalize hq0 : Value.slice none 0 0 = q0 at HR8 HO8
  clear hq0
  go_loopw [20] (fun iv wr => ∃ (k : Nat) (ps : List (Pl.Unt × Value)) (t : List Nat) (U : Value), iv = .int .i64 k ∧ k ≤ n ∧ Pl.rdMany (Pl.rdUnt Pl.knownB) n l = Pl.glue (ps.map (·.1)) (Pl.rdMany (Pl.rdUnt Pl.knownB) (n - k) t) ∧ ps.length = k ∧ (∀ x ∈ ps, Pl.UntW x.1) ∧
      RS (fun k => k = w.heap.size + 1 + 1 ∨ k = w.heap.size) w3 wr (w.heap.size + 1 + 1) t ∧ CodBox wr w.heap.size (.string sel) (.int .i64 (p : Int)) (.slice Al lits.length capl) U ∧ Owns wr w3.heap.size 58 5 U ps.length (rowOf untCells ps) ∧
      (∀ (i : Nat) (x : Pl.Unt × Value), ps[i]? = some x → InssOf (fun g => w3.heap.size ≤ g ∧ U.ownBlock ≠ some g) wr x.1.code x.2)) (fun iv _ => n - (RowKit.intOf iv).toNat)
  case atStart => exact ⟨0, [], l, q0, rfl, Nat.zero_le _, (Pl.glue_nil _).symm, rfl, by simp, HS8.out, HR8.out, HO8.out, by simp⟩
  case round =>
    obtain ⟨k, ps, t, U, rfl, hk, hEq, hpl, hpw, hS, hR, hO, hI⟩ := hrel
    have HEQ := Lib.hid hEq
    have HPW := Lib.hid hpw
    have HS := Lib.hid hS
    have HR := Lib.hid hR
    have HO := Lib.hid hO
    have HI := Lib.hid hI
    have hz := hS.s.size
    clear hEq hpw hS hR hO hI HS8 HR8 HO8
    subst hpl
    by_cases hlt : ps.length < n
    · have hltI : (ps.length : Int) < (n : Int) := by omega
      obtain ⟨d, hd⟩ : ∃ d, n - ps.length = d + 1 := ⟨n - ps.length - 1, by omega⟩
      have hd1 : n - (ps.length + 1) = d := by omega
      rw [hd] at HEQ
      obtain ⟨r0, r1, r2, r3, f0, f1, f2, f3, hRl⟩ := HR.out
      obtain ⟨e0, ef, hEl, hBW, hWs⟩ := HKE.out wr HS.out.s
      have HBW := Lib.hid hBW
      have hPl : w.heap.size + 1 + 1 < wr.heap.size := by omega
      clear hBW
      have UN := Lib.hid (unit_any ((HS.out.drew.self (T := fun k => k = w.heap.size + 1 + 1))))
      cases hru : Pl.rdUnt Pl.knownB t with
      | none =>
        have HRU := Lib.hid hru
        have HNONE := HNO.out (Pl.rd_none (p := p) (by rw [HEQ.out]; exact Pl.glue_stop hru))
        clear hru
        go_wp2_with fail
        first | go_region_dies | fail
        all_goals (
          refine UN.out.mono ?_
          rintro e w10 (⟨u, t', v, h1, _⟩ | ⟨h1, rfl, hs⟩)
          · rw [HRU.out] at h1; cases h1
          have HR10 := HR.out.drew'.save hs (show ¬ w.heap.size = w.heap.size + 1 + 1 by omega)
          obtain ⟨k0, k1, k2, k3, k4⟩ := HKE.out w10 (HS.out.drew.s.trans hs (fun j _ e => .inl e))
          go_simp
          refine leaves_cons (f := 46) (args := #[.pointer (some ⟨w.heap.size, 0, none⟩), .pointer (some ⟨w.heap.size + 1, 0, none⟩)]) (by simp) (by simp [go_sem]) ?_
          refine (ucaught_panicking w.heap.size (w.heap.size + 1) _ _ _ _ 0 _ (by omega) HR10 k0 k1 k2).mono ?_
          rintro e u' w7 ⟨rfl, rfl, ec, hR7, hs7⟩
          obtain ⟨r0, r1, r2, r3, _, _, _, _, _⟩ := hR7
          have hfin : Below w.heap.size w w7 := k3.trans (hs7.below k4 (fun j hj => by omega))
          simp [Leaves, settle, results, Tryz.results20, go_sem, ec, r0, r1, r2, r3, UnpEnd, HNONE, hfin]
)
      | some x =>
        obtain ⟨u, t'⟩ := x
        have HRU := Lib.hid hru
        have HNX := Lib.hid (Pl.glue_step (xs := ps.map (·.1)) (n := d) hru)
        clear hru
        have hOb := HO.out.lt
        have HOB := Lib.hid hOb
        clear hOb r0 r1 r2
        go_wp2_with fail
        first
          | go_region_law (first
              | (refine step_appU rfl (.tmp 23) (.tmp 26) rfl w3.heap.size _ ps rfl HO10.out (u, .slice av u.code.length cv) rfl _ rfl rfl (by omega) (by omega) ?_
                 intro v' w14 ho hg
                 obtain ⟨qa, qc, rfl⟩ := ho.form
                 have SG : Save (fun g => U.ownBlock = some g) w10 w14 := (Save.refl _ w10).grow hg (fun g hg _ => hg)
                 have HR14 := Lib.hid (HR10.out.save SG (fun e => by have := (HOB.out _ e).1; omega))
                 have v3 := HR14.out.c3
                 have vf := HR14.out.f3
                 have vl := HR14.out.lt
                 have HV := Lib.hid ho
                 have HG := Lib.hid hg
                 have SGH := Lib.hid SG
                 clear ho hg SG)
              | (go_simp
                 go_at_call 48
                 refine UN.out.mono ?_
                 rintro e w10 (⟨u', t'', v, h1, rfl, hr, hi, huw⟩ | ⟨h1, rfl, hs⟩) <;> rw [HRU.out] at h1 <;> cases h1
                 obtain ⟨av, cv, rfl⟩ : ∃ av cv, v = .slice av u.code.length cv := (by obtain ⟨A, cap, e, _⟩ := hi; exact ⟨A, cap, e⟩)
                 have HR10 := Lib.hid (HR.out.drew'.save hr.s (show ¬ w.heap.size = w.heap.size + 1 + 1 by omega))
                 have HO10 := Lib.hid (HO.out.drew.save hr.s (fun g hg e => by have := (HOB.out g hg).1; omega))
                 have q3 := HR10.out.c3
                 have qf := HR10.out.f3
                 have ql := HR10.out.lt
                 have hz10 : w3.heap.size ≤ w10.heap.size := (by have := hr.s.size; have h2 : wr.drew.heap.size = wr.heap.size := rfl; omega)
                 have hzw : wr.heap.size ≤ w10.heap.size := (by have := hr.s.size; have h2 : wr.drew.heap.size = wr.heap.size := rfl; omega)
                 have qn : ¬ w.heap.size = w10.heap.size := (by omega)
                 have HRR := Lib.hid hr
                 have HII := Lib.hid hi
                 have HUWW := Lib.hid huw
                 clear hr hi huw))
          | fail
        all_goals
          have hnew := HV.out.lt
          have HNEW := Lib.hid hnew
          have HNE := Lib.hid (show ∀ g, (Value.slice qa (ps.length + 1) qc).ownBlock = some g → U.ownBlock = some g ∨ w10.heap.size ≤ g from fun g hg => by
            rcases HG.out.2 with e | e
            · exact .inl (e ▸ hg)
            · exact .inr (e g hg))
          clear hnew
          go_wp2_with fail
          go_roundw
          case rel =>
            have SR := (Save.refl (fun g => g = w.heap.size) w14).set ⟨w.heap.size, 3, none⟩ (.slice qa (ps.length + 1) qc) (fun _ => rfl)
            have SN := (SGH.out.mono (T := fun g => g = w.heap.size ∨ U.ownBlock = some g) (fun g _ e => .inr e)).trans SR (fun g _ e => .inl e)
            have SO := (((Save.refl (fun g => g = w.heap.size + 1 + 1 ∨ g = w.heap.size ∨ U.ownBlock = some g) wr).drew).trans HRR.out.s (fun g _ e => .inl e)).trans SN (fun g _ e => .inr e)
            refine ⟨ps.length + 1, ps ++ [(u, .slice av u.code.length cv)], t', .slice qa (ps.length + 1) qc, by go_num, by omega, ?_, by simp, ?_, ?_, HR14.out.set3 _, ?_, ?_⟩
            · rw [HEQ.out, hd1, HNX.out, List.map_append]; rfl
            · intro y hy
              rcases List.mem_append.1 hy with hy | hy
              · exact HPW.out y hy
              · simp at hy; subst hy; exact HUWW.out
            · exact ((HRR.out.lift HS.out.drew.s (by omega) (fun j _ e => .inl e)).save SGH.out (fun e => by have := (HOB.out _ e).1; omega) (fun j hj e => by have := (HOB.out _ e).1; omega)).save SR (fun e => by omega) (fun j _ e => .inr e)
            · rw [List.length_append]
              exact HV.out.save SR (fun g hg e => by have := (HNEW.out g hg).1; omega)
            · intro i y hy
              by_cases hi : i < ps.length
              · rw [List.getElem?_append_left hi] at hy
                refine InssOf.mono (Q := fun g => w3.heap.size ≤ g ∧ (Value.slice qa (ps.length + 1) qc).ownBlock ≠ some g ∧ U.ownBlock ≠ some g) (InssOf.save ((HI.out i y hy).mono (fun g hg hh => ⟨hh.1, fun e => ?_, hh.2⟩)) SO (fun g hg hh e => ?_)) (fun g _ hh => ⟨hh.1, hh.2.1⟩)
                · rcases HNE.out g e with e' | e'
                  · exact hh.2 e'
                  · omega
                · rcases e with e | e | e
                  · have := hh.1; omega
                  · have := hh.1; omega
                  · exact hh.2.2 e
              · rw [List.getElem?_append_right (by omega)] at hy
                have hyy : y = (u, .slice av u.code.length cv) := by
                  cases hii : i - ps.length with
                  | zero => rw [hii] at hy; simpa using hy.symm
                  | succ m => rw [hii] at hy; simp at hy
                subst hyy
                refine InssOf.mono (Q := fun g => w3.heap.size ≤ g ∧ (Value.slice qa (ps.length + 1) qc).ownBlock ≠ some g ∧ g ≠ w.heap.size ∧ U.ownBlock ≠ some g) (InssOf.save (HII.out.mono (fun g hg (hh : wr.heap.size ≤ g) => ?_)) SN (fun g hg hh e => e.elim hh.2.2.1 hh.2.2.2)) (fun g _ hh => ⟨hh.1, hh.2.1⟩)
                have hu : U.ownBlock ≠ some g := fun e => by have := (HOB.out g e).2; omega
                refine ⟨by omega, fun e => ?_, by omega, hu⟩
                rcases HNE.out g e with e' | e'
                · exact hu e'
                · omega
          case measure => simp [RowKit.intOf]; omega
    · have hltI : (n : Int) ≤ (ps.length : Int) := by omega
      have hke : n - ps.length = 0 := by omega
      rw [hke, Pl.glue_done] at HEQ
      clear hke
      obtain ⟨r0, r1, r2, r3, f0, f1, f2, f3, hRl⟩ := HR.out
      obtain ⟨e0, ef, hEl, hBW, hWs⟩ := HKE.out wr HS.out.s
      have HBW := Lib.hid hBW
      have hPl : w.heap.size + 1 + 1 < wr.heap.size := by omega
      obtain ⟨qa, qc, hq⟩ := HO.out.form
      rw [hq] at HO HI HR r3
      clear hq hBW
      rcases t with _ | ⟨y, t⟩
      · have hc0 : wr.cell? ⟨w.heap.size + 1 + 1, 0, none⟩ = some (.string ⟨#[]⟩) := HS.out.c0
        obtain ⟨us, hus⟩ : ∃ us, ps.map (·.1) = us := ⟨_, rfl⟩
        rw [hus] at HEQ
        have HRD := Lib.hid (Pl.rd_some (p := p) HEQ.out)
        have HUW := Lib.hid (show ∀ x ∈ us, Pl.UntW x by intro x hx; rw [← hus] at hx; obtain ⟨y, hy, rfl⟩ := List.mem_map.1 hx; exact HPW.out y hy)
        have HUS := Lib.hid hus
        have hul : us.length = ps.length := by rw [← hus, List.length_map]
        have HCOD : CodAt wr.heap.size wr ⟨sel, p, lits, us⟩ (.slice Al lits.length capl) (.slice qa ps.length qc) := ⟨(HL.out.keep (HBW.out.mono hBw)).up (by omega), UntsAt.of_owns HO.out hus (by omega) HUW.out HI.out, hsel, by show _ ≤ (p : Int); omega, by show (p : Int) ≤ _; omega, Nat.le_refl _⟩
        have CK := Lib.hid (show Calls Tryz.prog 11 #[.agg #[.string sel, .int .i64 (p : Int), .slice Al lits.length capl, .slice qa ps.length qc]] wr (fun e w' => e = .returned (.int .i64 (Pl.check ⟨sel, p, lits, us⟩ : Nat)) ∧ Below wr.heap.size wr w') from
          check_any (c := ⟨sel, p, lits, us⟩) wr HCOD (HE.out.keep HBW.out HE.out.1) (by omega) hbig)
        clear HCOD hus hul
        by_cases hck : Pl.check ⟨sel, p, lits, us⟩ = 0
        · rw [hck] at CK
          have HC := Lib.hid (HYES.out _ _ HRD.out hck)
          clear hck
          go_wp2_with (first
            | (go_at_call 11; refine CK.out.mono ?_; rintro e w10 ⟨rfl, hb10⟩
               have SN := Save.none_below hb10
               have HR10 := Lib.hid (HR.out.save SN (fun f => f))
               have HK10 := Lib.hid (HKE.out w10 (HS.out.s.trans SN (fun _ _ f => f.elim)))
               obtain ⟨s0, s1, s2, s3, g0, g1, g2, g3, hSl⟩ := HR10.out
               obtain ⟨h0, hf, hEl2, _, _⟩ := HK10.out
               have HB10 := Lib.hid hb10
               clear hb10 SN)
            | (go_at_call 49; refine (own_any HL.out w10 (HK10.out.2.2.2.1.mono hBw) hBw (by omega)).mono ?_; rintro e w12 ⟨L2, rfl, hl2, hb12⟩
               obtain ⟨A2, cap2, rfl⟩ : ∃ A2 cap2, L2 = .slice A2 lits.length cap2 := (by cases hl2; exact ⟨_, _, rfl⟩)
               have SN := Save.none_below hb12
               have HR12 := Lib.hid (HR10.out.save SN (fun f => f))
               have S12 := Lib.hid ((HS.out.s.trans (Save.none_below HB10.out) (fun _ _ f => f.elim)).trans SN (fun _ _ f => f.elim))
               have HK12 := Lib.hid (HKE.out w12 S12.out)
               have SW := Lib.hid ((Save.none_below HB10.out).trans SN (fun _ _ f => f))
               clear s0 s1 s2 s3 g0 g1 g2 g3 hSl h0 hf hEl2
               obtain ⟨s0, s1, s2, s3, g0, g1, g2, g3, hSl⟩ := HR12.out
               obtain ⟨h0, hf, hEl2, _, _⟩ := HK12.out
               have HL2 := Lib.hid hl2
               have hz12 := hb12.size
               clear hl2 hb12 SN))
          have hz10 : w.heap.size + 1 < w10.heap.size := HK10.out.2.2.1
          have HRs := Lib.hid (HR12.out.set2 (.slice A2 lits.length cap2))
          have hes : (w12.setCell ⟨w.heap.size, 2, none⟩ (.slice A2 lits.length cap2)).cell? ⟨w.heap.size + 1, 0, none⟩ = some (.int .i64 0) := by rw [World.cell?_setCell_other _ _ _ _ (by simp)]; exact h0
          have hBs : Below w.heap.size w (w12.setCell ⟨w.heap.size, 2, none⟩ (.slice A2 lits.length cap2)) := HK12.out.2.2.2.1.setCell (p := ⟨w.heap.size, 2, none⟩) (Nat.le_refl _) _
          have hEs : w.heap.size + 1 < (w12.setCell ⟨w.heap.size, 2, none⟩ (.slice A2 lits.length cap2)).heap.size := by simpa using hEl2
          clear s0 s1 s2 s3 g0 g1 g2 g3 hSl
          have HRz := Lib.hid (HRs.out.put (.string sel) (.int .i64 (p : Int)) (.slice A2 lits.length cap2) (.slice qa ps.length qc))
          have hez : (((((w12.setCell ⟨w.heap.size, 2, none⟩ (.slice A2 lits.length cap2)).setCell ⟨w.heap.size, 0, none⟩ (.string sel)).setCell ⟨w.heap.size, 1, none⟩ (.int .i64 (p : Int))).setCell ⟨w.heap.size, 2, none⟩ (.slice A2 lits.length cap2)).setCell ⟨w.heap.size, 3, none⟩ (.slice qa ps.length qc)).cell? ⟨w.heap.size + 1, 0, none⟩ = some (.int .i64 0) := ((CodBox.put_save (w12.setCell ⟨w.heap.size, 2, none⟩ (.slice A2 lits.length cap2)) w.heap.size (.string sel) (.int .i64 (p : Int)) (.slice A2 lits.length cap2) (.slice qa ps.length qc)).cell 0 hEs (by omega)).trans hes
          have SZ := Lib.hid (CodBox.put_save (w12.setCell ⟨w.heap.size, 2, none⟩ (.slice A2 lits.length cap2)) w.heap.size (.string sel) (.int .i64 (p : Int)) (.slice A2 lits.length cap2) (.slice qa ps.length qc))
          generalize ((((w12.setCell ⟨w.heap.size, 2, none⟩ (.slice A2 lits.length cap2)).setCell ⟨w.heap.size, 0, none⟩ (.string sel)).setCell ⟨w.heap.size, 1, none⟩ (.int .i64 (p : Int))).setCell ⟨w.heap.size, 2, none⟩ (.slice A2 lits.length cap2)).setCell ⟨w.heap.size, 3, none⟩ (.slice qa ps.length qc) = w13 at HRz hez SZ ⊢
          have S14 := Lib.hid (((SZ.out.mono (T := fun g => g = w.heap.size ∨ g = w.heap.size + 1) (fun g _ h => .inl h))).set ⟨w.heap.size + 1, 0, none⟩ (.int .i64 0) (fun _ => .inr rfl))
          refine leaves_cons (f := 46) (args := #[.pointer (some ⟨w.heap.size, 0, none⟩), .pointer (some ⟨w.heap.size + 1, 0, none⟩)]) (by simp) (by simp [go_sem]) ?_
          refine (ucaught_idle w.heap.size (w.heap.size + 1) _).mono ?_
          rintro e u' w7 ⟨rfl, rfl, hb7⟩
          have S7 := S14.out.step hb7 (S14.out.size)
          have hE13 : w.heap.size + 1 < w13.heap.size := by have := World.block_lt_of_cell? _ _ hez; simpa using this
          have ec : w7.cell? ⟨w.heap.size + 1, 0, none⟩ = some (.int .i64 0) := (hb7.cell (p := ⟨w.heap.size + 1, 0, none⟩) (by simpa using hE13)).trans (World.cell?_setCell_same' _ _ _ (by rw [hez]; rfl))
          have HR7 := (HRz.out.save ((Save.refl (fun g => g = w.heap.size + 1) w13).set ⟨w.heap.size + 1, 0, none⟩ (.int .i64 0) (fun _ => rfl)) (by omega)).save (Save.none_below hb7) (fun f => f)
          obtain ⟨q0', q1', q2', q3', _, _, _, _, _⟩ := HR7
          have hfin : Below w.heap.size w w7 := hBs.trans (S7.below (by omega) (fun j hj => by omega))
          have SALL := (SW.out.mono (T := fun g => g = w.heap.size ∨ g = w.heap.size + 1) (fun _ _ f => f.elim)).trans ((((Save.refl (fun g => g = w.heap.size ∨ g = w.heap.size + 1) w12).set ⟨w.heap.size, 2, none⟩ (.slice A2 lits.length cap2) (fun _ => .inl rfl))).trans S7 (fun g _ h => h)) (fun g _ h => h)
          have S127 := ((Save.refl (fun g => g = w.heap.size ∨ g = w.heap.size + 1) w12).set ⟨w.heap.size, 2, none⟩ (.slice A2 lits.length cap2) (fun _ => .inl rfl)).trans S7 (fun g _ h => h)
          have hl7 := (HL2.out.save S127 (fun g hg (hq : w10.heap.size ≤ g) e => by omega)).mono (Q' := fun g => w.heap.size ≤ g) (fun g _ (hq : w10.heap.size ≤ g) => by omega)
          have hu7 := UntsAt.of_owns (HO.out.save SALL (fun g hg e => by have := (HO.out.lt g hg).1; omega)) HUS.out (by omega) HUW.out (fun i x hx => (HI.out i x hx).save SALL (fun g hg hq e => by have := hq.1; omega))
          have HFIN : UnpEnd sel lits b w (.returned (.tuple #[.agg #[.string sel, .int .i64 (p : Int), .slice A2 lits.length cap2, .slice qa ps.length qc], .int .i64 0])) w7 :=
            ⟨.inl ⟨_, _, _, HC.out, rfl, hl7, ⟨hl7.at, hu7, hsel, by show _ ≤ (p : Int); omega, by show (p : Int) ≤ _; omega, Nat.le_refl _⟩⟩, hfin⟩
          simp [Leaves, settle, results, Tryz.results20, go_sem, ec, q0', q1', q2', q3', HFIN]
        · have hck' : ((Pl.check ⟨sel, p, lits, us⟩ : Nat) : Int) ≠ 0 := by omega
          have HC := HBAD.out _ _ HRD.out hck
          clear hck
          generalize Pl.check ⟨sel, p, lits, us⟩ = ec at CK hck'
          go_wp2_with (first
            | (go_at_call 11; refine CK.out.mono ?_; rintro e w10 ⟨rfl, hb10⟩
               have SN := Save.none_below hb10
               have HR10 := Lib.hid (HR.out.save SN (fun f => f))
               have HK10 := Lib.hid (HKE.out w10 (HS.out.s.trans SN (fun _ _ f => f.elim)))
               obtain ⟨s0, s1, s2, s3, g0, g1, g2, g3, hSl⟩ := HR10.out
               obtain ⟨h0, hf, hEl2, _, _⟩ := HK10.out
               have HB10 := Lib.hid hb10
               clear hb10 SN))
          clear s0 s1 s2 s3 g0 g1 g2 g3 hSl
          have HRz := Lib.hid (HR10.out.put (.string ⟨#[]⟩) (.int .i64 0) (.slice none 0 0) (.slice none 0 0))
          have hez : ((((w10.setCell ⟨w.heap.size, 0, none⟩ (.string ⟨#[]⟩)).setCell ⟨w.heap.size, 1, none⟩ (.int .i64 0)).setCell ⟨w.heap.size, 2, none⟩ (.slice none 0 0)).setCell ⟨w.heap.size, 3, none⟩ (.slice none 0 0)).cell? ⟨w.heap.size + 1, 0, none⟩ = some (.int .i64 0) := ((CodBox.put_save w10 w.heap.size (.string ⟨#[]⟩) (.int .i64 0) (.slice none 0 0) (.slice none 0 0)).cell 0 hEl2 (by omega)).trans h0
          have SZ := Lib.hid (CodBox.put_save w10 w.heap.size (.string ⟨#[]⟩) (.int .i64 0) (.slice none 0 0) (.slice none 0 0))
          generalize (((w10.setCell ⟨w.heap.size, 0, none⟩ (.string ⟨#[]⟩)).setCell ⟨w.heap.size, 1, none⟩ (.int .i64 0)).setCell ⟨w.heap.size, 2, none⟩ (.slice none 0 0)).setCell ⟨w.heap.size, 3, none⟩ (.slice none 0 0) = w13 at HRz hez SZ ⊢
          have S14 := Lib.hid (((SZ.out.mono (T := fun g => g = w.heap.size ∨ g = w.heap.size + 1) (fun g _ h => .inl h))).set ⟨w.heap.size + 1, 0, none⟩ (.int .i64 203) (fun _ => .inr rfl))
          refine leaves_cons (f := 46) (args := #[.pointer (some ⟨w.heap.size, 0, none⟩), .pointer (some ⟨w.heap.size + 1, 0, none⟩)]) (by simp) (by simp [go_sem]) ?_
          refine (ucaught_idle w.heap.size (w.heap.size + 1) _).mono ?_
          rintro e u' w7 ⟨rfl, rfl, hb7⟩
          have S7 := S14.out.step hb7 (S14.out.size)
          have hE13 : w.heap.size + 1 < w13.heap.size := by have := World.block_lt_of_cell? _ _ hez; simpa using this
          have ec : w7.cell? ⟨w.heap.size + 1, 0, none⟩ = some (.int .i64 203) := (hb7.cell (p := ⟨w.heap.size + 1, 0, none⟩) (by simpa using hE13)).trans (World.cell?_setCell_same' _ _ _ (by rw [hez]; rfl))
          have HR7 := (HRz.out.save ((Save.refl (fun g => g = w.heap.size + 1) w13).set ⟨w.heap.size + 1, 0, none⟩ (.int .i64 203) (fun _ => rfl)) (by omega)).save (Save.none_below hb7) (fun f => f)
          obtain ⟨q0', q1', q2', q3', _, _, _, _, _⟩ := HR7
          have hfin : Below w.heap.size w w7 := HK10.out.2.2.2.1.trans (S7.below (by omega) (fun j hj => by omega))
          simp [Leaves, settle, results, Tryz.results20, go_sem, ec, q0', q1', q2', q3', UnpEnd, HC, hfin]
      · have hne : 0 < (Pl.bs (y :: t)).size := Pl.bs_cons_size y t
        have hemp : (Pl.bs (y :: t)).toList.isEmpty = false := notempty _ hne
        have hemp2 : ((Pl.bs (y :: t)).toList == []) = false := by cases h : (Pl.bs (y :: t)).toList <;> simp [h] at hemp ⊢
        have hc0 := HS.out.c0
        have HC := HNO.out (Pl.rd_more (p := p) HEQ.out (by simp))
        generalize Pl.bs (y :: t) = sz at hne hemp hemp2 hc0
        go_wp2_with fail
        clear r0 r1 r2 r3 f0 f1 f2 f3 hRl
        have HRz := Lib.hid (HR.out.put (.string ⟨#[]⟩) (.int .i64 0) (.slice none 0 0) (.slice none 0 0))
        have hez : ((((wr.setCell ⟨w.heap.size, 0, none⟩ (.string ⟨#[]⟩)).setCell ⟨w.heap.size, 1, none⟩ (.int .i64 0)).setCell ⟨w.heap.size, 2, none⟩ (.slice none 0 0)).setCell ⟨w.heap.size, 3, none⟩ (.slice none 0 0)).cell? ⟨w.heap.size + 1, 0, none⟩ = some (.int .i64 0) := ((CodBox.put_save wr w.heap.size (.string ⟨#[]⟩) (.int .i64 0) (.slice none 0 0) (.slice none 0 0)).cell 0 hEl (by omega)).trans e0
        have SZ := Lib.hid (CodBox.put_save wr w.heap.size (.string ⟨#[]⟩) (.int .i64 0) (.slice none 0 0) (.slice none 0 0))
        generalize (((wr.setCell ⟨w.heap.size, 0, none⟩ (.string ⟨#[]⟩)).setCell ⟨w.heap.size, 1, none⟩ (.int .i64 0)).setCell ⟨w.heap.size, 2, none⟩ (.slice none 0 0)).setCell ⟨w.heap.size, 3, none⟩ (.slice none 0 0) = w13 at HRz hez SZ ⊢
        have S14 := Lib.hid (((SZ.out.mono (T := fun g => g = w.heap.size ∨ g = w.heap.size + 1) (fun g _ h => .inl h))).set ⟨w.heap.size + 1, 0, none⟩ (.int .i64 203) (fun _ => .inr rfl))
        refine leaves_cons (f := 46) (args := #[.pointer (some ⟨w.heap.size, 0, none⟩), .pointer (some ⟨w.heap.size + 1, 0, none⟩)]) (by simp) (by simp [go_sem]) ?_
        refine (ucaught_idle w.heap.size (w.heap.size + 1) _).mono ?_
        rintro e u' w7 ⟨rfl, rfl, hb7⟩
        have S7 := S14.out.step hb7 (S14.out.size)
        have hE13 : w.heap.size + 1 < w13.heap.size := by have := World.block_lt_of_cell? _ _ hez; simpa using this
        have ec : w7.cell? ⟨w.heap.size + 1, 0, none⟩ = some (.int .i64 203) := (hb7.cell (p := ⟨w.heap.size + 1, 0, none⟩) (by simpa using hE13)).trans (World.cell?_setCell_same' _ _ _ (by rw [hez]; rfl))
        have HR7 := (HRz.out.save ((Save.refl (fun g => g = w.heap.size + 1) w13).set ⟨w.heap.size + 1, 0, none⟩ (.int .i64 203) (fun _ => rfl)) (by omega)).save (Save.none_below hb7) (fun f => f)
        obtain ⟨q0', q1', q2', q3', _, _, _, _, _⟩ := HR7
        have hfin : Below w.heap.size w w7 := HBW.out.trans (S7.below (by omega) (fun j hj => by omega))
        simp [Leaves, settle, results, Tryz.results20, go_sem, ec, q0', q1', q2', q3', UnpEnd, HC, hfin]
end Go.Proofs.YtoklnpoacckbfaaGreatDoor
