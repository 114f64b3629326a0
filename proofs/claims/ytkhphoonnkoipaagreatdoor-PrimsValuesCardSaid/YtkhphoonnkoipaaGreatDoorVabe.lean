/- Lemmas. -/
import Derived.Test.YtkhphoonnkoipaaGreatDoorVaaz
import Derived.Test.YtkhphoonnkoipaaGreatDoorVabd
set_option linter.all false
set_option maxHeartbeats 4000000
set_option maxRecDepth 4000
open Go.Proofs.Tryz Go.RowKit Go.Lib
open Bool renaming false→ab
open Go renaming Calls→aq
open Go.RowKit renaming Below→ah
namespace Go.Proofs.YtkhphoonnkoipaaGreatDoor
theorem acs (eu ea eJ rg:Bool) (ev en qs da:ByteArray) (bm:Int) (w:World) (aE:∀W,aq prog 23 #[.agg #[.bool eu,.string ev],.agg #[.bool ea,.string en]] W fun e w'=>e=.returned (.tuple #[.agg #[.bool eJ,.string qs],.agg #[.bool rg,.string da],.int .i64 bm])∧ah W.heap.size W w')
 (aF:da.toList.isEmpty=true) :
 aq prog 22 #[.agg #[.bool eu,.string ev],.agg #[.bool ea,.string en]] w fun e w'=>e=.returned (.tuple #[.agg #[.bool eJ,.string qs],.int .i64 bm])∧ah w.heap.size w w':=by
 have b3:=I aE;clear aE;obtain⟨aZ,bl⟩:∃aZ,((w.alloc (.cells #[.bool eu,.string ev] 46)).alloc (.cells #[.bool ea,.string en] 46)).alloc (.cells #[.bool ab,.string ⟨#[]⟩] 46)=aZ:=⟨_,rfl⟩;have cY:Hid (aI aZ w.heap.size 46 (.bool eu) (.string ev)):=I (by rw[←bl];exact ((aI.new _ _ _ _).alloc _).alloc _);have dt:Hid (aI aZ (w.heap.size+1) 46 (.bool ea) (.string en)):=I (by
  rw[←bl];have:=(aI.new (w.alloc (.cells #[.bool eu,.string ev] 46)) 46 (.bool ea) (.string en)).alloc (.cells #[.bool ab,.string ⟨#[]⟩] 46);simpa using this)
 have eI:Hid (aI aZ (w.heap.size+2) 46 (.bool ab) (.string ⟨#[]⟩)):=I (by
  rw[←bl];have:=aI.new ((w.alloc (.cells #[.bool eu,.string ev] 46)).alloc (.cells #[.bool ea,.string en] 46)) 46 (.bool ab) (.string ⟨#[]⟩);simpa using this)
 have bu:Hid (ah w.heap.size w aZ):=I (by rw[←bl];exact (((aK _ _).alloc (aC _) _).alloc (by simp) _).alloc (by simp;omega) _);have dL:w.heap.size+3≤aZ.heap.size:=by rw[←bl];simp
 obtain⟨cn,bY,_,_⟩:=cY.out.cells;obtain⟨b0,bD,_,_⟩:=dt.out.cells;go_enter func22,ntmps22;go_wp2_with fail;refine (b3.out _).mono ?_;rintro e aQ ⟨rfl,bb⟩;have iy:w.heap.size+3≤aQ.heap.size:=cp dL bb.size;obtain⟨bh,dn⟩:∃bh,(aQ.alloc (.cells #[.bool eJ,.string qs] 46)).alloc (.cells #[.bool rg,.string da] 46)=bh:=⟨_,rfl⟩;have bf:ah aQ.heap.size aQ bh:=by rw[←dn];exact ((aK _ _).alloc (aC _) _).alloc (by simp) _
 have dc:=I (chain (chain bu.out bb (by omega)) bf (by omega));have iB:=I ((eI.out.below bb).below bf);have ni:Hid (aI bh aQ.heap.size 46 (.bool eJ) (.string qs)):=I (by rw[←dn];exact (aI.new _ _ _ _).alloc _);have kY:Hid (aI bh (aQ.heap.size+1) 46 (.bool rg) (.string da)):=I (aI.tU dn);clear cn bY b0 bD cY dt eI bu dL bl bb bf;obtain⟨a0,b1,_,_⟩:=ni.out.cells;obtain⟨im,cd,_,_⟩:=kY.out.cells;obtain⟨cl,bH,f0,f1⟩:=iB.out.cells;have kZ:=I (iB.out.set (.bool eJ) (.string qs));have k0:=I (fG dc.out (show w.heap.size≤w.heap.size+2 by omega) (.bool eJ) (.string qs));go_wp2_with fail;obtain⟨aM,aG,_,_⟩:=kZ.out.cells;refine bI (v:=.tuple #[.agg #[.bool eJ,.string qs],.int .i64 bm]) (by simp[results,results22,go_sem,aM,aG]) rfl ⟨rfl,k0.out⟩
def TX (k n b:Int) (t:ByteArray) (is:Bool):Prop:=is=true→∃R s,qG R k n s∧o.bO R∧b=0∧t=ax s
theorem acu {w w':World} {R:Int} {e:Ending} (bS:o.bO R) (h:tO w R e w'):h0 w TX e w':=by
 obtain⟨k,n,b,t,is,⟨s,aa,ae,aJ,bQ⟩,dm⟩:=SV h;exact⟨k,n,b,t,is,fun _=>⟨R,s,aa,bS,ae,aJ⟩,dm⟩
theorem acv {w w':World} {e:Ending} (h:ek w iA ab e w'):h0 w TX e w':=by
 obtain⟨k,n,b,t,is,⟨_,_,_,_,bQ⟩,dm⟩:=SR h;exact⟨k,n,b,t,is,fun h=>(by rw[bQ] at h;cases h),dm⟩
def q1 (f:Nat) (A B:Int):Prop:=(∃R,o.bO R∧∀W,aq prog f #[bz A,bz B] W fun e w'=>e=.returned (.tuple #[bz R,.int .i64 0])∧ah W.heap.size W w')∨
 ∃rg da bm,bm≠0∧∀W,aq prog f #[bz A,bz B] W fun e w'=>e=.returned (.tuple #[.agg #[.bool rg,.string da],.int .i64 bm])∧ah W.heap.size W w'
theorem A0 {f:Nat} {A B R:Int} (h:∀W,aq prog f #[bz A,bz B] W (hX W R)):q1 f A B:=by
 by_cases bS:o.bO R
 ·exact .inl ⟨R,bS,fun W=>(h W).mono fun e w' ⟨aa,ae⟩=>⟨by rw[aa,LK bS],ae⟩⟩
 ·exact .inr ⟨ab,⟨#[]⟩,92,by decide,fun W=>(h W).mono fun e w' ⟨aa,ae⟩=>⟨by rw[aa];unfold e7;rw[aU bS];rfl,ae⟩⟩
theorem anN {A B:Int} (be:o.bO A) (az:o.bO B):q1 19 A B:=A0 (fun W=>aa0 A B W be az)
theorem anO {A B:Int} (be:o.bO A) (az:o.bO B):q1 20 A B:=A0 (fun W=>aa3 A B W be az)
theorem anP {A B:Int} (be:o.bO A) (az:o.bO B):q1 21 A B:=A0 (fun W=>anu A B W be az)
theorem anQ {A B:Int} (be:o.bO A) (az:o.bO B):q1 29 A B:=A0 (fun W=>ang A B W be az)
theorem anR {A B:Int} (be:o.bO A) (az:o.bO B):q1 30 A B:=A0 (fun W=>ani A B W be az)
theorem anS {A B:Int} (be:o.bO A) (az:o.bO B):q1 31 A B:=A0 (fun W=>ank A B W be az)
theorem anT {A B:Int} (be:o.bO A) (az:o.bO B):q1 32 A B:=A0 (fun W=>anm A B W be az)
theorem TY {A B:Int} (be:o.bO A) (az:o.bO B) (ar:B≠0):o.bO (o.yQ A B)∧o.bO (o.eO A B):=by
 by_cases h:o.AZ A B
 ·have bd:=o.acr h ar;unfold o.yQ o.eO;rw[ba h,ba h];exact⟨be.le bd.1,az.le bd.2⟩
 ·unfold o.yQ o.eO;rw[aU h,aU h];exact⟨be.tdiv,be.tmod⟩
theorem anU {A B:Int} (be:o.bO A) (az:o.bO B):q1 24 A B:=by
 by_cases ar:B=0
 ·exact .inr ⟨ab,⟨#[]⟩,90,by decide,fun W=>ab5 _ _ ab ab _ _ ⟨#[]⟩ ⟨#[]⟩ 90 W (fun W=>TW A B W be az ar)⟩
 ·exact .inl ⟨o.eO A B,(TY be az ar).2,fun W=>ab5 _ _ _ _ _ _ _ _ 0 W (fun W=>Mf A B W be az ar)⟩
theorem anV {A B:Int} (be:o.bO A) (az:o.bO B):q1 25 A B:=by
 by_cases ar:B=0
 ·exact .inr ⟨ab,⟨#[]⟩,90,by decide,fun W=>ab6 _ _ ab ab _ _ ⟨#[]⟩ ⟨#[]⟩ 90 W (fun W=>TW A B W be az ar)⟩
 ·exact .inl ⟨o.yQ A B,(TY be az ar).1,fun W=>ab6 _ _ _ _ _ _ _ _ 0 W (fun W=>Mf A B W be az ar)⟩
theorem anW {A B:Int} (be:o.bO A) (az:o.bO B):q1 26 A B:=by
 by_cases ar:B=0
 ·exact .inr ⟨ab,⟨#[]⟩,90,by decide,fun W=>ab7 _ _ ab ab _ _ ⟨#[]⟩ ⟨#[]⟩ 90 W (fun W=>TV A B W be az ar)⟩
 ·exact .inl ⟨A.tdiv B,be.tdiv,fun W=>ab7 _ _ _ _ _ _ _ _ 0 W (fun W=>Me A B W be az ar)⟩
theorem anX {A B:Int} (be:o.bO A) (az:o.bO B):q1 28 A B:=by
 by_cases ar:B=0
 ·exact .inr ⟨ab,⟨#[]⟩,90,by decide,fun W=>ab8 _ _ ab ab _ _ ⟨#[]⟩ ⟨#[]⟩ 90 W (fun W=>TV A B W be az ar)⟩
 ·exact .inl ⟨A.tmod B,be.tmod,fun W=>ab8 _ _ _ _ _ _ _ _ 0 W (fun W=>Me A B W be az ar)⟩
theorem anY {A B:Int} (be:o.bO A) (az:o.bO B):q1 22 A B:=by
 by_cases ar:B=0
 ·exact .inr ⟨ab,⟨#[]⟩,90,by decide,fun W=>acs _ _ ab ab _ _ ⟨#[]⟩ ⟨#[]⟩ 90 W (fun W=>TW A B W be az ar) (by simp[lL])⟩
 ·by_cases aF:(ax (o.bs (o.eO A B).natAbs)).toList.isEmpty=true
  ·exact .inl ⟨o.yQ A B,(TY be az ar).1,fun W=>acs _ _ _ _ _ _ _ _ 0 W (fun W=>Mf A B W be az ar) aF⟩
  ·exact .inr ⟨_,_,1,by decide,fun W=>aaB _ _ _ _ _ _ _ _ W (fun W=>Mf A B W be az ar) (by simpa using aF)⟩
theorem atA {a:Nat} (aa:a<18446744073709551616) (ae:a%9223372036854775808<9218868437227405312):∃s:ByteArray,s.size≤1000∧∀w,Env w→aq prog 99 #[.int .u64 a] w fun e w'=>e=.returned (.string s)∧ah w.heap.size w w':=by
 by_cases aX:a%9223372036854775808=0
 ·obtain⟨neg,rfl⟩:∃neg,a=o.eV neg:=by
   by_cases aS:a=0
   ·exact⟨ab,by rw[aS];rfl⟩
   ·exact⟨true,by show a=9223372036854775808;omega⟩
  refine⟨ax (ael neg).text,by cases neg<;>decide,fun w _=>?_⟩;refine (asc neg w).mono ?_;rintro e w' ⟨rfl,rfl⟩;exact⟨rfl,aK _ _⟩
 ·refine⟨ax (o.FH a),?_,fun w he=>ah5 a w aa ae aX he⟩;obtain⟨gv,gq,tA,QL,W2⟩:=o.WQ (show a/4503599627370496%2048<2047 by omega) aX;have hw:=W1 (o.tv a) (o.uJ a-1) (by omega);rw[fN];unfold o.FH;rw[ey];split
  ·simp only[pr];omega
  ·simp only[du];omega
theorem atB {a:Nat} (aS:a<18446744073709551616) (h:¬ a%9223372036854775808<9218868437227405312):∃s:ByteArray,s.size≤1000∧(∀w,aq prog 99 #[.int .u64 a] w fun e w'=>e=.returned (.string s)∧ah w.heap.size w w'):=by
 by_cases aB:a%9223372036854775808=9218868437227405312
 ·have kW:a=9218868437227405312∨a=18442240474082181120:=by omega
  have key:∀(a:Nat) (b:Bool) (s:ByteArray),(b=true∧a=9218868437227405312∧s=⟨#[105,110,102]⟩)∨(b=ab∧a=18442240474082181120∧s=⟨#[45,105,110,102]⟩)→∀w,aq prog 99 #[.int .u64 a] w fun e w'=>e=.returned (.string s)∧ah w.heap.size w w':=by
   intro a b s a1 w;have su:a<18446744073709551616:=by rcases a1 with ⟨_,rfl,_⟩ | ⟨_,rfl,_⟩<;>decide
   have b6:FloatKind.f64.format.order a a=some .eq:=by rcases a1 with ⟨_,rfl,_⟩ | ⟨_,rfl,_⟩<;>decide +kernel
   have wb:=I (fun w=>QF a su w);have we:=I (fun w=>QG a su w);have aH:decide (a=9218868437227405312)=b:=by rcases a1 with ⟨rfl,rfl,_⟩ | ⟨rfl,rfl,_⟩<;>decide
   have aT:decide (a=18442240474082181120) = !b:=by rcases a1 with ⟨rfl,rfl,_⟩ | ⟨rfl,rfl,_⟩<;>decide
   rw[aH] at wb;rw[aT] at we;rcases a1 with ⟨rfl,Ks,rfl⟩ | ⟨rfl,Ks,rfl⟩
   ·clear aH aT we Ks su;go_enter E5,E0;go_wp2_with fail;refine (h3 _ _).mono ?_;rintro e w' ⟨rfl,rfl⟩;go_wp2_with fail;refine (wb.out _).mono ?_;rintro e w' ⟨rfl,rfl⟩;go_wp2;go_ret;exact⟨rfl,aK _ _⟩
   ·clear aH aT Ks su;go_enter E5,E0;go_wp2_with fail;refine (h3 _ _).mono ?_;rintro e w' ⟨rfl,rfl⟩;go_wp2_with fail;refine (wb.out _).mono ?_;rintro e w' ⟨rfl,rfl⟩;go_wp2_with fail;refine (we.out _).mono ?_;rintro e w' ⟨rfl,rfl⟩;go_wp2;go_ret;exact⟨rfl,aK _ _⟩
  rcases kW with rfl | rfl
  ·exact⟨ax [105,110,102],by decide,key _ true _ (.inl ⟨rfl,rfl,rfl⟩)⟩
  ·exact⟨ax [45,105,110,102],by decide,key _ ab _ (.inr ⟨rfl,rfl,rfl⟩)⟩
 ·refine⟨ax [110,97,110],by decide,fun w=>?_⟩;have b6:FloatKind.f64.format.order a a=none:=by rw[av.Ca];unfold av.dC;rw[ba (by simp;omega)]
  clear aB h aS;go_enter E5,E0;go_wp2_with fail;refine (h3 _ _).mono ?_;rintro e w' ⟨rfl,rfl⟩;go_wp2;go_ret;exact⟨rfl,aK _ _⟩
end Go.Proofs.YtkhphoonnkoipaaGreatDoor
