/- Lemmas. -/
import Derived.Test.YtkhphoonnkoipaaGreatDoorVaag
set_option linter.all false
set_option maxHeartbeats 2000000
open Go.Proofs.Tryz Go.RowKit Go.Lib
open Option renaming none→J,some→U
open Bool renaming true→ai,false→ab
open Decidable renaming decide→au
open Go renaming World→af,Value→aw,Calls→aq,Ending→jA,results→bK
open Go.RowKit renaming Below→ah
open Go.Proofs.Tryz renaming prog→ak
namespace Go.Proofs.YtkhphoonnkoipaaGreatDoor
abbrev ax (l:List UInt8):ByteArray:=⟨l.toArray⟩
theorem uN (a b:List UInt8):ax a++ax b=ax (a++b):=by
 apply xx;simp[ByteArray.data_append]
theorem fN (l:List UInt8):(ax l).size=l.length:=rfl
theorem QI (l:List UInt8) (a b:Nat):(ax l).extract a b=ax ((l.drop a).take (b-a)):=by
 apply xx;simp[Ed]
theorem xV {s t:ByteArray} (h:s=t):Ending.returned (.string s)=.returned (.string t):=by rw[h]
theorem QJ (l:List UInt8) (p:Nat) (w:af) (h:p≤l.length) (ao:l.length≤1000) :
 aq ak 182 #[.string (ax l),.int .i64 p] w fun e w'=>e=.returned (.string (ax (o.pL l p)))∧∃n,w'=w.drewN n:=by
 have b5:(ax l).size=l.length:=rfl;by_cases hp:p=l.length
 ·have aO:=I (show o.pL l p=l++[46,48] by unfold o.pL;rw[ba hp]);have ad:((p:Int)==(l.length:Int))=ai:=by rw[gy];omega
  clear hp;generalize a1:ax l=s at b5 ⊢;have aN:=I a1;clear a1;go_enter func182,ntmps182;go_wp2;go_ret;exact⟨xV (by rw[aO.out,←aN.out];exact uN l [46,48]),0,rfl⟩
 ·have aO:=I (show o.pL l p=l.take p++[46]++l.drop p by unfold o.pL;rw[aU hp]);have ad:((p:Int)==(l.length:Int))=ab:=by rw[cH];omega
  have bV:p<l.length:=by omega
  clear hp;generalize a1:ax l=s at b5 ⊢;have aN:=I a1;clear a1;go_enter func182,ntmps182;go_wp2;go_quiet (fail);go_wp2;go_ret;refine⟨xV ?_,_,rfl⟩;rw[aO.out,←aN.out];rw[QI,QI,show (⟨#[46]⟩:ByteArray)=ax [46] from rfl,uN,uN];congr 3;rw[fp (by simp)]
theorem Ke (l:List UInt8) (p:Nat):(o.pL l p).length≤l.length+2:=by
 unfold o.pL;split<;>simp;omega
theorem WU (p:Int) (h:-400≤p∧p≤400):(Lib.itoa p).length≤21:=by
 have key:∀u:Nat,u≤400→(decDigits u).length≤20:=by
  intro u hu;rw[EB];by_cases ar:u=0
  ·subst ar;rw[nDigits_small (by decide)];decide
  ·exact Ka (by omega) (by omega)
 unfold Lib.itoa;split
 ·simp;have:=key p.natAbs (by omega);omega
 ·have:=key p.toNat (by omega);omega
theorem ahP (w:af) (k:Nat) (os:Array Obj):ah w.heap.size w (Go.Sort.grow (w.drewN k) os):=by
 refine⟨rfl,rfl,rfl,by simp[Go.Sort.grow],fun i aV=>?_⟩;show (w.heap++os)[i]? = _;rw[Array.getElem?_append_left aV]
theorem ahQ (l:List UInt8) (p:Int) (w:af) (he:Env w) (aa:1≤l.length) (ao:l.length≤100) (hp:-400≤p∧p≤400) (c1:p < -4∨15<p) :
 aq ak 152 #[.string (ax l),.int .i64 p] w fun e w'=>e=.returned (.string (ax (o.written l p)))∧ah w.heap.size w w':=by
 have b5:(ax l).size=l.length:=rfl;have hq:=I (fun (w:af) (h:Env w)=>strconv_Itoa p (by omega) (by omega) w h.vU);have zX:=I (fun (q:Nat) (w:af) (h:q≤l.length)=>QJ l q w h (by omega));have bG:=I (show o.written l p=o.pL l 1++[101]++Lib.itoa p by unfold o.written;rw[ba c1]);generalize ax l=s at b5 zX ⊢;rcases c1 with c1 | c1;all_goals
  go_enter Js,Jh;go_wp2_with fail;refine (zX.out 1 _ aa).mono ?_;rintro e w' ⟨rfl,dE,rfl⟩;have ahR:(ax (o.pL l 1)).size≤102:=by have:=Ke l 1;rw[fN];omega
  generalize aE:ax (o.pL l 1)=q at ahR ⊢;have b3:=I aE;clear aE;go_wp2_with fail;refine (hq.out _ (he.below (below_drewN (aK _ _) _))).mono ?_;rintro e w' ⟨rfl,k,os,rfl⟩;have az:ah w.heap.size w (Go.Sort.grow ((w.drewN dE).drewN k) os):=(below_drewN (aK _ _) _).trans (ahP (w.drewN dE) k os);generalize Go.Sort.grow ((w.drewN dE).drewN k) os=cq at az ⊢;have bc:=I (show (⟨(Lib.itoa p).toArray⟩:ByteArray)=ax (Lib.itoa p) from rfl);generalize (⟨(Lib.itoa p).toArray⟩:ByteArray)=t at bc ⊢;have h6:t.size≤21:=by rw[bc.out,fN];exact WU p hp
  go_wp2;go_ret;refine⟨xV ?_,az⟩;rw[bG.out,bc.out,←b3.out,show (⟨#[101]⟩:ByteArray)=ax [101] from rfl,uN,uN]
theorem ahS (l:List UInt8) (p:Int) (w:af) (ao:l.length≤100) (c1:-4≤p) (c2:p+1≤0) :
 aq ak 152 #[.string (ax l),.int .i64 p] w fun e w'=>e=.returned (.string (ax (o.written l p)))∧ah w.heap.size w w':=by
 have b5:(ax l).size=l.length:=rfl;obtain⟨c,an⟩:∃c:Nat,-(p+1)=(c:Int):=⟨(-(p+1)).toNat,by omega⟩;have bG:=I (show ax (o.written l p)=ax [48,46]++ax (Lib.repeatL [48] c)++ax l by unfold o.written;rw[aU (by omega),ba c2,show (-(p+1)).toNat=c by omega,uN,uN]);have o2:c≤3:=by omega
 have bJ:=I an;have aO:=I (fun (w:af)=>strings_Repeat (ax [48]) c w (by omega) (by rw[fN];simp;omega));generalize ax l=s at b5 bG ⊢;clear an;go_enter Js,Jh;go_wp2_with fail;rw[bJ.out];refine (aO.out _).mono ?_;rintro e w' ⟨rfl,az⟩;have bc:=I (show (⟨(Lib.repeatL (ax [48]).data.toList c).toArray⟩:ByteArray)=ax (Lib.repeatL [48] c) from rfl);generalize (⟨(Lib.repeatL (ax [48]).data.toList c).toArray⟩:ByteArray)=t at bc ⊢;have h6:t.size≤3:=by rw[bc.out,fN,BH];simp;omega
 go_wp2;go_ret;exact⟨xV (by rw[bG.out,bc.out]),az⟩
theorem ahT (l:List UInt8) (p:Int) (w:af) (ao:l.length≤100) (c1:p≤15) (c2:0<p+1) (c3:(l.length:Int)<p+1) :
 aq ak 152 #[.string (ax l),.int .i64 p] w fun e w'=>e=.returned (.string (ax (o.written l p)))∧ah w.heap.size w w':=by
 have b5:(ax l).size=l.length:=rfl;obtain⟨c,an⟩:∃c:Nat,p+1-l.length=(c:Int):=⟨(p+1-l.length).toNat,by omega⟩;obtain⟨q,aE⟩:∃q:Nat,p+1=(q:Int):=⟨(p+1).toNat,by omega⟩;have bG:=I (show o.written l p=o.pL (l++Lib.repeatL [48] c) q by unfold o.written;rw[aU (by omega),aU (by omega),ba c3,show (p+1-l.length).toNat=c by omega,show (p+1).toNat=q by omega]);have o2:c≤16:=by omega
 have hlen:(l++Lib.repeatL [48] c).length≤200:=by simp[BH];omega
 have FK:q≤(l++Lib.repeatL [48] c).length:=by simp[BH];omega
 have bJ:=I an;have b3:=I aE;have aO:=I (fun (w:af)=>strings_Repeat (ax [48]) c w (by omega) (by rw[fN];simp;omega));have zX:=I (fun (w:af)=>QJ (l++Lib.repeatL [48] c) q w FK (by omega));have aN:=I (uN l (Lib.repeatL [48] c));generalize ax l=s at b5 aN ⊢;clear an aE hlen FK;go_enter Js,Jh;go_wp2_with fail;rw[bJ.out];refine (aO.out _).mono ?_;rintro e w' ⟨rfl,az⟩;have bc:=I (show (⟨(Lib.repeatL (ax [48]).data.toList c).toArray⟩:ByteArray)=ax (Lib.repeatL [48] c) from rfl);generalize (⟨(Lib.repeatL (ax [48]).data.toList c).toArray⟩:ByteArray)=t at bc ⊢;have h6:t.size≤16:=by rw[bc.out,fN,BH];simp;omega
 go_wp2_with fail;rw[bc.out,aN.out,b3.out];refine (zX.out _).mono ?_;rintro e w' ⟨rfl,n,rfl⟩;go_wp2;go_ret;exact⟨xV (by rw[bG.out]),below_drewN az _⟩
theorem ahU (l:List UInt8) (p:Int) (w:af) (ao:l.length≤100) (c1:p≤15) (c2:0<p+1) (c3:p+1≤(l.length:Int)) :
 aq ak 152 #[.string (ax l),.int .i64 p] w fun e w'=>e=.returned (.string (ax (o.written l p)))∧ah w.heap.size w w':=by
 have b5:(ax l).size=l.length:=rfl;obtain⟨q,aE⟩:∃q:Nat,p+1=(q:Int):=⟨(p+1).toNat,by omega⟩;have bG:=I (show o.written l p=o.pL l q by unfold o.written;rw[aU (by omega),aU (by omega),aU (by omega),show (p+1).toNat=q by omega]);have FK:q≤l.length:=by omega
 have b3:=I aE;have zX:=I (fun (w:af)=>QJ l q w FK (by omega));generalize ax l=s at b5 zX ⊢;clear aE FK;go_enter Js,Jh;go_wp2_with fail;rw[b3.out];refine (zX.out _).mono ?_;rintro e w' ⟨rfl,n,rfl⟩;go_wp2;go_ret;exact⟨xV (by rw[bG.out]),below_drewN (aK _ _) _⟩
theorem ahV (l:List UInt8) (p:Int) (w:af) (he:Env w) (aa:1≤l.length) (ao:l.length≤100) (hp:-400≤p∧p≤400) :
 aq ak 152 #[.string (ax l),.int .i64 p] w fun e w'=>e=.returned (.string (ax (o.written l p)))∧ah w.heap.size w w':=by
 by_cases c1:p < -4∨15<p
 ·exact ahQ l p w he aa ao hp c1
 ·by_cases c2:p+1≤0
  ·exact ahS l p w ao (by omega) c2
  ·by_cases c3:(l.length:Int)<p+1
   ·exact ahT l p w ao (by omega) (by omega) c3
   ·exact ahU l p w ao (by omega) (by omega) (by omega)
def b2 (w:af) (v:aw) (xs:List Nat):Prop:=
 (v=.slice J 0 0∧xs=[])∨∃b cap,v=.slice (U ⟨b,0,J⟩) xs.length cap∧xs.length≤cap∧b<w.heap.size∧∀(j x:Nat),xs[j]? = U x→w.cell? ⟨b,j,J⟩=U (.int .u32 x)
theorem b2.below {w w':af} {v:aw} {xs:List Nat} (h:b2 w v xs) (ad:ah w.heap.size w w'):b2 w' v xs:=by
 rcases h with h | ⟨b,cap,aa,ae,aJ,bQ⟩
 ·exact .inl h
 ·exact .inr ⟨b,cap,aa,ae,cv aJ ad.size,fun j x hx=>by rw[ad.cell (p:=⟨b,j,J⟩) aJ];exact bQ j x hx⟩
namespace o
def gh (xs:List Nat):List Nat:=(xs.reverse.dropWhile (· == 0)).reverse
theorem ahW (l:List Nat):gh (l++[0])=gh l:=by simp[gh]
theorem ahX {l:List Nat} {c:Nat} (h:c≠0):gh (l++[c])=l++[c]:=by simp[gh,h]
def num:List Nat→Nat
 | []=>0
 | x::xs=>x+4294967296*num xs
theorem xW:∀(a b:List Nat),num (a++b)=num a+4294967296^a.length*num b
 | [],b=>by simp[num]
 | x::a,b=>by rw[rf,num,xW a b,num,ch,ei];rw[fP,←cE,dx 4294967296 (4294967296^a.length)];omega
theorem Ct (xs:List Nat):num (gh xs)=num xs:=by
 have key:∀l:List Nat,num (l.dropWhile (· == 0)).reverse=num l.reverse:=by
  intro l;induction l with
  | nil=>rfl
  | cons a l dw=>
    by_cases h:a=0
    ·subst h;simp[dw,xW,num]
    ·simp[h]
 have:=key xs.reverse;rw[IP] at this;exact this
end o
def WV (w:af) (xs:List Nat) (e:jA) (w':af):Prop:=∃dv,e=.returned dv∧b2 w dv (o.gh xs)∧w=w'
theorem qv (v:aw) (xs:List Nat) (w:af) (h:b2 w v xs) (ao:xs.length≤100000):aq ak 129 #[v] w (WV w xs):=by
 rcases h with ⟨rfl,rfl⟩ | ⟨b,cap,rfl,ae,aJ,bQ⟩
 ·go_enter func129,ntmps129;go_wp2_with fail;refine BN 1 ?_;rw[BX];go_wp2;go_ret;exact⟨_,rfl,.inl ⟨rfl,rfl⟩,rfl⟩
 ·have FL:=I bQ;clear bQ;obtain⟨n,aB⟩:∃n,xs.length=n:=⟨_,rfl⟩;rw[aB] at ae ao ⊢;have bU:=I aB;clear aB;go_enter func129,ntmps129;go_wp2;go_loop [0] (fun s=>∃k:Nat,k≤n∧s=.slice (U ⟨b,0,J⟩) k cap∧Hid (o.gh (xs.take k)=o.gh xs)) (fun s=>match s with | .slice _ k _=>k | _=>0);case atStart=>exact⟨n,aC _,rfl,I (by rw[fp (by rw[bU.out];exact aC _)])⟩
  case round=>
   obtain⟨k,aA,rfl,aX⟩:=hrel;cases k with
   | zero=>
     go_wp2;go_ret;exact⟨_,rfl,.inr ⟨b,cap,by rw[←aX.out];rfl,by rw[←aX.out];simp[o.gh],aJ,fun j x hx=>by rw[←aX.out] at hx;simp[o.gh] at hx⟩,rfl⟩
   | succ k=>
     have fh:k<xs.length:=by rw[bU.out];omega
     have an:=FL.out k xs[k] (eE fh);have bc:=I (show xs.take (k+1)=xs.take k++[xs[k]] from kc fh);generalize xs[k]=c at an bc;by_cases ar:c=0
     ·have im:((c:Int)==0)=ai:=by rw[gy];omega
      have aN:=I (show o.gh (xs.take k)=o.gh xs by rw[←aX.out,bc.out,ar,o.ahW]);clear ar bc aX;go_wp2;go_round;case rel=>exact⟨k,by omega,rfl,aN⟩
      case measure=>simp
     ·have im:((c:Int)==0)=ab:=by rw[cH];omega
      have aN:=I (show o.gh xs=xs.take (k+1) by rw[←aX.out,bc.out,o.ahX ar]);clear ar bc aX;go_wp2;go_ret;have hlen:(xs.take (k+1)).length=k+1:=by rw[gN,bU.out];omega
      refine⟨_,rfl,.inr ⟨b,cap,by rw[aN.out,hlen];rfl,by rw[aN.out,hlen];omega,aJ,fun j x hx=>?_⟩,rfl⟩;rw[aN.out] at hx;rw[rb] at hx;split at hx
      ·exact FL.out j x hx
      ·cases hx
namespace o
def four (x:Nat):List UInt8:=[UInt8.ofNat x,UInt8.ofNat (x/256),UInt8.ofNat (x/65536),UInt8.ofNat (x/16777216)]
def flat (xs:List Nat):List UInt8:=xs.flatMap four
def strip (l:List UInt8):List UInt8:=(l.reverse.dropWhile (· == 0)).reverse
theorem WW (l:List UInt8):strip (l++[0])=strip l:=by simp[strip]
theorem WX {l:List UInt8} {c:UInt8} (h:c≠0):strip (l++[c])=l++[c]:=by simp[strip,h]
theorem ahY (l:List Nat) (x:Nat):flat (l++[x])=flat l++four x:=by simp[flat]
theorem ahZ (l:List Nat):(flat l).length=4*l.length:=by
 induction l with
 | nil=>rfl
 | cons a l dw=>
   have:flat (a::l)=four a++flat l:=by simp[flat]
   rw[this,ey,dw];simp[four];omega
def bytesOf (xs:List Nat):List UInt8:=strip (flat (gh xs))
end o
theorem ah0 {x:Nat} (h:x<4294967296):cV (o.four x)=[.int .u8 ((x:Int)%256),.int .u8 ((x:Int)/256%256),.int .u8 ((x:Int)/65536%256),.int .u8 ((x:Int)/16777216)]:=by
 simp[cV,o.four];omega
theorem cB.shrink {w:af} {base g N n cap:Nat} {xs:List aw} (h:cB w base 5 1 (.slice (U ⟨g,0,J⟩) N cap) N xs) (aB:n≤N):cB w base 5 1 (.slice (U ⟨g,0,J⟩) n cap) n (xs.take n):=by
 have aa:=h.1;rw[fI] at aa;refine⟨by rw[gN,aa];omega,?_⟩;rcases h.2 with ⟨ae,_⟩ | ⟨pD,WY,cur,fY,ae,ad,aY,qo,tp,kf,jL,bn⟩
 ·cases ae
 ·injection ae with aH aT b8;injection aH with aH;injection aH with aH;subst aH b8;refine .inr ⟨g,cap,cur,fY,rfl,ad,aY,qo,by omega,kf,jL,?_⟩;rw[fI] at bn ⊢;rw[←bn,OD,h2 aB]
theorem mo (wr:af) (B:Nat) (x y:aw) {v0 v1:aw} (cl:wr.cell? ⟨B,0,J⟩=U v0) (bH:wr.cell? ⟨B,1,J⟩=U v1) :
 ((wr.setCell ⟨B,0,J⟩ x).setCell ⟨B,1,J⟩ y).cell? ⟨B,0,J⟩=U x∧((wr.setCell ⟨B,0,J⟩ x).setCell ⟨B,1,J⟩ y).cell? ⟨B,1,J⟩=U y∧ah B wr ((wr.setCell ⟨B,0,J⟩ x).setCell ⟨B,1,J⟩ y):=by
 have Fm:(⟨B,0,J⟩:Addr)≠⟨B,1,J⟩:=by simp
 refine⟨?_,?_,EN (EN (aK B wr) (p:=⟨B,0,J⟩) (aC B) _) (p:=⟨B,1,J⟩) (aC B) _⟩
 ·rw[b7 _ _ _ _ Fm.symm];exact uw _ _ _ cl
 ·exact uw _ _ _ (u:=v1) (by rw[b7 _ _ _ _ Fm];exact bH)
def cO (neg:Bool) (l:List UInt8):aw:=.agg #[.bool neg,.string (ax l)]
def Cu (w:af) (neg:Bool) (xs:List Nat) (e:jA) (w':af):Prop:=
 e=.returned (cO (neg && !(o.bytesOf xs).isEmpty) (o.bytesOf xs))∧ah w.heap.size w w'
theorem FM (v:aw) (xs:List Nat) (neg:Bool) (w:af) (h:b2 w v xs) (ao:xs.length≤10000) (hx:∀x ∈ xs,x<4294967296) :
 aq ak 62 #[v,.bool neg] w (Cu w neg xs):=by
 obtain⟨i0,aV,eo,eP,eL⟩:=oU Qb;have H:=I (fun (w':af) (az:ah w.heap.size w w')=>qv v xs w' (h.below az) (by omega));have b9:=I hx;clear hx h;go_enter func62,ntmps62;go_wp2_with fail;refine (H.out _ ((aK _ _).alloc (aC _) _)).mono ?_;rintro e w' ⟨v1,rfl,eX,rfl⟩;have o4:(o.gh xs).length≤10000:=by
  have:(xs.reverse.dropWhile (· == 0)).length≤xs.reverse.length:=(xj _).length_le;unfold o.gh;simp at this ⊢;omega
 obtain⟨ys,Cv⟩:∃ys,o.gh xs=ys:=⟨_,rfl⟩;rw[Cv] at eX o4;have WZ:=I Cv;have jh:=I eX;obtain⟨c7,fj,fK⟩:∃c7 fj,v1=.slice c7 ys.length fj:=by
  rcases eX with ⟨aa,ae⟩ | ⟨b,cap,aa,_⟩
  ·exact⟨J,0,by rw[aa,ae];rfl⟩
  ·exact⟨_,_,aa⟩
 subst fK;clear Cv eX H;obtain⟨n,aB⟩:∃n,ys.length=n:=⟨_,rfl⟩;rw[aB] at o4 jh ⊢;have bU:=I aB;clear aB;go_wp2_with (at_make;refine wpList_make_own _ rfl _ _ 109 rfl (w.heap.size+1) 5 i0 (.int .u8 0) 1 mL aV eo eP .i64 .i64 _ (4*n) rfl rfl ?c0 ?c1 ?c2 ?c3 ?_);case c0=>omega
 case c1=>rw[eL];omega
 case c2=>unfold maxLen;omega
 case c3=>simp
 intro cq h7 gm;obtain⟨gS,iU⟩:∃gS,w.alloc (.cells #[.bool ab,.string ⟨#[]⟩] 46)=gS:=⟨_,rfl⟩;have a6:gS.heap.size=w.heap.size+1:=by rw[←iU];simp
 have fy:gS.heap[w.heap.size]? = U (.cells #[.bool ab,.string ⟨#[]⟩] 46):=by rw[←iU];exact fX _ _
 have bl:ah w.heap.size w gS:=by rw[←iU];exact (aK _ _).alloc (aC _) _
 rw[iU] at jh gm;have cQ:=I (show ah (w.heap.size+1) gS cq from (aK _ _).grown gm (by omega) (fun k aA=>by cases aA));have dH:=gm.size;rw[a6] at dH;have FN:=I (cB.agO h7);have v8:=I fy;have mV:=I bl;have ah1:=I a6;clear h7 gm fy bl a6 aV eo eP eL iU;go_wp2;go_loopw [5,16] (fun s i wr=>∃k:Nat,k≤n∧i=.int .i64 k∧cB wr (w.heap.size+1) 5 1 s (4*k) (cV (o.flat (ys.take k)))∧ah (w.heap.size+1) gS wr∧w.heap.size+1≤wr.heap.size) (fun _ i _=>n-(RowKit.intOf i).toNat);case atStart=>exact⟨0,il _,rfl,FN.out,cQ.out,dH⟩
 case round=>
  obtain⟨k,aA,rfl,b6,ad,a1⟩:=hrel;have bF:=I b6;have ay:=I ad;obtain⟨b1,c1,rfl⟩:=b6.form;clear b6 ad;by_cases bV:k<n
  ·have fh:k<ys.length:=by rw[bU.out];exact bV
   have W0:ys[k]<4294967296:=by
    have hm:ys[k] ∈ xs:=by
     have aa:ys[k] ∈ ys:=jc _;have ae:ys <+: xs:=by
      rw[←WZ.out];unfold o.gh;have:=xj (fun x:Nat=>x==0) (l:=xs.reverse);rw[←NF];simpa using this
     exact ae.mem aa
    exact b9.out _ hm
   have bc:=I (show o.flat (ys.take (k+1))=o.flat (ys.take k)++o.four ys[k] by rw[kc fh,o.ahY]);obtain⟨b,v',gz⟩:∃b,c7=U ⟨b,0,J⟩∧wr.cell? ⟨b,k,J⟩=U (.int .u32 (ys[k]:Nat)):=by
    rcases jh.out with ⟨aa,ae⟩ | ⟨b,cap,aa,ae,aJ,bQ⟩
    ·rw[ae] at fh;simp at fh
    ·injection aa with aH _ _;refine⟨b,aH,?_⟩;rw[ay.out.cell (p:=⟨b,k,J⟩) (by have:=ah1.out;show b<_;omega)];exact bQ k _ (eE fh)
   subst v';generalize ys[k]=x at W0 gz bc;go_wp2_with (at_builtin;refine iI rfl (.tmp 20) (.tmp 32) rfl (w.heap.size+1) _ _ _ rfl bF.out [.int .u8 ((x:Int)%256),.int .u8 ((x:Int)/256%256),.int .u8 ((x:Int)/65536%256),.int .u8 ((x:Int)/16777216)] rfl (jz (news:=[(x:Int)%256,(x:Int)/256%256,(x:Int)/65536%256,(x:Int)/16777216])) (by simp only[ch,du];omega) (by omega) ?_);intro v2 aP iJ gJ;have sq:=I iJ;have o5:=I gJ;obtain⟨a2,c2,rfl⟩:=iJ.form;clear iJ gJ;go_wp2;go_roundw;case rel=>
    refine⟨k+1,by omega,by go_num,?_,o5.out.below ay.out (by omega) (fun g aY=>(bF.out.lt g aY).1),cp a1 o5.out.1.size⟩;have ae:=sq.out;rw[bc.out,nE,ah0 W0];exact ae
   case measure=>simp[RowKit.intOf];omega
  ·obtain rfl:k=n:=by omega
   rw[fp (by rw[bU.out];exact aC _)] at bF;obtain⟨D,dz⟩:∃D,o.flat ys=D:=⟨_,rfl⟩;have FO:D.length=4*k:=by rw[←dz,o.ahZ,bU.out]
   have Kf:=I FO;rw[dz] at bF;have bG:=I (show o.bytesOf xs=o.strip D by unfold o.bytesOf;rw[WZ.out,dz]);have kF:wr.heap[w.heap.size]? = U (.cells #[.bool ab,.string ⟨#[]⟩] 46):=by rw[ay.out.block _ (by omega)];exact v8.out
   have qw:=I kF;have eY:=I (show ah w.heap.size w wr from mV.out.trans (ay.out.mono (by omega)));clear dz FO kF bV aA;rcases bF.out.2 with ⟨ah2,ar⟩ | ⟨g,cap,cur,fY,aD,tn,aY,_,tp,kf,jL,bn⟩
   ·injection ah2 with aH aT b8;subst aH b8;have ej:=Ch (P:=ak) 109 9 mL ke jH (l:=[]) (cB.nil wr 0 5 1);have aN:=I (show o.bytesOf xs=[] by rw[bG.out,show D=[] from r7 (by rw[Kf.out,ar])];rfl);rw[ar];clear ar aT;have cl:wr.cell? ⟨w.heap.size,0,J⟩=U (.bool ab):=by simp[World.cell?,qw.out]
    have bH:wr.cell? ⟨w.heap.size,1,J⟩=U (.string ⟨#[]⟩):=by simp[World.cell?,qw.out]
    have f0:wr.frozen? ⟨w.heap.size,0,J⟩=ab:=by simp[World.frozen?,qw.out]
    have f1:wr.frozen? ⟨w.heap.size,1,J⟩=ab:=by simp[World.frozen?,qw.out]
    cases neg
    ·go_wp2_with fail;refine BN 1 ?_;rw[BX];go_wp2_with fail;obtain⟨aM,aG,gw⟩:=mo wr w.heap.size (.bool ab) (.string (ax [])) cl bH;have iV:=eY.out.trans gw;refine bI (v:=cO ab []) (by simp[bK,BO,go_sem,cO,aM,aG]) rfl ⟨by rw[aN.out];rfl,iV⟩
    ·go_wp2_with fail;refine BN 1 ?_;rw[BX];go_wp2_with fail;obtain⟨aM,aG,gw⟩:=mo wr w.heap.size (.bool ab) (.string (ax [])) cl bH;have iV:=eY.out.trans gw;refine bI (v:=cO ab []) (by simp[bK,BO,go_sem,cO,aM,aG]) rfl ⟨by rw[aN.out];rfl,iV⟩
   ·injection aD with aH aT b8;subst aH b8;have bJ:=I (show ∀j (h:j<D.length),wr.cell? ⟨g,j,J⟩=U (.int .u8 (D[j].toNat:Int)) from fun j h=>by
     have:=bF.out.cells (g:=g) rfl j (.int .u8 (D[j].toNat:Int)) (by simp[cV,h]);rwa[B2,hc] at this)
    clear aY bn aT jL;go_wp2;go_loop [5] (fun s=>∃m:Nat,m≤4*k∧s=.slice (U ⟨g,0,J⟩) m c1∧Hid (o.strip (D.take m)=o.strip D)) (fun s=>match s with | .slice _ m _=>m | _=>0);case atStart=>exact⟨4*k,aC _,rfl,I (by rw[fp (by rw[Kf.out];exact aC _)])⟩
    case round=>
     obtain⟨m,hm,rfl,aX⟩:=hrel;cases m with
     | zero=>
       have ej:=Ch (P:=ak) 109 9 mL ke jH (l:=[]) (bF.out.shrink (n:=0) (by omega));have aN:=I (show o.bytesOf xs=[] by rw[bG.out,←aX.out];rfl);have cl:wr.cell? ⟨w.heap.size,0,J⟩=U (.bool ab):=by simp[World.cell?,qw.out]
       have bH:wr.cell? ⟨w.heap.size,1,J⟩=U (.string ⟨#[]⟩):=by simp[World.cell?,qw.out]
       have f0:wr.frozen? ⟨w.heap.size,0,J⟩=ab:=by simp[World.frozen?,qw.out]
       have f1:wr.frozen? ⟨w.heap.size,1,J⟩=ab:=by simp[World.frozen?,qw.out]
       clear aX;cases neg
       ·go_wp2_with fail;obtain⟨aM,aG,gw⟩:=mo wr w.heap.size (.bool ab) (.string (ax [])) cl bH;have iV:=eY.out.trans gw;refine bI (v:=cO ab []) (by simp[bK,BO,go_sem,cO,aM,aG]) rfl ⟨by rw[aN.out];rfl,iV⟩
       ·go_wp2_with fail;obtain⟨aM,aG,gw⟩:=mo wr w.heap.size (.bool ab) (.string (ax [])) cl bH;have iV:=eY.out.trans gw;refine bI (v:=cO ab []) (by simp[bK,BO,go_sem,cO,aM,aG]) rfl ⟨by rw[aN.out];rfl,iV⟩
     | succ m=>
       have hd:m<D.length:=by rw[Kf.out];omega
       have an:=bJ.out m hd;have bc:=I (show D.take (m+1)=D.take m++[D[m]] from kc hd);generalize D[m]=c at an bc;by_cases ar:c=0
       ·have im:((c.toNat:Int)==0)=ai:=by rw[ar];rfl
        have aN:=I (show o.strip (D.take m)=o.strip D by rw[←aX.out,bc.out,ar,o.WW]);clear ar bc aX;go_wp2;go_round;case rel=>exact⟨m,by omega,rfl,aN⟩
        case measure=>simp
       ·have im:((c.toNat:Int)==0)=ab:=by
         rw[cH];intro h;apply ar;apply UInt8.toNat_inj.1;rw[show (0:UInt8).toNat=0 from rfl];omega
        have aN:=I (show o.strip D=D.take (m+1) by rw[←aX.out,bc.out,o.WX ar]);have o1:(D.take (m+1)).length=m+1:=by rw[gN,Kf.out];omega
        have ej:=Ch (P:=ak) 109 9 mL ke jH (l:=D.take (m+1)) (by have:=bF.out.shrink (n:=m+1) (by omega);simpa[cV,List.map_take] using this);obtain⟨E,ef⟩:∃E,D.take (m+1)=E:=⟨_,rfl⟩;rw[ef] at aN ej o1;have aN:=I (bG.out.trans aN.out);have dT:E.isEmpty=ab:=by cases E with | nil=>simp at o1 | cons a l=>rfl
        clear ar bc aX ef;have cl:wr.cell? ⟨w.heap.size,0,J⟩=U (.bool ab):=by simp[World.cell?,qw.out]
        have bH:wr.cell? ⟨w.heap.size,1,J⟩=U (.string ⟨#[]⟩):=by simp[World.cell?,qw.out]
        have f0:wr.frozen? ⟨w.heap.size,0,J⟩=ab:=by simp[World.frozen?,qw.out]
        have f1:wr.frozen? ⟨w.heap.size,1,J⟩=ab:=by simp[World.frozen?,qw.out]
        cases neg
        ·go_wp2_with fail;obtain⟨aM,aG,gw⟩:=mo wr w.heap.size (.bool ab) (.string (ax E)) cl bH;have iV:=eY.out.trans gw;refine bI (v:=cO ab E) (by simp[bK,BO,go_sem,cO,aM,aG]) rfl ⟨by rw[aN.out];rfl,iV⟩
        ·go_wp2_with fail;obtain⟨aM,aG,gw⟩:=mo wr w.heap.size (.bool ai) (.string (ax E)) cl bH;have iV:=eY.out.trans gw;refine bI (v:=cO ai E) (by simp[bK,BO,go_sem,cO,aM,aG]) rfl ⟨by rw[aN.out,dT];rfl,iV⟩
namespace av
open Ieee
theorem Ki {a:Nat} (bd:a%9223372036854775808<9218868437227405312) (aX:a%9223372036854775808≠0):D.order a 0=U .lt∨D.order a 0=U .gt:=by
 have aB:dC a=ab:=by simp[dC];omega
 rw[td aB (by decide)];have ar:val (D.read 0)=0:=by rw[jK];decide +kernel
 have aD:val (D.read a)≠0:=by
  obtain⟨s,m,i,e,hm⟩:∃s m i,D.read a=.number s m i∧m≠0:=by
   rw[jK,ba bd];split
   ·exact⟨_,_,_,rfl,aX⟩
   ·exact⟨_,_,_,rfl,by omega⟩
  rw[e];simp only[val];unfold Ieee.signed;rw[mM];have hp:0<m*2^(i+1074).toNat:=lM (by omega) (dK (by decide));generalize m*2^(i+1074).toNat=v at *;cases s<;>simp<;>omega
 rw[ar];rcases Int.lt_or_gt_of_ne aD with h | h
 ·left;rw[tc h]
 ·right;rw[vP h]
end av
theorem o.ah4 (neg:Bool) (ds:List UInt8) (x:Int) (h:∀c ∈ ds,48≤c.toNat∧c.toNat≤57) (ao:1≤ds.length):Lib.trimPrefix (o.lR neg ds x) [45]=o.kE ds++101::o.jN x∧Lib.hasPrefix (o.lR neg ds x) [45]=neg:=by
 rw[o.ahm];cases ds with
 | nil=>simp at ao
 | cons d r=>
   have aL:d≠45:=o.Kd (h d (by simp)) (by decide);have hh:Lib.hasPrefix (o.kE (d::r)++101::o.jN x) [45]=ab:=by
    unfold Lib.hasPrefix o.kE;simp[List.isPrefixOf];exact fun e=>aL e.symm
   cases neg
   ·unfold Lib.trimPrefix;simp only[oL,oV,se];rw[hh];simp
   ·have:Lib.hasPrefix ((if ai=ai then [45] else [])++(o.kE (d::r)++101::o.jN x)) [45]=ai:=by
     unfold Lib.hasPrefix;simp[List.isPrefixOf]
    refine⟨?_,this⟩;unfold Lib.trimPrefix;rw[this];simp
theorem W1 (d:List UInt8) (p:Int) (hp:-400≤p∧p≤400):(o.written d p).length≤d.length+440:=by
 unfold o.written;have aa:=Ke d 1;have ae:=WU p hp;split
 ·simp;omega
 ·split
  ·simp[BH];omega
  ·split
   ·have:=Ke (d++Lib.repeatL [48] (p+1-d.length).toNat) (p+1).toNat;rw[ey,BH] at this;simp only[ch,du] at this;omega
   ·have:=Ke d (p+1).toNat;omega
theorem ah5 (a:Nat) (w:af) (aS:a<18446744073709551616) (bd:a%9223372036854775808<9218868437227405312) (aX:a%9223372036854775808≠0) (he:Env w) :
 aq ak 99 #[.int .u64 a] w fun e w'=>e=.returned (.string (ax (o.FH a)))∧ah w.heap.size w w':=by
 have QK:a/4503599627370496%2048<2047:=by omega
 obtain⟨gv,gq,tA,QL,W2⟩:=o.WQ QK aX;have b6:FloatKind.f64.format.order a a=U .eq:=by rw[av.Ca];unfold av.dC;rw[aU (by simp;omega)]
 have i1:au (a=9218868437227405312)=ab:=by simp;omega
 have i2:au (a=18442240474082181120)=ab:=by simp;omega
 have wb:=I (fun w=>QF a aS w);have we:=I (fun w=>QG a aS w);rw[i1] at wb;rw[i2] at we;have fQ:=I (av.Ki bd aX);have bZ:=I (ahq a w aS QK aX he);obtain⟨neg,nG⟩:∃neg:Bool,au (9223372036854775808≤a)=neg:=⟨_,rfl⟩;obtain⟨ds,Kj⟩:∃ds,o.tv a=ds:=⟨_,rfl⟩;obtain⟨x,hx⟩:∃x,o.uJ a-1=x:=⟨_,rfl⟩;have dZ:o.qu a=o.lR neg ds x:=by unfold o.qu;rw[nG,Kj,hx]
 rw[dZ] at bZ;rw[Kj] at gv gq tA;have gu:-400≤x:=by omega
 have gg:x≤400:=by omega
 have bG:=I (show ax (o.FH a)=ax ((if neg then [45] else [])++o.written ds x) by unfold o.FH;rw[Kj,hx,←nG];simp);obtain⟨t1,t2⟩:=o.ah4 neg ds x gv gq;have zZ:=I (show ∀w,aq ak 149 #[.string (ax (o.lR neg ds x)),.string (ax [45])] w fun e w'=>e=.returned (.tuple #[.string (ax (o.kE ds++101::o.jN x)),.bool neg])∧w'=w from fun w=>by
  have h:=strings_CutPrefix (ax (o.lR neg ds x)) (ax [45]) w;change aq _ _ _ w (fun e w'=>e=.returned (.tuple #[.string (ax (Lib.trimPrefix (o.lR neg ds x) [45])),.bool (Lib.hasPrefix (o.lR neg ds x) [45])])∧w'=w)at h;rw[t1,t2] at h;exact h)
 have ah6:=o.aho ds;have nY:=o.ahj x;have FU:=I (show ∀w,Env w→aq ak 150 #[.string (ax (o.kE ds++101::o.jN x)),.string (ax [101])] w fun e w'=>e=.returned (.tuple #[.string (ax (o.kE ds)),.string (ax (o.jN x)),.bool ai])∧∃n,w'=w.drewN n from fun w he=>by
  obtain⟨FV,rq⟩:=he.P1;have h:=strings_Cut (ax (o.kE ds++101::o.jN x)) (ax [101]) FV w (by rw[fN];simp;omega) rq;change aq _ _ _ w (fun e w'=>e=.returned (.tuple #[.string (ax (Lib.cut (o.kE ds++101::o.jN x) [101]).1),.string (ax (Lib.cut (o.kE ds++101::o.jN x) [101]).2.1),.bool (Lib.cut (o.kE ds++101::o.jN x) [101]).2.2])∧∃n,w'=w.drewN n)at h;rw[o.ahf 101 _ _ (o.head_mem gv (by decide) (by decide))] at h;exact h)
 have xU:=I (show ∀w,aq ak 151 #[.string (ax (o.jN x))] w fun e w'=>e=.returned (.tuple #[.int .i64 x,.nilIface])∧ah w.heap.size w w' from fun w=>by
  refine (strconv_Atoi (ax (o.jN x)) x (by rw[fN];omega) (o.ahi (by omega) (by omega)) w).mono ?_;rintro e w' ⟨rfl,t,rfl⟩;exact⟨rfl,bytesWorld_below _ _ _⟩)
 have QM:=I (show ∀w,Env w→aq ak 153 #[.string (ax (o.kE ds)),.string (ax [46]),.string (ax []),.int .i64 1] w fun e w'=>e=.returned (.string (ax ds))∧ah w.heap.size w w' from fun w he=>by
  obtain⟨FV,rq⟩:=he.P1;have h:=strings_Replace (ax (o.kE ds)) (ax [46]) (ax []) 1 FV w (by rw[fN];omega) rq (by decide) (by rw[fN,fN];simp;omega);change aq _ _ _ w (fun e w'=>e=.returned (.string (ax (Lib.replace (o.kE ds) [46] [] 1)))∧ah w.heap.size w w')at h;rw[o.ahn gv] at h;exact h)
 have ah7:=I (fun w he=>ahV ds x w he gq (by omega) ⟨gu,gg⟩);have f':(ax (o.written ds x)).size≤1000:=by rw[fN];have:=W1 ds x ⟨gu,gg⟩;omega
 have eK:=I (show aq ak 148 #[.float .f64 a,.int .u8 101,.int .i64 (-1),.int .i64 64] w fun e w'=>e=.returned (.string (ax (o.lR neg ds x)))∧ah w.heap.size w w' from bZ.out);clear bZ;have de:=I (uN [45] (o.written ds x));clear gv gq tA QL W2 ah6 nY t1 t2 dZ Kj hx nG i1 i2 bd aX QK gu gg;generalize ax (o.lR neg ds x)=qx at *;generalize ax (o.kE ds++101::o.jN x)=nH at *;generalize ax (o.kE ds)=awB at *;generalize ax (o.jN x)=awC at *;generalize ax ds=awD at *;have mq:FloatKind.f64.format.order a 0=U .lt∨FloatKind.f64.format.order a 0=U .gt:=fQ.out;clear fQ;rcases mq with eo | eo;all_goals
  go_enter E5,E0;go_wp2_with fail;refine (h3 _ _).mono ?_;rintro e w' ⟨rfl,rfl⟩;go_wp2_with fail;refine (wb.out _).mono ?_;rintro e w' ⟨rfl,rfl⟩;go_wp2_with fail;refine (we.out _).mono ?_;rintro e w' ⟨rfl,rfl⟩;go_wp2_with fail;refine eK.out.mono ?_;rintro e cq ⟨rfl,gT⟩;go_wp2_with fail;refine (zZ.out _).mono ?_;rintro e w' ⟨rfl,rfl⟩;have mR:=he.below gT;go_wp2_with fail;refine (FU.out _ mR).mono ?_;rintro e w' ⟨rfl,lu,rfl⟩;go_wp2_with fail;refine (xU.out _).mono ?_;rintro e cc ⟨rfl,hf⟩;have j2:ah w.heap.size w cc:=(below_drewN gT lu).trans (hf.mono gT.size);have z1:=he.below j2;clear gT hf mR;go_wp2_with fail;refine (QM.out _ z1).mono ?_;rintro e aQ ⟨rfl,xX⟩;have z6:ah w.heap.size w aQ:=j2.trans (xX.mono j2.size);have QN:=z1.below xX;clear xX;go_wp2_with fail;refine (ah7.out _ QN).mono ?_;rintro e cf ⟨rfl,W3⟩;have ay:=I (z6.trans (W3.mono z6.size));obtain⟨awE,QO⟩:∃s,ax (o.written ds x)=s:=⟨_,rfl⟩;rw[QO] at f' de ⊢;have lU:=I QO;clear QO z6 W3 j2 z1 QN;cases neg
  ·go_wp2;go_ret;exact⟨xV (by rw[bG.out,←lU.out];rfl),ay.out⟩
  ·go_wp2;go_ret;exact⟨xV (by rw[bG.out];exact de.out),ay.out⟩
end Go.Proofs.YtkhphoonnkoipaaGreatDoor
namespace Go.Proofs.YtkhphoonnkoipaaGreatDoor
def FP (n:Int):aw:=cO (au (n<0) && !(o.bytesOf [n.natAbs%4294967296,n.natAbs/4294967296]).isEmpty) (o.bytesOf [n.natAbs%4294967296,n.natAbs/4294967296])
theorem ah3 (w:af) (x y:Nat) (T:TypeId):b2 (w.alloc (.cells #[.int .u32 (x:Int),.int .u32 (y:Int)] T)) (.slice (U ⟨w.heap.size,0,J⟩) 2 2) [x,y]:=by
 refine .inr ⟨w.heap.size,2,rfl,aC _,by simp,fun j z aX=>?_⟩;match j,aX with
 | 0,aX=>simp at aX;subst aX;simp
 | 1,aX=>simp at aX;subst aX;simp
theorem Kg (n:Int) (w:af) (aa:-9223372036854775808≤n) (ae:n≤9223372036854775807) :
 aq ak 50 #[.int .i64 n] w fun e w'=>e=.returned (FP n)∧ah w.heap.size w w':=by
 obtain⟨a,aS⟩:∃a:Nat,n.natAbs=a:=⟨_,rfl⟩;have kW:a≤9223372036854775808:=by omega
 obtain⟨x,hx⟩:∃x:Nat,(a:Int)%4294967296=x:=⟨a%4294967296,by omega⟩;obtain⟨y,aW⟩:∃y:Nat,(a:Int)/4294967296=y:=⟨a/4294967296,by omega⟩;obtain⟨b,ad⟩:∃b:Bool,au (n<0)=b:=⟨_,rfl⟩;have cM:=I (show FP n=cO (b && !(o.bytesOf [x,y]).isEmpty) (o.bytesOf [x,y]) by unfold FP;rw[aS,ad,show a%4294967296=x by omega,show a/4294967296=y by omega]);have gg:x<4294967296:=by omega
 have zY:y<4294967296:=by omega
 have cD:=I (fun (W:af)=>FM _ [x,y] b _ (ah3 W x y 96) (by simp) (by intro z aX;simp at aX;omega));obtain⟨z,aX⟩:∃z,IntKind.u64.wrap n=z:=⟨_,rfl⟩;have hw:n<0→IntKind.u64.wrap (-z)=(a:Int):=fun aB=>by rw[←aX,ha,ha];omega
 have uH:¬ n<0→z=(a:Int):=fun aB=>by rw[←aX,ha];omega
 have tx:(y:Int)%4294967296=y:=by omega
 clear aS;by_cases aB:n<0
 ·obtain rfl:b=ai:=by rw[←ad];simpa using aB
  have wa:=hw aB;clear hw uH ad;go_enter func50,ntmps50;go_wp2_with fail;have h:=cD.out (w.alloc (.cells #[.bool ab,.string ⟨#[]⟩] 46));rw[show (w.alloc (.cells #[.bool ab,.string ⟨#[]⟩] 46)).heap.size=w.heap.size+1 by simp] at h;refine h.mono ?_;rintro e aP ⟨rfl,az⟩;have dP:ah (w.heap.size+1) (w.alloc (.cells #[.bool ab,.string ⟨#[]⟩] 46)) aP:=((aK _ _).alloc (by simp) _).trans (az.mono (by simp));have bS:aP.heap[w.heap.size]? = U (.cells #[.bool ab,.string ⟨#[]⟩] 46):=by rw[dP.block _ (by omega)];exact fX _ _
  have cl:aP.cell? ⟨w.heap.size,0,J⟩=U (.bool ab):=by simp[World.cell?,bS]
  have bH:aP.cell? ⟨w.heap.size,1,J⟩=U (.string ⟨#[]⟩):=by simp[World.cell?,bS]
  have f0:aP.frozen? ⟨w.heap.size,0,J⟩=ab:=by simp[World.frozen?,bS]
  have f1:aP.frozen? ⟨w.heap.size,1,J⟩=ab:=by simp[World.frozen?,bS]
  have eY:=I (show ah w.heap.size w aP from ((aK _ _).alloc (aC _) _).trans (dP.mono (by omega)));clear az dP bS h;unfold cO;generalize (ai && !(o.bytesOf [x,y]).isEmpty)=g at cM ⊢;obtain⟨S,cP⟩:∃S,ax (o.bytesOf [x,y])=S:=⟨_,rfl⟩;have aN:=I cP;rw[cP];clear cP;go_wp2_with fail;obtain⟨aM,aG,gw⟩:=mo aP w.heap.size (.bool g) (.string S) cl bH;have iV:=eY.out.trans gw;refine bI (v:=.agg #[.bool g,.string S]) (by simp[bK,results50,go_sem,aM,aG]) rfl ⟨by rw[cM.out];unfold cO;rw[aN.out],iV⟩
 ·obtain rfl:b=ab:=by rw[←ad];simpa using aB
  have wa:=uH aB;clear hw uH ad;go_enter func50,ntmps50;go_wp2_with fail;have h:=cD.out (w.alloc (.cells #[.bool ab,.string ⟨#[]⟩] 46));rw[show (w.alloc (.cells #[.bool ab,.string ⟨#[]⟩] 46)).heap.size=w.heap.size+1 by simp] at h;refine h.mono ?_;rintro e aP ⟨rfl,az⟩;have dP:ah (w.heap.size+1) (w.alloc (.cells #[.bool ab,.string ⟨#[]⟩] 46)) aP:=((aK _ _).alloc (by simp) _).trans (az.mono (by simp));have bS:aP.heap[w.heap.size]? = U (.cells #[.bool ab,.string ⟨#[]⟩] 46):=by rw[dP.block _ (by omega)];exact fX _ _
  have cl:aP.cell? ⟨w.heap.size,0,J⟩=U (.bool ab):=by simp[World.cell?,bS]
  have bH:aP.cell? ⟨w.heap.size,1,J⟩=U (.string ⟨#[]⟩):=by simp[World.cell?,bS]
  have f0:aP.frozen? ⟨w.heap.size,0,J⟩=ab:=by simp[World.frozen?,bS]
  have f1:aP.frozen? ⟨w.heap.size,1,J⟩=ab:=by simp[World.frozen?,bS]
  have eY:=I (show ah w.heap.size w aP from ((aK _ _).alloc (aC _) _).trans (dP.mono (by omega)));clear az dP bS h;unfold cO;generalize (ab && !(o.bytesOf [x,y]).isEmpty)=g at cM ⊢;obtain⟨S,cP⟩:∃S,ax (o.bytesOf [x,y])=S:=⟨_,rfl⟩;have aN:=I cP;rw[cP];clear cP;go_wp2_with fail;obtain⟨aM,aG,gw⟩:=mo aP w.heap.size (.bool g) (.string S) cl bH;have iV:=eY.out.trans gw;refine bI (v:=.agg #[.bool g,.string S]) (by simp[bK,results50,go_sem,aM,aG]) rfl ⟨by rw[cM.out];unfold cO;rw[aN.out],iV⟩
namespace o
def uP:List UInt8:=[48,49,50,51,52,53,54,55,56,57]
def rest (l:List UInt8):List UInt8:=Lib.trimLeftS l uP
def ji (l:List UInt8):Nat:=l.length-(rest l).length
theorem QP (l:List UInt8):(rest l).length≤l.length:=(xj _).length_le
theorem W4 (l:List UInt8):l.drop (ji l)=rest l:=by
 obtain⟨t,bn⟩:=xj (fun x=>uP.contains x) (l:=l);have e:t++rest l=l:=bn;unfold ji;have:l.length-(rest l).length=t.length:=by have:=eS List.length e;simp at this;omega
 rw[this];conv=>lhs;rw[←e]
 simp
def formed (l:List UInt8):Bool:=
 if 400<l.length then ab else
 if ji (Lib.trimPrefix l [45])=0∨Lib.hasPrefix (rest (Lib.trimPrefix l [45])) [46]=ab∨ji (Lib.trimPrefix (rest (Lib.trimPrefix l [45])) [46])=0 then ab else
 if (rest (Lib.trimPrefix (rest (Lib.trimPrefix l [45])) [46])).isEmpty then ai else
 Lib.hasPrefix (rest (Lib.trimPrefix (rest (Lib.trimPrefix l [45])) [46])) [101] && !(Lib.trimPrefix (Lib.trimPrefix (rest (Lib.trimPrefix (rest (Lib.trimPrefix l [45])) [46])) [101]) [45]).isEmpty&&ji (Lib.trimPrefix (Lib.trimPrefix (rest (Lib.trimPrefix (rest (Lib.trimPrefix l [45])) [46])) [101]) [45])==(Lib.trimPrefix (Lib.trimPrefix (rest (Lib.trimPrefix (rest (Lib.trimPrefix l [45])) [46])) [101]) [45]).length
end o
theorem QQ (l:List UInt8) (w:af) (ao:l.length≤400) :
 aq ak 195 #[.string (ax l)] w fun e w'=>e=.returned (.int .i64 (o.ji l))∧ah w.heap.size w w':=by
 have b5:(ax l).size=l.length:=rfl;have bc:=I (show ∀w,aq ak 192 #[.string (ax l),.string (ax o.uP)] w fun e w'=>e=.returned (.string (ax (o.rest l)))∧ah w.heap.size w w' from fun w=>by
  refine ahN (ax l) (ax o.uP) w (by decide) ?_;intro j b ad;have key:∀b ∈ o.uP,b.toNat<128:=by decide
  exact key b (r9 ad))
 have W5:(ax (o.rest l)).size=(o.rest l).length:=rfl;have aF:=o.QP l;have bU:=I (show ((o.ji l:Nat):Int)=(l.length:Int)-(o.rest l).length by unfold o.ji;omega);generalize ax l=s at b5 bc ⊢;generalize ax (o.rest l)=t at W5 bc ⊢;go_enter func195,ntmps195;go_wp2_with fail;refine (bc.out _).mono ?_;rintro e w' ⟨rfl,az⟩;go_wp2;go_ret;exact⟨jf (by rw[bU.out]),az⟩
theorem QR (l p:List UInt8) (w:af):aq ak 149 #[.string (ax l),.string (ax p)] w fun e w'=>e=.returned (.tuple #[.string (ax (Lib.trimPrefix l p)),.bool (Lib.hasPrefix l p)])∧w'=w:=strings_CutPrefix (ax l) (ax p) w
theorem W6 (l p:List UInt8) (w:af):aq ak 194 #[.string (ax l),.string (ax p)] w fun e w'=>e=.returned (.string (ax (Lib.trimPrefix l p)))∧w'=w:=strings_TrimPrefix (ax l) (ax p) w
theorem Kk (l p:List UInt8):(Lib.trimPrefix l p).length≤l.length:=by unfold Lib.trimPrefix;split<;>simp
theorem W7 (l:List UInt8):(ax l).extract (o.ji l) l.length=ax (o.rest l):=by
 rw[QI,o.W4,fp (by rw[←o.W4];simp)]
theorem W8 (l:List UInt8):(ax l).toList.isEmpty=l.isEmpty:=by rw[Lib.toList_data]
def ah8 (b:Bool) (w:af) (e:jA) (w':af):Prop:=e=.returned (.bool b)∧ah w.heap.size w w'
theorem W9 (l:List UInt8) (w:af) (jO:l.length≤1000000) :
 aq ak 160 #[.string (ax l)] w (ah8 (o.formed l) w):=by
 have b5:(ax l).size=l.length:=rfl;by_cases c1:400<l.length
 ·have bG:=I (show o.formed l=ab by unfold o.formed;rw[ba c1]);generalize ax l=W' at *;go_enter Pr,OX;go_wp2;go_ret;exact⟨xJ (by rw[bG.out]),aK _ _⟩
 ·have ah9:l.length≤400:=by omega
  have xY:=I (W6 l [45]);obtain⟨s1,dH⟩:∃s1,Lib.trimPrefix l [45]=s1:=⟨_,rfl⟩;have iT:s1.length≤400:=by rw[←dH];exact cp (Kk l [45]) ah9
  rw[dH] at xY;have QS:=I (fun w=>QQ s1 w iT);have aH:=I (W7 s1);have n5:(ax s1).size=s1.length:=rfl;have dE:o.ji s1≤s1.length:=by unfold o.ji;omega
  obtain⟨t1,rr⟩:∃t1,o.rest s1=t1:=⟨_,rfl⟩;rw[rr] at aH;have zZ:=I (QR t1 [46]);obtain⟨r,aF⟩:∃r,Lib.trimPrefix t1 [46]=r:=⟨_,rfl⟩;obtain⟨h8,wg⟩:∃h8,Lib.hasPrefix t1 [46]=h8:=⟨_,rfl⟩;rw[aF,wg] at zZ;have pK:r.length≤400:=by
   rw[←aF];refine cp (Kk t1 [46]) ?_;rw[←rr];exact cp (o.QP _) iT
  have hT:=I (fun w=>QQ r w pK);have aT:=I (W7 r);have z2:(ax r).size=r.length:=rfl;have lu:o.ji r≤r.length:=by unfold o.ji;omega
  obtain⟨cN,iK⟩:∃cN,o.rest r=cN:=⟨_,rfl⟩;rw[iK] at aT;have FU:=I (QR cN [101]);obtain⟨is,qy⟩:∃is,Lib.hasPrefix cN [101]=is:=⟨_,rfl⟩;obtain⟨q,aE⟩:∃q,Lib.trimPrefix cN [101]=q:=⟨_,rfl⟩;rw[qy,aE] at FU;have uQ:=I (W6 q [45]);obtain⟨gG,xZ⟩:∃gG,Lib.trimPrefix q [45]=gG:=⟨_,rfl⟩;rw[xZ] at uQ;have tB:gG.length≤400:=by
   rw[←xZ,←aE,←iK];exact cp (Kk _ _) (cp (Kk _ _) (cp (o.QP _) pK))
  have QT:=I (fun w=>QQ gG w tB);have z3:(ax gG).size=gG.length:=rfl;have bG:=I (show o.formed l=if o.ji s1=0∨h8=ab∨o.ji r=0 then ab else if cN.isEmpty then ai else (is && !gG.isEmpty&&o.ji gG==gG.length) by
   unfold o.formed;rw[aU c1];simp only[dH,rr,aF,wg,iK,qy,aE,xZ])
  have cF:=W8 cN;have fw:=W8 gG;clear dH rr aF wg iK qy aE xZ c1;generalize ax l=W' at *;generalize ax s1=qx at *;generalize ax t1=awF at *;generalize ax r=lx at *;generalize ax cN=awG at *;generalize ax q=x0 at *;generalize ax gG=ag at *;generalize o.ji s1=n at *;generalize o.ji r=k at *;generalize o.ji gG=j at *;go_enter Pr,OX;go_wp2_with fail;refine (xY.out _).mono ?_;rintro e w' ⟨rfl,rfl⟩;go_wp2_with fail;refine (QS.out _).mono ?_;rintro e cq ⟨rfl,gT⟩;have awH:=aH.out;have Xa:=aT.out;go_wp2_with fail;refine (zZ.out _).mono ?_;rintro e w' ⟨rfl,rfl⟩;go_wp2_with fail;refine (hT.out _).mono ?_;rintro e aP ⟨rfl,dP⟩;have az:=gT.trans (dP.mono gT.size);clear gT dP;by_cases kh:n=0
  ·have ad:((n:Int)==0)=ai:=by rw[gy];omega
   have b3:=I (show o.formed l=ab by rw[bG.out,ba (.inl kh)]);clear kh bG;go_wp2;go_ret;exact⟨xJ (by rw[b3.out]),az⟩
  have ad:((n:Int)==0)=ab:=by rw[cH];omega
  cases h8
  ·have b3:=I (show o.formed l=ab by rw[bG.out,ba (.inr (.inl rfl))]);clear kh bG;go_wp2;go_ret;exact⟨xJ (by rw[b3.out]),az⟩
  by_cases h4:k=0
  ·have bg:((k:Int)==0)=ai:=by rw[gy];omega
   have b3:=I (show o.formed l=ab by rw[bG.out,ba (.inr (.inr h4))]);clear kh h4 bG;go_wp2;go_ret;exact⟨xJ (by rw[b3.out]),az⟩
  have bg:((k:Int)==0)=ab:=by rw[cH];omega
  have ki:=I (show o.formed l=if cN.isEmpty then ai else (is && !gG.isEmpty&&j==gG.length) by rw[bG.out,aU (by simp[kh,h4])]);clear bG kh h4;cases qk:cN.isEmpty
  ·rw[qk] at cF ki;go_wp2_with fail;refine (FU.out _).mono ?_;rintro e w' ⟨rfl,rfl⟩;go_wp2_with fail;refine (uQ.out _).mono ?_;rintro e w' ⟨rfl,rfl⟩;cases is
   ·have b3:=I (show o.formed l=ab by rw[ki.out];simp);clear ki;go_wp2;go_ret;exact⟨xJ (by rw[b3.out]),az⟩
   cases z1:gG.isEmpty
   ·rw[z1] at fw ki;go_wp2_with fail;refine (QT.out _).mono ?_;rintro e cc ⟨rfl,hf⟩;have b3:=I (show o.formed l=((j:Int)==(gG.length:Int)) by
     rw[ki.out,mg];simp;omega)
    clear ki;go_wp2;go_ret;exact⟨xJ (by rw[b3.out]),az.trans (hf.mono az.size)⟩
   ·rw[z1] at fw ki;have b3:=I (show o.formed l=ab by rw[ki.out];simp);clear ki;go_wp2;go_ret;exact⟨xJ (by rw[b3.out]),az⟩
  ·rw[qk] at cF ki;have b3:=I (show o.formed l=ai by rw[ki.out];simp);clear ki;go_wp2;go_ret;exact⟨xJ (by rw[b3.out]),az⟩
def o.uO (neg:Bool) (l:List UInt8):Int:=
 if 4096<l.length then 92 else if l.length=0 then (if neg then 1 else 0) else if l[l.length-1]? = U 0 then 1 else 0
theorem Cw (neg:Bool) (l:List UInt8) (w:af) (ao:l.length≤100000000) :
 aq ak 73 #[cO neg l] w fun e w'=>e=.returned (.int .i64 (o.uO neg l))∧ah w.heap.size w w':=by
 unfold cO;have b5:(ax l).size=l.length:=rfl;obtain⟨r,aF⟩:∃r,o.uO neg l=r:=⟨_,rfl⟩;rw[aF];have Cx:∀(h:l.length-1<(ax l).size),l[l.length-1]? = U ((ax l)[l.length-1]'h):=by
  intro h;rw[fN] at h;rw[eE h];rfl
 have FQ:=I Cx;clear Cx;obtain⟨n,aB⟩:∃n,l.length=n:=⟨_,rfl⟩;unfold o.uO at aF;rw[aB] at b5 ao aF FQ;have bG:=I aF;clear aF aB;generalize ax l=s at *;by_cases c1:4096<n
 ·have b3:=I (show r=92 by rw[←bG.out,ba c1]);go_enter E4,EZ;go_wp2;go_ret;exact⟨jf (by rw[b3.out]),(aK _ _).alloc (aC _) _⟩
 by_cases c2:n=0
 ·have cF:((n:Int)==0)=ai:=by rw[gy];omega
  have b3:=I (show r=if neg then 1 else 0 by rw[←bG.out,aU c1,ba c2]);clear c2 FQ;cases neg
  ·go_enter E4,EZ;go_wp2;go_ret;exact⟨jf (by rw[b3.out];rfl),(aK _ _).alloc (aC _) _⟩
  ·go_enter E4,EZ;go_wp2;go_ret;exact⟨jf (by rw[b3.out];rfl),(aK _ _).alloc (aC _) _⟩
 ·have cF:((n:Int)==0)=ab:=by rw[cH];omega
  have q:n-1<s.size:=by omega
  have o6:=FQ.out q;obtain⟨c,an⟩:∃c,s[n-1]'q=c:=⟨_,rfl⟩;rw[an] at o6;have lT:1≤n:=by omega
  by_cases c3:c=0
  ·have fw:((c.toNat:Int)==0)=ai:=by rw[c3];rfl
   have b3:=I (show r=1 by rw[←bG.out,aU c1,aU c2,ba (by rw[o6,c3])]);clear c3 o6 FQ bG;go_enter E4,EZ;go_wp2;go_ret;exact⟨jf (by rw[b3.out]),(aK _ _).alloc (aC _) _⟩
  ·have fw:((c.toNat:Int)==0)=ab:=by
    rw[cH];intro h;apply c3;apply UInt8.toNat_inj.1;rw[show (0:UInt8).toNat=0 from rfl];omega
   have b3:=I (show r=0 by rw[←bG.out,aU c1,aU c2,aU (by rw[o6];intro e;injection e with e;exact c3 e)]);clear c3 o6 FQ bG;go_enter E4,EZ;go_wp2;go_ret;exact⟨jf (by rw[b3.out]),(aK _ _).alloc (aC _) _⟩
def FR (w:af) (neg:Bool) (xs:List Nat) (e:jA) (w':af):Prop:=
 e=.returned (.tuple #[cO (neg && !(o.bytesOf xs).isEmpty) (o.bytesOf xs),.int .i64 0])∧ah w.heap.size w w'
theorem Kh (v:aw) (xs:List Nat) (neg:Bool) (w:af) (h:b2 w v xs) (ao:xs.length≤10000) (hx:∀x ∈ xs,x<4294967296) (a1:(o.bytesOf xs).length≤4096) :
 aq ak 57 #[.agg #[v,.bool neg]] w (FR w neg xs):=by
 have cD:=I (fun (W:af) (az:ah w.heap.size w W)=>FM v xs neg W (h.below az) ao hx);obtain⟨g,aY⟩:∃g,(neg && !(o.bytesOf xs).isEmpty)=g:=⟨_,rfl⟩;obtain⟨L,hH⟩:∃L,o.bytesOf xs=L:=⟨_,rfl⟩;have cM:=I (show FR w neg xs=fun e w'=>e=.returned (.tuple #[.agg #[.bool g,.string (ax L)],.int .i64 0])∧ah w.heap.size w w' by unfold FR cO;rw[aY,hH]);have Fy:=I (show ∀W,Cu W neg xs=fun e w'=>e=.returned (.agg #[.bool g,.string (ax L)])∧ah W.heap.size W w' from fun W=>by unfold Cu cO;rw[aY,hH]);rw[hH] at a1;have b5:(ax L).size=L.length:=rfl;generalize ax L=S at *;obtain⟨n,aB⟩:∃n,L.length=n:=⟨_,rfl⟩;rw[aB] at b5 a1;clear aY hH aB hx;obtain⟨c7,FT,fj,rfl⟩:∃a l c,v=.slice a l c:=by
  rcases h with ⟨aa,_⟩ | ⟨b,cap,aa,_⟩
  ·exact⟨_,_,_,aa⟩
  ·exact⟨_,_,_,aa⟩
 clear h;rw[cM.out];go_enter func57,Pq;go_wp2_with fail;have h:=cD.out ((w.alloc (.cells #[.slice c7 FT fj,.bool neg] 85)).alloc (.cells #[.bool ab,.string ⟨#[]⟩] 46)) (((aK _ _).alloc (aC _) _).alloc (by simp) _);rw[Fy.out] at h;refine h.mono ?_;rintro e aP ⟨rfl,az⟩;obtain⟨B,o7⟩:∃B,w.heap.size+1=B:=⟨_,rfl⟩;have gT:ah (B+1) ((w.alloc (.cells #[.slice c7 FT fj,.bool neg] 85)).alloc (.cells #[.bool ab,.string ⟨#[]⟩] 46)) aP:=az.mono (by simp;omega);have bS:aP.heap[B]? = U (.cells #[.bool ab,.string ⟨#[]⟩] 46):=by
  rw[gT.block _ (by omega),←o7,show w.heap.size+1=(w.alloc (.cells #[.slice c7 FT fj,.bool neg] 85)).heap.size by simp];exact fX _ _
 have eY:=I (show ah w.heap.size w aP from (((aK _ _).alloc (aC _) _).alloc (by simp) _).trans (az.mono (by simp;omega)));have eL:B+1≤aP.heap.size:=by have:=az.size;simp at this;omega
 have bG:=I bS;rw[o7];clear az gT bS h cD;have kX:=I (show (aP.alloc (.cells #[.bool g,.string S] 46)).heap[B]? = U (.cells #[.bool ab,.string ⟨#[]⟩] 46) by rw[EC _ _ _ (by omega)];exact bG.out);have cl:(aP.alloc (.cells #[.bool g,.string S] 46)).cell? ⟨B,0,J⟩=U (.bool ab):=by simp[World.cell?,kX.out]
 have bH:(aP.alloc (.cells #[.bool g,.string S] 46)).cell? ⟨B,1,J⟩=U (.string ⟨#[]⟩):=by simp[World.cell?,kX.out]
 have f0:(aP.alloc (.cells #[.bool g,.string S] 46)).frozen? ⟨B,0,J⟩=ab:=by simp[World.frozen?,kX.out]
 have f1:(aP.alloc (.cells #[.bool g,.string S] 46)).frozen? ⟨B,1,J⟩=ab:=by simp[World.frozen?,kX.out]
 have tz:=I o7;clear o7;go_wp2_with fail;obtain⟨aM,aG,gw⟩:=mo (aP.alloc (.cells #[.bool g,.string S] 46)) B (.bool g) (.string S) cl bH;have iV:=(eY.out.alloc (by have:=tz.out;omega) _).trans (gw.mono (by have:=tz.out;omega));refine bI (v:=.tuple #[.agg #[.bool g,.string S],.int .i64 0]) (by simp[bK,OE,go_sem,aM,aG]) rfl ⟨rfl,iV⟩
namespace o
structure rs where
 m:Nat
 nd:Nat
 dj:Nat
 a8:Int
 dot:Bool
 dr:Bool
 cr:Bool
def rs.zero:rs:=⟨0,0,0,0,ab,ab,ab⟩
def step (s:rs) (c:UInt8):rs:=
 if c=46 then ⟨s.m,s.nd,s.dj,s.nd,ai,s.dr,s.cr⟩
 else if c=48∧s.nd=0 then ⟨s.m,s.nd,s.dj,s.a8-1,s.dot,ai,s.cr⟩
 else if s.dj<19 then ⟨s.m*10+(c.toNat-48),s.nd+1,s.dj+1,s.a8,s.dot,ai,s.cr⟩
 else ⟨s.m,s.nd+1,s.dj,s.a8,s.dot,ai,s.cr||decide (c≠48)⟩
def digit (c:UInt8):Prop:=48≤c.toNat∧c.toNat≤57
def run (l:List UInt8):rs:=l.foldl step rs.zero
theorem x1 (l:List UInt8) (c:UInt8):run (l++[c])=step (run l) c:=by simp[run]
structure rs.pM (s:rs) (k:Nat):Prop where
 m:s.m<10^s.dj
 dj:s.dj≤19
 nd:s.nd≤k
 lo:-(k:Int)≤s.a8
 up:s.a8≤k
theorem step_ok {s:rs} {k:Nat} {c:UInt8} (h:s.pM k) (an:c=46∨digit c):(step s c).pM (k+1):=by
 have aa:=h.m;have ae:=h.dj;have aJ:=h.nd;have bQ:=h.lo;have dm:=h.up;unfold step;split
 ·exact⟨aa,ae,by simp only;omega,by simp only;omega,by simp only;omega⟩
 ·split
  ·exact⟨aa,ae,by simp only;omega,by simp only;omega,by simp only;omega⟩
  ·split
   ·rename_i Cr _ _;have aL:digit c:=by rcases an with e | e;exact absurd e Cr;exact e
    refine⟨?_,by simp only;omega,by simp only;omega,by simp only;omega,by simp only;omega⟩;simp only;have:=aL.2;rw[ei];omega
   ·exact⟨aa,ae,by simp only;omega,by simp only;omega,by simp only;omega⟩
theorem Xb:∀(l:List UInt8) (s:rs) (k:Nat),s.pM k→(∀c ∈ l,c=46∨digit c)→(l.foldl step s).pM (k+l.length)
 | [],s,k,h,_=>h
 | c::l,s,k,h,ao=>by
   rw[EG,ch,show k+(l.length+1)=k+1+l.length by omega];exact Xb l _ _ (step_ok h (ao c (by simp))) (fun x hx=>ao x (by simp[hx]))
theorem Cy (l:List UInt8) (h:∀c ∈ l,c=46∨digit c):(run l).pM l.length:=by
 have:=Xb l rs.zero 0 ⟨by decide,by decide,by decide,by decide,by decide⟩ h;rwa[hc] at this
def o8 (e:Nat) (c:UInt8):Nat:=if e<10000 then e*10+(c.toNat-48) else e
def jB (l:List UInt8):Nat:=l.foldl o8 0
theorem Kl (l:List UInt8) (c:UInt8):jB (l++[c])=o8 (jB l) c:=by simp[jB]
theorem Xc:∀(l:List UInt8) (e:Nat),e≤100000→(∀c ∈ l,digit c)→l.foldl o8 e≤100000
 | [],e,h,_=>h
 | c::l,e,h,ao=>by
   rw[EG];refine Xc l _ ?_ (fun x hx=>ao x (by simp[hx]));have ae:=ao c (by simp);unfold o8 digit at *;split<;>omega
theorem Cz (l:List UInt8) (h:∀c ∈ l,digit c):jB l≤100000:=Xc l 0 (by decide) h
end o
def h9 (s:ByteArray) (i:Nat) (l:List UInt8):Prop:=∀(k:Nat) (h:k<l.length) (ae:i+k<s.size),s[i+k]=l[k]
theorem h9.get {s:ByteArray} {i:Nat} {l:List UInt8} (h:h9 s i l) {k p:Nat} (aA:k<l.length) (aE:p<s.size) (hp:p=i+k):s[p]'aE=l[k]:=by
 subst hp;exact h k aA aE
def FW (M:List UInt8):Prop:=(∀c ∈ M,c=46∨o.digit c)∧∀k (h:k<M.length),M[k]=46→(o.run (M.take k)).dot=ab
def o.n7 (s:o.rs) (e:Int):Int:=if s.m=0 then 0 else s.a8+e-s.dj
def QU (s:o.rs) (e:Int) (neg:Bool) (n:Nat) (w:af) (bm:jA) (w':af):Prop:=
 bm=.returned (.tuple #[.int .u64 s.m,.int .i64 (o.n7 s e),.bool neg,.bool s.cr,.bool ab,.int .i64 n,.bool ai])∧w'=w
theorem int_eq {k:IntKind} {a b:Int} (h:a=b):Value.int k a=Value.int k b:=by rw[h]
theorem o.Km {c:UInt8} {m nd dj:Nat} {a8:Int} {dot dr cr:Bool} (aa:c.toNat=48) (ae:nd=0):o.step ⟨m,nd,dj,a8,dot,dr,cr⟩ c=⟨m,nd,dj,a8-1,dot,ai,cr⟩:=by
 have an:c=48:=UInt8.toNat_inj.1 aa;subst an ae;rfl
theorem o.CA {c:UInt8} {m nd dj:Nat} {a8:Int} {dot dr cr:Bool} (ar:48≤c.toNat) (aa:¬ (c.toNat=48∧nd=0)) (ae:dj<19):o.step ⟨m,nd,dj,a8,dot,dr,cr⟩ c=⟨m*10+(c.toNat-48),nd+1,dj+1,a8,dot,ai,cr⟩:=by
 unfold o.step;rw[aU (by intro e;subst e;revert ar;decide),aU (by rintro⟨rfl,h⟩;exact aa ⟨rfl,h⟩),ba ae]
theorem o.CB {c:UInt8} {m nd dj:Nat} {a8:Int} {dot dr cr:Bool} (ar:48≤c.toNat) (aa:¬ (c.toNat=48∧nd=0)) (ae:¬ dj<19):o.step ⟨m,nd,dj,a8,dot,dr,cr⟩ c=⟨m,nd+1,dj,a8,dot,ai,if c.toNat=48 then cr else ai⟩:=by
 unfold o.step;rw[aU (by intro e;subst e;revert ar;decide),aU (by rintro⟨rfl,h⟩;exact aa ⟨rfl,h⟩),aU ae];congr 1;by_cases h:c.toNat=48
 ·have an:c=48:=UInt8.toNat_inj.1 h;subst an;simp
 ·rw[aU h,bE (by intro e;subst e;exact h rfl)];simp
theorem ah':∀n:Fin 58,(n.val=46∨48≤n.val)→(bits .or .u8 (n.val:Int) 32==120)=ab:=by decide +kernel
theorem QV {c:UInt8} (h:c=46∨o.digit c):(bits .or .u8 (c.toNat:Int) 32==120)=ab:=by
 have aB:c.toNat=46∨(48≤c.toNat∧c.toNat≤57):=by
  rcases h with e | e
  ·left;rw[e];rfl
  ·right;exact e
 exact ah' ⟨c.toNat,by omega⟩ (by simp only;omega)
namespace o
theorem UK {α:Type} {P:List α→Prop} (nil:P []) (snoc:∀l c,P l→P (l++[c])) (l:List α):P l:=by
 have h:∀l:List α,P l.reverse:=by
  intro l;induction l with
  | nil=>exact nil
  | cons c l dw=>rw[N8];exact snoc _ _ dw
 have:=h l.reverse;rwa[IP] at this
def FT (l:List UInt8):Nat:=l.foldl (fun n c=>n*10+(c.toNat-48)) 0
def rO (l:List UInt8):Nat:=l.foldl (fun n c=>if c=48∧n=0 then 0 else n+1) 0
theorem H' {c:UInt8} (h:digit c):c≠46:=by
 intro e;subst e;exact absurd h.1 (by decide)
end o
end Go.Proofs.YtkhphoonnkoipaaGreatDoor
