/- Lemmas. -/
import Derived.Test.YtkhphoonnkoipaaGreatDoorVaaa
import Derived.Test.YtkhphoonnkoipaaGreatDoorVaad
import Derived.Lib.LaidU8
import Derived.HandedShaped
set_option linter.all false
open Go.Proofs.Tryz Go.RowKit Go.Lib
open Option renaming none→J,some→U
open Go renaming World→af,Value→aw
open Go.Proofs.Tryz renaming prog→ak
namespace Go.Proofs.YtkhphoonnkoipaaGreatDoor
theorem agq {H:Type} {enc:TypeId×aw→H} {P:Program} {w:af} {base:Nat} {spare:Nat→Bool} {held:Bool} {fuel:Nat} {t:TypeId} {cs:List aw} {x:DataW H×List MemPlace} {k:FloatKind}
 (bn:P.underlying t=U (.float k)) (h:DataW.trod enc P w base spare held fuel t cs=U x):∃n,cs=[.float k n]∧x=(.lit (.float k n),[]):=by
 cases fuel with
 | zero=>simp[DataW.trod] at h
 | succ n=>
   unfold DataW.trod at h;rw[bn] at h;split at h<;>simp_all
theorem agr {H:Type} {enc:TypeId×aw→H} {P:Program} {w:af} {base:Nat} {spare:Nat→Bool} {held:Bool} {fuel:Nat} {t:TypeId} {cs:List aw} {x:DataW H×List MemPlace} {ms}
 (bn:P.underlying t=U (.interface ms)) (h:DataW.trod enc P w base spare held fuel t cs=U x):cs=[.nilIface]∨∃u v,cs=[.iface u v]:=by
 cases fuel with
 | zero=>simp[DataW.trod] at h
 | succ n=>
   unfold DataW.trod at h;rw[bn] at h;split at h<;>simp_all
theorem ags {P:Program} {w:af} {n:String} {g:Nat} {cs:Array aw} (aY:P.globalNamed n=U g) (h:w.var? P n=U cs):g<w.heap.size:=by
 unfold World.var? at h;rw[aY] at h;rcases eh g w.heap.size with ao | ao
 ·exact ao
 ·rw[Option.bind_some,IK ao] at h;cases h
theorem agt {W:af} (h:VarReads ak W "internal/strconv.optimize" Rows.laid_internal_strconv_optimize):W.cell? ⟨3,0,J⟩=U (.bool true):=by
 obtain⟨g,t,cs,fuel,p,aY,nA,lO,aL⟩:=h;obtain rfl:=hb ((show prog.globalNamed "internal/strconv.optimize" = U 3 by kernel_rfl).symm.trans aY);obtain rfl:=hb ((show (prog.globals[3]?).map (·.type)=U 4 by kernel_rfl).symm.trans nA);obtain⟨b,an,hx⟩:=DataW.trod_bool nV aL;have e:b=true:=by
  have:=eS Prod.fst hx;simp only[Rows.laid_internal_strconv_optimize,zq,Lit.bool.injEq] at this;exact this.symm
 rw[uA aY lO 0,←q',an,e];rfl
theorem agu {W:af} {d:DataW Unit} (h:VarReads ak W "strconv.ErrRange" d):∃v,W.cell? ⟨5,0,J⟩=U v∧(v=.nilIface∨∃gr nz,v=.iface gr nz):=by
 obtain⟨g,t,cs,fuel,p,aY,nA,lO,aL⟩:=h;obtain rfl:=hb ((show prog.globalNamed "strconv.ErrRange" = U 5 by kernel_rfl).symm.trans aY);obtain rfl:=hb ((show (prog.globals[5]?).map (·.type)=U 153 by kernel_rfl).symm.trans nA);rw[uA aY lO 0,←q'];rcases agr zi aL with an | ⟨u,v,an⟩
 ·rw[an];exact⟨_,rfl,.inl rfl⟩
 ·rw[an];exact⟨_,rfl,.inr ⟨_,_,rfl⟩⟩
theorem agv {W:af} (h:VarReads ak W "internal/strconv.uint64pow10" Rows.laid_internal_strconv_uint64pow10):Lib.TabIs ak W "internal/strconv.uint64pow10" .u64 Lib.pow10Tab:=by
 obtain⟨g,t,cs,fuel,p,aY,nA,lO,aL⟩:=h;obtain rfl:=hb ((show prog.globalNamed "internal/strconv.uint64pow10" = U 8 by kernel_rfl).symm.trans aY);obtain rfl:=hb ((show (prog.globals[8]?).map (·.type)=U 253 by kernel_rfl).symm.trans nA);have P2:DataW.trod (fun _=>()) ak W 0 (fun _=>true) false fuel 253 cs.toList=U (Lib.tabData .u64 Lib.pow10Tab,p):=aL;unfold Lib.TabIs;rw[lO,←cells_of_tab Em r' (by kernel_rfl) (by kernel_rfl) P2]
theorem agw {W:af} (h:VarReads ak W "internal/strconv.float64info" Rows.laid_internal_strconv_float64info):W.cell? ⟨10,0,J⟩=U (.int .u64 52):=by
 obtain⟨g,t,cs,fuel,p,aY,nA,lO,aL⟩:=h;obtain rfl:=hb ((show prog.globalNamed "internal/strconv.float64info" = U 10 by kernel_rfl).symm.trans aY);obtain rfl:=hb ((show (prog.globals[10]?).map (·.type)=U 272 by kernel_rfl).symm.trans nA);obtain⟨xs,n,rfl,hx,ao,gH,kB⟩:=IW underlying272 aL;have ar:=kB 0 _ rfl;have j1:(xs.map (·.1))[0]? = U (.lit (.int .u64 52)):=by
  have:=eS Prod.fst hx;simp only[Rows.laid_internal_strconv_float64info,Of] at this;rw[←this];rfl
 rw[ps] at j1;obtain⟨b,ad,dD⟩:=Option.map_eq_some_iff.1 j1;rw[ad] at ar;obtain⟨z,aX,mQ,_⟩:=xt ra ar;rw[mQ] at dD;simp only[zq,EO,B4] at dD;rw[uA aY lO 0,←q'];change List.take (prog.cellsOf 106) (List.drop 0 cs.toList)=_ at aX;rw[show prog.cellsOf 106=1 by kernel_rfl,xu,dD] at aX;have:=eS (·[0]?) aX;simpa[rb] using this
theorem PZ:Go.Pinned.pow10Rows.length=696:=by kernel_rfl
theorem agx {W:af} (h:VarReads ak W "internal/strconv.pow10Tab" Go.Pinned.pow10Tab):qh W:=by
 obtain⟨g,t,cs,fuel,p,aY,nA,lO,aL⟩:=h;obtain rfl:=hb ((show prog.globalNamed "internal/strconv.pow10Tab" = U 11 by kernel_rfl).symm.trans aY);obtain rfl:=hb ((show (prog.globals[11]?).map (·.type)=U 287 by kernel_rfl).symm.trans nA);intro i aV lo cj;have bV:i<696:=by
  have:=(List.getElem?_eq_some_iff.1 cj).1;rw[PZ] at this;exact this
 unfold Go.Pinned.pow10Tab at aL;obtain⟨awu,d,q,P3,he⟩:=array_elem underlying287 aL i bV;rw[ps,cj] at P3;simp only[BL,re] at P3;subst P3;rw[show prog.cellsOf 286=2 by kernel_rfl] at he;have jL:=ints_of_struct (k:=.u64) (zs:=[(aV:Int),(lo:Int)]) underlying286 (fun j f bP=>by
  match j,bP with
  | 0,bP=>obtain rfl:=hb bP;exact⟨r',rfl,by kernel_rfl⟩
  | 1,bP=>obtain rfl:=hb bP;exact⟨r',rfl,by kernel_rfl⟩) (by kernel_rfl) he
 constructor
 ·rw[uA aY lO,←q'];have:=eS (·[0]?) jL;simpa[rb,BG] using this
 ·rw[uA aY lO,←q'];have:=eS (·[1]?) jL;simpa[rb,BG] using this
theorem agy {W:af} (h:VarReads ak W "internal/strconv.float64pow10" Rows.laid_internal_strconv_float64pow10) :
 ∃(a:Addr) (cap:Nat),W.cell? ⟨15,0,J⟩=U (.slice (U a) 23 cap)∧a.block<W.heap.size∧∀i x,o.f10[i]? = U x→W.cell? (a.add i)=U (.float .f64 x):=by
 obtain⟨g,t,cs,fuel,p,aY,nA,lO,aL⟩:=h;obtain rfl:=hb ((show prog.globalNamed "internal/strconv.float64pow10" = U 15 by kernel_rfl).symm.trans aY);obtain rfl:=hb ((show (prog.globals[15]?).map (·.type)=U 301 by kernel_rfl).symm.trans nA);rcases I0 underlying301 aL with ⟨_,hx⟩ | ⟨a,len,cap,el,da,m,rfl,jL,hx,_,Wp,_,nY,Fp,Wq,_⟩
 ·cases hx
 have ck:=eS Prod.fst hx;have xO:o.f10.map (fun x=>(DataW.lit (.float .f64 x):DataW Unit))=el.map (·.1):=by
  simp only[Rows.laid_internal_strconv_float64pow10,NX] at ck;exact ck.1
 have hlen:len=23:=by
  have:=eS List.length xO;simp[o.f10] at this;omega
 subst hlen;have gz:∀i x,o.f10[i]? = U x→W.cell? (a.add i)=U (.float .f64 x):=by
  intro i x aV;have je:i<23:=by
   have:=(List.getElem?_eq_some_iff.1 aV).1;simpa[o.f10] using this
  have aa:=Fp i je;rw[show prog.cellsOf 102=1 by kernel_rfl] at aa;obtain⟨b,ad⟩:∃b,el[i]? = U b:=⟨el[i]'(by omega),eE (by omega)⟩;rw[ad] at aa;obtain⟨ce,Fq,Fs⟩:=Option.bind_eq_some_iff.1 aa;obtain⟨z,aX,mQ⟩:=agq underlying102 Fs;have dD:b.1=.lit (.float .f64 x):=by
   have:=eS (·[i]?) xO;simp only[ps,ad,aV,BL,re] at this;exact this.symm
  rw[mQ] at dD;simp only[zq,Lit.float.injEq,B4] at dD;obtain⟨_,_,mj⟩:=IX Fq;have:=mj 0 (by omega);rw[aX] at this;simp only[fI] at this;have aH:(a.add i).add 0=a.add i:=by simp[Addr.add]
  rw[aH] at this;rw[this,←dD];rfl
 refine⟨a,cap,?_,?_,gz⟩
 ·rw[uA aY lO 0,←q',jL];rfl
 ·have ar:=gz 0 4607182418800017408 rfl;rcases eh a.block W.heap.size with ao | ao
  ·exact ao
  ·exfalso;have aH:a.add 0=a:=by simp[Addr.add]
   rw[aH] at ar;unfold World.cell? at ar;rw[IK ao] at ar;cases ar
theorem Wr {W:af} (h:VarReads ak W "internal/strconv.float64info" Rows.laid_internal_strconv_float64info):W.cell? ⟨10,1,J⟩=U (.int .u64 11)∧W.cell? ⟨10,2,J⟩=U (.int .i64 (-1023)):=by
 obtain⟨g,t,cs,fuel,p,aY,nA,lO,aL⟩:=h;obtain rfl:=hb ((show prog.globalNamed "internal/strconv.float64info" = U 10 by kernel_rfl).symm.trans aY);obtain rfl:=hb ((show (prog.globals[10]?).map (·.type)=U 272 by kernel_rfl).symm.trans nA);obtain⟨xs,n,rfl,hx,ao,gH,kB⟩:=IW underlying272 aL;have P4:=eS Prod.fst hx;simp only[Rows.laid_internal_strconv_float64info,Of] at P4;constructor
 ·have ar:=kB 1 _ rfl;have j1:(xs.map (·.1))[1]? = U (.lit (.int .u64 11)):=by rw[←P4];rfl
  rw[ps] at j1;obtain⟨b,ad,dD⟩:=Option.map_eq_some_iff.1 j1;rw[ad] at ar;obtain⟨z,aX,mQ,_⟩:=xt ra ar;rw[mQ] at dD;simp only[zq,EO,B4] at dD;rw[uA aY lO 1,←q'];change List.take (prog.cellsOf 106) (List.drop 1 cs.toList)=_ at aX;rw[show prog.cellsOf 106=1 by kernel_rfl,dD] at aX;have:=eS (·[0]?) aX;simpa[rb,BG] using this
 ·have ar:=kB 2 _ rfl;have j1:(xs.map (·.1))[2]? = U (.lit (.int .i64 (-1023))):=by rw[←P4];rfl
  rw[ps] at j1;obtain⟨b,ad,dD⟩:=Option.map_eq_some_iff.1 j1;rw[ad] at ar;obtain⟨z,aX,mQ,_⟩:=xt hG ar;rw[mQ] at dD;simp only[zq,EO,B4] at dD;rw[uA aY lO 2,←q'];change List.take (prog.cellsOf 3) (List.drop 2 cs.toList)=_ at aX;rw[show prog.cellsOf 3=1 by kernel_rfl,dD] at aX;have:=eS (·[0]?) aX;simpa[rb,BG] using this
theorem Ws {W:af} {a:Addr} {v:aw} (h:W.cell? a=U v):a.block<W.heap.size:=by
 rcases eh a.block W.heap.size with ao | ao
 ·exact ao
 ·exfalso;unfold World.cell? at h;rw[IK ao] at h;cases h
theorem agz {W:af} (h:VarReads ak W "internal/strconv.powtab" Rows.laid_internal_strconv_powtab) :
 ∃(a:Addr) (cap:Nat),W.cell? ⟨14,0,J⟩=U (.slice (U a) 9 cap)∧a.block<W.heap.size∧∀(i:Nat) (x:Nat),o.pC[i]? = U x→W.cell? (a.add i)=U (.int .i64 (x:Nat)):=by
 obtain⟨g,t,cs,fuel,p,aY,nA,lO,aL⟩:=h;obtain rfl:=hb ((show prog.globalNamed "internal/strconv.powtab" = U 14 by kernel_rfl).symm.trans aY);obtain rfl:=hb ((show (prog.globals[14]?).map (·.type)=U 300 by kernel_rfl).symm.trans nA);rcases I0 underlying300 aL with ⟨_,hx⟩ | ⟨a,len,cap,el,da,m,rfl,jL,hx,_,Wp,_,nY,Fp,Wq,_⟩
 ·cases hx
 have ck:=eS Prod.fst hx;have xO:o.pC.map (fun (x:Nat)=>(DataW.lit (.int .i64 (x:Nat)):DataW Unit))=el.map (·.1):=by
  simp only[Rows.laid_internal_strconv_powtab,NX] at ck;exact ck.1
 have hlen:len=9:=by
  have:=eS List.length xO;simp[o.pC] at this;omega
 subst hlen;have gz:∀(i x:Nat),o.pC[i]? = U x→W.cell? (a.add i)=U (.int .i64 (x:Nat)):=by
  intro i x aV;have je:i<9:=by
   have:=(List.getElem?_eq_some_iff.1 aV).1;simpa[o.pC] using this
  have aa:=Fp i je;rw[show prog.cellsOf 3=1 by kernel_rfl] at aa;obtain⟨b,ad⟩:∃b,el[i]? = U b:=⟨el[i]'(by omega),eE (by omega)⟩;rw[ad] at aa;obtain⟨ce,Fq,Fs⟩:=Option.bind_eq_some_iff.1 aa;obtain⟨z,aX,mQ,_⟩:=xt hG Fs;have dD:b.1=.lit (.int .i64 (x:Nat)):=by
   have:=eS (·[i]?) xO;simp only[ps,ad,aV,BL,re] at this;exact this.symm
  rw[mQ] at dD;simp only[zq,EO,B4] at dD;obtain⟨_,_,mj⟩:=IX Fq;have:=mj 0 (by omega);rw[aX] at this;simp only[fI] at this;have aH:(a.add i).add 0=a.add i:=by simp[Addr.add]
  rw[aH] at this;rw[this,←dD];rfl
 refine⟨a,cap,?_,?_,gz⟩
 ·rw[uA aY lO 0,←q',jL];rfl
 ·have ar:=gz 0 1 rfl;have aH:a.add 0=a:=by simp[Addr.add]
  rw[aH] at ar;exact Ws ar
theorem Wt:Go.Pinned.cheatRows.length=61:=by kernel_rfl
theorem agA {W:af} (h:VarReads ak W "internal/strconv.leftcheats" Go.Pinned.leftcheats) :
 ∃(a:Addr) (cap:Nat),W.cell? ⟨12,0,J⟩=U (.slice (U a) 61 cap)∧a.block<W.heap.size∧∀(i:Nat) (x:Nat×List UInt8),Go.Pinned.cheatRows[i]? = U x→W.cell? (a.add (2*i))=U (.int .i64 (x.1:Nat))∧W.cell? (a.add (2*i+1))=U (.string ⟨x.2.toArray⟩):=by
 obtain⟨g,t,cs,fuel,p,aY,nA,lO,aL⟩:=h;obtain rfl:=hb ((show prog.globalNamed "internal/strconv.leftcheats" = U 12 by kernel_rfl).symm.trans aY);obtain rfl:=hb ((show (prog.globals[12]?).map (·.type)=U 291 by kernel_rfl).symm.trans nA);unfold Go.Pinned.leftcheats at aL;rcases I0 underlying291 aL with ⟨_,hx⟩ | ⟨a,len,cap,el,da,m,rfl,jL,hx,_,Wp,_,nY,Fp,Wq,_⟩
 ·cases hx
 have ck:=eS Prod.fst hx;have xO:Go.Pinned.cheatRows.map (fun x=>(DataW.agg [.lit (.int .i64 x.1),.lit (.string x.2)]:DataW Unit))=el.map (·.1):=by
  simp only[NX] at ck;exact ck.1
 have hlen:len=61:=by
  have:=eS List.length xO;rw[rh,rh,Wt] at this;omega
 subst hlen;have gz:∀(i:Nat) (x:Nat×List UInt8),Go.Pinned.cheatRows[i]? = U x→W.cell? (a.add (2*i))=U (.int .i64 (x.1:Nat))∧W.cell? (a.add (2*i+1))=U (.string ⟨x.2.toArray⟩):=by
  intro i x aV;have je:i<61:=by
   have:=(List.getElem?_eq_some_iff.1 aV).1;rwa[Wt] at this
  have aa:=Fp i je;rw[show prog.cellsOf 290=2 by kernel_rfl] at aa;obtain⟨b,ad⟩:∃b,el[i]? = U b:=⟨el[i]'(by omega),eE (by omega)⟩;rw[ad] at aa;obtain⟨ce,Fq,Fs⟩:=Option.bind_eq_some_iff.1 aa;have dD:b.1=.agg [.lit (.int .i64 x.1),.lit (.string x.2)]:=by
   have:=eS (·[i]?) xO;simp only[ps,ad,aV,BL,re] at this;exact this.symm
  obtain⟨xs,n,rfl,zK,ao,gH,kB⟩:=IW underlying290 Fs;rw[zK] at dD;simp only[Of] at dD;obtain⟨_,_,mj⟩:=IX Fq;have ar:=kB 0 _ rfl;have aa:=kB 1 _ rfl;obtain⟨im,aM,aG⟩:∃im,xs[0]? = U im∧im.1=.lit (.int .i64 x.1):=by
   have:=eS (·[0]?) dD;simp only[ps,Ns] at this;obtain⟨b,ad,bg⟩:=Option.map_eq_some_iff.1 this;exact⟨b,ad,bg⟩
  obtain⟨cF,bj,bq⟩:∃im,xs[1]? = U im∧im.1=.lit (.string x.2):=by
   have:=eS (·[1]?) dD;simp only[ps,List.getElem?_cons_succ,Ns] at this;obtain⟨b,ad,bg⟩:=Option.map_eq_some_iff.1 this;exact⟨b,ad,bg⟩
  rw[aM] at ar;rw[bj] at aa;obtain⟨z,aX,mQ,_⟩:=xt hG ar;obtain⟨y,aW,tg,_⟩:=DataW.trod_string jH aa;rw[mQ] at aG;rw[tg] at bq;simp only[zq,EO,Lit.string.injEq,B4] at aG bq;change List.take (prog.cellsOf 3) (List.drop 0 ce)=_ at aX;change List.take (prog.cellsOf 9) (List.drop 1 ce)=_ at aW;rw[show prog.cellsOf 3=1 by kernel_rfl,aG] at aX;rw[show prog.cellsOf 9=1 by kernel_rfl] at aW;have eo:=eS (·[0]?) aX;have qi:=eS (·[0]?) aW;have b0:=mj 0 (by omega);have bD:=mj 1 (by omega);have agB:y=⟨x.2.toArray⟩:=by apply xx;rw[←bq]
  rw[dx i 2] at b0 bD;have aH:(a.add (2*i)).add 0=a.add (2*i):=by simp[Addr.add]
  have aT:(a.add (2*i)).add 1=a.add (2*i+1):=by
   rcases kd i with h | h
   ·subst h;simp[Addr.add]
   ·have ls:¬ 2*i=0:=by omega
    have ae:a.add (2*i)={ a with off:=a.off+2*i,spot:=J }:=aU ls;have aJ:a.add (2*i+1)={ a with off:=a.off+(2*i+1),spot:=J }:=aU (by omega);rw[ae,aJ];rfl
  rw[aH] at b0;rw[aT] at bD;constructor
  ·rw[b0];simpa[rb] using eo
  ·rw[bD,←agB];simpa[rb,BG] using qi
 refine⟨a,cap,?_,?_,gz⟩
 ·rw[uA aY lO 0,←q',jL];rfl
 ·have ar:=(gz 0 (0,[]) rfl).1;exact (xN a _) ▸ Ws ar
theorem agC {W:af} (hH:laidMet ak uE W) (vW:W.ShapedOpen ak):Env W:=by
 have aF:∀(k:Nat) (n:String) (d:DataW Unit),uE[k]? = U (n,d)→VarReads ak W n d:=fun k n d h=>laidMet.reads hH (r9 h);refine⟨?_,agx (aF 13 _ _ rfl),agv (aF 8 _ _ rfl),?_,agt (aF 4 _ _ rfl),agw (aF 3 _ _ rfl),(Wr (aF 3 _ _ rfl)).1,(Wr (aF 3 _ _ rfl)).2,agz (aF 5 _ _ rfl),agA (aF 12 _ _ rfl),agy (aF 6 _ _ rfl),agu (aF 10 _ _ rfl)⟩
 ·obtain⟨g,t,cs,fuel,p,aY,nA,lO,aL⟩:=aF 1 _ _ rfl;obtain rfl:=hb ((show prog.globalNamed "math/bits.deBruijn64tab" = U 17 by kernel_rfl).symm.trans aY);exact cp (by decide) (ags aY lO)
 ·exact cell_of_shapedOpen_int vW (g:=2) (t:=3) (zero:=#[.int .i64 0]) (jb (by kernel_rfl)) (by kernel_rfl) rfl (by kernel_rfl) (by kernel_rfl) hG
end Go.Proofs.YtkhphoonnkoipaaGreatDoor
