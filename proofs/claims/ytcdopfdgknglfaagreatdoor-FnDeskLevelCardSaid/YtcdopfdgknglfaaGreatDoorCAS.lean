/- Lemmas. -/
import Derived.Test.YtcdopfdgknglfaaGreatDoorCAM
import Derived.Test.YtcdopfdgknglfaaGreatDoorCAR
import Derived.RangeFuncWrites
import Derived.ProofKit
import Derived.LaidMore
import Derived.OpenShut
import Derived.Stop.Joined
import Derived.Deep.Slices
import Derived.Deep.Fields
import Derived.ChangeSame
import Derived.ChangeOld
import Derived.Lib.SmallJoins
import Derived.SliceStrings
import Derived.LaidLaws
import Derived.Lib.LaidU8
import Derived.LaidSub
import Derived.Shelf.Vars
import Derived.Handed
set_option maxHeartbeats 16000000
set_option maxRecDepth 8000
set_option linter.all false
namespace Go.Proofs.YtcdopfdgknglfaaGreatDoor
open Go.RowKit
structure Env (w:World):Prop where
 max:∃m,w.cell? ⟨0,0,none⟩=some (.int .i64 m)
 syn:∃te pe,w.cell? ⟨4,0,none⟩=some (.iface te pe)
 YA:∃te pe,w.cell? ⟨5,0,none⟩=some (.iface te pe)
theorem Env.ext{w w':World}(h:Env w)(hb:Ext w w'):Env w':=
 ⟨let ⟨m,h⟩:=h.max;⟨m,hb.cell h⟩,let ⟨m,n,h⟩:=h.syn;⟨m,n,hb.cell h⟩,let ⟨m,n,h⟩:=h.YA;⟨m,n,hb.cell h⟩⟩
theorem atoi_numL{n:Nat}(h:n<100):Lib.atoiAll (dh n)=.ok (n:Int):=by
 have:∀n∈List.range 100,(match Lib.atoiAll (dh n) with | .ok v=>v==(n:Int)|_=>false)=true:=by decide +kernel
 have:=this n (j5.2 h)
 split at this
 ·rename_i v e;rw[e,eq_of_beq this]
 ·cases this
theorem Gm(l:List UInt8)(w:World)(hE:Env w)(hl:l.length<=281474976710656) :
 Calls Tryz.prog 177 #[.string (tx l)] w λe w'=>∃(v:Int) (ev:Value),e=.returned (.tuple #[.int .i64 v,ev])/\Ext w w'/\(Lib.atoiAll l=.ok v/\ev=.nilIface∨(∀v,Lib.atoiAll l≠.ok v)/\∃te pe,ev=.iface te pe):=by
 cases h:Lib.atoiAll l with
 | ok v=>
   refine(Tryz.strconv_Atoi_ok (tx l) (by rw[eZ];omega) v h w).mono ?_
   rintro e w' ⟨rfl,h2⟩;refine⟨v,.nilIface,rfl,?_,.inl ⟨rfl,rfl⟩⟩;rcases h2 with rfl|⟨t,rfl⟩
   ·exact af _
   ·exact Lib.bytesWorld_below w _ t
 | range=>
   obtain⟨te,pe,hv⟩:=hE.YA
   refine(Tryz.strconv_Atoi_range (tx l) (by rw[eZ];omega) h _ w hv (.inr ⟨te,pe,rfl⟩)).mono ?_
   rintro e w' ⟨N,rfl,h1,h2,h3⟩;exact⟨_,_,rfl,h3,.inr ⟨λv e=>(by cases e),_,_,rfl⟩⟩
 | _=>
   obtain⟨te,pe,hv⟩:=hE.syn
   refine(Tryz.strconv_Atoi_syntax (tx l) (by rw[eZ];omega) h _ w hv (.inr ⟨te,pe,rfl⟩)).mono ?_
   rintro e w' ⟨N,rfl,h1,h2,h3⟩;exact⟨_,_,rfl,h3,.inr ⟨λv e=>(by cases e),_,_,rfl⟩⟩
def NB(r:Option aJ):Value:=.tuple #[fZ (r.getD ⟨0,0,0⟩),.bool r.isSome]
theorem ET(l:List UInt8)(w:World)(hE:Env w)(hl:l.length<=1100000) :
 Calls Tryz.prog 139 #[.string (tx l)] w λe w'=>e=.returned (NB (jy l))/\Ext w w':=by
 by_cases h4:l.length<4
 ·have hr:Hid (jy l=none):=Dc h4;have hs:decide (((tx l).size:Int)<4)=true:=by rw[eZ];simp;omega
  rw[hr.out];clear h4;generalize tx l=z at *;go_enter Tryz.func139,Tryz.ntmps139;go_wp2;go_returns;exact⟨rfl,(af _).alloc _⟩
 ·match l,hl,h4 with
  | [],_,h4=>exact absurd (by simp) h4
  | [_],_,h4=>exact absurd (by simp) h4
  | [_,_],_,h4=>exact absurd (by simp) h4
  | [_,_,_],_,h4=>exact absurd (by simp) h4
  | a :: b :: c :: d :: r,hl,_=>
    have hs:((tx (a :: b :: c :: d :: r)).size:Int)<4↔False:=by rw[eZ];simp;omega
    have hs3:(3:Int)<=((tx (a :: b :: c :: d :: r)).size:Int):=by rw[eZ];simp;omega
    have hi0:=yg (l:=a :: b :: c :: d :: r) (k:=0) rfl 0 rfl;have hi1:=yg (l:=a :: b :: c :: d :: r) (k:=1) rfl 1 rfl;have hx:=LP (a :: b :: c :: d :: r) 3;have HR:=aa (λv=>Fq (a:=a) (b:=b) (c:=c) (d:=d) (r:=r) (v:=v));have HAT:=aa (λW (hb:Ext w W)=>Gm (d :: r) W (hE.ext hb) (by simp at hl ⊢;omega));rw[show (a :: b :: c :: d :: r).drop 3=d :: r from rfl]at hx;have hb0:(0:Int)<=(b.toNat:Int):=by omega
    have hb1:(b.toNat:Int)<=255:=by have:=b.toNat_lt;omega
    have hwb:IntKind.i64.wrap ((b.toNat:Int)-48)=(b.toNat:Int)-48:=jI _ ⟨by omega,by omega⟩;obtain⟨l0,hl0⟩:∃l0,a :: b :: c :: d :: r=l0:=⟨_,rfl⟩;rw[hl0]at hs hs3 hi0 hi1 hx HR ⊢;clear hl hl0 hE;obtain⟨y,hy⟩:∃y,tx (d :: r)=y:=⟨_,rfl⟩;rw[hy]at hx HAT;obtain⟨z,hz⟩:∃z,tx l0=z:=⟨_,rfl⟩;rw[hz]at hs hs3 hi0 hi1 hx ⊢;have HZ:=aa hz;clear hy hz;have hka:∀t,((a.toNat:Int)==119)=t->(if a=119 then (2:Int) else 1)=if t then 2 else 1:=λt ht=>by
     have:a=119↔((a.toNat:Int)==119)=true:=by rw[beq_iff_eq,<-UInt8.toNat_inj];exact⟨λe=>by rw[e];rfl,λe=>by have:(119:UInt8).toNat=119:=rfl;omega⟩
     rw[<-ht];by_cases e:a=119
     ·rw[ah e,ah (this.1 e)]
     ·rw[ak e,ak (λe'=>e (this.2 e'))]
    obtain⟨kd,hkd⟩:∃kd:Int,(if a=119 then (2:Int) else 1)=kd:=⟨_,rfl⟩;rw[hkd]at HR hka;clear hkd;obtain⟨bn,hbn⟩:∃bn:Int,(b.toNat:Int)=bn:=⟨_,rfl⟩;rw[hbn]at hi1 HR hb0 hb1 hwb;clear hbn;obtain⟨an,han⟩:∃an:Int,(a.toNat:Int)=an:=⟨_,rfl⟩;rw[han]at hi0 hka;clear han
    cases hk:(an==119) with
    | false=>
      have HK:=aa (hka _ hk);go_enter Tryz.func139,Tryz.ntmps139;go_wp2_with fail
      refine(HAT.out _ (((af _).alloc _).alloc _)).mono ?_
      rintro e w1 ⟨v,ev,rfl,b1,hcase⟩;have hv:∀n,n<100->d :: r=dh n->v=(n:Int):=λn hn e=>by
       rw[e,atoi_numL hn]at hcase;rcases hcase with ⟨e1,_⟩|⟨e1,_⟩
       ·injection e1 with e1;exact e1.symm
       ·exact absurd rfl (e1 _)
      have hR:=HR.out v hv;have hkd:=HK.out;simp only[Bool.false_eq_true,if_true,if_false]at hkd;subst hkd;have HR1:=aa hR;have e0:=b1.cell (p:=⟨w.heap.size+1,0,none⟩) (jF (by simp) rfl);have e1:=b1.cell (p:=⟨w.heap.size+1,1,none⟩) (jF (by simp) rfl);have e2:=b1.cell (p:=⟨w.heap.size+1,2,none⟩) (jF (by simp) rfl);have f2:w1.frozen? ⟨w.heap.size+1,2,none⟩=false:=by rw[b1.frozen (by simp)];exact iy 2 (by simp)
      have B1:Hid (Ext w w1):=(((af _).alloc _).alloc _).trans b1;have fz:∀j,w1.frozen? ⟨w.heap.size,j,none⟩=false:=λj=>by
       rw[b1.frozen (by simp<;>omega),((af _).alloc _).frozen (by simp)]
       exact iy j rfl
      have t0:=b1.cell (p:=⟨w.heap.size,0,none⟩) (((af _).alloc _).cell (az rfl));have t1:=b1.cell (p:=⟨w.heap.size,1,none⟩) (((af _).alloc _).cell (az rfl));have t2:=b1.cell (p:=⟨w.heap.size,2,none⟩) (((af _).alloc _).cell (az rfl));have Xl:w.heap.size<w1.heap.size:=by have:=b1.size;simp at this;omega
      clear hcase hv hR HK hka b1;go_wp2_with fail
      refine(og ⟨1,bn-48,v⟩ _).mono ?_
      rintro e w2 ⟨rfl,b2⟩;have E3:(w1.setCell ⟨w.heap.size+1,2,none⟩ (.int .i64 v)).cell? ⟨w.heap.size+1,2,none⟩=some (.int .i64 v):=dN e2 _;have g0:=b2.cell ((av (by simp) _).trans e0);have g1:=b2.cell ((av (by simp) _).trans e1);have g2:=b2.cell E3;have t0:=b2.cell ((av (by simp) _).trans t0);have t1:=b2.cell ((av (by simp) _).trans t1);have t2:=b2.cell ((av (by simp) _).trans t2);have fw:∀j,w2.frozen? ⟨w.heap.size,j,none⟩=false:=λj=>by rw[b2.frozen (by have:=B1.out.size;rw[World.size_setCell];have:=Xl;omega),World.frozen?_setCell];exact fz j
      have fw0:=fw 0;have fw1:=fw 1;have fw2:=fw 2;clear fw fz;have HB:=aa ((B1.out.setCell (p:=⟨w.heap.size+1,2,none⟩) (by simp) (.int .i64 v)).trans b2);by_cases hc:jg ⟨1,bn-48,v⟩=l0
      ·have hr:Hid (jy l0 = _):=HR1.out.1 hc;rw[hc,HZ.out];clear hc e0 e1 e2 f2 E3 b2;go_wp2;obtain⟨y0,y1,y2⟩:=fG (.int .i64 1) (.int .i64 (bn-48)) (.int .i64 v) t0 t1 t2;refine bodyPost_ret (v:=.tuple #[.agg #[.int .i64 1,.int .i64 (bn-48),.int .i64 v],.bool true]) (by simp[results,Tryz.results139,go_sem,y0,y1,y2]) rfl ?_;exact⟨by rw[hr.out];rfl,(((HB.out.setCell (p:=⟨w.heap.size,0,none⟩) (ay _) _).setCell (p:=⟨w.heap.size,1,none⟩) (ay _) _).setCell (p:=⟨w.heap.size,2,none⟩) (ay _) _)⟩
      ·have hr:Hid (jy l0=none):=HR1.out.2 hc;obtain⟨z2,hz2⟩:∃z2,tx (jg ⟨1,bn-48,v⟩)=z2:=⟨_,rfl⟩;have hq:(z2.toList==z.toList)=false:=by rw[<-hz2,<-HZ.out,eu,eu];simpa using hc
       rw[hz2];clear hc e0 e1 e2 f2 E3 b2 hz2;go_wp2;obtain⟨y0,y1,y2⟩:=fG (.int .i64 0) (.int .i64 0) (.int .i64 0) t0 t1 t2;refine bodyPost_ret (v:=.tuple #[.agg #[.int .i64 0,.int .i64 0,.int .i64 0],.bool false]) (by simp[results,Tryz.results139,go_sem,y0,y1,y2]) rfl ?_;exact⟨by rw[hr.out];rfl,(((HB.out.setCell (p:=⟨w.heap.size,0,none⟩) (ay _) _).setCell (p:=⟨w.heap.size,1,none⟩) (ay _) _).setCell (p:=⟨w.heap.size,2,none⟩) (ay _) _)⟩
    | true=>
      have HK:=aa (hka _ hk);go_enter Tryz.func139,Tryz.ntmps139;go_wp2_with fail
      refine(HAT.out _ (((af _).alloc _).alloc _)).mono ?_
      rintro e w1 ⟨v,ev,rfl,b1,hcase⟩;have hv:∀n,n<100->d :: r=dh n->v=(n:Int):=λn hn e=>by
       rw[e,atoi_numL hn]at hcase;rcases hcase with ⟨e1,_⟩|⟨e1,_⟩
       ·injection e1 with e1;exact e1.symm
       ·exact absurd rfl (e1 _)
      have hR:=HR.out v hv;have hkd:=HK.out;simp only[Bool.false_eq_true,if_true,if_false]at hkd;subst hkd;have HR1:=aa hR;have e0:=b1.cell (p:=⟨w.heap.size+1,0,none⟩) (jF (by simp) rfl);have e1:=b1.cell (p:=⟨w.heap.size+1,1,none⟩) (jF (by simp) rfl);have e2:=b1.cell (p:=⟨w.heap.size+1,2,none⟩) (jF (by simp) rfl);have f2:w1.frozen? ⟨w.heap.size+1,2,none⟩=false:=by rw[b1.frozen (by simp)];exact iy 2 (by simp)
      have B1:Hid (Ext w w1):=(((af _).alloc _).alloc _).trans b1;have fz:∀j,w1.frozen? ⟨w.heap.size,j,none⟩=false:=λj=>by
       rw[b1.frozen (by simp<;>omega),((af _).alloc _).frozen (by simp)]
       exact iy j rfl
      have t0:=b1.cell (p:=⟨w.heap.size,0,none⟩) (((af _).alloc _).cell (az rfl));have t1:=b1.cell (p:=⟨w.heap.size,1,none⟩) (((af _).alloc _).cell (az rfl));have t2:=b1.cell (p:=⟨w.heap.size,2,none⟩) (((af _).alloc _).cell (az rfl));have Xl:w.heap.size<w1.heap.size:=by have:=b1.size;simp at this;omega
      clear hcase hv hR HK hka b1;go_wp2_with fail
      refine(og ⟨2,bn-48,v⟩ _).mono ?_
      rintro e w2 ⟨rfl,b2⟩;have E3:(w1.setCell ⟨w.heap.size+1,2,none⟩ (.int .i64 v)).cell? ⟨w.heap.size+1,2,none⟩=some (.int .i64 v):=dN e2 _;have g0:=b2.cell ((av (by simp) _).trans e0);have g1:=b2.cell ((av (by simp) _).trans e1);have g2:=b2.cell E3;have t0:=b2.cell ((av (by simp) _).trans t0);have t1:=b2.cell ((av (by simp) _).trans t1);have t2:=b2.cell ((av (by simp) _).trans t2);have fw:∀j,w2.frozen? ⟨w.heap.size,j,none⟩=false:=λj=>by rw[b2.frozen (by have:=B1.out.size;rw[World.size_setCell];have:=Xl;omega),World.frozen?_setCell];exact fz j
      have fw0:=fw 0;have fw1:=fw 1;have fw2:=fw 2;clear fw fz;have HB:=aa ((B1.out.setCell (p:=⟨w.heap.size+1,2,none⟩) (by simp) (.int .i64 v)).trans b2);by_cases hc:jg ⟨2,bn-48,v⟩=l0
      ·have hr:Hid (jy l0 = _):=HR1.out.1 hc;rw[hc,HZ.out];clear hc e0 e1 e2 f2 E3 b2;go_wp2;obtain⟨y0,y1,y2⟩:=fG (.int .i64 2) (.int .i64 (bn-48)) (.int .i64 v) t0 t1 t2;refine bodyPost_ret (v:=.tuple #[.agg #[.int .i64 2,.int .i64 (bn-48),.int .i64 v],.bool true]) (by simp[results,Tryz.results139,go_sem,y0,y1,y2]) rfl ?_;exact⟨by rw[hr.out];rfl,(((HB.out.setCell (p:=⟨w.heap.size,0,none⟩) (ay _) _).setCell (p:=⟨w.heap.size,1,none⟩) (ay _) _).setCell (p:=⟨w.heap.size,2,none⟩) (ay _) _)⟩
      ·have hr:Hid (jy l0=none):=HR1.out.2 hc;obtain⟨z2,hz2⟩:∃z2,tx (jg ⟨2,bn-48,v⟩)=z2:=⟨_,rfl⟩;have hq:(z2.toList==z.toList)=false:=by rw[<-hz2,<-HZ.out,eu,eu];simpa using hc
       rw[hz2];clear hc e0 e1 e2 f2 E3 b2 hz2;go_wp2;obtain⟨y0,y1,y2⟩:=fG (.int .i64 0) (.int .i64 0) (.int .i64 0) t0 t1 t2;refine bodyPost_ret (v:=.tuple #[.agg #[.int .i64 0,.int .i64 0,.int .i64 0],.bool false]) (by simp[results,Tryz.results139,go_sem,y0,y1,y2]) rfl ?_;exact⟨by rw[hr.out];rfl,(((HB.out.setCell (p:=⟨w.heap.size,0,none⟩) (ay _) _).setCell (p:=⟨w.heap.size,1,none⟩) (ay _) _).setCell (p:=⟨w.heap.size,2,none⟩) (ay _) _)⟩
def Pb(B:Nat)(Kp:World->World->Prop)(I Ix:World->Prop)(W:World):Exit->Act->World->Prop
 | .normal,_,W'=>KeepsFrom B W W'/\Kp W W'/\I W'
 | .ret,_,W'=>KeepsFrom B W W'/\Ix W'
 | _,_,_=>False
def Me{α:Type}(n:Nat)(P:Program)(g:Nat)(lb:Array Value)(encs:α->Array Value)(c:Nat)(Kp:World->World->Prop)(S Sp:List α->Prop)(N:Nat)(w:World):Prop:=
 ∀(l:Nat) (J Jx:List α->World->Prop) (W:World),Below w.heap.size w W->(∀s W v,J s W->J s (W.setCell ⟨c,0,none⟩ v)) ->
  (∀pre x W1,J pre W1->pre.length<N->YieldAt Fence.wide (n-1) P l (encs x) W1 λe W'=>(e=.returned (.bool true)/\J (pre++[x]) W'/\Kp W1 W')∨(e=.returned (.bool false)/\Jx (pre++[x]) W')) ->
  J [] W->CallsIn Fence.wide n P g (#[.func (.yield l) #[] #[]]++lb) W λe W'=>(∃v,e=.returned v)/\((∃xs,S xs/\J xs W')∨∃pre,Sp pre/\Jx pre W')
theorem Gy{α:Type}{P:Program}{n c:Nat}{g:Operand}{ps:Array Tmp}{assign body:Code}{Q:Exit->Act->World->Prop}{a:Act}{w:World}(h1:1<=n){gf:Nat}{lb:Array Value}(hg:a.eval g=.func (.func gf) #[] lb)
 (eg:∀args w,(callFunc gf args).run P w=.ok (.enter gf args) w) {encs:α->Array Value} {Kp:World->World->Prop} {S Sp:List α->Prop} {N:Nat} {w0:World} (hseq:Me (n-1) P gf lb encs c Kp S Sp N w0)
 (hKt:∀{A B C:World},Kp A B->Kp B C->Kp A C) (hKb:∀(W:World) (l:Nat) (o o':Obj),w.heap.size<=l->W.heap[l]? =some o->o.isCells=false->o.isWalk=false->Kp W (W.putObj l o')) (hb0:Below w0.heap.size w0 w) (hc:c<w.heap.size) (hps:∀x,(encs x).size=ps.size)
 (I Ix:List α->World->Prop) (hI:OwnFrom w.heap.size I) (hIx:OwnFrom w.heap.size Ix) (YP:∀s W v,I s W->I s (W.setCell ⟨c,0,none⟩ v)) (h0:I [] w) (a₁:α->Act)
 (hassign:∀(l:Nat) (x:α) (W:World) (K:Act->World->Prop),K (a₁ x) W->assign.wpIn (Fence.wide.inRound l) (n-1-1) P (Exit.then K (λ_ _ _=>False)) { tmps:=(ps.zip (encs x)).foldl (λt (p,v)=>t.setIfInBounds p v) a.tmps,defers:=[] } W)
 (hbody:∀(l:Nat) (pre:List α) (x:α) (W:World),I pre W->pre.length<N->body.wpIn (Fence.wide.inRound l) (n-1-1) P (Pb w.heap.size Kp (I (pre++[x])) (Ix (pre++[x])) W) (a₁ x) W)
 (hdone:∀(D:Nat) (xs:List α) (W:World),w.heap.size<=D->S xs->I xs W->W.heap[D]? =some (.deferred (some []))->Q .normal { a with defers:={ target:=.collected D,args:=#[] } :: a.defers } W)
 (hstop:∀(D:Nat) (pre:List α) (W:World),w.heap.size<=D->Sp pre->Ix pre W->W.heap[D]? =some (.deferred (some []))->Code.ret.wpIn Fence.wide n P Q { a with defers:={ target:=.collected D,args:=#[] } :: a.defers } W) :
 (Code.rangeFunc g ps assign body).wpIn Fence.wide n P Q a w:=by
 refine wpIn_rangeFunc ?_;intro fn hfn;obtain⟨rc,hrc⟩:∃rc:LoopState->Option Code->Loop,rc=λst pe=>{ state:=st,pending:=pe,fn,tmps:=a.tmps,params:=ps,assign,body,defers:=w.heap.size }:=⟨_,rfl⟩
 let Bk:LoopState->Option Code->World->Prop:=λst pe W=>W.heap[w.heap.size+1]? =some (.loop (rc st pe))/\W.heap[w.heap.size]? =some (.deferred (some []))
 have hput:∀{st st':LoopState} {pe Zy:Option Code} {W:World},Bk st pe W->Bk st' Zy (W.putObj (w.heap.size+1) (.loop (rc st' Zy))):=λh=>
  ⟨World.putObj_heap_same (dB.1 h.1).1,(World.putObj_heap_other (by omega)).trans h.2⟩
 obtain⟨W1,hW1⟩:∃W1,(w.alloc (.deferred (some []))).alloc (.loop (rc .ready none))=W1:=⟨_,rfl⟩;have hB1:Bk .ready none W1:=by
  subst hW1;refine⟨?_,?_⟩
  ·have:=World.alloc_heap_new (w.alloc (.deferred (some []))) (.loop (rc .ready none))
   rwa [World.size_alloc]at this
  ·exact(Below.heap_alloc _ _ _ (by simp)).trans (World.alloc_heap_new w _)
 have hI1:I [] W1:=hW1▸hI.alloc _ (hI.alloc _ h0);have hb1:Below w0.heap.size w0 W1:=hW1▸hb0.trans ((((Below.refl _ w).alloc (ay _) _).alloc (by simp) _).mono hb0.size);refine⟨w.heap.size+1,[{ target:=.collected w.heap.size,args:=#[] }],W1,{ target:=.fn (.func gf) lb,args:=#[.func (.yield (w.heap.size+1)) #[] #[]] },W1,gf,#[.func (.yield (w.heap.size+1)) #[] #[]]++lb,W1,?_,?_,λ_ _=>trivial,?_,λ_=>h1,?_⟩
 ·rw[<-hW1,hrc];exact run_enterLoop_outer _ _ _ _ _
 ·simp only[resolve,hg];simp[go_sem]
 ·simp[invoke,go_sem,eg]
 refine(hseq (w.heap.size+1) (λpre W=>I pre W/\Bk .ready none W) (λpre W=>Ix pre W/\Bk .done (some .ret) W) W1 hb1 (λs W v h=>⟨YP s W v h.1,?_,?_⟩) ?_ ⟨hI1,hB1⟩).mono ?_
 ·exact(Below.heap_setCell _ _ _ _ (by simp;omega)).trans h.2.1
 ·exact(Below.heap_setCell _ _ _ _ (by simp;omega)).trans h.2.2
 ·rintro pre x W ⟨hi,hbk⟩ hlen;have hy:=run_yield (P:=P) (args:=encs x) hbk.1 (by rw[hrc];exact hps x);rw[hrc]at hy;refine⟨fn,_,assign,body,hy,roundIn_of_wpIn hfn (hassign _ x W _ ⟨_,run_beginRound hbk.1 (by rw[hrc]),?_⟩)⟩;have Uc:({ rc .ready none with state:=.busy }:Loop)=rc .busy none:=by rw[hrc]
  rw[Uc];have hbk2:Bk .busy none (W.putObj (w.heap.size+1) (.loop (rc .busy none))):=hput hbk;have XX:Kp W (W.putObj (w.heap.size+1) (.loop (rc .busy none))):=hKb _ _ _ _ (by omega) hbk.1 rfl rfl;have hi2:I pre (W.putObj (w.heap.size+1) (.loop (rc .busy none))):=hI.putObj _ hi (by omega) hbk.1 rfl;refine wpIn_mono (hbody _ pre x _ hi2 hlen) ?_;have hkeep:∀W3,KeepsFrom w.heap.size (W.putObj (w.heap.size+1) (.loop (rc .busy none))) W3->Bk .busy none W3:=λW3 k=>⟨k.same _ _ (by omega) hbk2.1 rfl,k.same _ _ (ay _) hbk2.2 rfl⟩;intro e a3 W3 hp
  cases e with
  | normal=>
    obtain⟨hk3,hkp3,hi3⟩:=hp;have hb3:=hkeep W3 hk3;have hr:=run_endRound (P:=P) none hb3.1;have er:({ rc .busy none with state:=if (none:Option Code).isNone then .ready else .done,pending:=none }:Loop)=rc .ready none:=by rw[hrc];rfl
    rw[er]at hr;exact⟨_,_,hr,.inl ⟨rfl,⟨hI.putObj _ hi3 (by omega) hb3.1 rfl,hput hb3⟩,hKt (hKt XX hkp3) (hKb _ _ _ _ (by omega) hb3.1 rfl rfl)⟩⟩
  | ret=>
    obtain⟨hk3,hi3⟩:=hp;have hb3:=hkeep W3 hk3;have hr:=run_endRound (P:=P) (some .ret) hb3.1;have er:({ rc .busy none with state:=if (some Code.ret).isNone then .ready else .done,pending:=some .ret }:Loop)=rc .done (some .ret):=by rw[hrc];rfl
    rw[er]at hr;exact⟨_,_,hr,.inr ⟨rfl,hIx.putObj _ hi3 (by omega) hb3.1 rfl,hput hb3⟩⟩
  | exit id=>exact hp.elim
  | goto t=>exact hp.elim
  | panic ch=>exact hp.elim
  | outgrown=>exact hp.elim
 ·rintro e W2 ⟨⟨v,rfl⟩,(⟨xs,hS,hi,hbk⟩|⟨pre,hSp,hi,hbk⟩)⟩
  ·have hr:=run_endLoop (P:=P) hbk.1 (by rw[hrc];simp);have ep:(rc .ready none).pending=none:=by rw[hrc]
   rw[ep]at hr;exact⟨none,_,hr,hdone _ xs _ (ay _) hS (hI.putObj _ hi (by omega) hbk.1 rfl) ((World.putObj_heap_other (by omega)).trans hbk.2)⟩
  ·have hr:=run_endLoop (P:=P) hbk.1 (by rw[hrc];simp);have ep:(rc .done (some .ret)).pending=some .ret:=by rw[hrc]
   rw[ep]at hr;exact⟨some .ret,_,hr,hstop _ pre _ (ay _) hSp (hIx.putObj _ hi (by omega) hbk.1 rfl) ((World.putObj_heap_other (by omega)).trans hbk.2)⟩
section
attribute [local go_sem] Oper.semAt_some
abbrev JV:={x:List UInt8 // x.length<=1048576}
def Ri(w:World)(c:Nat):Nat:=match w.cell? ⟨c,0,none⟩ with
 | some (.string b)=>b.size
 | _=>0
theorem JM{w:World}{c:Nat}{l:List UInt8}(h:w.cell? ⟨c,0,none⟩=some (.string (tx l))):Ri w c=l.length:=by unfold Ri;rw[h];rfl
theorem Lr(l:List UInt8)(m:Int)(w:World)(hm:w.cell? ⟨0,0,none⟩=some (.int .i64 m))(hl:l.length<=2097152) :
 Calls Tryz.prog 215 #[.string (tx l),.string ⟨#[59,32]⟩] w λe w'=>e=.returned (.int .i64 (Lib.index l [59,32]))/\w'=w:=
 Tryz.strings_Index (tx l) (tx [59,32]) m w (by rw[eZ];omega) hm
theorem pR{n₀ lo hi:Nat}{W W':World}{B:Nat}{t:TypeId}{v:Value}(h:Boxed W B t v)(k:qP n₀ lo hi W W')(h1:lo<=B)(h2:B<hi):Boxed W' B t v:=(k.2 B h1 h2).trans h
theorem Bu(n:Nat)(hn:1<=n)(c n₀:Nat)(l0:JV)(m:Int)(w:World)(hg:0<n₀)(hcn:n₀<=c)(hm:w.cell? ⟨0,0,none⟩=some (.int .i64 m))
 (h0:Boxed w c 9 (.string (tx l0.1))) (h1:Boxed w (c+1) 9 (.string ⟨#[59,32]⟩)) (h2:Boxed w (c+2) 3 (.int .i64 0)) :
 Me n Tryz.prog 219 #[.pointer (some ⟨c+1,0,none⟩),.pointer (some ⟨c,0,none⟩),.pointer (some ⟨c+2,0,none⟩)] (λx:JV=>#[.string (tx x.1)]) c (qP n₀ c (c+3)) (λys=>ys.map (·.1)=splitS l0.1) (λys=>∃r,splitS l0.1=ys.map (·.1)++r) (splitS l0.1).length w:=λl J Jx W hW hJs hY hJ0=>by
 have hc:=h2.lt;have WM:=(hW.cell (p:=⟨0,0,none⟩) (by simp;omega)).trans hm;have b0:=aC h0 hW;have b1:=aC h1 hW;have b2:=aC h2 hW;clear hW hm h0 h1 h2 hc w;refine callsIn_of_wp Tryz.func219 rfl trivial ?_ rfl;simp only[Tryz.ntmps219,List.size_toArray,eF,jK,Nat.reduceAdd,Nat.reduceSub,Array.replicate_succ,Array.replicate_zero,List.push_toArray,List.append_toArray,List.nil_append,List.cons_append];have cs:=b1.cell;have HB:=aa (aL b0 (aL b1 b2));clear b0 b1 b2
 gi_wp2
 clear cs
 gi_loopw [] (λwr=>∃(pre:List JV) (rest:List UInt8),Hid (splitS l0.1=pre.map (·.1)++splitS rest/\rest.length<=1048576/\J pre wr/\Boxed wr c 9 (.string (tx rest))/\Boxed wr (c+1) 9 (.string ⟨#[59,32]⟩)/\Boxed wr (c+2) 3 (.int .i64 0)/\wr.cell? ⟨0,0,none⟩=some (.int .i64 m))) (λwr=>Ri wr c)
 case atStart=>exact⟨[],l0.1,rfl,l0.2,hJ0,HB.out.1,HB.out.2.1,HB.out.2.2,WM⟩
 case round=>
  obtain⟨pre,rest,HR⟩:=hrel;obtain⟨hsp,hrl,hJ,b0,b1,b2,hmm⟩:=HR.out;have c0:=b0.cell;have f0:=b0.frozen;have c1:=b1.cell;have c2:=b2.cell;have HI:=aa (Lr rest m wr hmm (by omega));have HLEN:=aa (JM c0);have Bl:=aa (aL b0 (aL b1 (aL b2 hmm)));have P5:=aa hsp;have hsz:(tx rest).size=rest.length:=eZ rest;rcases ng rest [59,32] with hi|⟨i,hi⟩
  ·have hs1:=(pI rest).1 hi;rw[hi]at HI;rw[hs1]at hsp;have hpl:pre.length<(splitS l0.1).length:=by rw[hsp];simp
   obtain⟨fn,tmps,assign,body,hy,hR⟩:=hY pre ⟨rest,hrl⟩ wr hJ hpl
   dsimp only at hy
   have nP:Hid ((pre++[(⟨rest,hrl⟩:JV)]).map (·.1)=splitS l0.1):=by show _ = _;rw[hsp];simp
   generalize tx rest=z at *;clear HR hsp hJ b0 b1 b2 hmm hY hJs HB WM
   gi_wp2_with (refine⟨trivial,?_⟩;gi_at_call 215;refine(callsIn_wide.2 HI.out).mono ?_;rintro e w' ⟨rfl,rfl⟩)
   refine hR.mono ?_;rintro e W3 (⟨rfl,hJ3,hk3⟩|⟨rfl,hJx3⟩)
   ·gi_wp2
    go_end0
    exact⟨⟨_,rfl⟩,.inl ⟨_,nP.out,hJ3⟩⟩
   ·gi_wp2
    go_end0
    exact⟨⟨_,rfl⟩,.inr ⟨_,⟨[],by rw[nP.out,oP]⟩,hJx3⟩⟩
  ·have hs2:=(pI rest).2 i hi;have hroom:=Lib.index_room rest [59,32] (by omega);rw[hi]at HI hroom;simp only[eF,jK]at hroom;rw[hs2]at hsp;have hpl:pre.length<(splitS l0.1).length:=by rw[hsp];simp
   have hfl:(rest.take i).length<=1048576:=by rw[ig];omega
   obtain⟨fn,tmps,assign,body,hy,hR⟩:=hY pre ⟨rest.take i,hfl⟩ wr hJ hpl
   dsimp only at hy
   have x1:(tx rest).extract 0 i=tx (rest.take i):=by rw[zG];rfl
   have x2:(tx rest).extract (i+2) (tx rest).size=tx (rest.drop (i+2)):=LP rest (i+2);have hi0:(0:Int)<=(i:Int):=by omega
   have hi1:(i:Int)<=(rest.length:Int):=by omega
   have hi2:(i:Int)+2<=(rest.length:Int):=by omega
   have hw0:IntKind.i64.wrap ((i:Int)+0)=(i:Int):=jI _ ⟨by omega,by omega⟩;have hw2:IntKind.i64.wrap ((i:Int)+2)=((i+2:Nat):Int):=jI _ ⟨by omega,by omega⟩;have lZ:Hid (splitS l0.1=(pre++[(⟨rest.take i,hfl⟩:JV)]).map (·.1)++splitS (rest.drop (i+2))):=by show _ = _;rw[hsp];simp
   obtain⟨y1,hy1⟩:∃y,tx (rest.take i)=y:=⟨_,rfl⟩;obtain⟨y2,hy2⟩:∃y,tx (rest.drop (i+2))=y:=⟨_,rfl⟩;rw[hy1]at x1 hy;rw[hy2]at x2;have Rh:=aa hy2;obtain⟨z,hz⟩:∃z,tx rest=z:=⟨_,rfl⟩;rw[hz]at HI hsz x1 x2 c0 Bl;rw[hsz]at x2;clear HR hsp hJ b0 b1 b2 hmm hY HB WM hy1 hy2 hz hroom hs2
   gi_wp2_with (refine⟨trivial,?_⟩;gi_at_call 215;refine(callsIn_wide.2 HI.out).mono ?_;rintro e w' ⟨rfl,rfl⟩)
   refine hR.mono ?_;rintro e W3 (⟨rfl,hJ3,hk3⟩|⟨rfl,hJx3⟩)
   ·have g0:=pR Bl.out.1 hk3 (ay _) (by omega);have g1:=pR Bl.out.2.1 hk3 (by omega) (by omega);have g2:=pR Bl.out.2.2.1 hk3 (by omega) (by omega);have gm:=(hk3.1.cell (p:=⟨0,0,none⟩) hg).trans Bl.out.2.2.2;have c0:=g0.cell;have f0:=g0.frozen;have c1:=g1.cell;have c2:=g2.cell;have hne1:(⟨c,0,none⟩:Addr).block≠c+1:=by simp
    have hne2:(⟨c,0,none⟩:Addr).block≠c+2:=by simp
    have HG:Hid (Boxed (W3.setCell ⟨c,0,none⟩ (.string y2)) c 9 (.string (tx (rest.drop (i+2))))/\Boxed (W3.setCell ⟨c,0,none⟩ (.string y2)) (c+1) 9 (.string ⟨#[59,32]⟩)/\Boxed (W3.setCell ⟨c,0,none⟩ (.string y2)) (c+2) 3 (.int .i64 0)/\(W3.setCell ⟨c,0,none⟩ (.string y2)).cell? ⟨0,0,none⟩=some (.int .i64 m)):=by
     refine⟨?_,gu g1 hne1 _,gu g2 hne2 _,(av (by intro e;injection e with e _ _;omega) _).trans gm⟩
     have:=g0.set (.string y2)
     rw[<-Rh.out]at this ⊢;exact this
    have Ws:=aa (hJs _ _ (.string y2) hJ3);clear g0 g1 g2 gm hJ3 hk3 hR hy hJs hne1 hne2
    gi_wp2
    go_roundw;case rel=>exact⟨pre++[⟨rest.take i,hfl⟩],rest.drop (i+2),lZ.out,by rw[kU];omega,Ws.out,HG.out⟩
    case measure=>
     rw[HLEN.out,JM HG.out.1.cell,kU];omega
   ·gi_wp2
    refine bodyPost_ret (results_none rfl _ _ _) rfl ?_;exact⟨⟨_,rfl⟩,.inr ⟨_,⟨_,lZ.out⟩,hJx3⟩⟩
end
def Scan(p:Nat)(W:World)(ws:List (List UInt8))(bad:Bool):Prop:=
 ∃v,W.heap[p]? =some (.cells #[v,.bool bad] 149 (0,0))/\aI 1 encS W v ws/\qM v/\fT 9 W v
theorem heap_set{W:World}{p i:Nat}{cs:Array Value}{t:TypeId}{fr:Nat × Nat}(h:W.heap[p]? =some (.cells cs t fr))(u:Value):(W.setCell ⟨p,i,none⟩ u).heap[p]? =some (.cells (cs.setIfInBounds i u) t fr):=by simp[World.setCell,oM,h]
theorem rJ{I:TypeId}{X:Nat->Prop}{w w':World}{u:Value}(h:fT I w u)(k:bF X w w')(hx:∀a n c,u=.slice (some a) n c->0<n->¬X a.block):fT I w' u:=λa n c hu hn=>by obtain⟨cs,fr,hg⟩:=h a n c hu hn;exact⟨cs,fr,k.heap hg (hx a n c hu hn)⟩
theorem EM{I T:TypeId}{W:World}{v:Value}{p:Nat}{cs:Array Value}{fr:Nat × Nat}(h:fT I W v)(hp:W.heap[p]? =some (.cells cs T fr))(hne:I≠T):∀a n c,v=.slice (some a) n c->0<n->a.block≠p:=λa n c hv hn e=>by obtain⟨cs',fr',hg⟩:=h a n c hv hn;rw[e,hp]at hg;injection hg with hg;injection hg with _ e _;exact hne e.symm
theorem Scan.frX{p:Nat}{X:Nat->Prop}{W W':World}{ws:List (List UInt8)}{bad:Bool}(h:Scan p W ws bad)(k:bF X W W')(hp:¬X p)(hx:∀b cs fr,W.heap[b]? =some (.cells cs 9 fr)->¬X b):Scan p W' ws bad:=by
 obtain⟨v,h1,h2,h3,h4⟩:=h;have hf:∀a n c,v=.slice (some a) n c->0<n->¬X a.block:=λa n c hv hn=>by obtain⟨cs,fr,hg⟩:=h4 a n c hv hn;exact hx _ cs fr hg
 exact⟨v,k.heap h1 hp,h2.frX k hf,h3,rJ h4 k hf⟩
theorem Scan.ext{p:Nat}{W W':World}{ws:List (List UInt8)}{bad:Bool}(h:Scan p W ws bad)(k:Ext W W'):Scan p W' ws bad:=
 h.frX (X:=λ_=>False) (.aO k) (λe=>e) (λ_ _ _ _ e=>e)
theorem Scan.mark{p:Nat}{W:World}{ws:List (List UInt8)}{bad:Bool}(h:Scan p W ws bad)(b:Bool):Scan p (W.setCell ⟨p,1,none⟩ (.bool b)) ws b:=by obtain⟨v,h1,h2,h3,h4⟩:=h;have hf:=EM h4 h1 (by decide);have k:bF (λi=>i=p) W (W.setCell ⟨p,1,none⟩ (.bool b)):=bF.setCell (X:=λi=>i=p) (bF.refl _ _) (.inl rfl) _;exact⟨v,heap_set h1 _,h2.frX k hf,h3,rJ h4 k hf⟩
theorem Scan.step{p:Nat}{W:World}{ws ws':List (List UInt8)}{bad:Bool}(h:Scan p W ws bad){v':Value}(h2:aI 1 encS W v' ws')(h3:qM v')(h4:fT 9 W v'):Scan p (W.setCell ⟨p,0,none⟩ v') ws' bad:=by obtain⟨v,h1,_,_,_⟩:=h;have hf:=EM h4 h1 (by decide);have k:bF (λi=>i=p) W (W.setCell ⟨p,0,none⟩ v'):=bF.setCell (X:=λi=>i=p) (bF.refl _ _) (.inl rfl) _;exact⟨v',heap_set h1 _,h2.frX k hf,h3,rJ h4 k hf⟩
theorem Scan.cells{p:Nat}{W:World}{ws:List (List UInt8)}{bad:Bool}(h:Scan p W ws bad):∃A c,W.cell? ⟨p,0,none⟩=some (.slice A ws.length c)/\W.cell? ⟨p,1,none⟩=some (.bool bad)/\(∀j,W.frozen? ⟨p,j,none⟩=false)/\aI 1 encS W (.slice A ws.length c) ws/\fT 9 W (.slice A ws.length c)/\ws.length<=c/\c<=9223372036854775807:=by obtain⟨v,h1,h2,h3,h4⟩:=h;obtain⟨A,c,rfl,_⟩:=id h2;exact⟨A,c,by simp[World.cell?,h1],by simp[World.cell?,h1],λj=>by simp[World.frozen?,h1],h2,h4,h3 _ _ _ rfl⟩
def TB(T:TypeId)(W:World)(q:Nat):Prop:=∃cs fr,W.heap[q]? =some (.cells cs T fr)
theorem TB.set{T:TypeId}{W:World}{q:Nat}(h:TB T W q)(i:Nat)(u:Value):TB T (W.setCell ⟨q,i,none⟩ u) q:=by obtain⟨cs,fr,h⟩:=h;exact⟨_,fr,heap_set h u⟩
theorem TB.frX{T:TypeId}{X:Nat->Prop}{W W':World}{q:Nat}(h:TB T W q)(k:bF X W W')(hq:¬X q):TB T W' q:=by obtain⟨cs,fr,h⟩:=h;exact⟨cs,fr,k.heap h hq⟩
theorem TB.ne{T U:TypeId}{W:World}{p q:Nat}(h:TB T W p)(k:TB U W q)(hne:T≠U):p≠q:=λe=>by subst e;obtain⟨_,_,h⟩:=h;obtain⟨_,_,k⟩:=k;rw[h]at k;injection k with k;injection k with _ e _;exact hne e
theorem TB.fu{α:Type}{e:TypeId}{m:Nat}{enc:α->Nat->Value}{base:Nat}{W:World}{v:Value}{xs:List α}(h:Row e m enc base W v xs){k:Nat}(hk:v.ownBlock=some k):TB e W k:=by
 rcases h.2 with ⟨rfl,_⟩|⟨g,cap,cur,rfl,h1,h2,h3⟩
 ·cases hk
 ·have e1:g=k:=by simpa[Value.ownBlock] using hk
  subst e1;exact⟨cur,_,h2⟩
theorem Scan.tb{p:Nat}{W:World}{ws:List (List UInt8)}{bad:Bool}(h:Scan p W ws bad):TB 149 W p:=let ⟨_,h1,_⟩:=h;⟨_,_,h1⟩
theorem Scan.far{p:Nat}{X:Nat->Prop}{W W':World}{ws:List (List UInt8)}{bad:Bool}(h:Scan p W ws bad)(k:bF X W W')(hX:∀q,X q->∃T,TB T W q/\T≠149/\T≠9):Scan p W' ws bad:=by
 refine h.frX k (λe=>?_) (λb cs fr hb e=>?_)
 ·obtain⟨T,h1,h2,_⟩:=hX p e;exact TB.ne h1 h.tb h2 rfl
 ·obtain⟨T,h1,_,h2⟩:=hX b e;exact TB.ne h1 ⟨cs,fr,hb⟩ h2 rfl
theorem Scan.other{p q:Nat}{T:TypeId}{W:World}{ws:List (List UInt8)}{bad:Bool}(h:Scan p W ws bad)(hq:TB T W q)(hT:T≠149/\T≠9)(i:Nat)(u:Value):Scan p (W.setCell ⟨q,i,none⟩ u) ws bad:=
 h.far (X:=λk=>k=q) (bF.setCell (X:=λk=>k=q) (bF.refl _ _) (.inl rfl) _) (λ_ e=>⟨T,e▸hq,hT⟩)
theorem uT{p:Nat}{ws:List (List UInt8)}{bad:Bool}(W:World)(H:Scan p W ws bad)(hl:ws.length<=2097152) :
 Calls Tryz.prog 138 #[.pointer (some ⟨p,0,none⟩)] W λe W'=>e=.returned (.string (tx (ws.headD [])))/\Scan p W' ws.tail (bad || ws.isEmpty)/\bF (λk=>k=p) W W':=by
 obtain⟨A,c,c0,c1,fz,hs,hty,hc1,hc2⟩:=H.cells;have f0:=fz 0;have f1:=fz 1;have HS:=aa (aL hs hty);have HH:=aa H;clear fz H hty
 cases ws with
 | nil=>
   clear hs;simp only[jK]at *;go_enter Tryz.func138,Tryz.ntmps138;go_wp2;go_returns;exact⟨rfl,by simpa using HH.out.mark true,bF.setCell (X:=λi=>i=p) (bF.refl _ _) (.inl rfl) _⟩
 | cons x r=>
   obtain⟨A2,c2,e,hcc⟩:=hs;injection e with e1 e2 e3;subst e1 e3;obtain⟨b,off,rfl,hbl,hcc⟩:=hcc (by simp);have d0:=hcc 0 x rfl 0 (by omega);simp only[Nat.zero_mul,gL,encS]at d0;obtain⟨z,hz⟩:∃z,tx x=z:=⟨_,rfl⟩;rw[hz]at d0;have HZ:=aa hz;have HC:=aa hcc;obtain⟨n,hn⟩:∃n,(x :: r).length=n:=⟨_,rfl⟩;rw[hn]at c0 hc1 HS hl;have hn1:(1:Int)<=(n:Int):=by rw[<-hn];simp;omega
   have HN:=aa hn;clear hcc hz e2 hn;have HE:Hid (∀a m d,(.slice (some a) m d:Value)=.slice (some ⟨b,off,none⟩) n c->True):=λ_ _ _ _=>trivial;go_enter Tryz.func138,Tryz.ntmps138;go_wp2
   ·go_returns;have hn:=HN.out;simp only[eF]at hn;have hr:r=[]:=kZ (by omega);subst hr;refine⟨by rw[<-HZ.out];rfl,?_,bF.setCell (X:=λi=>i=p) (bF.refl _ _) (.inl rfl) _⟩;refine Scan.step (ws':=[]) HH.out ?_ (λ_ _ _ e=>by injection e with _ e2 e3;omega) (λa m d e hm=>by injection e with e1 e2 e3;omega)
    have:n-1=0:=by omega
    first
     | (rw[this];exact aI.nil _ _ _ _ _)
     | exact aI.nil _ _ _ _ _
   ·go_returns;have hn:=HN.out;simp only[eF]at hn;refine⟨by rw[<-HZ.out];rfl,?_,bF.setCell (X:=λi=>i=p) (bF.refl _ _) (.inl rfl) _⟩;refine Scan.step (ws':=r) HH.out ⟨_,_,by rw[<-hn,Nat.add_sub_cancel],λ_=>⟨b,off+1,rfl,hbl,λi y hy j hj=>?_⟩⟩ (λ_ _ _ e=>by injection e with _ e2 e3;omega) (λa m d e hm=>?_)
    ·have:=HC.out (i+1) y (by simpa using hy) j hj
     rw[show off+1+i*1+j=off+(i+1)*1+j by omega];exact this
    ·injection e with e1 e2 e3;injection e1 with e1;subst e1;exact HS.out.2 ⟨b,off,none⟩ _ _ rfl (by omega)
theorem Nw(l:List UInt8)(W:World):Calls Tryz.prog 176 #[.string (tx l),.string ⟨#[115]⟩] W λe W'=>e=.returned (.tuple #[.string (tx (if l.head? =some 115 then l.drop 1 else l)),.bool (l.head? == some 115)])/\W=W':=by
 refine(Tryz.strings_CutPrefix (tx l) (tx [115]) W).mono ?_
 rintro e W' ⟨rfl,rfl⟩;refine⟨?_,rfl⟩;rw[Dp,Dp]
 cases l with
 | nil=>rfl
 | cons a r=>
   by_cases h:a=115
   ·subst h;simp[Lib.trimPrefix,Lib.hasPrefix,tx]
   ·have h':¬115=a:=λe=>h e.symm;have e1:([115]:List UInt8).isPrefixOf (a :: r)=false:=by simp[List.isPrefixOf,h']
    simp[Lib.trimPrefix,Lib.hasPrefix,tx,h,e1]
theorem xq{p:Nat}{ws:List (List UInt8)}{bad:Bool}(W:World)(H:Scan p W ws bad)(hl:ws.length<=2097152)(hE:∀W',bF (λk=>k=p) W W'->Env W')(hw:∀x∈ws,x.length<=2097152) :
 Calls Tryz.prog 137 #[.pointer (some ⟨p,0,none⟩)] W λe W'=>∃(n:Int) (b':Bool),e=.returned (.int .i64 n)/\Scan p W' ws.tail b'/\bF (λk=>k=p) W W'/\(∀s:Nat,s<10->ws.head? =some [115,mW s]->n=(s:Int)/\b'=bad)/\(ws.headD []=[]->b'=true):=by
 have HE:=aa hE;obtain⟨x,hx⟩:∃x,ws.headD []=x:=⟨_,rfl⟩;have hxl:x.length<=2097152:=by
  rw[<-hx]
  cases ws with
  | nil=>simp
  | cons a r=>exact hw a (by simp)
 have HN:=aa (uT W H hl);rw[hx]at HN;have HC:=aa (λW=>Nw x W);obtain⟨b1,hb1⟩:∃b1,(bad || ws.isEmpty)=b1:=⟨_,rfl⟩;rw[hb1]at HN;obtain⟨y,hy⟩:∃y,(if x.head? =some 115 then x.drop 1 else x)=y:=⟨_,rfl⟩;have hyl:y.length<=2097152:=by
  rw[<-hy];split
  ·rw[kU];omega
  ·exact hxl
 obtain⟨ok,hok⟩:∃ok,(x.head? == some 115)=ok:=⟨_,rfl⟩;rw[hy,hok]at HC;have HX:=aa (aL hx (aL hb1 (aL hy hok)));obtain⟨zx,hzx⟩:∃z,tx x=z:=⟨_,rfl⟩;obtain⟨zy,KZ⟩:∃z,tx y=z:=⟨_,rfl⟩;have HA:=aa (λW (h:Env W)=>Gm y W h (by omega));rw[hzx]at HN HC;rw[KZ]at HC HA;clear H hl hE hw hx hxl hb1 hy hyl hok hzx KZ;have hfin:Hid (∀(n:Int) (ev:Value) (b' en:Bool),(Lib.atoiAll y=.ok n/\ev=.nilIface∨(∀v,Lib.atoiAll y≠.ok v)/\∃te pe,ev=.iface te pe)->(ev=.nilIface->en=false)->b'=(b1 || !ok || en)->(∀s:Nat,s<10->ws.head? =some [115,mW s]->n=(s:Int)/\b'=bad)/\(ws.headD []=[]->b'=true)):=λn ev b' en hc hen hb=>by
  obtain⟨q1,q2,q3,q4⟩:=HX.out;subst hb;constructor
  ·intro s hs he
   cases ws with
   | nil=>cases he
   | cons a r=>
     simp only[List.head?_cons,Option.some.injEq]at he;simp only[List.headD_cons]at q1;subst q1 he;have ey:y=dh s:=by rw[<-q3];unfold dh;rw[ah hs];rfl
     rw[ey,atoi_numL (by omega)]at hc;rcases hc with ⟨e1,rfl⟩|⟨e1,_⟩
     ·injection e1 with e1;refine⟨e1.symm,?_⟩;rw[<-q2,<-q4,hen rfl];simp
     ·exact absurd rfl (e1 _)
  ·intro he
   have:ok=false:=by rw[<-q4,<-q1,he];rfl
   rw[this];simp
 go_enter Tryz.func137,Tryz.ntmps137;go_wp2_with fail
 refine HN.out.mono ?_;rintro e W1 ⟨rfl,s1,k1⟩;have S1:=aa s1;have K1:=aa k1;clear s1 k1;go_wp2_with fail
 refine(HC.out _).mono ?_
 rintro e W' ⟨rfl,rfl⟩;go_wp2_with fail
 refine(HA.out _ (HE.out _ K1.out)).mono ?_
 rintro e W2 ⟨n,ev,rfl,b2,hc⟩;have S2:=aa (S1.out.ext b2);have K2:=aa (K1.out.ext b2);have HF:=aa (λb' en=>hfin.out n ev b' en hc);obtain⟨A,c,c0,c1,fz,_⟩:=S2.out.cells;have f1:=fz 1;clear c0 fz b2 S1 K1;have hev:ev=.nilIface∨∃te pe,ev=.iface te pe:=hc.elim (λh=>.inl h.2) (λh=>.inr h.2);clear hc;rcases hev with rfl|⟨te,pe,rfl⟩
 ·cases b1<;>cases ok<;>(
   go_wp2;go_returns;exact⟨n,_,rfl,S2.out.mark _,K2.out.setCell (.inl rfl) _,HF.out _ false (λ_=>rfl) rfl⟩)
 ·cases b1<;>cases ok<;>(
   go_wp2;go_returns;exact⟨n,_,rfl,S2.out.mark _,K2.out.setCell (.inl rfl) _,HF.out _ true (λh=>(by cases h)) rfl⟩)
theorem KN{a b:UInt8}{o:aJ}(h:dK o=true)(e:[a,b]=kX o):(⟨if (a.toNat:Int)=119 then 2 else 1,(b.toNat:Int)-48,0⟩:aJ)=o:=by
 have k1:=iO h;have k2:=mO h;unfold kX at e;injection e with e1 e2;injection e2 with e2 _;have hb:b.toNat=48+o.key.toNat:=by rw[e2];exact mH (by omega)
 refine aJ.ext' ?_ ?_ ?_
 ·simp only;rw[e1];unfold bu jl;rcases jD h with q|q<;>rw[q]<;>simp
 ·simp only;omega
 ·simp only;omega
theorem D9{p:Nat}{ws:List (List UInt8)}{bad:Bool}(W:World)(H:Scan p W ws bad)(hl:ws.length<=2097152) :
 Calls Tryz.prog 141 #[.pointer (some ⟨p,0,none⟩)] W λe W'=>∃(o:aJ) (b':Bool),e=.returned (fZ o)/\Scan p W' ws.tail b'/\bF (λk=>k=p) W W'/\∀o',dK o'=true->ws.head? =some (kX o')->o=o'/\b'=bad:=by
 have hp:p<W.heap.size:=by obtain⟨v,h1,_⟩:=H;exact(dB.1 h1).1
 have HN:=aa (λW' (h:Scan p W' ws bad)=>uT W' h hl);have hA:bF (λk=>k=p) W (W.alloc (.cells #[.int .i64 0,.int .i64 0,.int .i64 0] 67)):=(bF.refl _ _).alloc _;have HS:=aa (H.ext ((af _).alloc (.cells #[.int .i64 0,.int .i64 0,.int .i64 0] 67)));have HA:=aa hA;clear H hl hA;obtain⟨b1,hb1⟩:∃b1,(bad || ws.isEmpty)=b1:=⟨_,rfl⟩;obtain⟨x,hx⟩:∃x,ws.headD []=x:=⟨_,rfl⟩;rw[hb1,hx]at HN;have hhead:Hid (∀y,ws.head? =some y->x=y/\b1=bad):=λy hy=>by
  cases ws with
  | nil=>cases hy
  | cons a r=>simp only[List.head?_cons,Option.some.injEq]at hy;subst hy;exact⟨hx.symm,by rw[<-hb1];simp⟩
 clear hb1 hx;by_cases h2:x.length=2;case neg=>
  have hs:(((tx x).size:Int) != 2)=true:=by rw[eZ,bne_iff_ne];omega
  have hno:Hid (∀o',dK o'=true->ws.head? =some (kX o')->False):=λo' _ he=>h2 (by rw[(hhead.out _ he).1];rfl);generalize tx x=z at *;clear h2;go_enter Tryz.func141,Tryz.ntmps141;go_wp2_with fail
  refine(HN.out _ HS.out).mono ?_
  rintro e W1 ⟨rfl,s1,k1⟩;have S1:=aa s1;have K1:=aa (HA.out.trans k1);obtain⟨A,c,c0,c1,fz,_⟩:=s1.cells;have f1:=fz 1;have q0:=k1.cell (p:=⟨W.heap.size,0,none⟩) (az rfl) (by simp;omega);have q1:=k1.cell (p:=⟨W.heap.size,1,none⟩) (az rfl) (by simp;omega);have q2:=k1.cell (p:=⟨W.heap.size,2,none⟩) (az rfl) (by simp;omega);have fq:∀j,W1.frozen? ⟨W.heap.size,j,none⟩=false:=λj=>(k1.frozen (by simp) (by simp;omega)).trans (iy j rfl);have fq0:=fq 0;have fq1:=fq 1;have fq2:=fq 2;have OB:Hid (TB 67 W1 W.heap.size):=TB.frX ⟨_,_,dx W _⟩ k1 (by omega);have hpn:(⟨p,1,none⟩:Addr)≠⟨W.heap.size,0,none⟩/\(⟨p,1,none⟩:Addr)≠⟨W.heap.size,1,none⟩/\(⟨p,1,none⟩:Addr)≠⟨W.heap.size,2,none⟩:=by refine⟨?_,?_,?_⟩<;>(intro e;injection e with e _ _;omega)
  have MS:=aa hpn;clear c0 fz fq s1 k1 hpn;have r0:=(av MS.out.1 (.bool true)).trans q0;have r1:=(av MS.out.2.1 (.bool true)).trans q1;have r2:=(av MS.out.2.2 (.bool true)).trans q2;go_wp2;obtain⟨y0,y1,y2⟩:=fG (.int .i64 0) (.int .i64 0) (.int .i64 0) r0 r1 r2;refine bodyPost_ret (v:=.agg #[.int .i64 0,.int .i64 0,.int .i64 0]) (by simp[results,Tryz.results141,go_sem,y0,y1,y2]) rfl ?_;have S2:=S1.out.mark true;have B2:TB 67 (W1.setCell ⟨p,1,none⟩ (.bool true)) W.heap.size:=OB.out.frX (X:=λk=>k=p) (bF.setCell (X:=λk=>k=p) (bF.refl _ _) (.inl rfl) _) (by omega);exact⟨⟨0,0,0⟩,true,rfl,((S2.other B2 (by decide) _ _).other (B2.set _ _) (by decide) _ _).other ((B2.set _ _).set _ _) (by decide) _ _,(((K1.out.setCell (.inl rfl) _).setCell (.inr (ay _)) _).setCell (.inr (ay _)) _).setCell (.inr (ay _)) _,λo' ho he=>(hno.out o' ho he).elim⟩
 case pos=>
  match x,h2 with
  | [a,b],_=>
    have hs:(((tx [a,b]).size:Int) != 2)=false:=by rw[eZ];rfl
    have hi0:=yg (l:=[a,b]) (k:=0) rfl 0 rfl;have hi1:=yg (l:=[a,b]) (k:=1) rfl 1 rfl;have hb0:(0:Int)<=(b.toNat:Int):=by omega
    have hb1:(b.toNat:Int)<=255:=by have:=b.toNat_lt;omega
    have hwb:IntKind.i64.wrap ((b.toNat:Int)-48)=(b.toNat:Int)-48:=jI _ ⟨by omega,by omega⟩;have HO:Hid (∀o',dK o'=true->ws.head? =some (kX o')->(⟨if (a.toNat:Int)=119 then 2 else 1,(b.toNat:Int)-48,0⟩:aJ)=o'/\b1=bad):=λo' ho he=>⟨KN ho (hhead.out _ he).1,(hhead.out _ he).2⟩;generalize tx [a,b]=z at *;generalize (a.toNat:Int)=an at *;generalize (b.toNat:Int)=bn at *;clear hhead;by_cases hk:an=119;all_goals (
     have hkd:(an==119)=decide (an=119):=by by_cases h:an=119<;>simp[h]
     go_enter Tryz.func141,Tryz.ntmps141;go_wp2_with fail
     refine(HN.out _ HS.out).mono ?_
     rintro e W1 ⟨rfl,s1,k1⟩;have S1:=aa s1;have K1:=aa (HA.out.trans k1);have q0:=k1.cell (p:=⟨W.heap.size,0,none⟩) (az rfl) (by simp;omega);have q1:=k1.cell (p:=⟨W.heap.size,1,none⟩) (az rfl) (by simp;omega);have q2:=k1.cell (p:=⟨W.heap.size,2,none⟩) (az rfl) (by simp;omega);have fq:∀j,W1.frozen? ⟨W.heap.size,j,none⟩=false:=λj=>(k1.frozen (by simp) (by simp;omega)).trans (iy j rfl);have fq0:=fq 0;have fq1:=fq 1;have fq2:=fq 2;have OB:Hid (TB 67 W1 W.heap.size):=TB.frX ⟨_,_,dx W _⟩ k1 (by omega);have hpn:(⟨p,1,none⟩:Addr)≠⟨W.heap.size,0,none⟩/\(⟨p,1,none⟩:Addr)≠⟨W.heap.size,1,none⟩/\(⟨p,1,none⟩:Addr)≠⟨W.heap.size,2,none⟩:=by refine⟨?_,?_,?_⟩<;>(intro e;injection e with e _ _;omega)
     have MS:=aa hpn;have hsz:W.heap.size<W1.heap.size:=by have:=k1.size;simp at this;omega
     clear fq s1 k1 hpn MS;go_wp2
     first
     | (obtain⟨x0,x1,x2⟩:=fG (.int .i64 1) (.int .i64 (bn-48)) (.int .i64 0) q0 q1 q2
        have X:=(af (((W1.setCell ⟨W.heap.size,0,none⟩ (.int .i64 1)).setCell ⟨W.heap.size,1,none⟩ (.int .i64 (bn-48))).setCell ⟨W.heap.size,2,none⟩ (.int .i64 0))).alloc (.cells #[.int .i64 1,.int .i64 (bn-48),.int .i64 0] 67);have y0:=X.cell x0;have y1:=X.cell x1;have y2:=X.cell x2;refine bodyPost_ret (v:=.agg #[.int .i64 1,.int .i64 (bn-48),.int .i64 0]) (by simp[results,Tryz.results141,go_sem,y0,y1,y2]) rfl ?_;exact⟨⟨1,bn-48,0⟩,b1,rfl,(((S1.out.other OB.out (by decide) _ _).other (OB.out.set _ _) (by decide) _ _).other ((OB.out.set _ _).set _ _) (by decide) _ _).ext X,(((K1.out.setCell (.inr (ay _)) _).setCell (.inr (ay _)) _).setCell (.inr (ay _)) _).ext X,λo' ho he=>(by have:=HO.out o' ho he;rw[ak hk]at this;exact this)⟩)
     | (obtain⟨x0,x1,x2⟩:=fG (.int .i64 2) (.int .i64 (bn-48)) (.int .i64 0) q0 q1 q2
        have X:=(af (((W1.setCell ⟨W.heap.size,0,none⟩ (.int .i64 2)).setCell ⟨W.heap.size,1,none⟩ (.int .i64 (bn-48))).setCell ⟨W.heap.size,2,none⟩ (.int .i64 0))).alloc (.cells #[.int .i64 2,.int .i64 (bn-48),.int .i64 0] 67);have y0:=X.cell x0;have y1:=X.cell x1;have y2:=X.cell x2;refine bodyPost_ret (v:=.agg #[.int .i64 2,.int .i64 (bn-48),.int .i64 0]) (by simp[results,Tryz.results141,go_sem,y0,y1,y2]) rfl ?_;exact⟨⟨2,bn-48,0⟩,b1,rfl,(((S1.out.other OB.out (by decide) _ _).other (OB.out.set _ _) (by decide) _ _).other ((OB.out.set _ _).set _ _) (by decide) _ _).ext X,(((K1.out.setCell (.inr (ay _)) _).setCell (.inr (ay _)) _).setCell (.inr (ay _)) _).ext X,λo' ho he=>(by have:=HO.out o' ho he;rw[ah hk]at this;exact this)⟩))
theorem Kt(l:List UInt8)(w:World)(hE:Env w)(hl:l.length<=2097152):Calls Tryz.prog 136 #[.string (tx l),.string ⟨#[32]⟩] w λe w'=>e=.returned (.slice (some ⟨w.heap.size,0,none⟩) (splitL 32 l).length (splitL 32 l).length)/\w'=w.alloc (.cells ((splitL 32 l).map λx=>.string (tx x)).toArray 9):=by
 obtain⟨m,hm⟩:=hE.max
 refine(Tryz.strings_Split (tx l) (tx [32]) m w (by rw[eZ];omega) hm (by rw[eZ];simp)).mono ?_
 rintro e w' ⟨rfl,rfl⟩;have h1:(Lib.splitB (tx [32]) 0 (Lib.countB (tx l) (tx [32])) (tx l)).map (·.data.toList)=splitL 32 l:=by rw[Lib.splitB_data];exact uU 32 _ l rfl
 have h2:(Lib.splitB (tx [32]) 0 (Lib.countB (tx l) (tx [32])) (tx l)).map Value.string=(splitL 32 l).map λx=>.string (tx x):=by rw[<-h1,ND];exact List.map_congr_left (λb _=>fU Value.string (Ut b).symm)
 have h3:Lib.countB (tx l) (tx [32])+1=(splitL 32 l).length:=(Ep 32 l).symm;rw[h2,h3];exact⟨rfl,rfl⟩
theorem Fj(ws:List (List UInt8))(w:World):aI 1 encS (w.alloc (.cells (ws.map λx=>.string (tx x)).toArray 9)) (.slice (some ⟨w.heap.size,0,none⟩) ws.length ws.length) ws/\fT 9 (w.alloc (.cells (ws.map λx=>.string (tx x)).toArray 9)) (.slice (some ⟨w.heap.size,0,none⟩) ws.length ws.length):=by
 refine⟨⟨_,_,rfl,λ_=>⟨_,0,rfl,by simp,λi x hx j hj=>?_⟩⟩,λa n c e hn=>?_⟩
 ·obtain rfl:j=0:=by omega
  refine az ?_;simp[hx,encS]
 ·injection e with e1 _ _;injection e1 with e1;subst e1;exact⟨_,_,dx w _⟩
theorem CL(l:List UInt8)(w:World)(hE:Env w)(hl:l.length<=2097152):Calls Tryz.prog 136 #[.string (tx l),.string ⟨#[32]⟩] w λe w'=>∃g,e=.returned (.slice (some ⟨g,0,none⟩) (splitL 32 l).length (splitL 32 l).length)/\aI 1 encS w' (.slice (some ⟨g,0,none⟩) (splitL 32 l).length (splitL 32 l).length) (splitL 32 l)/\fT 9 w' (.slice (some ⟨g,0,none⟩) (splitL 32 l).length (splitL 32 l).length)/\Ext w w':=by
 refine(Kt l w hE hl).mono ?_
 rintro e w' ⟨rfl,rfl⟩
 have:=Fj (splitL 32 l) w
 exact⟨_,rfl,this.1,this.2,(af _).alloc _⟩
def Jw(w:World)(p:Nat):Nat:=match w.cell? ⟨p,0,none⟩ with
 | some (.slice _ n _)=>n
 | _=>0
theorem Scan.left{p:Nat}{W:World}{ws:List (List UInt8)}{bad:Bool}(h:Scan p W ws bad):Jw W p=ws.length:=by obtain⟨A,c,c0,_⟩:=h.cells;unfold Jw;rw[c0]
def rR(l:List UInt8)(n:Int)(d bad:Bool)(ops:List aJ):Prop:=∀t',eP t'=true->splitL 32 l=gZ t'->bad=false/\n=t'.aD/\d=t'.done/\ops=t'.ops.take ops.length
theorem DY(l:List UInt8)(w:World)(hE:Env w)(hl:l.length<=1048576)(hne:l≠[]) :
 Calls Tryz.prog 101 #[.string (tx l)] w λe w'=>∃(t:aF) (ov:Value),e=.returned (.tuple #[sM t ov,.bool (iK l).isSome])/\aI 3 encOpr w' ov t.ops/\qM ov/\(∀t',iK l=some t'->t=t')/\(∀a n c,ov=.slice (some a) n c->0<n->w.heap.size<=a.block)/\Ext w w':=by
 have HE:=aa hE;have HL:=aa (aL hl hne);have P5:=aa (λW (h:Ext w W)=>CL l W (hE.ext h) (by omega));have hwl:(splitL 32 l).length<=1048577:=by have:=uB 32 l;omega
 have HX:=aa (tX 32 l);obtain⟨z,hz⟩:∃z,tx l=z:=⟨_,rfl⟩;have HZ:=aa hz;rw[hz]at P5;rw[hz];obtain⟨ws,hws⟩:∃ws,splitL 32 l=ws:=⟨_,rfl⟩;rw[hws]at P5 hwl HX;have NT:=aa hws;clear hE hl hne hz hws;go_enter Tryz.func101,Tryz.ntmps101;go_wp2_with fail
 refine(P5.out _ ((af _).alloc _)).mono ?_
 rintro e W1 ⟨g,rfl,hs,hty,b1⟩;have hw1:w.heap.size<W1.heap.size:=by have:=b1.size;simp at this;omega
 have T0:W1.cell? ⟨w.heap.size,0,none⟩=some (.int .i64 0):=b1.cell (az rfl);have T1:W1.cell? ⟨w.heap.size,1,none⟩=some (.slice none 0 0):=b1.cell (az rfl);have T2:W1.cell? ⟨w.heap.size,2,none⟩=some (.bool false):=b1.cell (az rfl);have TF:∀j,W1.frozen? ⟨w.heap.size,j,none⟩=false:=λj=>(b1.frozen (by simp)).trans (iy j rfl);have HT:=aa (aL T0 (aL T1 (aL T2 TF)));have hS2:Scan W1.heap.size (W1.alloc (.cells #[.slice (some ⟨g,0,none⟩) ws.length ws.length,.bool false] 149)) ws false:=
  ⟨_,dx W1 _,hs.ext ((af _).alloc _),jP (ay _) (by omega),hty.ext ((af _).alloc _)⟩
 have HB1:Hid (Ext w W1):=((af _).alloc _).trans b1;have Lv:=aa (xq _ hS2 (by omega) (λW' k=>HE.out.ext (bF.out (HB1.out.alloc _) k (λi e=>by rw[e];exact HB1.out.size))) (λx hx=>by have:=HX.out x hx;have:=HL.out.1;omega));clear hs hty b1 hS2 T0 T1 T2 TF;obtain⟨P,hP⟩:∃P,W1.heap.size=P:=⟨_,rfl⟩;have HP:=aa hP;go_wp2_with fail
 rw[hP]at Lv;refine Lv.out.mono ?_;rintro e W3 ⟨n,b3,rfl,s3,k3,Uy,Va⟩;have Vw:Hid (bF (λk=>k=P) W1 W3):=bF.trans ((bF.refl _ _).alloc _) k3;have H3:=aa (aL Uy Va);have lZ:=aa (uT W3 s3 (by rw[List.length_tail];omega));clear s3 k3 Uy Va Lv;obtain⟨x2,hx2⟩:∃x2,ws.tail.headD []=x2:=⟨_,rfl⟩;have Ni:=aa hx2;obtain⟨z2,hz2⟩:∃z2,tx x2=z2:=⟨_,rfl⟩;obtain⟨d,hd⟩:∃d,(z2.toList==[111,107])=d:=⟨_,rfl⟩;have HD:Hid ((x2==[111,107])=d):=by show _ = _;rw[<-hd,<-hz2,eu]
 rw[hx2,hz2]at lZ;clear hx2 hz2;go_wp2_with fail
 refine lZ.out.mono ?_;rintro e W4 ⟨rfl,s4,k4⟩;have GM:=aa s4;have VR:Hid (bF (λk=>k=P) W1 W4):=Vw.out.trans k4;clear s4 k4 lZ Vw;obtain⟨B,hB⟩:∃B,W4.heap.size=B:=⟨_,rfl⟩;have R7:=aa hB;go_wp2_with fail
 have hW4:P<W4.heap.size:=dJ (by obtain⟨_,_,h⟩:=GM.out.tb;exact(dB.1 h).1) (ay _);have aaa:Hid (Ext w W4):=bF.out HB1.out VR.out (λi e=>by rw[e,<-HP.out];exact HB1.out.size);have Jg:Hid (∀W,bF (λk=>k=P) W1 W->Ext w W):=λW k=>bF.out HB1.out k (λi e=>by rw[e,<-HP.out];exact HB1.out.size);have CP:Hid (rR l n d (match ws.tail with | []=>true|_=>b3) []):=λt' hk he=>by rw[NT.out]at he;have hd:=HD.out;have hx2:=Ni.out;have h3:=H3.out.1 t'.aD.toNat (by have:=lG hk;omega);rw[he]at hx2 h3 ⊢;obtain⟨h4,h5⟩:=h3 rfl;refine⟨h5,by have:=lG hk;omega,?_,by simp⟩;rw[<-hd,<-hx2];simp only[gZ,List.tail_cons,List.headD_cons];cases t'.done<;>decide
 obtain⟨b4,hb4⟩:∃b4,(b3 || ws.tail.isEmpty)=b4:=⟨_,rfl⟩;rw[hb4]at GM;replace CP:Hid (rR l n d b4 []):=by
  have h:=CP.out;rw[<-hb4]
  cases hw:ws.tail with
  | nil=>rw[hw]at h;show rR _ _ _ _ _;simpa using h
  | cons a r=>rw[hw]at h;show rR _ _ _ _ _;simpa using h
 clear hb4 HD H3 Ni;go_loopw [] (λwr=>bF (λk=>k=P) W1 wr/\Hid (∃(b':Bool) (rem:List (List UInt8)) (ops:List aJ) (ov:Value),Scan P wr rem b'/\wr.heap[B]? =some (.cells #[.int .i64 n,ov,.bool d] 48 (0,0))/\Row 67 3 encOpr P wr ov ops/\rR l n d b' ops/\rem=ws.drop (2+ops.length)/\ops.length<=ws.length)) (λwr=>Jw wr P)
 case atStart=>
  refine⟨VR.out.alloc _,b4,ws.tail.tail,[],.slice none 0 0,GM.out.ext ((af _).alloc _),?_,Row.nil,CP.out,?_,bR _⟩
  ·rw[<-R7.out];exact dx W4 _
  ·rw[<-List.drop_one,<-List.drop_one,DR];rfl
 case round=>
  obtain⟨hb,HI⟩:=hrel;obtain⟨b',rem,ops,ov,hsc,hbx,hrow,hinv,Mq,hol⟩:=HI.out;obtain⟨A,c,c0,c1,fz,_⟩:=hsc.cells;have f1:=fz 1;obtain⟨A5,c5,rfl,_⟩:=id hrow.cell.1;have B0:wr.cell? ⟨B,0,none⟩=some (.int .i64 n):=by simp[World.cell?,hbx]
  have B1:wr.cell? ⟨B,1,none⟩=some (.slice A5 ops.length c5):=by simp[World.cell?,hbx]
  have B2:wr.cell? ⟨B,2,none⟩=some (.bool d):=by simp[World.cell?,hbx]
  have Iz:=aa hinv;have NR:=aa hsc;have Bl:=aa hbx;have mI:=aa hrow;have Dr:=aa Mq;have hcap:=hrow.cap _ _ _ rfl;clear HI hsc hbx hrow hinv Mq fz
  cases b' with
  | true=>
    have CS:Hid (iK l=none):=AA λt' hk he=>by cases (Iz.out t' hk he).1
    have X:=hb;have t0:=X.cell HT.out.1 (by simp;omega);have t1:=X.cell HT.out.2.1 (by simp;omega);have t2:=X.cell HT.out.2.2.1 (by simp;omega);have tf:∀j,wr.frozen? ⟨w.heap.size,j,none⟩=false:=λj=>(X.frozen hw1 (by simp;omega)).trans (HT.out.2.2.2 j);have tf0:=tf 0;have tf1:=tf 1;have tf2:=tf 2;have XE:=aa (Jg.out _ X);clear tf X;clear c0 B0 B1 B2;go_wp2;obtain⟨y0,y1,y2⟩:=fG (.int .i64 0) (.slice none 0 0) (.bool false) t0 t1 t2;refine bodyPost_ret (v:=.tuple #[.agg #[.int .i64 0,.slice none 0 0,.bool false],.bool false]) (by simp[results,Tryz.results101,go_sem,y0,y1,y2]) rfl ?_;exact⟨⟨0,[],false⟩,.slice none 0 0,by rw[CS.out];rfl,aI.nil _ _ _ _ _,jP (ay _) (by omega),λt' ht=>(by rw[CS.out]at ht;cases ht),λa n c e=>(by cases e),((XE.out.setCell (ay _) _).setCell (ay _) _).setCell (ay _) _⟩
  | false=>
    cases rem with
    | nil=>
      have hall:Hid (∀t',eP t'=true->splitL 32 l=gZ t'->n=t'.aD/\d=t'.done/\ops=t'.ops):=λt' hk he=>by obtain⟨_,e1,e2,e3⟩:=Iz.out t' hk he;refine⟨e1,e2,?_⟩;have h0:=fU List.length Dr.out;rw[<-NT.out,he]at h0;simp[gZ]at h0;rw[e3,jZ (by omega)]
      have Vi:=aa (λW (h:Ext wr W)=>uV ⟨n,ops,d⟩ _ W (mI.out.cell.1.ext h) (by simp only;omega));go_wp2_with fail
      refine(Vi.out _ (af _)).mono ?_
      rintro e W5 ⟨rfl,b5⟩;have B0:=b5.cell B0;have B1:=b5.cell B1;have B2:=b5.cell B2;have HCP:=aa (rF n d W5 (mI.out.cell.1.ext b5) (by omega));have RL:=aa (hb.ext b5);clear c0 c1 f1 b5 hb Vi;by_cases hc:jU ⟨n,ops,d⟩=l
      ·have hyes:Hid (iK l=some ⟨n,ops,d⟩):=by
        show _ = _;unfold jU at hc;split at hc
        ·rename_i hk;exact qj.2 ⟨hk,hc⟩
        ·exact absurd hc.symm HL.out.2
       rw[hc,HZ.out];clear hc;go_wp2_with fail
       refine HCP.out.mono ?_;rintro e W6 ⟨A6,rfl,hs6,ho6,_,b6⟩;have XR:=aa (aL hs6 ho6);have VK:w.heap.size<W5.heap.size:=dJ hw1 RL.out.size;have X:=RL.out.ext b6;have t0:=X.cell HT.out.1 (by simp;omega);have t1:=X.cell HT.out.2.1 (by simp;omega);have t2:=X.cell HT.out.2.2.1 (by simp;omega);have tf:∀j,W6.frozen? ⟨w.heap.size,j,none⟩=false:=λj=>(X.frozen hw1 (by simp;omega)).trans (HT.out.2.2.2 j);have tf0:=tf 0;have tf1:=tf 1;have tf2:=tf 2;have XE:=aa (Jg.out _ X);clear tf X;clear hs6 ho6 b6 B0 B1 B2;go_wp2;obtain⟨y0,y1,y2⟩:=fG (.int .i64 n) (.slice A6 ops.length ops.length) (.bool d) t0 t1 t2;refine bodyPost_ret (v:=.tuple #[.agg #[.int .i64 n,.slice A6 ops.length ops.length,.bool d],.bool true]) (by simp[results,Tryz.results101,go_sem,y0,y1,y2]) rfl ?_;have k6:bF (λi=>i=w.heap.size) W6 (((W6.setCell ⟨w.heap.size,0,none⟩ (.int .i64 n)).setCell ⟨w.heap.size,1,none⟩ (.slice A6 ops.length ops.length)).setCell ⟨w.heap.size,2,none⟩ (.bool d)):=
        ((bF.setCell (X:=λi=>i=w.heap.size) (bF.refl _ _) (.inl rfl) _).setCell (.inl rfl) _).setCell (.inl rfl) _
       exact⟨⟨n,ops,d⟩,.slice A6 ops.length ops.length,by rw[hyes.out];rfl,XR.out.1.frX k6 (λa m c e hm=>(by have:=(XR.out.2 a m c e hm).1;omega)),jP (ay _) (by omega),λt' ht=>(by rw[hyes.out]at ht;cases ht;rfl),λa m c e hm=>(by have:=(XR.out.2 a m c e hm).1;have:=(Jg.out _ RL.out).size;omega),((XE.out.setCell (ay _) _).setCell (ay _) _).setCell (ay _) _⟩
      ·have CS:Hid (iK l=none):=AA λt' hk he=>hc (by
        obtain⟨e1,e2,e3⟩:=hall.out t' hk he;have ht:(⟨n,ops,d⟩:aF)=t':=by cases t';simp only at e1 e2 e3;rw[e1,e2,e3]
        rw[ht,jU,ah hk,qF,<-he,AL])
       obtain⟨z5,Wv⟩:∃z5,tx (jU ⟨n,ops,d⟩)=z5:=⟨_,rfl⟩;have hq:(z5.toList==z.toList)=false:=by rw[<-Wv,<-HZ.out,eu,eu];simpa using hc
       rw[Wv];have X:=RL.out;have t0:=X.cell HT.out.1 (by simp;omega);have t1:=X.cell HT.out.2.1 (by simp;omega);have t2:=X.cell HT.out.2.2.1 (by simp;omega);have tf:∀j,W5.frozen? ⟨w.heap.size,j,none⟩=false:=λj=>(X.frozen hw1 (by simp;omega)).trans (HT.out.2.2.2 j);have tf0:=tf 0;have tf1:=tf 1;have tf2:=tf 2;have XE:=aa (Jg.out _ X);clear tf X;clear hc Wv B0 B1 B2;go_wp2;obtain⟨y0,y1,y2⟩:=fG (.int .i64 0) (.slice none 0 0) (.bool false) t0 t1 t2;refine bodyPost_ret (v:=.tuple #[.agg #[.int .i64 0,.slice none 0 0,.bool false],.bool false]) (by simp[results,Tryz.results101,go_sem,y0,y1,y2]) rfl ?_;exact⟨⟨0,[],false⟩,.slice none 0 0,by rw[CS.out];rfl,aI.nil _ _ _ _ _,jP (ay _) (by omega),λt' ht=>(by rw[CS.out]at ht;cases ht),λa n c e=>(by cases e),((XE.out.setCell (ay _) _).setCell (ay _) _).setCell (ay _) _⟩
    | cons x r=>
      have hrl:(x :: r).length<=1048577:=by rw[Dr.out,kU];omega
      have VF:ws[2+ops.length]? =some x:=by
       have:=fU (λl=>l[0]?) Dr.out
       simp only[List.getElem?_cons_zero,ry,gL]at this;exact this.symm
      have hxl:=HX.out x (aN VF);have Y8:ops.length+1<=ws.length:=by have:=(aS.1 VF).1;omega
      have hr2:Hid (r=ws.drop (2+(ops.length+1))):=by
       have:=fU List.tail Dr.out
       rw[List.tail_drop]at this;exact this
      obtain⟨zx,hzx⟩:∃zx,tx x=zx:=⟨_,rfl⟩;have lZ:=aa (uT wr NR.out (by omega));simp only[List.headD_cons,List.tail_cons,List.isEmpty_cons,Bool.or_false]at lZ;rw[hzx]at lZ;obtain⟨o,ho⟩:∃o,(jy x).getD ⟨0,0,0⟩=o:=⟨_,rfl⟩;obtain⟨ok,hok⟩:∃ok,(jy x).isSome=ok:=⟨_,rfl⟩;have U3:Hid (rR l n d (!ok) (ops++[o])):=λt' hk he=>by obtain⟨_,e1,e2,e3⟩:=Iz.out t' hk he;have hx2:=VF;rw[<-NT.out,he,show 2+ops.length=ops.length+1+1 by omega]at hx2;simp only[gZ,List.getElem?_cons_succ,jM]at hx2;obtain⟨o',ho',hxo⟩:=qi.1 hx2;have hrd:jy x=some o':=nY.2 ⟨jc hk (aN ho'),hxo⟩;rw[hrd]at ho hok;simp only[Option.getD_some,Option.isSome_some]at ho hok;subst ho hok;refine⟨rfl,e1,e2,?_⟩;rw[bN,nI,aj ho',<-e3]
      have Pp:Hid (∀W,Ext w W->Calls Tryz.prog 139 #[.string zx] W λe w'=>e=.returned (.tuple #[.agg #[.int .i64 o.kind,.int .i64 o.key,.int .i64 o.value],.bool ok])/\Ext W w'):=λW h=>by
       have:=ET x W (HE.out.ext h) (by have:=HL.out.1;omega)
       unfold NB at this;rw[ho,hok,hzx]at this;exact this
      have Qp:Hid (P≠B):=λe=>by
       have:=TB.ne NR.out.tb ⟨_,_,Bl.out⟩ (by decide)
       exact this e
      have EO:=aa NR.out.left;clear VF hxl ho hok hzx hrl f1;obtain⟨kd,ky,vl⟩:=o;simp only at Pp;go_wp2_with fail
      refine lZ.out.mono ?_;rintro e W5 ⟨rfl,s5,k5⟩;have Et:=aa s5;have P7:=aa k5;clear s5 k5;go_wp2_with fail
      refine(Pp.out _ (Jg.out _ (hb.trans P7.out))).mono ?_
      rintro e W6 ⟨rfl,b6⟩;have TI:=Et.out.ext b6;have RH:=P7.out.ext b6;obtain⟨A,c,c0,c1,fz,_⟩:=TI.cells;have f1:=fz 1;have Xj:=Qp.out;have PE:=Xj.symm;have B0:=RH.cell B0 (by simpa using PE);have B1:=RH.cell B1 (by simpa using PE);have B2:=RH.cell B2 (by simpa using PE);have KB:bF (λk=>k=P) wr ((W6.setCell ⟨P,1,none⟩ (.bool (!ok))).alloc (.cells #[.int .i64 kd,.int .i64 ky,.int .i64 vl] 67)):=(RH.setCell (.inl rfl) _).alloc _;have xG:=iw mI.out KB (λk hk=>TB.ne (TB.fu mI.out hk) NR.out.tb (by decide));have Zh:P<=W6.heap.size:=aR (pJ (by obtain⟨_,_,h⟩:=TI.tb;exact(dB.1 h).1)) (ay _);obtain⟨v',w7,hrun,hp⟩:=jQ (W6.heap.size+1) (by simp) Tryz.underlying46 lq rfl (by omega) xG (af _) ⟨kd,ky,vl⟩ (λj=>yc _ j) #[.int .i64 kd,.int .i64 ky,.int .i64 vl] rfl (by simp;omega) (by omega) (by omega);have Pm:=jY xG hp (bF.out (af W1) (hb.trans KB) (λi e=>(by rw[e,HP.out];omega))) (by rw[HP.out];omega);obtain⟨A7,c7,rfl,_⟩:=id hp.1.cell.1;rw[show (ops++[(⟨kd,ky,vl⟩:aJ)]).length=ops.length+1 by simp]at hp hrun;have cz:=aa hrun;have xN:=Pm.heap (KB.heap Bl.out (by simpa using PE)) (λe=>TB.ne (TB.fu xG e) ⟨_,_,KB.heap Bl.out (by simpa using PE)⟩ (by decide) rfl);have g1:w7.cell? ⟨B,1,none⟩=some (.slice A5 ops.length c5):=by simp[World.cell?,xN]
      have gf:w7.frozen? ⟨B,1,none⟩=false:=by simp[World.frozen?,xN]
      have SL:Scan P ((W6.setCell ⟨P,1,none⟩ (.bool (!ok))).alloc (.cells #[.int .i64 kd,.int .i64 ky,.int .i64 vl] 67)) r (!ok):=(TI.mark (!ok)).ext ((af _).alloc _);have Oi:=SL.far Pm (λq e=>⟨_,TB.fu xG e,by decide,by decide⟩);have UC:Hid (Scan P (w7.setCell ⟨B,1,none⟩ (.slice A7 (ops.length+1) c7)) r (!ok)):=Oi.other ⟨_,_,xN⟩ (by decide) _ _;have WW:Hid ((w7.setCell ⟨B,1,none⟩ (.slice A7 (ops.length+1) c7)).heap[B]? =some (.cells #[.int .i64 n,.slice A7 (ops.length+1) c7,.bool d] 48 (0,0))):=heap_set xN _;have Ul:Hid (Row 67 3 encOpr P (w7.setCell ⟨B,1,none⟩ (.slice A7 (ops.length+1) c7)) (.slice A7 (ops.length+1) c7) (ops++[(⟨kd,ky,vl⟩:aJ)])):=
       iw hp.1 (bF.setCell (X:=λk=>k=B) (bF.refl _ _) (.inl rfl) _) (λk hk=>TB.ne (TB.fu hp.1 hk) ⟨_,_,xN⟩ (by decide))
      have hBW:P<=B:=by rw[<-R7.out];omega
      have hP6:P<W6.heap.size:=by obtain⟨_,_,h⟩:=TI.tb;exact(dB.1 h).1
      have QG:B<W6.heap.size:=(dB.1 (RH.heap Bl.out (by simpa using PE))).1;have LD:Hid (bF (λk=>k=P) W1 (w7.setCell ⟨B,1,none⟩ (.slice A7 (ops.length+1) c7))):=
       ((hb.trans KB).more Pm (λi e=>.inr (by rw[HP.out];exact(l8 xG e).1))).setCell (.inr (by rw[HP.out];exact hBW)) _
      clear hrun hp Pm xN SL Oi xG KB TI RH b6 hb fz;go_wp2_with (at_builtin;refine wpList_append_run rfl rfl rfl rfl cz.out ?_)
      go_roundw;case rel=>exact⟨LD.out,!ok,r,ops++[⟨kd,ky,vl⟩],_,UC.out,WW.out,Ul.out,U3.out,by rw[bN];exact hr2.out,by simp;omega⟩
      case measure=>
       rw[EO.out]
       have:=UC.out.left
       simp only[eF];omega
section
open Go.RowKit Go.ChangeShapes Go.WideShapes Go.ChangeAt Go.Deep
theorem Ir{H:Type}{enc:TypeId × Value->H}{W:World}{a:Option Addr}{n c:Nat}{d:DataW H}{p:List MemPlace}(h:DataW.Trod enc Tryz.prog W 0 (λ_=>true) true 22 (.slice a n c) d p) :
 ∃xs:List Int,mD FY W (.slice a n c) xs/\xs.length<=9223372036854775807/\(∀x∈xs,0<=x/\x<=255)/\n<=c/\c<=9223372036854775807:=by
 obtain⟨fuel,hf⟩:=h;rcases open_ints Tryz.underlying22 Tryz.underlying5 (by kernel_rfl) hf with ⟨hcs,_⟩|⟨x,l,cp,zs,hcs,_,hl,hm,hz,_,hcell,hwz⟩
 ·simp[Value.cells]at hcs;obtain⟨rfl,rfl,rfl⟩:=hcs;exact⟨[],mD.nil _ _ _ _,by simp,(λx hx=>by cases hx),by simp⟩
 ·simp[Value.cells]at hcs;obtain⟨rfl,rfl,rfl⟩:=hcs;simp at hz;have hzl:(zs.take n).length=n:=by simp;omega
  refine⟨zs.take n,⟨some x,_,by rw[hzl],λhn=>?_⟩,by rw[hzl];simp only[maxLen]at hm;omega,λy hy=>?_,hl,by simpa only[maxLen] using hm⟩
  ·rw[hzl]at hn;have h0:=hcell 0 (by omega);obtain⟨b,off,sp⟩:=x;have hs:sp=none:=by
    simp only[Addr.add,if_true]at h0
    cases sp with
    | none=>rfl
    | some s=>simp[World.cell?]at h0;split at h0<;>cases h0
   subst hs;have hadd:∀n,(⟨b,off,none⟩:Addr).add n=⟨b,off+n,none⟩:=λn=>by
    unfold Addr.add;split
    ·rename_i h;rw[h];rfl
    ·rfl
   refine⟨b,off,rfl,?_,λi y hy=>?_⟩
   ·rw[hadd]at h0;rcases eX b W.heap.size with h|h
    ·exact h
    ·simp[World.cell?,oJ h]at h0
   ·have hi:i<n:=by have:=(aS.1 hy).1;simp at this;omega
    have:=hcell i (by omega)
    rw[hadd]at this;rw[this];rw[List.getElem?_take_of_lt hi]at hy;rw[qm,hy];rfl
  ·have:=hwz y (uA hy)
   simp[Lit.wf,IntKind.min,IntKind.max,IntKind.signed,IntKind.bits]at this;omega
theorem ES{laid:List (String × DataW Unit)}{W:World}{nm name:String}{d:DataW Unit}{g:Nat}{t:TypeId}{ms:Array (String × TypeId)}(hp:(laid.all λx=>x.2.handleName?.isNone)=true)(hm:(nm,(DataW.iface name d:DataW Unit))∈laid)(h:laidMetH Tryz.prog laid W)
 (hg:Tryz.prog.globalNamed nm=some g) (ht:(Tryz.prog.globals[g]?).map (·.type)=some t) (hi:Tryz.prog.underlying t=some (.interface ms)):∃te pe,W.cell? ⟨g,0,none⟩=some (.iface te pe):=by
 have h1:=(laidMetH_iff.1 h).1;have h2:(nm,(DataW.iface name d:DataW Unit))∈laid.filter λx=>x.2.handleName?.isNone:=lC.2 ⟨hm,iN.1 hp _ hm⟩;obtain⟨g',t',cs,fuel,p,hg',hty,hvar,hd⟩:=Lib.laidMet.reads h1 h2;obtain rfl:=dS (hg.symm.trans hg');obtain rfl:=dS (ht.symm.trans hty);obtain⟨_,u,v,hcs,_⟩:=iface_of_trod hi hd;refine⟨u,v,?_⟩;rw[World.var?_cell hg' hvar 0,<-Array.getElem?_toList,hcs];rfl
theorem FN{laid:List (String × DataW Unit)}{W:World}(hp:(laid.all λx=>x.2.handleName?.isNone)=true)(hm1:("strconv.ErrSyntax",Rows.laid_strconv_ErrSyntax)∈laid) (hm2:("strconv.ErrRange",Rows.laid_strconv_ErrRange)∈laid) (h:laidMetH Tryz.prog laid W) (hsh:W.ShapedOpen Tryz.prog):Env W where
 max:=cell_of_shapedOpen_int (P:=Tryz.prog) (g:=0) (t:=3) (zero:=#[.int .i64 0]) hsh (of_decide_eq_true (by kernel_rfl)) (by kernel_rfl) rfl (by kernel_rfl) (by kernel_rfl) Tryz.underlying3
 syn:=ES (g:=4) (t:=126) hp hm1 h (by kernel_rfl) (by kernel_rfl) Tryz.underlying126
 YA:=ES (g:=5) (t:=126) hp hm2 h (by kernel_rfl) (by kernel_rfl) Tryz.underlying126
theorem tF{H:Type}{enc:TypeId × Value->H}{a:Assume}{C:Checked}{os:Os}{f:FuncId}{fn:Func}{s:ChangeSpec}{conds:List PathCond}{apart fresh handsOn again:Bool}{X:World->Array Value->Prop}
 (hX:∀(w w':World) (args:Array Value),w.heap=w'.heap->X w args->X w' args)
 (own:ownKnob C.prog.godebug=none) (started:os.Started) (noInit:C.prog.inits.idxOf? f=none) (hfn:C.prog.funcs[f]? =some fn)
 (witness:∃(w:World) (tape:Tape) (i:Input),w.os=os/\(w.forCall tape i).Shaped C.prog/\i.vars=[]/\Input.okWide C.prog (w.forCall tape i) .any w.heap.size f i /\
  ((s.pre enc C.prog fn conds apart (w.forCall tape i).memory i.args/\X (w.forCall tape i).memory i.args)/\sizedMet enc C.prog fn (OpenSpec.ofChange s) apart (w.forCall tape i).memory i.args)/\a.holds C.prog (lone (Frame.enter C.prog f i.args .normal) [] (w.forCall tape i)))
 (contract:∀(W:World) (base:Nat) (args:Array Value) (ds gs:List (DataW H)) (before:List MemPlace),
  (∀(j:Nat) t v,fn.params[j]? =some t->args[j]? =some v->Value.okWide C.prog W .any base t v) ->
  DataW.Whole enc C.prog fn.params.toList s.vars apart W args.toList ds gs before ->
  X W args->W.ShapedOpen C.prog ->
  Calls C.prog f args W λe W'=>∃v,e=.returned v/\s.post enc C.prog fn apart fresh handsOn again W args v W') :
 ReturnsInHanded a C os f .any (λw args=>(s.pre enc C.prog fn conds apart w args/\X w args)/\sizedMet enc C.prog fn (OpenSpec.ofChange s) apart w args) (s.post enc C.prog fn apart fresh handsOn again):=by
 refine returnsInHanded_of_calls own started noInit witness ?_;intro w tape i _ hsh _ hok hpre hholds;obtain⟨_,_,_,fn',hfn',_,_,_,_,hval⟩:=hok;have e:fn'=fn:=dS (hfn'.symm.trans hfn);subst e;obtain⟨⟨⟨ds,gs,before,hw,hc⟩,hx⟩,hz⟩:=hpre;have hw':=DataW.Whole.of_heap (w':=w.forCall tape i) (by rfl) hw
 refine(contract (w.forCall tape i) w.heap.size i.args ds gs before hval hw' (hX _ _ _ (by rfl) hx) hsh).mono λe W' ⟨v,he,hp⟩=>?_
 subst he;exact ChangeSpec.post_blind hp
theorem MW:ownKnob Tryz.prog.godebug=none:=by kernel_rfl
theorem NM:laidOutB Tryz.prog=true:=by kernel_rfl
end
