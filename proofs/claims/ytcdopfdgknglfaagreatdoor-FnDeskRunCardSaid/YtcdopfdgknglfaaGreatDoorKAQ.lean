/- Lemmas. -/
import Derived.Test.YtcdopfdgknglfaaGreatDoorKAP
set_option maxHeartbeats 16000000
set_option maxRecDepth 8000
set_option linter.all false
namespace Go.Proofs.YtcdopfdgknglfaaGreatDoor
open Go.RowKit
theorem jL{α:Type}{e:TypeId}{m:Nat}{enc:α->Nat->Value}{base:Nat}{W:World}{v:Value}{xs:List α}(h:Row e m enc base W v xs):∃A n c,v=.slice A n c:=by obtain⟨A,c,e,_⟩:=h.cell.1;exact⟨_,_,_,e⟩
theorem Row.app0{α:Type}{e:TypeId}{m:Nat}{enc:α->Nat->Value}{base:Nat}{w:World}{v:Value}{xs zs:List α}(h:Row e m enc base w v xs)(hz:zs=[]):Row e m enc base w v (xs++zs):=by subst hz;simpa using h
theorem Jh:∀{l:List Int} {k:Nat} {v:Int},l[k]? =some v->(∀c∈l.take k,c≠v)->l.findIdx? (·==v)=some k
 | [],k,v,h,_=>by simp at h
 | x :: l,0,v,h,_=>by simp at h;subst h;simp[List.findIdx?_cons]
 | x :: l,k+1,v,h,hn=>by have hx:x≠v:=hn x (by simp);have ih:=Jh (l:=l) (k:=k) (v:=v) (by simpa using h) (λc hc=>hn c (by simp[hc]));rw[List.findIdx?_cons,ih];simp[hx]
theorem Ow{l:List Int}{y:Int}(h:l[0]? =some y):nu l 0=y:=by simp[nu,l7,h]
theorem SF{l:List Int}{k:Nat}{v y:Int}(hv:v≠0)(hk:l[k]? =some v)(hn:∀c∈l.take k,c≠v)(hy:l[k+1]? =some y):nu l v=y:=by unfold nu l7;rw[au hv,Jh hk hn];simp[hy]
theorem P8{l:List Int}{v:Int}(h:(v≠0/\∀c∈l.take (l.length-1),c≠v)∨l.length=0):nu l v=-1:=by
 unfold nu l7;by_cases hl:l.length=0
 ·obtain rfl:l=[]:=mZ hl;by_cases hv:v=0
  ·simp[hv]
  ·simp[hv]
 ·obtain⟨hv,hn⟩:v≠0/\∀c∈l.take (l.length-1),c≠v:=by
   rcases h with h|h
   ·exact h
   ·exact absurd h hl
  rw[au hv]
  cases e:l.findIdx? (·==v) with
  | none=>rfl
  | some b=>
    simp only[Option.map_some];obtain⟨hb,h1,_⟩:=List.findIdx?_eq_some_iff_getElem.1 e;have h2:l[b]=v:=by simpa using h1
    rw[agI]
    ·rfl
    ·rcases eP (b+1) l.length with hlt|hge
     ·exact absurd h2 (hn _ (List.mem_take_iff_getElem.2 ⟨b,by omega,rfl⟩))
     ·exact hge
theorem vZ{v:Value}{l:List Int}(x:Int)(w:World)(h:oZ encI w v l)(hlen:l.length<=2097152) :
 Calls Tryz.prog 186 #[v,.int .i64 x] w λe w'=>e=.returned (.int .i64 (nu l x))/\w=w':=by
 obtain⟨A,c,rfl,hc⟩:=id h;have HC:=aa hc;clear h hc;by_cases hz:x=0/\0<l.length
 ·obtain⟨rfl,hl⟩:=hz;obtain⟨y,hy⟩:=ah hl;obtain⟨b,off,rfl,hbl,hcc⟩:=HC.out hl;have c0:w.cell? ⟨b,off,none⟩=some (.int .i64 y):=by have:=hcc 0 y hy;rwa [fE]at this
  have HN:=aa (Ow hy);have hl':(0:Int)<(l.length:Int):=by omega
  clear hcc hy;go_enter Tryz.func186,Tryz.ntmps186;go_wp2;go_returns;exact⟨bU HN.out.symm,rfl⟩
 ·have HZ:=aa hz;have hcond:(x==0)=false∨((x==0)=true/\¬((0:Int)<(l.length:Int))):=by
   by_cases e:x=0
   ·exact .inr ⟨by simp[e],λhl=>hz ⟨e,by omega⟩⟩
   ·exact .inl (by simp[e])
  clear hz;rcases hcond with hx0|⟨hx0,hl0⟩<;>(
  go_enter Tryz.func186,Tryz.ntmps186;go_wp2;go_loopw [5] (λi wr=>w=wr/\∃k:Nat,k<=l.length/\i=.int .i64 (k:Int)/\Hid (∀c∈l.take k,c≠x)) (λi _=>l.length-(intOf i).toNat)
  case atStart=>exact⟨rfl,0,aT _,rfl,by intro c hc;simp at hc⟩
  case round=>
   obtain⟨rfl,k,hk,rfl,HI⟩:=hrel;by_cases hlt:k+1<l.length
   ·obtain⟨b,off,rfl,hbl,hcc⟩:=HC.out (by omega);obtain⟨y,hy⟩:=ah (show k<l.length by omega);obtain⟨y',hy'⟩:=ah hlt;have c0:w.cell? ⟨b,off+k,none⟩=some (.int .i64 y):=hcc k y hy;have c1:w.cell? ⟨b,off+(k+1),none⟩=some (.int .i64 y'):=hcc (k+1) y' hy';have hki:(k:Int)+1<(l.length:Int):=by omega
    have hwk:IntKind.i64.wrap ((k:Int)+1)=(k:Int)+1:=dL _ (by omega);by_cases hyx:y=x
    ·have hxn:x≠0:=λe=>HZ.out ⟨e,by omega⟩;have HN:=aa (SF hxn (hyx▸hy) HI.out hy');have hd:(y==x)=true:=by simp[hyx]
     clear hcc hy hy' hyx;go_wp2;go_returns;exact⟨bU HN.out.symm,rfl⟩
    ·have hd:(y==x)=false:=by simp[hyx]
     have HY:=aa (aB hy hyx);clear hcc hy hy' hyx;go_wp2;go_roundw;case rel=>exact⟨trivial,k+1,by omega,by go_num,by
      intro c hc;rw[ak HY.out.1]at hc;rcases iR.1 hc with hc|hc
      ·exact HI.out c hc
      ·rw[pF]at hc;exact hc▸HY.out.2⟩
     case measure=>simp[intOf];omega
   ·have HN:Hid (nu l x=-1):=by
     refine P8 ?_;by_cases h0:l.length=0
     ·exact .inr h0
     ·refine .inl ⟨λe=>HZ.out ⟨e,by omega⟩,?_⟩;rw[show l.length-1=min (l.length-1) k by omega,<-List.take_take];intro c hc;exact HI.out c (oI hc)
    have hki:¬((k:Int)+1<(l.length:Int)):=by omega
    go_wp2;go_returns;exact⟨bU HN.out.symm,rfl⟩)
theorem Q4{v u:Value}{a b:List Int}(w:World)(ha:oZ encI w v a)(hb:oZ encI w u b)(hp:a.Perm b)(hn:b.Nodup)(hlen:b.length<=2097152) :
 Calls Tryz.prog 184 #[v,u] w λe w'=>e=.returned (.bool true)/\Ext w w':=by
 obtain⟨A,c,rfl,hc⟩:=id ha;obtain⟨A',c',rfl,hc'⟩:=id hb;have hal:a.length=b.length:=hp.length_eq;have HC:=aa hc;have HC':=aa hc';have HP:=aa (λx (hx:x∈b)=>V4 hp hn hx);have HAL:=aa hal;rw[hal];clear ha hb hc hc' hp hn hal;go_enter Tryz.func184,Tryz.ntmps184;go_wp2;go_loopw [5] (λi wr=>Ext w wr/\∃k:Nat,k<=b.length/\i=.int .i64 (k:Int)) (λi _=>b.length-(intOf i).toNat)
 case atStart=>exact⟨af _,0,aT _,rfl⟩
 case round=>
  obtain⟨hx,k,hk,rfl⟩:=hrel;by_cases hlt:k<b.length
  ·obtain⟨y,hy⟩:=ah hlt;obtain⟨g',off',rfl,agy,adi⟩:=HC'.out (by omega);obtain⟨g,off,rfl,hgl,hcc⟩:=HC.out (by rw[HAL.out];omega);have d1:wr.cell? ⟨g',off'+k,none⟩=some (.int .i64 y):=hx.cell (adi k y hy);have HCC:=aa hcc;have H1:=aa (HP.out y (aM hy));have HX:=aa (aB d1 hx);clear hcc adi hy hx d1;go_wp2;go_loopw [6,7] (λm i wv=>Ext wr wv/\∃j:Nat,j<=b.length/\i=.int .i64 (j:Int)/\m=.int .i64 ((JY (a.take j) y:Nat):Int)) (λ_ i _=>b.length-(intOf i).toNat)
   case atStart=>exact⟨af _,0,aT _,rfl,rfl⟩
   case round=>
    obtain⟨hv,j,hj,rfl,rfl⟩:=hrel;have hcl:=Y8 (a.take j) y;have htl:(a.take j).length<=2097152:=by rw[eY,HAL.out];omega
    by_cases hjt:j<b.length
    ·obtain⟨x,hxj⟩:=ah (show j<a.length by rw[HAL.out];exact hjt);have jC:=aa (VM (x:=y) hxj);obtain⟨m,hm⟩:∃m,JY (a.take j) y=m:=⟨_,rfl⟩;rw[hm]at jC hcl ⊢;have d1:∀e,(over wr e).cell? ⟨g',off'+k,none⟩=some (.int .i64 y):=aK (hv.cell HX.out.1);have d0:∀e,(over wr e).cell? ⟨g,off+j,none⟩=some (.int .i64 x):=aK (hv.cell (HX.out.2.cell (HCC.out j x hxj)));have hml:m<=2097152:=by omega
     cases hd:(x==y)<;>(
      rw[hd]at jC;clear hxj hm hcl htl;go_wp2;refine aU (by kernel_rfl) (by kernel_rfl) ?_;repeat (go_big_quiet_step (fail))
      refine j5 ?_;intro w3 hb3;clear d0 d1;go_wp2;go_roundw;case rel=>exact⟨hv.trans hb3,j+1,by omega,by go_num,by rw[jC.out];go_num⟩
      case measure=>simp[intOf];omega)
    ·obtain rfl:j=b.length:=by omega
     have e1:JY (a.take b.length) y=1:=by rw[jX (by rw[HAL.out];exact av _)];exact H1.out
     rw[e1];have HV:=aa (HX.out.2.trans hv);clear hcl htl e1;go_wp2;go_roundw;case rel=>exact⟨HV.out,k+1,by omega,by go_num⟩
     case measure=>simp[intOf];omega
  ·obtain rfl:k=b.length:=by omega
   go_wp2;go_returns;exact⟨rfl,hx⟩
def adX(e:Edge):Value:=.agg #[.int .i64 e.fH,.int .i64 e.to,.int .i64 e.kind]
theorem Vy{es:List Edge}{j:Nat}{x e:Edge}(hx:es[j]? =some x):Cj (es.take (j+1)) e=(Cj (es.take j) e || (x.fH==e.fH&&x.to==e.to&&x.kind==e.kind)):=by unfold Cj;rw[ak hx,List.any_append];simp
theorem Xh{es:List Edge}{j:Nat}{x e:Edge}(hx:es[j]? =some x)(h:x.fH=e.fH/\x.to=e.to/\x.kind=e.kind):Cj es e=true:=by
 rw[OW]
 have:=aM hx
 rwa [Edge.ext' h.1 h.2.1 h.2.2]at this
theorem PV(x e:Edge):(x.fH==e.fH&&x.to==e.to&&x.kind==e.kind)=decide (x.fH=e.fH/\x.to=e.to/\x.kind=e.kind):=by rw[kQ];simp[and_assoc]
theorem Ul{v:Value}{es:List Edge}(x:Edge)(w:World)(h:aL 3 aZ w v es)(hlen:es.length<=2097152) :
 Calls Tryz.prog 224 #[v,adX x] w λe w'=>e=.returned (.bool (Cj es x))/\Ext w w':=by
 obtain⟨A,c,rfl,hc⟩:=id h;have HC:=aa hc;have hg:=Ji;show Calls Tryz.prog 224 #[.slice A es.length c,.agg #[.int .i64 x.fH,.int .i64 x.to,.int .i64 x.kind]] w _;clear h hc;go_enter Tryz.func224,Tryz.ntmps224;go_wp2;have B0:(w.alloc (.cells #[.int .i64 x.fH,.int .i64 x.to,.int .i64 x.kind] 200)).cell? ⟨w.heap.size,0,none⟩=some (.int .i64 x.fH):=aF rfl;have B1:(w.alloc (.cells #[.int .i64 x.fH,.int .i64 x.to,.int .i64 x.kind] 200)).cell? ⟨w.heap.size,1,none⟩=some (.int .i64 x.to):=aF rfl;have B2:(w.alloc (.cells #[.int .i64 x.fH,.int .i64 x.to,.int .i64 x.kind] 200)).cell? ⟨w.heap.size,2,none⟩=some (.int .i64 x.kind):=aF rfl;have HB:=aa (aB B0 (aB B1 (aB B2 ((af w).alloc (.cells #[.int .i64 x.fH,.int .i64 x.to,.int .i64 x.kind] 200)))));clear B0 B1 B2;generalize hW:(w.alloc (.cells #[.int .i64 x.fH,.int .i64 x.to,.int .i64 x.kind] 200))=W0 at *;clear hW;go_loopw [5] (λi wr=>Ext W0 wr/\∃k:Nat,k<=es.length/\i=.int .i64 (k:Int)/\Hid (Cj (es.take k) x=false)) (λi _=>es.length-(intOf i).toNat)
 case atStart=>exact⟨af _,0,aT _,rfl,rfl⟩
 case round=>
  obtain⟨hb,k,hk,rfl,HI⟩:=hrel;by_cases hlt:k<es.length
  ·obtain⟨y,hy⟩:=ah hlt;obtain⟨b,off,rfl,hbl,hcc⟩:=HC.out (by omega);have hx:=HB.out.2.2.2.trans hb;have d0:∀e,(over wr e).cell? ⟨b,off+k*3,none⟩=some (.int .i64 y.fH):=aK (hx.cell (hcc k y hy 0 (by omega)));have d1:∀e,(over wr e).cell? ⟨b,off+k*3+1,none⟩=some (.int .i64 y.to):=aK (hx.cell (hcc k y hy 1 (by omega)));have d2:∀e,(over wr e).cell? ⟨b,off+k*3+2,none⟩=some (.int .i64 y.kind):=aK (hx.cell (hcc k y hy 2 (by omega)));have q0:∀e,(over wr e).cell? ⟨w.heap.size,0,none⟩=some (.int .i64 x.fH):=aK (hb.cell HB.out.1);have q1:∀e,(over wr e).cell? ⟨w.heap.size,1,none⟩=some (.int .i64 x.to):=aK (hb.cell HB.out.2.1);have q2:∀e,(over wr e).cell? ⟨w.heap.size,2,none⟩=some (.int .i64 x.kind):=aK (hb.cell HB.out.2.2.1);have he:=λW=>vg y.fH y.to y.kind x.fH x.to x.kind W;have HX:=aa hx;by_cases hm:y.fH=x.fH/\y.to=x.to/\y.kind=x.kind
   ·have HN:=aa (Xh hy hm);rw[jw hm]at he;clear hm hy hcc hx;go_wp2;refine aU (by kernel_rfl) (by kernel_rfl) ?_;repeat (go_big_quiet_step (fail))
    refine j5 ?_;intro w3 hb3;clear d0 d1 d2 q0 q1 q2;go_wp2;go_returns;exact⟨aS HN.out.symm,HX.out.trans hb3⟩
   ·have HN:Hid (Cj (es.take (k+1)) x=false):=by show _ = _;rw[Vy hy,HI.out,PV,dU hm];rfl
    rw[dU hm]at he;clear hm hy hcc hx;go_wp2;refine aU (by kernel_rfl) (by kernel_rfl) ?_;repeat (go_big_quiet_step (fail))
    refine j5 ?_;intro w3 hb3;clear d0 d1 d2 q0 q1 q2;go_wp2;go_roundw;case rel=>exact⟨hb.trans hb3,k+1,by omega,by go_num,HN.out⟩
    case measure=>simp[intOf];omega
  ·obtain rfl:k=es.length:=by omega
   have hn:=HI.out;rw[bM]at hn;have HN:=aa hn;clear hn;go_wp2;go_returns;exact⟨aS HN.out.symm,HB.out.2.2.2.trans hb⟩
def adr(w:World)(xs:List Edge)(e:Ending)(w':World):Prop:=∃v,e=.returned v/\Row 200 3 aZ w.heap.size w' v xs/\Ext w w'
theorem yw{base:Nat}{w0 w:World}(q:Nat)(hq:w.heap.size=q){v:Value}{xs:List Edge}(H:Row 200 3 aZ base w0 v xs)(hx:Ext w0 w)(o:Edge)(hb:base<=w0.heap.size)(hn:xs.length+1<=4194304) :
 ∃v' w',(Builtin.append_ #[172,172] 172 #[v,.slice (some ⟨q,0,none⟩) 1 1]).run Tryz.prog (w.alloc (.cells #[.int .i64 o.fH,.int .i64 o.to,.int .i64 o.kind] 200))=.ok v' w' /\
  ni 200 3 aZ base w0 w' v v' (xs++[o]):=
 jY q hq Tryz.underlying172 wJ rfl (by omega) H hx o (λj=>Lr o j) _ rfl hb hn (by omega)
theorem MQ{v:Value}{es:List Edge}(w:World)(h:aL 3 aZ w v es)(hlen:es.length<=2097152) :
 Calls Tryz.prog 187 #[v] w (adr w (KL es)):=by
 obtain⟨A,c,rfl,_⟩:=id h;have HH:=aa (λW (b:Ext w W) x=>Ul x W (h.ext b) hlen);clear h;go_enter Tryz.func187,Tryz.ntmps187;go_wp2;go_loopw [3,4] (λo i wr=>Ext w wr/\∃a:Nat,a<=6/\i=.int .i64 (a:Int)/\Hid (Row 200 3 aZ w.heap.size wr o (uu es (24*a)))) (λ_ i _=>6-(intOf i).toNat)
 case atStart=>exact⟨(af _).alloc _,0,by omega,rfl,dD⟩
 case round=>
  obtain⟨hb,a,ha,rfl,HR⟩:=hrel;by_cases ha6:a<6
  ·have HB:=aa hb;have hda:decide ((a:Int)<6)=true:=jw (by omega);clear hb;go_wp2;go_loopw [3,5] (λo i wr=>Ext w wr/\∃b:Nat,b<=6/\i=.int .i64 (b:Int)/\Hid (Row 200 3 aZ w.heap.size wr o (uu es (24*a+4*b)))) (λ_ i _=>6-(intOf i).toNat)
   case atStart=>exact⟨HB.out,0,by omega,rfl,HR.out⟩
   case round=>
    obtain⟨hb,b,hbb,rfl,HR⟩:=hrel;by_cases hb6:b<6
    ·have HB:=aa hb;have hdb:decide ((b:Int)<6)=true:=jw (by omega);clear hb;go_wp2;go_loopw [3,6] (λo i wr=>Ext w wr/\∃k:Nat,k<=4/\i=.int .i64 ((k:Int)+1)/\Hid (Row 200 3 aZ w.heap.size wr o (uu es (24*a+4*b+k)))) (λ_ i _=>5-(intOf i).toNat)
     case atStart=>exact⟨HB.out,0,by omega,rfl,HR.out⟩
     case round=>
      obtain⟨hb,k,hk,rfl,HR⟩:=hrel;by_cases hk4:k<4
      ·have hle:w.heap.size<=wr.heap.size:=hb.size;have hst:=G5 es (24*a+4*b+k);have HN:=aa (Pn (es:=es) (NU ha6 hb6 hk4));have hki:(k:Int)+1<=4:=by omega
       have hE:Ext wr (wr.alloc (.cells #[.int .i64 (a:Int),.int .i64 (b:Int),.int .i64 ((k:Int)+1)] 200)):=(af _).alloc _;have Zy:=aa (HH.out _ (hb.trans hE) ⟨(a:Int),(b:Int),(k:Int)+1⟩);have HE:=aa hE;unfold adX at Zy;clear hE
       cases hh:Cj es ⟨(a:Int),(b:Int),(k:Int)+1⟩ with
       | false=>
         rw[hh]at Zy HN;clear hh hst;go_wp2_with fail
         refine Zy.out.mono ?_;rintro e w2 ⟨rfl,b2⟩;have HX:=aa (HE.out.trans b2);clear b2;go_wp2_with fail
         go_roundw;case rel=>exact⟨hb.trans HX.out,k+1,by omega,by go_num,by rw[show 24*a+4*b+(k+1)=24*a+4*b+k+1 by omega,HN.out];show Row _ _ _ _ _ _ _;simpa using Row.ext HR.out HX.out⟩
         case measure=>simp[intOf];omega
       | true=>
         rw[hh]at Zy HN;clear hh;go_wp2_with fail
         refine Zy.out.mono ?_;rintro e w2 ⟨rfl,b2⟩;have X:=HE.out.trans b2;have c0:w2.cell? ⟨wr.heap.size,0,none⟩=some (.int .i64 (a:Int)):=b2.cell (aF rfl);have c1:w2.cell? ⟨wr.heap.size,1,none⟩=some (.int .i64 (b:Int)):=b2.cell (aF rfl);have c2:w2.cell? ⟨wr.heap.size,2,none⟩=some (.int .i64 ((k:Int)+1)):=b2.cell (aF rfl);obtain⟨v',w3,hrun,hP⟩:=yw w2.heap.size rfl HR.out X ⟨(a:Int),(b:Int),(k:Int)+1⟩ hle (by omega);have bH:=aa hrun;have HP:=aa hP;have HX:=aa X;have tF:=aa (hP.2.1 w hb (av _));clear hrun hP X b2 hst;go_wp2_with (at_builtin;refine wpList_append_run rfl rfl rfl rfl bH.out ?_)
         go_roundw;case rel=>exact⟨tF.out,k+1,by omega,by go_num,by rw[show 24*a+4*b+(k+1)=24*a+4*b+k+1 by omega,HN.out];exact HP.out.1⟩
         case measure=>simp[intOf];omega
      ·obtain rfl:k=4:=by omega
       go_wp2;go_roundw;case rel=>exact⟨hb,b+1,by omega,by go_num,by rw[show 24*a+4*(b+1)=24*a+4*b+4 by omega];exact HR.out⟩
       case measure=>simp[intOf];omega
    ·obtain rfl:b=6:=by omega
     go_wp2;go_roundw;case rel=>exact⟨hb,a+1,by omega,by go_num,by rw[show 24*(a+1)=24*a+4*6 by omega];exact HR.out⟩
     case measure=>simp[intOf];omega
  ·obtain rfl:a=6:=by omega
   have hr:=HR.out;rw[show 24*6=144 from rfl,IK]at hr;have Zh:=aa hr;obtain⟨A',c',rfl,_⟩:=id hr.cell.1;clear hr HR;go_wp2;go_returns;exact⟨_,rfl,Zh.out,hb⟩
theorem tJ{v:Value}{es:List Edge}(x:Int)(w:World)(h:aL 3 aZ w v es)(hlen:es.length<=2097152) :
 Calls Tryz.prog 190 #[v,.int .i64 x] w (adr w (iV es x)):=by
 obtain⟨A,c,rfl,hc⟩:=id h;have HC:=aa hc;clear h hc;go_enter Tryz.func190,Tryz.ntmps190;go_wp2;go_loopw [5,6] (λo i wr=>Ext w wr/\∃k:Nat,k<=es.length/\i=.int .i64 (k:Int)/\Hid (Row 200 3 aZ w.heap.size wr o (iV (es.take k) x))) (λ_ i _=>es.length-(intOf i).toNat)
 case atStart=>exact⟨(af _).alloc _,0,aT _,rfl,dD⟩
 case round=>
  obtain⟨hb,k,hk,rfl,HR⟩:=hrel;by_cases hlt:k<es.length
  ·obtain⟨y,hy⟩:=ah hlt;obtain⟨b,off,rfl,hbl,hcc⟩:=HC.out (by omega);have d0:wr.cell? ⟨b,off+k*3,none⟩=some (.int .i64 y.fH):=hb.cell (hcc k y hy 0 (by omega));have d1:wr.cell? ⟨b,off+k*3+1,none⟩=some (.int .i64 y.to):=hb.cell (hcc k y hy 1 (by omega));have d2:wr.cell? ⟨b,off+k*3+2,none⟩=some (.int .i64 y.kind):=hb.cell (hcc k y hy 2 (by omega));have hle:w.heap.size<=wr.heap.size:=hb.size;have HN:=aa (QH (k:=x) hy);have Kn:(iV (es.take k) x).length<=2097152:=by
    unfold iV
    have:=mO (λe:Edge=>decide (e.kind<=x)) (es.take k)
    rw[eY]at this;omega
   cases hd:decide (y.kind<=x) with
   | false=>
     rw[hd]at HN;have hd':¬(y.kind<=x):=by simpa using hd
     clear hcc hy Kn hd;go_wp2;go_roundw;case rel=>exact⟨hb,k+1,by omega,by go_num,by show Row _ _ _ _ _ _ _;rw[HN.out];simpa using HR.out⟩
     case measure=>simp[intOf];omega
   | true=>
     rw[hd]at HN;have hd':y.kind<=x:=by simpa using hd
     obtain⟨v',w3,hrun,hP⟩:=yw wr.heap.size rfl HR.out (af _) y hle (by omega);have bH:=aa hrun;have HP:=aa hP;have tF:=aa (hP.2.1 w hb (av _));clear hcc hy Kn hd hrun hP;go_wp2_with (at_builtin;refine wpList_append_run rfl rfl rfl rfl bH.out ?_)
     go_roundw;case rel=>exact⟨tF.out,k+1,by omega,by go_num,by rw[HN.out];exact HP.out.1⟩
     case measure=>simp[intOf];omega
  ·obtain rfl:k=es.length:=by omega
   have hr:=HR.out;rw[bM]at hr;have Zh:=aa hr;obtain⟨A',c',rfl,_⟩:=id hr.cell.1;clear hr HR;go_wp2;go_returns;exact⟨_,rfl,Zh.out,hb⟩
theorem wR{v:Value}{es:List Edge}(many:Nat)(w:World)(hm:many<=6)(h:aL 3 aZ w v es)(hl:es.length<=144)(hok:∀e∈es,edgeOk many e) :
 Calls Tryz.prog 188 #[.int .i64 (many:Int),v] w λr w'=>r=.returned (.bool true)/\Ext w w':=by
 obtain⟨A,c,rfl,hc⟩:=id h;have HC:=aa hc;have fu:=aa hok;have hw:IntKind.i64.wrap ((many:Int)-1)=(many:Int)-1:=dL _ (by omega);have b0:lH (many:Int) 0 6=true:=cK.2 (by omega);have hl':(es.length:Int)<=144:=by omega
 clear h hc hok;go_enter Tryz.func188,Tryz.ntmps188;go_wp2;go_loopw [5] (λi wr=>Ext w wr/\∃k:Nat,k<=es.length/\i=.int .i64 (k:Int)) (λi _=>es.length-(intOf i).toNat)
 case atStart=>exact⟨af _,0,aT _,rfl⟩
 case round=>
  obtain⟨hb,k,hk,rfl⟩:=hrel;by_cases hlt:k<es.length
  ·obtain⟨y,hy⟩:=ah hlt;obtain⟨b,off,rfl,hbl,hcc⟩:=HC.out (by omega);have d0:wr.cell? ⟨b,off+k*3,none⟩=some (.int .i64 y.fH):=hb.cell (hcc k y hy 0 (by omega));have d1:wr.cell? ⟨b,off+k*3+1,none⟩=some (.int .i64 y.to):=hb.cell (hcc k y hy 1 (by omega));have d2:wr.cell? ⟨b,off+k*3+2,none⟩=some (.int .i64 y.kind):=hb.cell (hcc k y hy 2 (by omega));obtain⟨h1,h2,h3,h4⟩:=fu.out y (aM hy);have b1:lH y.fH 0 ((many:Int)-1)=true:=cK.2 (by omega);have b2:lH y.to 0 ((many:Int)-1)=true:=cK.2 (by omega);have b3:(y.fH==y.to)=false:=fU.2 h3;have b4:lH y.kind 1 4=true:=cK.2 h4;have hE:Hid (Ext wr (wr.alloc (.cells #[.int .i64 y.fH,.int .i64 y.to,.int .i64 y.kind] 200))):=(af _).alloc _;clear hcc hy h1 h2 h3 h4;go_wp2_with (first|(go_at_call 68;refine(fQ _ _ _ _).mono ?_;rw[b1];rintro e w' ⟨rfl,rfl⟩)|(go_at_call 68;refine(fQ _ _ _ _).mono ?_;rw[b2];rintro e w' ⟨rfl,rfl⟩)|(go_at_call 68;refine(fQ _ _ _ _).mono ?_;rw[b4];rintro e w' ⟨rfl,rfl⟩))
   go_roundw;case rel=>exact⟨hb.trans hE.out,k+1,by omega,by go_num⟩
   case measure=>simp[intOf];omega
  ·obtain rfl:k=es.length:=by omega
   go_wp2_with (go_at_call 68;refine(fQ _ _ _ _).mono ?_;rw[b0];rintro e w' ⟨rfl,rfl⟩)
   go_returns;exact⟨rfl,hb⟩
def Cn(h:List aG)(key:Int)(k:Nat):List Int:=((List.range k).filter λn=>(h[n]?.map (·.done)).getD false).flatMap λn=>qh (opsOf h n) key
theorem QN{h:List aG}{key:Int}{k:Nat}{t:aG}(ht:h[k]? =some t):Cn h key (k+1)=Cn h key k++if t.done=true then qh t.ops key else []:=by unfold Cn;rw[vU,rF,lq];congr 1;rw[sN,ht];cases hd:t.done<;>simp[hd,opsOf,ht]
theorem Us(h:List aG)(key:Int):Cn h key h.length=aW h key:=rfl
theorem Uh(h:List aG)(key:Int)(k:Nat):(Cn h key k).length<=k:=by
 unfold Cn;rw[wK];have h1:∀l:List Nat,(l.map λn=>(qh (opsOf h n) key).length).sum<=l.length:=λl=>by
  induction l with
  | nil=>simp
  | cons n l ih=>have:=IE (opsOf h n) key;simp;omega
 have h2:=mO (λn=>(h[n]?.map (·.done)).getD false) (List.range k);rw[List.length_range]at h2;exact aX (h1 _) h2
theorem yu{v:Value}{h:List aG}(key:Int)(w:World)(H:iM w v h)(hok:aD h=true)(hk:lH key 0 2=true) :
 Calls Tryz.prog 112 #[v,.int .i64 key] w λe w'=>∃v',e=.returned v'/\Row 3 1 (one encI) w.heap.size w' v' (aW h key)/\Ext w w':=by
 obtain⟨A,c,rfl⟩:=H.slice;have HH:=aa H;have fu:=aa hok;have hlen:=aR hok;have HV:=aa (λW (b:Ext w W)=>bJ W (H.ext b) (by omega) (aJ hok));rw[hok]at HV;clear H hok;go_enter Tryz.func112,Tryz.ntmps112;go_wp2;go_loopw [5,6] (λo i wr=>Ext w wr/\∃k:Nat,k<=h.length/\i=.int .i64 (k:Int)/\Hid (Row 3 1 (one encI) w.heap.size wr o (Cn h key k))) (λ_ i _=>h.length-(intOf i).toNat)
 case atStart=>exact⟨(af _).alloc _,0,aT _,rfl,dD⟩
 case round=>
  obtain⟨hb,k,hkl,rfl,HI⟩:=hrel;by_cases hlt:k<h.length
  ·obtain⟨b,off,rfl,hbl,hc⟩:=HH.out.head (by omega);obtain⟨t,ht⟩:=ah hlt;obtain⟨ov,c0,c1,c2,hs⟩:=hc k t ht;have htk:=dH fu.out (aM ht);have hl3:=EJ t.ops;have hlu:=Uh h key k;have jC:=aa (QN (key:=key) ht);have HS:=aa hs;have R8:=aa htk;obtain⟨A4,c4,rfl,_⟩:=id hs;have HC:=aa (aB c0 (aB c1 c2));have adO:=aa c2;have HLL:=aa (λW (bb:Ext w W)=>qK t (.slice A4 t.ops.length c4) W (hs.ext bb) htk);unfold o9 at HLL;have hki:(k:Int)<(h.length:Int):=by omega
   clear hc ht hs c0 c1 c2 htk;go_wp2_with (first|(go_at_call 10;refine(HV.out _ hb).mono ?_;rintro e w1 ⟨rfl,b1⟩;have hx1:=hb.trans b1;have c0:=hx1.cell HC.out.1;have c1:=hx1.cell HC.out.2.1;have c2:=hx1.cell HC.out.2.2;have NJ:=aa hx1;have HL:=aa (HLL.out w1 hx1);clear hx1)|(go_at_call 68;refine(fQ _ _ _ _).mono ?_;rw[hk];rintro e w' ⟨rfl,rfl⟩)|fail)
   refine HL.out.mono ?_;rintro e w2 ⟨v2,rfl,r2,b2⟩;have hx2:=NJ.out.trans b2;have d2:=hx2.cell HC.out.2.2;have R2:=aa r2;obtain⟨A2,c2',rfl,_⟩:=id r2.cell.1;have sV:=aa (aB hx2 d2);have HI2:=aa (aB (Row.ext HI.out (b1.trans b2)) (r2.low (NJ.out.size)));clear r2 b2 hx2 b1 HI HC
   cases hd:t.done with
   | false=>
     rw[hd]at jC sV;have hd2:=sV.out.2;clear hd;go_wp2;go_loopw [5,8] (λo i wr=>Ext w2 wr/\i=.int .i64 0/\Hid (Row 3 1 (one encI) w.heap.size wr o (Cn h key k))) (λ_ _ _=>0)
     case atStart=>exact⟨af _,rfl,HI2.out.1⟩
     case round=>
      obtain⟨hv,rfl,HIV⟩:=hrel;have hd3:=hv.cell hd2
      cases hz:decide ((0:Int)<((bQ t.ops).length:Int)) with
      | true=>
        have hz':(0:Int)<((bQ t.ops).length:Int):=by simpa using hz
        clear hz;go_wp2;go_roundw;case rel=>exact⟨sV.out.1.trans hv,k+1,by omega,by go_num,by show Row _ _ _ _ _ _ _;rw[jC.out];simpa using HIV.out⟩
        case measure=>simp[intOf];omega
      | false=>
        have hz':¬((0:Int)<((bQ t.ops).length:Int)):=by simpa using hz
        clear hz;go_wp2;go_roundw;case rel=>exact⟨sV.out.1.trans hv,k+1,by omega,by go_num,by show Row _ _ _ _ _ _ _;rw[jC.out];simpa using HIV.out⟩
        case measure=>simp[intOf];omega
   | true=>
     rw[hd]at jC sV adO;have HD0:=aa adO.out;clear hd;have HJ0:=aa (HI2.out.1.app0 (zs:=pE t.ops key 0) (by simp[pE]));go_wp2;go_loopw [5,8] (λo i wr=>Ext w wr/\∃j:Nat,j<=(bQ t.ops).length/\i=.int .i64 (j:Int)/\Hid (Row 3 1 (one encI) w.heap.size wr o (Cn h key k++pE t.ops key j)/\Row 67 3 encOpr w.heap.size wr (.slice A2 (bQ t.ops).length c2') (bQ t.ops)/\wr.cell? ⟨b,off+k*3+2,none⟩=some (.bool true))) (λ_ i _=>(bQ t.ops).length-(intOf i).toNat)
     case atStart=>exact⟨sV.out.1,0,aT _,rfl,HJ0.out,HI2.out.2,sV.out.2⟩
     case round=>
      obtain⟨hv,j,hj,rfl,HK⟩:=hrel;by_cases hjt:j<(bQ t.ops).length
      ·obtain⟨A',c',hA',hcc⟩:=HK.out.2.1.cell.1;injection hA' with e1 e2 e3;subst e1 e3;obtain⟨b',off',rfl,ru,hcc⟩:=hcc (by omega);obtain⟨o,ho⟩:=ah hjt;have q0:wr.cell? ⟨b',off'+j*3+1,none⟩=some (.int .i64 o.key):=hcc j o ho 1 (by omega);have q1:wr.cell? ⟨b',off'+j*3+2,none⟩=some (.int .i64 o.value):=hcc j o ho 2 (by omega);have q2:=HK.out.2.2;have hn2:=En (key:=key) ho;have hlt2:=Jc t.ops key j;have hji:(j:Int)<((bQ t.ops).length:Int):=by omega
       by_cases hkk:o.key=key
       ·rw[aj hkk]at hn2;have vT:=aa hn2;have hkb:(o.key==key)=true:=by simp[hkk]
        obtain⟨v',w4,hrun,hP⟩:=Hq wr.heap.size rfl HK.out.1 (af _) o.value hv.size (by rw[dw];omega);have bH:=aa hrun;have HP:=aa hP;have HR4:=aa (HK.out.2.1.pushed HK.out.1 (by decide) hP);have sU:=aa (hP.2.1 w hv (av _));clear hcc ho e2 hn2 hrun hP hkk;go_wp2_with (at_builtin;refine wpList_append_run rfl rfl rfl rfl bH.out ?_)
        go_roundw;case rel=>exact⟨sU.out,j+1,by omega,by go_num,by rw[vT.out,<-jM];exact HP.out.1,HR4.out,sU.out.cell HD0.out⟩
        case measure=>simp[intOf];omega
       ·rw[au hkk,jh]at hn2;have vT:=aa hn2;have hkb:(o.key==key)=false:=by simp[hkk]
        clear hcc ho e2 hn2 hkk;go_wp2;go_roundw;case rel=>exact⟨hv,j+1,by omega,by go_num,by rw[vT.out];exact HK.out.1,HK.out.2.1,HK.out.2.2⟩
        case measure=>simp[intOf];omega
      ·obtain rfl:j=(bQ t.ops).length:=by omega
       have HF:=aa HK.out.1;clear HK;go_wp2;go_roundw;case rel=>exact⟨hv,k+1,by omega,by go_num,by rw[jC.out];simp only[if_true];rw[<-IC];exact HF.out⟩
       case measure=>simp[intOf];omega
  ·obtain rfl:k=h.length:=by omega
   have hr:=HI.out;rw[Us]at hr;have Zh:=aa hr;obtain⟨A',c',rfl,_⟩:=id hr.cell.1;clear hr HI;go_wp2;go_returns;exact⟨_,rfl,Zh.out,hb⟩
theorem uX{v u:Value}{h:List aG}{os:List (List Int)}(w:World)(H:iM w v h)(hok:aD h=true)(hu:I2 w u os)(ho:lu h os) :
 Calls Tryz.prog 154 #[v,u] w λe w'=>e=.returned (.bool true)/\Ext w w':=by
 obtain⟨A,c,rfl⟩:=H.slice;obtain⟨Au,cu,rfl,_⟩:=Ls.slice hu;have HH:=aa H;have HU:=aa hu;have fu:=aa hok;have hlen:=aR hok;have hol:os.length=3:=ho.1;have HO:=aa ho.2;have HV:=aa (λW (b:Ext w W)=>bJ W (H.ext b) (by omega) (aJ hok));rw[hok]at HV;clear H hok hu ho;rw[hol]at HU ⊢;have HOL:=aa hol;clear hol;go_enter Tryz.func154,Tryz.ntmps154;go_wp2;go_loopw [5] (λi wr=>Ext w wr/\∃k:Nat,k<=3/\i=.int .i64 (k:Int)) (λi _=>3-(intOf i).toNat)
 case atStart=>exact⟨af _,0,by omega,rfl⟩
 case round=>
  obtain⟨hb,k,hk,rfl⟩:=hrel;by_cases hlt:k<3
  ·obtain⟨order,hor⟩:=ah (show k<os.length by rw[HOL.out];omega);obtain⟨b,off,rfl,_,hc⟩:=Ls.cells HU.out (by rw[HOL.out];omega);obtain⟨uo,Od,hP⟩:=hc k order hor;have Od:=hb.cell Od;obtain⟨Ao,co,rfl,_⟩:=ou.slice hP;have HPP:=aa (ou.ext hP hb);have HPM:=aa (HO.out k order hor);have HND:=aa (Jv fu.out (key:=(k:Int)) (by omega));have hil:(aW h (k:Int)).length<=6:=aX (je h k) hlen;have HIN:=aa (λW (b:Ext w W)=>yu (k:Int) W (HH.out.ext b) fu.out (cK.2 (by omega)));have hki:(k:Int)<3:=by omega
   have aeR:(k:Int)<=2:=by omega
   have hk0:(0:Int)<=(k:Int):=by omega
   clear hc hP hor;go_wp2;go_region_held3 (λW=>W.cell? ⟨b,off+k,none⟩=some (.slice Ao order.length co)) (assumption) ((first|(go_at_call 112;refine(HIN.out _ hb.drew).mono ?_;rintro e w2 ⟨v2,rfl,r2,b2⟩;have aeh:=b2.cell Od;have R2:=aa r2;clear r2)|(go_at_call 184;refine(Q4 _ ((HPP.out.ext ((af _).drew.trans b2)).1) R2.out.cell.1.to1 HPM.out HND.out (by omega)).mono ?_;rintro e w3 ⟨rfl,b3⟩;have afN:=b3.cell aeh)))
   have HX:=aa (hb.drew.trans (b2.trans b3));clear b2 b3 aeh afN;go_wp2;go_roundw;case rel=>exact⟨HX.out,k+1,by omega,by go_num⟩
   case measure=>simp[intOf];omega
  ·obtain rfl:k=3:=by omega
   clear hlt hk;rw[show ((3:Nat):Int)=3 from rfl];go_wp2_with (go_at_call 10;refine(HV.out _ hb).mono ?_;rintro e w1 ⟨rfl,b1⟩)
   go_returns;exact⟨rfl,hb.trans b1⟩
