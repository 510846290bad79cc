/- Lemmas. -/
import Derived.Test.YtomkjlklninhpaaGreatDoorKAS
import Derived.Test.YtomkjlklninhpaaGreatDoorKAY
set_option maxHeartbeats 16000000
set_option maxRecDepth 8000
set_option linter.all false
namespace Go.Proofs.YtomkjlklninhpaaGreatDoor
open Go.RowKit
theorem FZ:∀{l:List Int} {k:Nat} {v:Int},l[k]? =some v->(∀c∈l.take k,c≠v)->l.findIdx? (·==v)=some k
 | [],k,v,h,_=>by simp at h
 | x :: l,0,v,h,_=>by simp at h;subst h;simp[List.findIdx?_cons]
 | x :: l,k+1,v,h,hn=>by have hx:x≠v:=hn x (by simp);have ih:=FZ (l:=l) (k:=k) (v:=v) (by simpa using h) (fun c hc=>hn c (by simp[hc]));rw[List.findIdx?_cons,ih];simp[hx]
theorem Nt{l:List Int}{y:Int}(h:l[0]? =some y):lF l 0=y:=by simp[lF,kE,h]
theorem Ql{l:List Int}{k:Nat}{v y:Int}(hv:v≠0)(hk:l[k]? =some v)(hn:∀c∈l.take k,c≠v)(hy:l[k+1]? =some y):lF l v=y:=by unfold lF kE;rw[if_neg hv,FZ hk hn];simp[hy]
theorem Mi{l:List Int}{v:Int}(h:(v≠0/\∀c∈l.take (l.length-1),c≠v)∨l.length=0):lF l v=-1:=by
 unfold lF kE;by_cases hl:l.length=0
 ·obtain rfl:l=[]:=List.eq_nil_of_length_eq_zero hl;by_cases hv:v=0
  ·simp[hv]
  ·simp[hv]
 ·obtain⟨hv,hn⟩:v≠0/\∀c∈l.take (l.length-1),c≠v:=by
   rcases h with h|h
   ·exact h
   ·exact absurd h hl
  rw[if_neg hv]
  cases e:l.findIdx? (·==v) with
  | none=>rfl
  | some b=>
    simp only[Option.map_some];obtain⟨hb,h1,_⟩:=List.findIdx?_eq_some_iff_getElem.1 e;have h2:l[b]=v:=by simpa using h1
    rw[List.getElem?_eq_none]
    ·rfl
    ·rcases Nat.lt_or_ge (b+1) l.length with hlt|hge
     ·exact absurd h2 (hn _ (List.mem_take_iff_getElem.2 ⟨b,by omega,rfl⟩))
     ·exact hge
theorem sS{v:Value}{l:List Int}(x:Int)(w:World)(h:rM encI w v l)(hlen:l.length<=2097152) :
 Calls Tryz.prog 153 #[v,.int .i64 x] w fun e w'=>e=.returned (.int .i64 (lF l x))/\w=w':=by
 obtain⟨A,c,rfl,hc⟩:=id h;have HC:=aa hc;clear h hc;by_cases hz:x=0/\0<l.length
 ·obtain⟨rfl,hl⟩:=hz;obtain⟨y,hy⟩:=af hl;obtain⟨b,off,rfl,hbl,hcc⟩:=HC.out hl;have c0:w.cell? ⟨b,off,none⟩=some (.int .i64 y):=by have:=hcc 0 y hy;rwa [Nat.add_zero]at this
  have HN:=aa (Nt hy);have hl':(0:Int)<(l.length:Int):=by omega
  clear hcc hy;go_enter Tryz.func153,Tryz.ntmps153;go_wp2;go_returns;exact⟨aX HN.out.symm,rfl⟩
 ·have HZ:=aa hz;have hcond:(x==0)=false∨((x==0)=true/\¬((0:Int)<(l.length:Int))):=by
   by_cases e:x=0
   ·exact .inr ⟨by simp[e],fun hl=>hz ⟨e,by omega⟩⟩
   ·exact .inl (by simp[e])
  clear hz;rcases hcond with hx0|⟨hx0,hl0⟩<;>(
  go_enter Tryz.func153,Tryz.ntmps153;go_wp2;go_loopw [5] (fun i wr=>w=wr/\∃k:Nat,k<=l.length/\i=.int .i64 (k:Int)/\Hid (∀c∈l.take k,c≠x)) (fun i _=>l.length-(intOf i).toNat)
  case atStart=>exact⟨rfl,0,Nat.zero_le _,rfl,by intro c hc;simp at hc⟩
  case round=>
   obtain⟨rfl,k,hk,rfl,HI⟩:=hrel;by_cases hlt:k+1<l.length
   ·obtain⟨b,off,rfl,hbl,hcc⟩:=HC.out (by omega);obtain⟨y,hy⟩:=af (show k<l.length by omega);obtain⟨y',hy'⟩:=af hlt;have c0:w.cell? ⟨b,off+k,none⟩=some (.int .i64 y):=hcc k y hy;have c1:w.cell? ⟨b,off+(k+1),none⟩=some (.int .i64 y'):=hcc (k+1) y' hy';have hki:(k:Int)+1<(l.length:Int):=by omega
    have hwk:IntKind.i64.wrap ((k:Int)+1)=(k:Int)+1:=IntWalk.i64_in _ (by omega);by_cases hyx:y=x
    ·have hxn:x≠0:=fun e=>HZ.out ⟨e,by omega⟩;have HN:=aa (Ql hxn (hyx▸hy) HI.out hy');have hd:(y==x)=true:=by simp[hyx]
     clear hcc hy hy' hyx;go_wp2;go_returns;exact⟨aX HN.out.symm,rfl⟩
    ·have hd:(y==x)=false:=by simp[hyx]
     have HY:=aa (And.intro hy hyx);clear hcc hy hy' hyx;go_wp2;go_roundw;case rel=>exact⟨trivial,k+1,by omega,by go_num,by
      intro c hc;rw[ah HY.out.1]at hc;rcases List.mem_append.1 hc with hc|hc
      ·exact HI.out c hc
      ·rw[List.mem_singleton]at hc;exact hc▸HY.out.2⟩
     case measure=>simp[intOf];omega
   ·have HN:Hid (lF l x=-1):=by
     refine Mi ?_;by_cases h0:l.length=0
     ·exact .inr h0
     ·refine .inl ⟨fun e=>HZ.out ⟨e,by omega⟩,?_⟩;rw[show l.length-1=min (l.length-1) k by omega,<-List.take_take];intro c hc;exact HI.out c (List.mem_of_mem_take hc)
    have hki:¬((k:Int)+1<(l.length:Int)):=by omega
    go_wp2;go_returns;exact⟨aX HN.out.symm,rfl⟩)
theorem Qz{v u:Value}{a b:List Int}(w:World)(ha:rM encI w v a)(hb:rM encI w u b)(hp:a.Perm b)(hn:b.Nodup)(hlen:b.length<=2097152) :
 Calls Tryz.prog 151 #[v,u] w fun e w'=>e=.returned (.bool true)/\Ext w w':=by
 obtain⟨A,c,rfl,hc⟩:=id ha;obtain⟨A',c',rfl,hc'⟩:=id hb;have hal:a.length=b.length:=hp.length_eq;have HC:=aa hc;have HC':=aa hc';have HP:=aa (fun x (hx:x∈b)=>Tu hp hn hx);have HAL:=aa hal;rw[hal];clear ha hb hc hc' hp hn hal;go_enter Tryz.func151,Tryz.ntmps151;go_wp2;go_loopw [5] (fun i wr=>Ext w wr/\∃k:Nat,k<=b.length/\i=.int .i64 (k:Int)) (fun i _=>b.length-(intOf i).toNat)
 case atStart=>exact⟨Ext.refl _,0,Nat.zero_le _,rfl⟩
 case round=>
  obtain⟨hx,k,hk,rfl⟩:=hrel;by_cases hlt:k<b.length
  ·obtain⟨y,hy⟩:=af hlt;obtain⟨g',off',rfl,afA,ach⟩:=HC'.out (by omega);obtain⟨g,off,rfl,hgl,hcc⟩:=HC.out (by rw[HAL.out];omega);have d1:wr.cell? ⟨g',off'+k,none⟩=some (.int .i64 y):=hx.cell (ach k y hy);have HCC:=aa hcc;have H1:=aa (HP.out y (List.mem_of_getElem? hy));have HX:=aa (And.intro d1 hx);clear hcc ach hy hx d1;go_wp2;go_loopw [6,7] (fun m i wv=>Ext wr wv/\∃j:Nat,j<=b.length/\i=.int .i64 (j:Int)/\m=.int .i64 ((Io (a.take j) y:Nat):Int)) (fun _ i _=>b.length-(intOf i).toNat)
   case atStart=>exact⟨Ext.refl _,0,Nat.zero_le _,rfl,rfl⟩
   case round=>
    obtain⟨hv,j,hj,rfl,rfl⟩:=hrel;have hcl:=XK (a.take j) y;have htl:(a.take j).length<=2097152:=by rw[List.length_take,HAL.out];omega
    by_cases hjt:j<b.length
    ·obtain⟨x,hxj⟩:=af (show j<a.length by rw[HAL.out];exact hjt);have iA:=aa (TA (x:=y) hxj);obtain⟨m,hm⟩:∃m,Io (a.take j) y=m:=⟨_,rfl⟩;rw[hm]at iA hcl ⊢;have d1:∀e,(over wr e).cell? ⟨g',off'+k,none⟩=some (.int .i64 y):=aG (hv.cell HX.out.1);have d0:∀e,(over wr e).cell? ⟨g,off+j,none⟩=some (.int .i64 x):=aG (hv.cell (HX.out.2.cell (HCC.out j x hxj)));have hml:m<=2097152:=by omega
     cases hd:(x==y)<;>(
      rw[hd]at iA;clear hxj hm hcl htl;go_wp2;refine aO (by kernel_rfl) (by kernel_rfl) ?_;repeat (go_big_quiet_step (fail))
      refine wpQuiet_nil ?_;intro w3 hb3;clear d0 d1;go_wp2;go_roundw;case rel=>exact⟨hv.trans hb3,j+1,by omega,by go_num,by rw[iA.out];go_num⟩
      case measure=>simp[intOf];omega)
    ·obtain rfl:j=b.length:=by omega
     have e1:Io (a.take b.length) y=1:=by rw[List.take_of_length_le (by rw[HAL.out];exact Nat.le_refl _)];exact H1.out
     rw[e1];have HV:=aa (HX.out.2.trans hv);clear hcl htl e1;go_wp2;go_roundw;case rel=>exact⟨HV.out,k+1,by omega,by go_num⟩
     case measure=>simp[intOf];omega
  ·obtain rfl:k=b.length:=by omega
   go_wp2;go_returns;exact⟨rfl,hx⟩
def abK(e:Edge):Value:=.agg #[.int .i64 e.dV,.int .i64 e.to,.int .i64 e.kind]
theorem Sl{es:List Edge}{j:Nat}{x e:Edge}(hx:es[j]? =some x):AQ (es.take (j+1)) e=(AQ (es.take j) e || (x.dV==e.dV&&x.to==e.to&&x.kind==e.kind)):=by unfold AQ;rw[ah hx,List.any_append];simp
theorem V4{es:List Edge}{j:Nat}{x e:Edge}(hx:es[j]? =some x)(h:x.dV=e.dV/\x.to=e.to/\x.kind=e.kind):AQ es e=true:=by
 rw[OW]
 have:=List.mem_of_getElem? hx
 rwa [Edge.ext' h.1 h.2.1 h.2.2]at this
theorem NK(x e:Edge):(x.dV==e.dV&&x.to==e.to&&x.kind==e.kind)=decide (x.dV=e.dV/\x.to=e.to/\x.kind=e.kind):=by rw[Bool.eq_iff_iff];simp[and_assoc]
theorem Tn{v:Value}{es:List Edge}(x:Edge)(w:World)(h:aF 3 aR w v es)(hlen:es.length<=2097152) :
 Calls Tryz.prog 188 #[v,abK x] w fun e w'=>e=.returned (.bool (AQ es x))/\Ext w w':=by
 obtain⟨A,c,rfl,hc⟩:=id h;have HC:=aa hc;have hg:=EO;show Calls Tryz.prog 188 #[.slice A es.length c,.agg #[.int .i64 x.dV,.int .i64 x.to,.int .i64 x.kind]] w _;clear h hc;go_enter Tryz.func188,Tryz.ntmps188;go_wp2;have B0:(w.alloc (.cells #[.int .i64 x.dV,.int .i64 x.to,.int .i64 x.kind] 177)).cell? ⟨w.heap.size,0,none⟩=some (.int .i64 x.dV):=av rfl;have B1:(w.alloc (.cells #[.int .i64 x.dV,.int .i64 x.to,.int .i64 x.kind] 177)).cell? ⟨w.heap.size,1,none⟩=some (.int .i64 x.to):=av rfl;have B2:(w.alloc (.cells #[.int .i64 x.dV,.int .i64 x.to,.int .i64 x.kind] 177)).cell? ⟨w.heap.size,2,none⟩=some (.int .i64 x.kind):=av rfl;have HB:=aa (And.intro B0 (And.intro B1 (And.intro B2 ((Ext.refl w).alloc (.cells #[.int .i64 x.dV,.int .i64 x.to,.int .i64 x.kind] 177)))));clear B0 B1 B2;generalize hW:(w.alloc (.cells #[.int .i64 x.dV,.int .i64 x.to,.int .i64 x.kind] 177))=W0 at *;clear hW;go_loopw [5] (fun i wr=>Ext W0 wr/\∃k:Nat,k<=es.length/\i=.int .i64 (k:Int)/\Hid (AQ (es.take k) x=false)) (fun i _=>es.length-(intOf i).toNat)
 case atStart=>exact⟨Ext.refl _,0,Nat.zero_le _,rfl,rfl⟩
 case round=>
  obtain⟨hb,k,hk,rfl,HI⟩:=hrel;by_cases hlt:k<es.length
  ·obtain⟨y,hy⟩:=af hlt;obtain⟨b,off,rfl,hbl,hcc⟩:=HC.out (by omega);have hx:=HB.out.2.2.2.trans hb;have d0:∀e,(over wr e).cell? ⟨b,off+k*3,none⟩=some (.int .i64 y.dV):=aG (hx.cell (hcc k y hy 0 (by omega)));have d1:∀e,(over wr e).cell? ⟨b,off+k*3+1,none⟩=some (.int .i64 y.to):=aG (hx.cell (hcc k y hy 1 (by omega)));have d2:∀e,(over wr e).cell? ⟨b,off+k*3+2,none⟩=some (.int .i64 y.kind):=aG (hx.cell (hcc k y hy 2 (by omega)));have q0:∀e,(over wr e).cell? ⟨w.heap.size,0,none⟩=some (.int .i64 x.dV):=aG (hb.cell HB.out.1);have q1:∀e,(over wr e).cell? ⟨w.heap.size,1,none⟩=some (.int .i64 x.to):=aG (hb.cell HB.out.2.1);have q2:∀e,(over wr e).cell? ⟨w.heap.size,2,none⟩=some (.int .i64 x.kind):=aG (hb.cell HB.out.2.2.1);have he:=fun W=>tT y.dV y.to y.kind x.dV x.to x.kind W;have HX:=aa hx;by_cases hm:y.dV=x.dV/\y.to=x.to/\y.kind=x.kind
   ·have HN:=aa (V4 hy hm);rw[decide_eq_true hm]at he;clear hm hy hcc hx;go_wp2;refine aO (by kernel_rfl) (by kernel_rfl) ?_;repeat (go_big_quiet_step (fail))
    refine wpQuiet_nil ?_;intro w3 hb3;clear d0 d1 d2 q0 q1 q2;go_wp2;go_returns;exact⟨aN HN.out.symm,HX.out.trans hb3⟩
   ·have HN:Hid (AQ (es.take (k+1)) x=false):=by show _ = _;rw[Sl hy,HI.out,NK,decide_eq_false hm];rfl
    rw[decide_eq_false hm]at he;clear hm hy hcc hx;go_wp2;refine aO (by kernel_rfl) (by kernel_rfl) ?_;repeat (go_big_quiet_step (fail))
    refine wpQuiet_nil ?_;intro w3 hb3;clear d0 d1 d2 q0 q1 q2;go_wp2;go_roundw;case rel=>exact⟨hb.trans hb3,k+1,by omega,by go_num,HN.out⟩
    case measure=>simp[intOf];omega
  ·obtain rfl:k=es.length:=by omega
   have hn:=HI.out;rw[List.take_length]at hn;have HN:=aa hn;clear hn;go_wp2;go_returns;exact⟨aN HN.out.symm,HB.out.2.2.2.trans hb⟩
def acE(w:World)(xs:List Edge)(e:Ending)(w':World):Prop:=∃v,e=.returned v/\Row 177 3 aR w.heap.size w' v xs/\Ext w w'
theorem vg{base:Nat}{w0 w:World}(q:Nat)(hq:w.heap.size=q){v:Value}{xs:List Edge}(H:Row 177 3 aR base w0 v xs)(hx:Ext w0 w)(o:Edge)(hb:base<=w0.heap.size)(hn:xs.length+1<=4194304) :
 ∃v' w',(Builtin.append_ #[132,132] 132 #[v,.slice (some ⟨q,0,none⟩) 1 1]).run Tryz.prog (w.alloc (.cells #[.int .i64 o.dV,.int .i64 o.to,.int .i64 o.kind] 177))=.ok v' w' /\
  lI 177 3 aR base w0 w' v v' (xs++[o]):=
 iP q hq Tryz.underlying132 uu rfl (by omega) H hx o (fun j=>Jp o j) _ rfl hb hn (by omega)
theorem KU{v:Value}{es:List Edge}(w:World)(h:aF 3 aR w v es)(hlen:es.length<=2097152) :
 Calls Tryz.prog 154 #[v] w (acE w (JI es)):=by
 obtain⟨A,c,rfl,_⟩:=id h;have HH:=aa (fun W (b:Ext w W) x=>Tn x W (h.ext b) hlen);clear h;go_enter Tryz.func154,Tryz.ntmps154;go_wp2;go_loopw [3,4] (fun o i wr=>Ext w wr/\∃a:Nat,a<=6/\i=.int .i64 (a:Int)/\Hid (Row 177 3 aR w.heap.size wr o (rq es (24*a)))) (fun _ i _=>6-(intOf i).toNat)
 case atStart=>exact⟨(Ext.refl _).alloc _,0,by omega,rfl,bT⟩
 case round=>
  obtain⟨hb,a,ha,rfl,HR⟩:=hrel;by_cases ha6:a<6
  ·have HB:=aa hb;have hda:decide ((a:Int)<6)=true:=decide_eq_true (by omega);clear hb;go_wp2;go_loopw [3,5] (fun o i wr=>Ext w wr/\∃b:Nat,b<=6/\i=.int .i64 (b:Int)/\Hid (Row 177 3 aR w.heap.size wr o (rq es (24*a+4*b)))) (fun _ i _=>6-(intOf i).toNat)
   case atStart=>exact⟨HB.out,0,by omega,rfl,HR.out⟩
   case round=>
    obtain⟨hb,b,hbb,rfl,HR⟩:=hrel;by_cases hb6:b<6
    ·have HB:=aa hb;have hdb:decide ((b:Int)<6)=true:=decide_eq_true (by omega);clear hb;go_wp2;go_loopw [3,6] (fun o i wr=>Ext w wr/\∃k:Nat,k<=4/\i=.int .i64 ((k:Int)+1)/\Hid (Row 177 3 aR w.heap.size wr o (rq es (24*a+4*b+k)))) (fun _ i _=>5-(intOf i).toNat)
     case atStart=>exact⟨HB.out,0,by omega,rfl,HR.out⟩
     case round=>
      obtain⟨hb,k,hk,rfl,HR⟩:=hrel;by_cases hk4:k<4
      ·have hle:w.heap.size<=wr.heap.size:=hb.size;have hst:=FR es (24*a+4*b+k);have HN:=aa (OH (es:=es) (OX ha6 hb6 hk4));have hki:(k:Int)+1<=4:=by omega
       have hE:Ext wr (wr.alloc (.cells #[.int .i64 (a:Int),.int .i64 (b:Int),.int .i64 ((k:Int)+1)] 177)):=(Ext.refl _).alloc _;have HHH:=aa (HH.out _ (hb.trans hE) ⟨(a:Int),(b:Int),(k:Int)+1⟩);have HE:=aa hE;unfold abK at HHH;clear hE
       cases hh:AQ es ⟨(a:Int),(b:Int),(k:Int)+1⟩ with
       | false=>
         rw[hh]at HHH HN;clear hh hst;go_wp2_with fail
         refine HHH.out.mono ?_;rintro e w2 ⟨rfl,b2⟩;have HX:=aa (HE.out.trans b2);clear b2;go_wp2_with fail
         go_roundw;case rel=>exact⟨hb.trans HX.out,k+1,by omega,by go_num,by rw[show 24*a+4*b+(k+1)=24*a+4*b+k+1 by omega,HN.out];show Row _ _ _ _ _ _ _;simpa using Row.ext HR.out HX.out⟩
         case measure=>simp[intOf];omega
       | true=>
         rw[hh]at HHH HN;clear hh;go_wp2_with fail
         refine HHH.out.mono ?_;rintro e w2 ⟨rfl,b2⟩;have X:=HE.out.trans b2;have c0:w2.cell? ⟨wr.heap.size,0,none⟩=some (.int .i64 (a:Int)):=b2.cell (av rfl);have c1:w2.cell? ⟨wr.heap.size,1,none⟩=some (.int .i64 (b:Int)):=b2.cell (av rfl);have c2:w2.cell? ⟨wr.heap.size,2,none⟩=some (.int .i64 ((k:Int)+1)):=b2.cell (av rfl);obtain⟨v',w3,hrun,hP⟩:=vg w2.heap.size rfl HR.out X ⟨(a:Int),(b:Int),(k:Int)+1⟩ hle (by omega);have aU:=aa hrun;have HP:=aa hP;have HX:=aa X;have sI:=aa (hP.2.1 w hb (Nat.le_refl _));clear hrun hP X b2 hst;go_wp2_with (at_builtin;refine wpList_append_run rfl rfl rfl rfl aU.out ?_)
         go_roundw;case rel=>exact⟨sI.out,k+1,by omega,by go_num,by rw[show 24*a+4*b+(k+1)=24*a+4*b+k+1 by omega,HN.out];exact HP.out.1⟩
         case measure=>simp[intOf];omega
      ·obtain rfl:k=4:=by omega
       go_wp2;go_roundw;case rel=>exact⟨hb,b+1,by omega,by go_num,by rw[show 24*a+4*(b+1)=24*a+4*b+4 by omega];exact HR.out⟩
       case measure=>simp[intOf];omega
    ·obtain rfl:b=6:=by omega
     go_wp2;go_roundw;case rel=>exact⟨hb,a+1,by omega,by go_num,by rw[show 24*(a+1)=24*a+4*6 by omega];exact HR.out⟩
     case measure=>simp[intOf];omega
  ·obtain rfl:a=6:=by omega
   have hr:=HR.out;rw[show 24*6=144 from rfl,GA]at hr;have Y6:=aa hr;obtain⟨A',c',rfl,_⟩:=id hr.cell.1;clear hr HR;go_wp2;go_returns;exact⟨_,rfl,Y6.out,hb⟩
theorem qN{v:Value}{es:List Edge}(x:Int)(w:World)(h:aF 3 aR w v es)(hlen:es.length<=2097152) :
 Calls Tryz.prog 157 #[v,.int .i64 x] w (acE w (gD es x)):=by
 obtain⟨A,c,rfl,hc⟩:=id h;have HC:=aa hc;clear h hc;go_enter Tryz.func157,Tryz.ntmps157;go_wp2;go_loopw [5,6] (fun o i wr=>Ext w wr/\∃k:Nat,k<=es.length/\i=.int .i64 (k:Int)/\Hid (Row 177 3 aR w.heap.size wr o (gD (es.take k) x))) (fun _ i _=>es.length-(intOf i).toNat)
 case atStart=>exact⟨(Ext.refl _).alloc _,0,Nat.zero_le _,rfl,bT⟩
 case round=>
  obtain⟨hb,k,hk,rfl,HR⟩:=hrel;by_cases hlt:k<es.length
  ·obtain⟨y,hy⟩:=af hlt;obtain⟨b,off,rfl,hbl,hcc⟩:=HC.out (by omega);have d0:wr.cell? ⟨b,off+k*3,none⟩=some (.int .i64 y.dV):=hb.cell (hcc k y hy 0 (by omega));have d1:wr.cell? ⟨b,off+k*3+1,none⟩=some (.int .i64 y.to):=hb.cell (hcc k y hy 1 (by omega));have d2:wr.cell? ⟨b,off+k*3+2,none⟩=some (.int .i64 y.kind):=hb.cell (hcc k y hy 2 (by omega));have hle:w.heap.size<=wr.heap.size:=hb.size;have HN:=aa (PM (k:=x) hy);have BJ:(gD (es.take k) x).length<=2097152:=by
    unfold gD
    have:=List.length_filter_le (fun e:Edge=>decide (e.kind<=x)) (es.take k)
    rw[List.length_take]at this;omega
   cases hd:decide (y.kind<=x) with
   | false=>
     rw[hd]at HN;have hd':¬(y.kind<=x):=by simpa using hd
     clear hcc hy BJ hd;go_wp2;go_roundw;case rel=>exact⟨hb,k+1,by omega,by go_num,by show Row _ _ _ _ _ _ _;rw[HN.out];simpa using HR.out⟩
     case measure=>simp[intOf];omega
   | true=>
     rw[hd]at HN;have hd':y.kind<=x:=by simpa using hd
     obtain⟨v',w3,hrun,hP⟩:=vg wr.heap.size rfl HR.out (Ext.refl _) y hle (by omega);have aU:=aa hrun;have HP:=aa hP;have sI:=aa (hP.2.1 w hb (Nat.le_refl _));clear hcc hy BJ hd hrun hP;go_wp2_with (at_builtin;refine wpList_append_run rfl rfl rfl rfl aU.out ?_)
     go_roundw;case rel=>exact⟨sI.out,k+1,by omega,by go_num,by rw[HN.out];exact HP.out.1⟩
     case measure=>simp[intOf];omega
  ·obtain rfl:k=es.length:=by omega
   have hr:=HR.out;rw[List.take_length]at hr;have Y6:=aa hr;obtain⟨A',c',rfl,_⟩:=id hr.cell.1;clear hr HR;go_wp2;go_returns;exact⟨_,rfl,Y6.out,hb⟩
theorem uI{v:Value}{es:List Edge}(many:Nat)(w:World)(hm:many<=6)(h:aF 3 aR w v es)(hl:es.length<=144)(hok:∀e∈es,edgeOk many e) :
 Calls Tryz.prog 155 #[.int .i64 (many:Int),v] w fun r w'=>r=.returned (.bool true)/\Ext w w':=by
 obtain⟨A,c,rfl,hc⟩:=id h;have HC:=aa hc;have dO:=aa hok;have hw:IntKind.i64.wrap ((many:Int)-1)=(many:Int)-1:=IntWalk.i64_in _ (by omega);have b0:jR (many:Int) 0 6=true:=bL.2 (by omega);have hl':(es.length:Int)<=144:=by omega
 clear h hc hok;go_enter Tryz.func155,Tryz.ntmps155;go_wp2;go_loopw [5] (fun i wr=>Ext w wr/\∃k:Nat,k<=es.length/\i=.int .i64 (k:Int)) (fun i _=>es.length-(intOf i).toNat)
 case atStart=>exact⟨Ext.refl _,0,Nat.zero_le _,rfl⟩
 case round=>
  obtain⟨hb,k,hk,rfl⟩:=hrel;by_cases hlt:k<es.length
  ·obtain⟨y,hy⟩:=af hlt;obtain⟨b,off,rfl,hbl,hcc⟩:=HC.out (by omega);have d0:wr.cell? ⟨b,off+k*3,none⟩=some (.int .i64 y.dV):=hb.cell (hcc k y hy 0 (by omega));have d1:wr.cell? ⟨b,off+k*3+1,none⟩=some (.int .i64 y.to):=hb.cell (hcc k y hy 1 (by omega));have d2:wr.cell? ⟨b,off+k*3+2,none⟩=some (.int .i64 y.kind):=hb.cell (hcc k y hy 2 (by omega));obtain⟨h1,h2,h3,h4⟩:=dO.out y (List.mem_of_getElem? hy);have b1:jR y.dV 0 ((many:Int)-1)=true:=bL.2 (by omega);have b2:jR y.to 0 ((many:Int)-1)=true:=bL.2 (by omega);have b3:(y.dV==y.to)=false:=beq_eq_false_iff_ne.2 h3;have b4:jR y.kind 1 4=true:=bL.2 h4;have hE:Hid (Ext wr (wr.alloc (.cells #[.int .i64 y.dV,.int .i64 y.to,.int .i64 y.kind] 177))):=(Ext.refl _).alloc _;clear hcc hy h1 h2 h3 h4;go_wp2_with (first|(go_at_call 48;refine(dY _ _ _ _).mono ?_;rw[b1];rintro e w' ⟨rfl,rfl⟩)|(go_at_call 48;refine(dY _ _ _ _).mono ?_;rw[b2];rintro e w' ⟨rfl,rfl⟩)|(go_at_call 48;refine(dY _ _ _ _).mono ?_;rw[b4];rintro e w' ⟨rfl,rfl⟩))
   go_roundw;case rel=>exact⟨hb.trans hE.out,k+1,by omega,by go_num⟩
   case measure=>simp[intOf];omega
  ·obtain rfl:k=es.length:=by omega
   go_wp2_with (go_at_call 48;refine(dY _ _ _ _).mono ?_;rw[b0];rintro e w' ⟨rfl,rfl⟩)
   go_returns;exact⟨rfl,hb⟩
def AR(h:List aA)(key:Int)(k:Nat):List Int:=((List.range k).filter fun n=>(h[n]?.map (·.done)).getD false).flatMap fun n=>nC (opsOf h n) key
theorem Qa{h:List aA}{key:Int}{k:Nat}{t:aA}(ht:h[k]? =some t):AR h key (k+1)=AR h key k++if t.done=true then nC t.ops key else []:=by unfold AR;rw[List.range_succ,List.filter_append,List.flatMap_append];congr 1;rw[List.filter_cons,ht];cases hd:t.done<;>simp[hd,opsOf,ht]
theorem Tv(h:List aA)(key:Int):AR h key h.length=aP h key:=rfl
theorem SL(h:List aA)(key:Int)(k:Nat):(AR h key k).length<=k:=by
 unfold AR;rw[List.length_flatMap];have h1:∀l:List Nat,(l.map fun n=>(nC (opsOf h n) key).length).sum<=l.length:=fun l=>by
  induction l with
  | nil=>simp
  | cons n l ih=>have:=F8 (opsOf h n) key;simp;omega
 have h2:=List.length_filter_le (fun n=>(h[n]?.map (·.done)).getD false) (List.range k);rw[List.length_range]at h2;exact Nat.le_trans (h1 _) h2
theorem uT{v:Value}{h:List aA}(key:Int)(w:World)(H:gL w v h)(hok:aC h=true)(hk:jR key 0 2=true) :
 Calls Tryz.prog 81 #[v,.int .i64 key] w fun e w'=>∃v',e=.returned v'/\Row 3 1 (one encI) w.heap.size w' v' (aP h key)/\Ext w w':=by
 obtain⟨A,c,rfl⟩:=H.slice;have HH:=aa H;have dO:=aa hok;have hlen:=aM hok;have HV:=aa (fun W (b:Ext w W)=>bu W (H.ext b) (by omega) (aD hok));rw[hok]at HV;clear H hok;go_enter Tryz.func81,Tryz.ntmps81;go_wp2;go_loopw [5,6] (fun o i wr=>Ext w wr/\∃k:Nat,k<=h.length/\i=.int .i64 (k:Int)/\Hid (Row 3 1 (one encI) w.heap.size wr o (AR h key k))) (fun _ i _=>h.length-(intOf i).toNat)
 case atStart=>exact⟨(Ext.refl _).alloc _,0,Nat.zero_le _,rfl,bT⟩
 case round=>
  obtain⟨hb,k,hkl,rfl,HI⟩:=hrel;by_cases hlt:k<h.length
  ·obtain⟨b,off,rfl,hbl,hc⟩:=HH.out.head (by omega);obtain⟨t,ht⟩:=af hlt;obtain⟨ov,c0,c1,c2,hs⟩:=hc k t ht;have htk:=bY dO.out (List.mem_of_getElem? ht);have hl3:=CR t.ops;have hlu:=SL h key k;have iA:=aa (Qa (key:=key) ht);have HS:=aa hs;have O8:=aa htk;obtain⟨A4,c4,rfl,_⟩:=id hs;have HC:=aa (And.intro c0 (And.intro c1 c2));have adp:=aa c2;have HLL:=aa (fun W (bb:Ext w W)=>oM t (.slice A4 t.ops.length c4) W (hs.ext bb) htk);unfold ng at HLL;have hki:(k:Int)<(h.length:Int):=by omega
   clear hc ht hs c0 c1 c2 htk;go_wp2_with (first|(go_at_call 20;refine(HV.out _ hb).mono ?_;rintro e w1 ⟨rfl,b1⟩;have hx1:=hb.trans b1;have c0:=hx1.cell HC.out.1;have c1:=hx1.cell HC.out.2.1;have c2:=hx1.cell HC.out.2.2;have LW:=aa hx1;have HL:=aa (HLL.out w1 hx1);clear hx1)|(go_at_call 48;refine(dY _ _ _ _).mono ?_;rw[hk];rintro e w' ⟨rfl,rfl⟩)|fail)
   refine HL.out.mono ?_;rintro e w2 ⟨v2,rfl,r2,b2⟩;have hx2:=LW.out.trans b2;have d2:=hx2.cell HC.out.2.2;have R2:=aa r2;obtain⟨A2,c2',rfl,_⟩:=id r2.cell.1;have uP:=aa (And.intro hx2 d2);have HI2:=aa (And.intro (Row.ext HI.out (b1.trans b2)) (r2.low (LW.out.size)));clear r2 b2 hx2 b1 HI HC
   cases hd:t.done with
   | false=>
     rw[hd]at iA uP;have hd2:=uP.out.2;clear hd;go_wp2;go_loopw [5,8] (fun o i wr=>Ext w2 wr/\i=.int .i64 0/\Hid (Row 3 1 (one encI) w.heap.size wr o (AR h key k))) (fun _ _ _=>0)
     case atStart=>exact⟨Ext.refl _,rfl,HI2.out.1⟩
     case round=>
      obtain⟨hv,rfl,HIV⟩:=hrel;have hd3:=hv.cell hd2
      cases hz:decide ((0:Int)<((bD t.ops).length:Int)) with
      | true=>
        have hz':(0:Int)<((bD t.ops).length:Int):=by simpa using hz
        clear hz;go_wp2;go_roundw;case rel=>exact⟨uP.out.1.trans hv,k+1,by omega,by go_num,by show Row _ _ _ _ _ _ _;rw[iA.out];simpa using HIV.out⟩
        case measure=>simp[intOf];omega
      | false=>
        have hz':¬((0:Int)<((bD t.ops).length:Int)):=by simpa using hz
        clear hz;go_wp2;go_roundw;case rel=>exact⟨uP.out.1.trans hv,k+1,by omega,by go_num,by show Row _ _ _ _ _ _ _;rw[iA.out];simpa using HIV.out⟩
        case measure=>simp[intOf];omega
   | true=>
     rw[hd]at iA uP adp;have HD0:=aa adp.out;clear hd;have HJ0:=aa (HI2.out.1.app0 (zs:=nN t.ops key 0) (by simp[nN]));go_wp2;go_loopw [5,8] (fun o i wr=>Ext w wr/\∃j:Nat,j<=(bD t.ops).length/\i=.int .i64 (j:Int)/\Hid (Row 3 1 (one encI) w.heap.size wr o (AR h key k++nN t.ops key j)/\Row 71 3 aj w.heap.size wr (.slice A2 (bD t.ops).length c2') (bD t.ops)/\wr.cell? ⟨b,off+k*3+2,none⟩=some (.bool true))) (fun _ i _=>(bD t.ops).length-(intOf i).toNat)
     case atStart=>exact⟨uP.out.1,0,Nat.zero_le _,rfl,HJ0.out,HI2.out.2,uP.out.2⟩
     case round=>
      obtain⟨hv,j,hj,rfl,HK⟩:=hrel;by_cases hjt:j<(bD t.ops).length
      ·obtain⟨A',c',hA',hcc⟩:=HK.out.2.1.cell.1;injection hA' with e1 e2 e3;subst e1 e3;obtain⟨b',off',rfl,pg,hcc⟩:=hcc (by omega);obtain⟨o,ho⟩:=af hjt;have q0:wr.cell? ⟨b',off'+j*3+1,none⟩=some (.int .i64 o.key):=hcc j o ho 1 (by omega);have q1:wr.cell? ⟨b',off'+j*3+2,none⟩=some (.int .i64 o.value):=hcc j o ho 2 (by omega);have q2:=HK.out.2.2;have hn2:=Di (key:=key) ho;have hlt2:=Gp t.ops key j;have hji:(j:Int)<((bD t.ops).length:Int):=by omega
       by_cases hkk:o.key=key
       ·rw[if_pos hkk]at hn2;have tF:=aa hn2;have hkb:(o.key==key)=true:=by simp[hkk]
        obtain⟨v',w4,hrun,hP⟩:=FK wr.heap.size rfl HK.out.1 (Ext.refl _) o.value hv.size (by rw[List.length_append];omega);have aU:=aa hrun;have HP:=aa hP;have HR4:=aa (HK.out.2.1.pushed HK.out.1 (by decide) hP);have wV:=aa (hP.2.1 w hv (Nat.le_refl _));clear hcc ho e2 hn2 hrun hP hkk;go_wp2_with (at_builtin;refine wpList_append_run rfl rfl rfl rfl aU.out ?_)
        go_roundw;case rel=>exact⟨wV.out,j+1,by omega,by go_num,by rw[tF.out,<-List.append_assoc];exact HP.out.1,HR4.out,wV.out.cell HD0.out⟩
        case measure=>simp[intOf];omega
       ·rw[if_neg hkk,List.append_nil]at hn2;have tF:=aa hn2;have hkb:(o.key==key)=false:=by simp[hkk]
        clear hcc ho e2 hn2 hkk;go_wp2;go_roundw;case rel=>exact⟨hv,j+1,by omega,by go_num,by rw[tF.out];exact HK.out.1,HK.out.2.1,HK.out.2.2⟩
        case measure=>simp[intOf];omega
      ·obtain rfl:j=(bD t.ops).length:=by omega
       have HF:=aa HK.out.1;clear HK;go_wp2;go_roundw;case rel=>exact⟨hv,k+1,by omega,by go_num,by rw[iA.out];simp only[if_true];rw[<-H9];exact HF.out⟩
       case measure=>simp[intOf];omega
  ·obtain rfl:k=h.length:=by omega
   have hr:=HI.out;rw[Tv]at hr;have Y6:=aa hr;obtain⟨A',c',rfl,_⟩:=id hr.cell.1;clear hr HI;go_wp2;go_returns;exact⟨_,rfl,Y6.out,hb⟩
theorem rZ{v u:Value}{h:List aA}{os:List (List Int)}(w:World)(H:gL w v h)(hok:aC h=true)(hu:I2 w u os)(ho:jQ h os) :
 Calls Tryz.prog 110 #[v,u] w fun e w'=>e=.returned (.bool true)/\Ext w w':=by
 obtain⟨A,c,rfl⟩:=H.slice;obtain⟨Au,cu,rfl,_⟩:=Ls.slice hu;have HH:=aa H;have HU:=aa hu;have dO:=aa hok;have hlen:=aM hok;have hol:os.length=3:=ho.1;have HO:=aa ho.2;have HV:=aa (fun W (b:Ext w W)=>bu W (H.ext b) (by omega) (aD hok));rw[hok]at HV;clear H hok hu ho;rw[hol]at HU ⊢;have HOL:=aa hol;clear hol;go_enter Tryz.func110,Tryz.ntmps110;go_wp2;go_loopw [5] (fun i wr=>Ext w wr/\∃k:Nat,k<=3/\i=.int .i64 (k:Int)) (fun i _=>3-(intOf i).toNat)
 case atStart=>exact⟨Ext.refl _,0,by omega,rfl⟩
 case round=>
  obtain⟨hb,k,hk,rfl⟩:=hrel;by_cases hlt:k<3
  ·obtain⟨order,hor⟩:=af (show k<os.length by rw[HOL.out];omega);obtain⟨b,off,rfl,_,hc⟩:=Ls.cells HU.out (by rw[HOL.out];omega);obtain⟨uo,Mx,hP⟩:=hc k order hor;have Mx:=hb.cell Mx;obtain⟨Ao,co,rfl,_⟩:=mo.slice hP;have HPP:=aa (mo.ext hP hb);have HPM:=aa (HO.out k order hor);have HND:=aa (FM dO.out (key:=(k:Int)) (by omega));have hil:(aP h (k:Int)).length<=6:=Nat.le_trans (gJ h k) hlen;have HIN:=aa (fun W (b:Ext w W)=>uT (k:Int) W (HH.out.ext b) dO.out (bL.2 (by omega)));have hki:(k:Int)<3:=by omega
   have adT:(k:Int)<=2:=by omega
   have hk0:(0:Int)<=(k:Int):=by omega
   clear hc hP hor;go_wp2;go_region_held3 (fun W=>W.cell? ⟨b,off+k,none⟩=some (.slice Ao order.length co)) (assumption) ((first|(go_at_call 81;refine(HIN.out _ hb.drew).mono ?_;rintro e w2 ⟨v2,rfl,r2,b2⟩;have ac9:=b2.cell Mx;have R2:=aa r2;clear r2)|(go_at_call 151;refine(Qz _ ((HPP.out.ext ((Ext.refl _).drew.trans b2)).1) R2.out.cell.1.YB HPM.out HND.out (by omega)).mono ?_;rintro e w3 ⟨rfl,b3⟩;have ae6:=b3.cell ac9)))
   have HX:=aa (hb.drew.trans (b2.trans b3));clear b2 b3 ac9 ae6;go_wp2;go_roundw;case rel=>exact⟨HX.out,k+1,by omega,by go_num⟩
   case measure=>simp[intOf];omega
  ·obtain rfl:k=3:=by omega
   clear hlt hk;rw[show ((3:Nat):Int)=3 from rfl];go_wp2_with (go_at_call 20;refine(HV.out _ hb).mono ?_;rintro e w1 ⟨rfl,b1⟩)
   go_returns;exact⟨rfl,hb.trans b1⟩
