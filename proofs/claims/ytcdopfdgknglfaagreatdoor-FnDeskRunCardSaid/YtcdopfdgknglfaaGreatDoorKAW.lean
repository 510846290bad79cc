/- Lemmas. -/
import Derived.Test.YtcdopfdgknglfaaGreatDoorKAU
import Derived.Test.YtcdopfdgknglfaaGreatDoorKAV
set_option maxHeartbeats 16000000
set_option maxRecDepth 8000
set_option linter.all false
namespace Go.Proofs.YtcdopfdgknglfaaGreatDoor
open Go.RowKit
theorem Row.YU{α:Type}{e:TypeId}{enc:α->Nat->Value}{base:Nat}{w:World}{v:Value}{xs:List α}(h:Row e 1 enc base w v xs){k:Nat}(hk:k<xs.length)(x:α) :
 ∃g c,v=.slice (some ⟨g,0,none⟩) xs.length c/\base<=g/\(∀i,w.frozen? ⟨g,i,none⟩=false)/\(∀y,xs[k]? =some y->w.cell? ⟨g,k,none⟩=some (enc y 0))/\Row e 1 enc base (w.setCell ⟨g,k,none⟩ (enc x 0)) v (xs.set k x):=by
 have hcell:=h.cell.1;obtain⟨h1,h2⟩:=h;rcases h2 with ⟨rfl,h0⟩|⟨g,cap,cur,rfl,hb,hg,hnc,hcm,hcs,ht⟩
 ·omega
 ·refine⟨g,cap,rfl,hb,λi=>by simp[World.frozen?,hg],λy hy=>?_,?_⟩
  ·obtain⟨A',c',e,hc⟩:=hcell;injection e with e1 e2 e3;obtain⟨b,off,e,hlt,hcc⟩:=hc (by omega);rw[<-e1]at e;injection e with e;injection e with e4 e5;subst e4 e5
   have:=hcc k y hy 0 (by omega)
   simpa using this
  ·have e1:∀ys:List α,ys.flatMap (aH 1 enc)=ys.map λy=>enc y 0:=λys=>by
    induction ys with
    | nil=>rfl
    | cons y ys ih=>rw[agD,ih];rfl
   refine⟨?_,.inr ⟨g,cap,cur.setIfInBounds k (enc x 0),?_,hb,?_,?_,hcm,?_,?_⟩⟩
   ·rw[kG]
   ·rw[iE]
   ·simp[World.setCell,lW,hg]
   ·rw[iE];exact hnc
   ·rw[agL];exact hcs
   ·rw[e1]at ht ⊢;rw[Array.toList_setIfInBounds,iE,List.map_set,<-ht,List.take_set]
theorem XN{α:Type}{ws:List α}(h:ws≠[])(y:α):∃p last,ws.length=p+1/\ws[p]? =some last/\ws.dropLast++[y]=ws.set p y/\ws.getLast? =some last:=by obtain⟨a,x,rfl⟩:∃a x,ws=a++[x]:=⟨ws.dropLast,ws.getLast h,(List.dropLast_concat_getLast h).symm⟩;exact⟨a.length,x,by simp,by simp,by simp,by simp⟩
theorem EM(l:List UInt8)(w:World)(hl:l.length<=1048576) :
 Calls Tryz.prog 65 #[.string (tx l)] w λe w'=>∃v,e=.returned v/\Row 9 1 encS w.heap.size w' v (splitL 32 l)/\Ext w w':=by
 have HI:=aa (λ(k:Nat) (x:UInt8) (hx:l[k]? =some x)=>lT hx (k:Int) rfl);have HE:=aa (λi j=>pG l i j);have hsz:=dR l;have HSL:=aa (λk=>pq 32 (l.take k));have HSS:=aa (λk=>p9 32 (l.take k));obtain⟨z,hz⟩:∃z,tx l=z:=⟨_,rfl⟩;rw[hz]at hsz HI HE ⊢;clear hz;have hr0:Row 9 1 encS w.heap.size (w.alloc (.cells #[.string ⟨#[]⟩] 9)) (.slice (some ⟨w.heap.size,0,none⟩) 1 1) (splitL 32 (l.take 0)):=Row.lit w #[.string ⟨#[]⟩] 9 [[]] rfl (by simp);have zh:=aa hr0;clear hr0;go_enter Tryz.func65,Tryz.ntmps65;go_wp2;go_loopw [3,4] (λo i wr=>Ext w wr/\∃k:Nat,k<=l.length/\i=.int .i64 (k:Int)/\Hid (Row 9 1 encS w.heap.size wr o (splitL 32 (l.take k)))) (λ_ i _=>l.length-(intOf i).toNat)
 case atStart=>exact⟨(af _).alloc _,0,aT _,rfl,zh.out⟩
 case round=>
  obtain⟨hb,k,hk,rfl,HR⟩:=hrel;by_cases hlt:k<l.length
  ·obtain⟨x,hx⟩:=ah hlt;have hi0:=HI.out k x hx;have hki:(k:Int)<(l.length:Int):=by omega
   have hk0:(0:Int)<=(k:Int):=by omega
   have hsn:=xK 32 (l.take k) x;rw[<-ak hx]at hsn;have hsl:=HSL.out k;have hss:=HSS.out k;have hne:=rQ 32 (l.take k);have hrr:=HR.out;obtain⟨ws,hws⟩:∃ws,splitL 32 (l.take k)=ws:=⟨_,rfl⟩;rw[hws]at hsn hsl hss hne hrr;rw[eY]at hsl;by_cases h32:x=32
   ·subst h32;rw[aj rfl]at hsn;obtain⟨v',w3,hrun,hP⟩:=jY wr.heap.size rfl kY jG rfl (by omega) hrr (af _) ([]:List UInt8) (λj=>rfl) #[.string ⟨#[]⟩] rfl hb.size (by omega) (by omega);have bH:=aa hrun;have HP:=aa hP;have tF:=aa (hP.2.1 w hb (av _));have Uj:=aa hsn;obtain⟨Ao,no,co,rfl⟩:∃A n c,u3=Value.slice A n c:=jL hrr;clear hx hsn hsl hss hne hrr hws hrun hP HR;go_wp2_with (at_builtin;refine wpList_append_run rfl rfl rfl rfl bH.out ?_)
    go_roundw;case rel=>exact⟨tF.out,k+1,by omega,by go_num,by rw[Uj.out];exact HP.out.1⟩
    case measure=>simp[intOf];omega
   ·rw[au h32]at hsn;obtain⟨p,last,hp1,hp2,hp3,TR⟩:=XN hne (((ws.getLast?).getD [])++[x]);rw[hp3,TR,Option.getD_some]at hsn;have hll:=hss last (aM hp2);rw[eY]at hll;obtain⟨g,cc,hv,hgb,hfr,hcell,hput⟩:=Row.YU hrr (show p<ws.length by omega) (last++[x]);have hx32:((x.toNat:Int)==32)=false:=by
     rw[fU];intro e;have e':(x.toNat:Int)=32:=by simpa using e
     exact h32 (UInt8.toNat_inj.1 (show x.toNat=(32:UInt8).toNat from Int.ofNat_inj.1 e'))
    have c0:=hcell last hp2;simp only[encS]at c0 hput;have a1:=bX last [x] (by simp;omega);have hex:=HE.out k (k+1);rw[ak hx,List.drop_append_of_le_length (by rw[eY];omega),show (l.take k).drop k=[] from List.drop_of_length_le (by rw[eY];omega),List.nil_append]at hex;obtain⟨y1,hy1⟩:∃y,tx last=y:=⟨_,rfl⟩;obtain⟨y2,hy2⟩:∃y,tx [x]=y:=⟨_,rfl⟩;obtain⟨y3,hy3⟩:∃y,tx (last++[x])=y:=⟨_,rfl⟩;rw[hy1]at c0 a1;rw[hy2]at a1 hex;rw[hy3]at a1 hput;have hwk:IntKind.i64.wrap ((k:Int)+1)=(k:Int)+1:=dL _ (by omega);have aaG:Row 9 1 encS w.heap.size (wr.drew.setCell ⟨g,p,none⟩ (.string y3)) u3 (ws.set p (last++[x])):=by
     obtain⟨g',cc',hv',_,_,_,hq⟩:=Row.YU (Row.ext hrr (af wr).drew) (show p<ws.length by omega) (last++[x]);rw[hv]at hv';obtain rfl:g'=g:=by simpa using (sQ hv').1.symm
     simp only[encS,hy3]at hq;exact hq
    have Kq:=aa aaG;have HXE:=aa (hb.drew.setCell (p:=⟨g,p,none⟩) hgb (.string y3));have Uj:=aa hsn;have hfp:=hfr p;rw[hp1]at hv;subst hv;have hpi:IntKind.i64.wrap (((p+1:Nat):Int)-1)=(p:Int):=by rw[show ((p+1:Nat):Int)-1=(p:Int) by omega];exact dL _ (by omega)
    obtain⟨q,hq⟩:∃q:Nat,q=p+1:=⟨_,rfl⟩;rw[<-hq]at hpi Kq ⊢;have hpq:(p:Int)<(q:Int):=by omega
    have hp0:(0:Int)<=(p:Int):=by omega
    have hk1:(k:Int)+1<=(l.length:Int):=by omega
    have hk2:(k:Int)<=(k:Int)+1:=by omega
    have hk3:((k:Int)+1).toNat=k+1:=by omega
    clear hx hsn hsl hss hne hrr hws hp1 hp2 hp3 TR hll hcell hput aaG hgb hfr hy1 hy2 hy3 HR h32 hq;go_wp2;have u1:({ wr with drawn:=wr.drawn+1 }:World).cell? ⟨g,p,none⟩=some (.string y1):=c0;go_still_tail 16,(by kernel_rfl)
    change wpList _ _ _ _ _ wr.drew;clear u1;go_wp2;go_roundw;case rel=>exact⟨HXE.out,k+1,by omega,by go_num,by rw[Uj.out];exact Kq.out⟩
    case measure=>simp[intOf];omega
  ·obtain rfl:k=l.length:=by omega
   have hr:=HR.out;rw[bM]at hr;have Zh:=aa hr;obtain⟨Ao,no,co,rfl⟩:∃A n c,u3=Value.slice A n c:=jL hr;clear hr HR;go_wp2;go_returns;exact⟨_,rfl,Zh.out,hb⟩
theorem Xk{l:List UInt8}(h:(splitL 32 l).length<2):dQ l=none:=nK (λt _ e=>by rw[e]at h;simp[dB]at h;omega)
theorem Uc{l w0:List UInt8}(h:(splitL 32 l)[0]? =some w0)(hb:w0.length≠2∨w0[0]?≠some 115):dQ l=none:=nK (λt _ e=>by rw[e]at h;simp[dB]at h;subst h;simp at hb)
theorem ZN{l w1:List UInt8}(h:(splitL 32 l)[1]? =some w1)(h1:w1≠[111,107])(h2:w1≠[111,102,102]):dQ l=none:=nK (λt _ e=>by
 rw[e]at h;simp[dB]at h;cases hd:t.done<;>rw[hd]at h<;>simp at h
 ·exact h2 h.symm
 ·exact h1 h.symm)
theorem adf{l wk:List UInt8}{k:Nat}(h:(splitL 32 l)[k+2]? =some wk)(hn:iy wk=none):dQ l=none:=nK (λt ht e=>by rw[e]at h;simp[dB]at h;obtain⟨o,ho,rfl⟩:=h;rw[lI.2 ⟨gD ht (aM ho),rfl⟩]at hn;cases hn)
theorem abl{l w1:List UInt8}{c:UInt8}{ws:List (List UInt8)}{os:List aV}(h:splitL 32 l=[115,c] :: w1 :: ws)(h1:w1=[111,107]∨w1=[111,102,102])(hs:uH ws os)(hl:os.length=ws.length) :
 (dG ⟨gF [c],os,decide (w1=[111,107])⟩=true->dQ l=some ⟨gF [c],os,decide (w1=[111,107])⟩)/\(dG ⟨gF [c],os,decide (w1=[111,107])⟩=false->dQ l=none):=by
 constructor
 ·intro hk;have h0:=kS hk;have hsn:=Bh (l:=[c]) h0.1;have he:((gF [c]).toNat:Int)=gF [c]:=Int.toNat_of_nonneg h0.1
  have:=OA (s:=l) (c:=c) (n:=(gF [c]).toNat) (d:=decide (w1=[111,107])) (ws:=ws) (os:=os) (by rw[h];rcases h1 with rfl|rfl<;>rfl) hsn hs hl (by rw[he];exact hk)
  rw[he]at this;exact this
 ·intro hk;refine nK (λt ht e=>?_);obtain⟨e1,e2,e3⟩:=Uo h e;obtain⟨a1,a2⟩:=hs.all hl;have ho:os=t.ops:=IB a2 (λo ho=>gD ht ho) (a1.symm.trans e3);have hc:gF [c]=t.az:=by injection e1 with _ e1;injection e1 with e1;have h0:=kS ht;unfold gF;rw[Q9 ht e1];simp only;omega
  have hd:decide (w1=[111,107])=t.done:=by rw[e2];cases t.done<;>rfl
  rw[ho,hc,hd]at hk
  have:(⟨t.az,t.ops,t.done⟩:aG)=t:=rfl
  rw[this,ht]at hk;cases hk
theorem J6{P:Program}{id:Nat}{ops:Array Oper}{b:Bool}{Q:Exit->Act->World->Prop}{a:Act}{w:World}(R:Act->Act->World->Prop)(h1:(Code.region id ops b).wp P (ET λ_ a' w'=>R a a' w') a w)(h2:∀a' w',R a a' w'->Q .normal a' w'):(Code.region id ops b).wp P Q a w:=
 Code.wp_mono (λe a' w' h=>by obtain⟨rfl,h⟩:=h;exact h2 a' w' h) h1
theorem XG{α:Type}{ws:List α}{x y:α}(h0:ws[0]? =some x)(h1:ws[1]? =some y):ws=x :: y :: ws.drop 2:=by
 match ws,h0,h1 with
 | [],h0,_=>simp at h0
 | [_],_,h1=>simp at h1
 | a :: b :: r,h0,h1=>simp at h0 h1;subst h0 h1;rfl
theorem Xy{W0 wr W:World}{q:Nat}{a c v:Value}{T:TypeId}{os:List aV}(qs:Nat)(hqs:W.heap.size=qs)(hv:Ext W0 wr)(hq:W0.heap.size<=q)(hg:wr.heap[q]? =some (.cells #[a,v,c] T (0,0)))(hrow:Row 67 3 encOpr (q+1) wr v os)(hx:Ext wr W)(o:aV)(hl:os.length<4194303) :
 ∃A n c' w4,(Builtin.append_ #[46,46] 46 #[v,.slice (some ⟨qs,0,none⟩) 1 1]).run Tryz.prog (W.alloc (.cells #[.int .i64 o.kind,.int .i64 o.key,.int .i64 o.value] 67))=.ok (.slice A n c') w4/\w4.cell? ⟨q,1,none⟩=some v/\w4.frozen? ⟨q,1,none⟩=false /\
  Ext W0 (w4.setCell ⟨q,1,none⟩ (.slice A n c'))/\(w4.setCell ⟨q,1,none⟩ (.slice A n c')).heap[q]? =some (.cells #[a,.slice A n c',c] T (0,0))/\Row 67 3 encOpr (q+1) (w4.setCell ⟨q,1,none⟩ (.slice A n c')) (.slice A n c') (os++[o]):=by
 have hlt:q<wr.heap.size:=(fF.1 hg).1;obtain⟨v',w4,hrun,hP⟩:=yj qs hqs hrow hx o (by omega) (by omega);have hne:v.ownBlock≠some q:=λe=>by have:=hrow.block q e;omega
 have hg4:=(hP.2.2.1 q hlt hne).trans hg;obtain⟨A,n,c',rfl⟩:=jL hP.1;obtain⟨_,g41,_,gf4⟩:=vL hg4;exact⟨A,n,c',w4,hrun,g41,gf4 1,(hP.2.1 W0 hv (by omega)).setCell (p:=⟨q,1,none⟩) hq _,O5 hg4 _,hP.1.Dw (a:=⟨q,1,none⟩) (qx _) _⟩
def Xg(w:World)(l:List UInt8)(e:Ending)(w':World):Prop:=
 ∃(t:aG) (ov:Value),e=.returned (.tuple #[.agg #[.int .i64 t.az,ov,.bool t.done],.bool (dQ l).isSome])/\aL 3 encOpr w' ov t.ops/\Own w.heap.size w' ov/\jD 67 w' ov/\tN ov/\(∀t',dQ l=some t'->t=t')/\Ext w w'
theorem QS{w w':World}{l:List UInt8}(h:dQ l=none)(hx:Ext w w'):Xg w l (.returned (.tuple #[.agg #[.int .i64 0,.slice none 0 0,.bool false],.bool false])) w':=
 ⟨⟨0,[],false⟩,.slice none 0 0,by rw[h];rfl,aL.nil _ _ _ _ _,Own.nil _ _ _ _,λa n c e=>(by cases e),λA n c e=>by cases e;exact⟨av _,by omega⟩,λt' e=>(by rw[h]at e;cases e),hx⟩
theorem Nv(l:List UInt8)(w:World)(hl:l.length<=1048576) :
 Calls Tryz.prog 27 #[.string (tx l)] w (Xg w l):=by
 have HW3:=aa (λW=>EM l W hl);have hwl:(splitL 32 l).length<=1048577:=by have:=pq 32 l;omega
 have HSS:=aa (p9 32 l);have UA:=aa (λw' (hx:Ext w w') (h:dQ l=none)=>QS h hx);obtain⟨z,hz⟩:∃z,tx l=z:=⟨_,rfl⟩;rw[hz]at HW3 ⊢;obtain⟨ws,hws⟩:∃ws,splitL 32 l=ws:=⟨_,rfl⟩;have Ku:=aa hws;rw[hws]at HW3 hwl HSS;clear hz hws;go_enter Tryz.func27,Tryz.ntmps27;go_wp2_with fail
 refine(HW3.out _).mono ?_
 rintro e W1 ⟨vw,rfl,YW,b1⟩;have T0:W1.cell? ⟨w.heap.size,0,none⟩=some (.int .i64 0):=b1.cell (aF rfl);have T1:W1.cell? ⟨w.heap.size,1,none⟩=some (.slice none 0 0):=b1.cell (aF rfl);have T2:W1.cell? ⟨w.heap.size,2,none⟩=some (.bool false):=b1.cell (aF rfl);have TF:∀j,W1.frozen? ⟨w.heap.size,j,none⟩=false:=λj=>(b1.frozen (p:=⟨w.heap.size,j,none⟩) (by simp)).trans (jf j rfl);have TF0:=TF 0;have TF1:=TF 1;have TF2:=TF 2;have HB1:Hid (Ext w W1):=((af _).alloc _).trans b1;have Xa:Hid (w.heap.size<W1.heap.size):=by have:=b1.size;simp at this;show _<_;omega
 have XU:0<ws.length->∃g cw,vw=.slice (some ⟨g,0,none⟩) ws.length cw/\∀(i:Nat) (x:List UInt8),ws[i]? =some x->W1.cell? ⟨g,i,none⟩=some (.string (tx x)):=λhp=>by
  rcases id YW.2 with ⟨rfl,h0⟩|⟨g,cap,cur,rfl,-⟩
  ·omega
  ·refine⟨g,cap,rfl,λi x hx=>?_⟩;obtain⟨A',c',e,hc⟩:=YW.cell.1;obtain⟨b,off,e',hlt,hcc⟩:=hc (by omega);obtain rfl:=(sQ e).1;obtain⟨rfl,rfl⟩:b=g/\off=0:=by simpa using e'.symm
   have:=hcc i x hx 0 (by omega)
   simpa[encS] using this
 have HCW:=aa XU;obtain⟨Aw,cw,rfl,hcw⟩:=id YW.cell.1;have HOWN:=aa YW.cell.2;clear YW b1 hcw XU;by_cases h2:ws.length<2
 ·have mF:Hid (dQ l=none):=Xk (by rw[Ku.out];exact h2);have h2i:(ws.length:Int)<2:=by omega
  clear h2 TF;go_wp2;obtain⟨y0,y1,y2⟩:=eT (.int .i64 0) (.slice none 0 0) (.bool false) T0 T1 T2;refine bodyPost_ret (v:=.tuple #[.agg #[.int .i64 0,.slice none 0 0,.bool false],.bool false]) (by simp[results,Tryz.results27,go_sem,y0,y1,y2]) rfl ?_;exact UA.out _ (((HB1.out.setCell (p:=⟨w.heap.size,0,none⟩) (av _) _).setCell (p:=⟨w.heap.size,1,none⟩) (av _) _).setCell (p:=⟨w.heap.size,2,none⟩) (av _) _) mF.out
 ·have h2i:¬((ws.length:Int)<2):=by omega
  obtain⟨g,cw',e,hcc⟩:=HCW.out (by omega);obtain⟨rfl,-,rfl⟩:=sQ e;clear e;have HCC:=aa hcc;obtain⟨w0,hw0⟩:=ah (show 0<ws.length by omega);obtain⟨w1,hw1⟩:=ah (show 1<ws.length by omega);have c0:W1.cell? ⟨g,0,none⟩=some (.string (tx w0)):=hcc 0 w0 hw0;have c1:W1.cell? ⟨g,1,none⟩=some (.string (tx w1)):=hcc 1 w1 hw1;have hs0:=dR w0;have i1:(1:Int)<(ws.length:Int):=by omega
  have i0:(0:Int)<(ws.length:Int):=by omega
  have HH0:=aa hw0;have HH1:=aa hw1;by_cases hl2:w0.length=2
  ·match w0,hl2,hw0 with
   | [a,c],_,hw0=>
     have hi0:=lT (l:=[a,c]) (k:=0) rfl 0 rfl;have hxc:(tx [a,c]).extract 1 (tx [a,c]).size=tx [c]:=Nr [a,c] 1;have HRC:=aa (λW=>vE [c] W (by simp));have hs1:(1:Int)<=((tx [a,c]).size:Int):=by rw[dR];simp
     have ae4:((((tx [a,c]).size:Nat):Int) != 2)=false:=by rw[dR];rfl
     have Uu:((a.toNat:Int)=115)↔a=115:=⟨λe=>UInt8.toNat_inj.1 (show a.toNat=(115:UInt8).toNat from Int.ofNat_inj.1 e),λe=>by rw[e];rfl⟩;obtain⟨zw0,hz0⟩:∃y,tx [a,c]=y:=⟨_,rfl⟩;obtain⟨zc,hzc⟩:∃y,tx [c]=y:=⟨_,rfl⟩;have ht1:(tx w1).toList=w1:=fA w1;obtain⟨zw1,hz1⟩:∃y,tx w1=y:=⟨_,rfl⟩;rw[hz0]at c0 hi0 hxc hs1 ae4;rw[hzc]at hxc HRC;rw[hz1]at c1 ht1;obtain⟨n,hn⟩:∃n,gF [c]=n:=⟨_,rfl⟩;rw[hn]at HRC;obtain⟨an,JN⟩:∃y:Int,(a.toNat:Int)=y:=⟨_,rfl⟩;rw[JN]at hi0 Uu;have HN:=aa hn;clear hz0 hzc hz1 hn JN hw0 hs0;by_cases ha:an=115
     ·by_cases hmk:w1=[111,107]∨w1=[111,102,102]
      ·have EN:a=115:=Uu.1 ha;have afI:Hid (ws=[115,c] :: w1 :: ws.drop 2):=by
        have:=XG HH0.out HH1.out
        rw[EN]at this;exact this
       have HX0:Hid (∀V:World,Ext W1 V->(λV:World=>V.cell? ⟨g,0,none⟩=some (.string zw0)/\V.cell? ⟨g,1,none⟩=some (.string zw1)) V):=λV b=>⟨b.cell c0,b.cell c1⟩;have HTF:Hid (∀V:World,Ext W1 V->∀j,V.frozen? ⟨w.heap.size,j,none⟩=false):=λV b j=>(b.frozen (p:=⟨w.heap.size,j,none⟩) Xa.out).trans (TF j);have hmk':=hmk;subst ha;clear EN Uu;obtain⟨dv,hdd⟩:∃d,decide (w1=[111,107])=d:=⟨_,rfl⟩;have q1:(zw1.toList==[111,107])=dv:=by rw[ht1,<-hdd];by_cases e:w1=[111,107]<;>simp[e]
       have HQ:Hid (dv=true∨(dv=false/\(zw1.toList==[111,102,102])=true)):=by
        rcases hmk with h|h
        ·exact .inl (by rw[<-hdd,h];rfl)
        ·exact .inr ⟨by rw[<-hdd,h];rfl,by rw[ht1,h];rfl⟩
       go_upto_region 2 with fail
       go_cut [39] (λs wx=>s=.bool false/\W1=wx)
       case first=>
        clear TF hmk' ht1 hmk hdd hcc hw1;rcases HQ.out with h|⟨h,q2⟩<;>(
         subst h;go_wp2;all_goals (go_meet;exact⟨by first|rfl|(rw[dU (by omega)])|(simp;done)|(simp[q1];done)|(simp[*];done),rfl⟩))
       case rest=>
        obtain⟨ae2,hwc⟩:=hcut;subst ae2 hwc;have i0:(0:Int)<(ws.length:Int):=by omega
        have hne:ws≠[]:=λe=>by rw[e]at i0;exact absurd i0 (by decide)
        have uy:Hid (∀os,uH (ws.drop 2) os->os.length=(ws.drop 2).length->(dG ⟨n,os,dv⟩=true->dQ l=some ⟨n,os,dv⟩)/\(dG ⟨n,os,dv⟩=false->dQ l=none)):=λos hs hl=>by
         have:=abl (l:=l) (c:=c) (w1:=w1) (ws:=ws.drop 2) (os:=os) (by rw[Ku.out];exact afI.out) hmk' hs hl
         rwa [HN.out,hdd]at this
        clear ht1 hmk' hdd hmk TF hcc hw1;go_wp2;refine J6 (λa0 a' w'=>∃q,a'=((((((((((a0.put (some 41) (.slice (some ⟨g,0,none⟩) ws.length cw)).put (some 42) (.pointer (some ⟨g,0,none⟩))).put (some 43) (.string zw0)).put (some 44) (.string zc)).put (some 46) (.slice (some ⟨g,0,none⟩) ws.length cw)).put (some 47) (.pointer (some ⟨g,1,none⟩))).put (some 48) (.string zw1)).put (some 49) (.bool dv)).put (some 45) (.int .i64 n)).put (some 50) (.agg #[.int .i64 n,.slice none 0 0,.bool dv])).put (some 5) (.pointer (some ⟨q,0,none⟩))/\w'.heap[q]? =some (.cells #[.int .i64 n,.slice none 0 0,.bool dv] 48 (0,0))/\W1.heap.size<=q/\Ext W1 w') ?_ ?_
        ·refine wp_region_held_drew (S:=(λV:World=>V.cell? ⟨g,0,none⟩=some (.string zw0)/\V.cell? ⟨g,1,none⟩=some (.string zw1))) (by kernel_rfl) (HX0.out _ (af _).drew) (λhHeld=>?_);simp only[List.size_toArray,eO,iJ,ig,Nat.reduceAdd];refine fG 0 (.slice (some ⟨g,0,none⟩) ws.length cw) rfl (iK ⟨by kernel_rfl,λV ⟨s1,s2⟩=>by go_simp⟩) hHeld ?_ (hQ:=kg _ _);try go_frame
         refine fG 1 (.pointer (some ⟨g,0,none⟩)) rfl (iK ⟨by kernel_rfl,λV ⟨s1,s2⟩=>by go_simp⟩) hHeld ?_ (hQ:=kg _ _);try go_frame
         refine fG 2 (.string zw0) rfl (iK ⟨by kernel_rfl,λV ⟨s1,s2⟩=>by go_simp⟩) hHeld ?_ (hQ:=kg _ _);try go_frame
         refine fG 3 (.string zc) rfl (iK ⟨by kernel_rfl,λV ⟨s1,s2⟩=>by go_simp⟩) hHeld ?_ (hQ:=kg _ _);try go_frame
         refine fG 5 (.slice (some ⟨g,0,none⟩) ws.length cw) rfl (iK ⟨by kernel_rfl,λV ⟨s1,s2⟩=>by go_simp⟩) hHeld ?_ (hQ:=kg _ _);try go_frame
         refine fG 6 (.pointer (some ⟨g,1,none⟩)) rfl (iK ⟨by kernel_rfl,λV ⟨s1,s2⟩=>by go_simp⟩) hHeld ?_ (hQ:=kg _ _);try go_frame
         refine fG 7 (.string zw1) rfl (iK ⟨by kernel_rfl,λV ⟨s1,s2⟩=>by go_simp⟩) hHeld ?_ (hQ:=kg _ _);try go_frame
         refine fG 8 (.bool dv) rfl (iK ⟨by kernel_rfl,λV ⟨s1,s2⟩=>by go_simp⟩) hHeld ?_ (hQ:=kg _ _);try go_frame
         refine aO (rs:=[4,10]) (by kernel_rfl) (by simp) ?_;refine aY rfl (λK hK=>?_) (aY rfl (λK hK=>?_) bu)
         ·go_simp
          refine(HRC.out _).mono ?_
          rintro e W2 ⟨rfl,b2⟩;refine hK.out _ _ (HX0.out _ ((af W1).drew.trans b2)) (λhHeld=>?_);clear hK K;try go_frame
          refine fG 9 (.agg #[.int .i64 n,.slice none 0 0,.bool dv]) rfl (iK ⟨by kernel_rfl,λV ⟨s1,s2⟩=>by go_simp⟩) hHeld ?_ (hQ:=kg _ _);try go_frame
          refine aO (rs:=[10]) (by kernel_rfl) (by simp) ?_;refine aY rfl (λK hK=>?_) bu;go_simp;refine hK.out _ _ (HX0.out _ (((af W1).drew.trans b2).alloc _)) (λhHeld=>?_);clear hK K;try go_frame
          have f0:(W2.alloc (.cells #[.int .i64 0,.slice none 0 0,.bool false] 48)).cell? ⟨W2.heap.size,0,none⟩=some (.int .i64 0):=aF rfl;have f1:(W2.alloc (.cells #[.int .i64 0,.slice none 0 0,.bool false] 48)).cell? ⟨W2.heap.size,1,none⟩=some (.slice none 0 0):=aF rfl;have f2:(W2.alloc (.cells #[.int .i64 0,.slice none 0 0,.bool false] 48)).cell? ⟨W2.heap.size,2,none⟩=some (.bool false):=aF rfl;refine aO (rs:=[11]) (by kernel_rfl) (by simp) ?_;refine aY rfl (λK hK=>?_) bu;go_simp;refine hK.out _ _ (HX0.out _ (((af W1).drew.trans b2).alloc _)) (λhHeld=>?_);clear hK K;try go_frame
          refine ji (by kernel_rfl) ?_ _;exact⟨rfl,W2.heap.size,rfl,dP W2 _,b2.size,((af W1).drew.trans b2).alloc _⟩
         ·go_simp;refine hK.out _ _ (HX0.out _ ((af W1).drew.alloc _)) (λhHeld=>?_);clear hK K;try go_frame
          refine aO (rs:=[4]) (by kernel_rfl) (by simp) ?_;refine aY rfl (λK hK=>?_) bu;go_simp
          refine(HRC.out _).mono ?_
          rintro e W2 ⟨rfl,b2⟩;refine hK.out _ _ (HX0.out _ (((af W1).drew.alloc (.cells #[.int .i64 0,.slice none 0 0,.bool false] 48)).trans b2)) (λhHeld=>?_);clear hK K;try go_frame
          refine fG 9 (.agg #[.int .i64 n,.slice none 0 0,.bool dv]) rfl (iK ⟨by kernel_rfl,λV ⟨s1,s2⟩=>by go_simp⟩) hHeld ?_ (hQ:=kg _ _);try go_frame
          have hg:W2.heap[W1.heap.size]? =some (.cells #[.int .i64 0,.slice none 0 0,.bool false] 48 (0,0)):=xh b2 (dP W1.drew _);obtain⟨f0,f1,f2,ff⟩:=vL hg;have ff0:=ff 0;have ff1:=ff 1;have ff2:=ff 2;have hxx:=((af W1).drew.alloc (.cells #[.int .i64 0,.slice none 0 0,.bool false] 48)).trans b2;have hset:(((W2.setCell ⟨W1.heap.size,0,none⟩ (.int .i64 n)).setCell ⟨W1.heap.size,1,none⟩ (.slice none 0 0)).setCell ⟨W1.heap.size,2,none⟩ (.bool dv)).heap[W1.heap.size]? =some (.cells #[.int .i64 n,.slice none 0 0,.bool dv] 48 (0,0)):=by simp[World.setCell,lW,hg]
          refine aO (rs:=[11]) (by kernel_rfl) (by simp) ?_;refine aY rfl (λK hK=>?_) bu;go_simp;refine hK.out _ _ (HX0.out _ (((hxx.setCell (p:=⟨W1.heap.size,0,none⟩) (av _) _).setCell (p:=⟨W1.heap.size,1,none⟩) (av _) _).setCell (p:=⟨W1.heap.size,2,none⟩) (av _) _)) (λhHeld=>?_);clear hK K;try go_frame
          refine ji (by kernel_rfl) ?_ _;exact⟨rfl,W1.heap.size,rfl,hset,av _,((hxx.setCell (p:=⟨W1.heap.size,0,none⟩) (av _) _).setCell (p:=⟨W1.heap.size,1,none⟩) (av _) _).setCell (p:=⟨W1.heap.size,2,none⟩) (av _) _⟩
        ·rintro a' WS ⟨q,rfl,hg,hq,hx⟩;simp only[Act.put,List.setIfInBounds_toArray,List.set_cons_zero,List.set_cons_succ];have HG:=aa (aB hg hx);clear hg hx hxc hi0 hs1 c0 c1;go_wp2;go_loopw [6] (λi wr=>Ext W1 wr/\∃m:Nat,2<=m/\m<=ws.length/\i=.int .i64 (m:Int)/\Hid (∃ov os,wr.heap[q]? =some (.cells #[.int .i64 n,ov,.bool dv] 48 (0,0))/\Row 67 3 encOpr (q+1) wr ov os/\uH (ws.drop 2) os/\os.length+2=m)) (λi _=>ws.length-(intOf i).toNat)
         case atStart=>exact⟨HG.out.2,2,av _,by omega,rfl,_,[],HG.out.1,Row.nil,uH.nil _,rfl⟩
         case round=>
          obtain⟨hv,m,hm2,hm,rfl,HI⟩:=hrel;by_cases hlt:m<ws.length
          ·obtain⟨wk,hwk⟩:=ah hlt;have ck:wr.cell? ⟨g,m,none⟩=some (.string (tx wk)):=hv.cell (HCC.out m wk hwk);have U7:=aa (λW=>P7 wk W (aX (HSS.out wk (aM hwk)) hl));obtain⟨zk,qO⟩:∃y,tx wk=y:=⟨_,rfl⟩;rw[qO]at ck U7;have i1:(m:Int)<(ws.length:Int):=by omega
           have i2:(0:Int)<=(m:Int):=by omega
           cases hr:iy wk with
           | none=>
             have HRN:Hid (∀W,Calls Tryz.prog 66 #[.string zk] W λe w'=>e=.returned (.tuple #[.agg #[.int .i64 0,.int .i64 0,.int .i64 0],.bool false])/\Ext W w'):=λW=>by have:=U7.out W;rw[hr]at this;exact this
             have mF:Hid (dQ l=none):=adf (k:=m-2) (by rw[Ku.out,Nat.sub_add_cancel hm2];exact hwk) hr;clear qO hwk hr HI hm2;go_wp2_with (go_at_call 66;refine(HRN.out _).mono ?_;rintro e W2 ⟨rfl,b2⟩;have hX:=(hv.trans b2).alloc (.cells #[.int .i64 0,.int .i64 0,.int .i64 0] 67);have t0:=hX.cell T0;have t1:=hX.cell T1;have t2:=hX.cell T2;have tf0:=HTF.out _ hX 0;have tf1:=HTF.out _ hX 1;have tf2:=HTF.out _ hX 2;have Yv:=aa (HB1.out.trans hX))
             obtain⟨y0,y1,y2⟩:=eT (.int .i64 0) (.slice none 0 0) (.bool false) t0 t1 t2;refine bodyPost_ret (v:=.tuple #[.agg #[.int .i64 0,.slice none 0 0,.bool false],.bool false]) (by simp[results,Tryz.results27,go_sem,y0,y1,y2]) rfl ?_;exact UA.out _ (((Yv.out.setCell (p:=⟨w.heap.size,0,none⟩) (av _) _).setCell (p:=⟨w.heap.size,1,none⟩) (av _) _).setCell (p:=⟨w.heap.size,2,none⟩) (av _) _) mF.out
           | some o=>
             have Tf:Hid (∀W,Calls Tryz.prog 66 #[.string zk] W λe w'=>e=.returned (.tuple #[.agg #[.int .i64 o.kind,.int .i64 o.key,.int .i64 o.value],.bool true])/\Ext W w'):=λW=>by have:=U7.out W;rw[hr]at this;exact this
             obtain⟨ov,os,hg,hrow,hsp,hol⟩:=HI.out;have KO:Hid (uH (ws.drop 2) (os++[o])):=hsp.push (w:=wk) (by rw[Bd,show 2+os.length=m by omega];exact hwk) hr;obtain⟨kd,ky,vl⟩:=o;obtain⟨A5,n5,c5,rfl⟩:=jL hrow;have JX:=aa (λW2 (b2:Ext wr W2)=>Xy (W2.heap.size+1) (W:=W2.alloc (.cells #[.int .i64 kd,.int .i64 ky,.int .i64 vl] 67)) (by simp) hv hq hg hrow (b2.alloc _) ⟨kd,ky,vl⟩ (by omega));have HGG:=aa hg;clear qO hwk hr HI hg hrow hsp;go_wp2_with (first|(go_at_call 66;refine(Tf.out _).mono ?_;rintro e W2 ⟨rfl,b2⟩;obtain⟨g0,g1,g2,gf⟩:=vL (xh (b2.alloc (.cells #[.int .i64 kd,.int .i64 ky,.int .i64 vl] 67)) HGG.out);obtain⟨A7,n7,c7,w4,hrun,g41,gf1,f1,f2,f3⟩:=JX.out W2 b2;have bH:=aa hrun;have HF1:=aa f1;have HF2:=aa (aB f2 f3);clear hrun f1 f2 f3 gf)|(at_builtin;refine wpList_append_run rfl rfl rfl rfl bH.out ?_))
             go_roundw;case rel=>exact⟨HF1.out,m+1,by omega,by omega,by go_num,_,_,HF2.out.1,HF2.out.2,KO.out,by rw[dw];simp;omega⟩
             case measure=>simp[intOf];omega
          ·obtain rfl:m=ws.length:=by omega
           obtain⟨ov,os,hg,hrow,hsp,hol⟩:=HI.out;obtain⟨g0,g1,g2,-⟩:=vL hg;have Xb:=uy.out os hsp (by rw[rX];omega);have HV:=aa (λW (b:Ext wr W)=>nE ⟨n,os,dv⟩ ov W (hrow.cell.1.ext b) (by simp;omega));have HFV:Hid (dG ⟨n,os,dv⟩=true->∀W9,Ext wr W9->Xg w l (.returned (.tuple #[.agg #[.int .i64 n,ov,.bool dv],.bool true])) (((W9.setCell ⟨w.heap.size,0,none⟩ (.int .i64 n)).setCell ⟨w.heap.size,1,none⟩ ov).setCell ⟨w.heap.size,2,none⟩ (.bool dv))):=λhk W9 b9=>by have aeK:w.heap.size<W1.heap.size:=Xa.out;have R3:=(((hrow.ext b9).Dw (a:=⟨w.heap.size,0,none⟩) (show w.heap.size<q+1 by omega) (.int .i64 n)).Dw (a:=⟨w.heap.size,1,none⟩) (show w.heap.size<q+1 by omega) ov).Dw (a:=⟨w.heap.size,2,none⟩) (show w.heap.size<q+1 by omega) (.bool dv);have hE:=Xb.1 hk;exact⟨⟨n,os,dv⟩,ov,by rw[hE];rfl,R3.cell.1,R3.cell.2.mono (by omega),R3.Gl,R3.cap,λt' e=>by rw[hE]at e;exact M5 e,(((HB1.out.trans (hv.trans b9)).setCell (p:=⟨w.heap.size,0,none⟩) (av _) _).setCell (p:=⟨w.heap.size,1,none⟩) (av _) _).setCell (p:=⟨w.heap.size,2,none⟩) (av _) _⟩
           have mF:=aa Xb.2;obtain⟨A5,n5,c5,rfl⟩:=jL hrow;clear Xb hg hrow hsp HI
           cases hk:dG ⟨n,os,dv⟩ with
           | false=>
             have afF:Hid (dQ l=none):=mF.out hk;go_wp2_with (go_at_call 38;refine(HV.out _ (af _)).mono ?_;rw[hk];rintro e W9 ⟨rfl,b9⟩;have hX:=hv.trans b9;have t0:=hX.cell T0;have t1:=hX.cell T1;have t2:=hX.cell T2;have tf0:=HTF.out _ hX 0;have tf1:=HTF.out _ hX 1;have tf2:=HTF.out _ hX 2;have g0:=b9.cell g0;have g1:=b9.cell g1;have g2:=b9.cell g2;have Yv:=aa (HB1.out.trans hX))
             obtain⟨y0,y1,y2⟩:=eT (.int .i64 0) (.slice none 0 0) (.bool false) t0 t1 t2;refine bodyPost_ret (v:=.tuple #[.agg #[.int .i64 0,.slice none 0 0,.bool false],.bool false]) (by simp[results,Tryz.results27,go_sem,y0,y1,y2]) rfl ?_;exact UA.out _ (((Yv.out.setCell (p:=⟨w.heap.size,0,none⟩) (av _) _).setCell (p:=⟨w.heap.size,1,none⟩) (av _) _).setCell (p:=⟨w.heap.size,2,none⟩) (av _) _) afF.out
           | true=>
             have aeJ:=aa (HFV.out hk);go_wp2_with (go_at_call 38;refine(HV.out _ (af _)).mono ?_;rw[hk];rintro e W9 ⟨rfl,b9⟩;have hX:=hv.trans b9;have t0:=hX.cell T0;have t1:=hX.cell T1;have t2:=hX.cell T2;have tf0:=HTF.out _ hX 0;have tf1:=HTF.out _ hX 1;have tf2:=HTF.out _ hX 2;have g0:=b9.cell g0;have g1:=b9.cell g1;have g2:=b9.cell g2;have Yv:=aa (HB1.out.trans hX))
             obtain⟨y0,y1,y2⟩:=eT (.int .i64 n) (.slice A5 n5 c5) (.bool dv) t0 t1 t2;refine bodyPost_ret (v:=.tuple #[.agg #[.int .i64 n,.slice A5 n5 c5,.bool dv],.bool true]) (by simp[results,Tryz.results27,go_sem,y0,y1,y2]) rfl ?_;exact aeJ.out _ b9
      ·have mF:Hid (dQ l=none):=ZN (by rw[Ku.out];exact HH1.out) (λe=>hmk (.inl e)) (λe=>hmk (.inr e));have q1:(zw1.toList==[111,107])=false:=by rw[ht1,fU];exact λe=>hmk (.inl e)
       have q2:(zw1.toList==[111,102,102])=false:=by rw[ht1,fU];exact λe=>hmk (.inr e)
       subst ha;clear ht1 hmk Uu TF hcc hxc hs1;go_wp2;obtain⟨y0,y1,y2⟩:=eT (.int .i64 0) (.slice none 0 0) (.bool false) T0 T1 T2;refine bodyPost_ret (v:=.tuple #[.agg #[.int .i64 0,.slice none 0 0,.bool false],.bool false]) (by simp[results,Tryz.results27,go_sem,y0,y1,y2]) rfl ?_;exact UA.out _ (((HB1.out.setCell (p:=⟨w.heap.size,0,none⟩) (av _) _).setCell (p:=⟨w.heap.size,1,none⟩) (av _) _).setCell (p:=⟨w.heap.size,2,none⟩) (av _) _) mF.out
     ·have mF:Hid (dQ l=none):=Uc (by rw[Ku.out];exact HH0.out) (.inr (by simp;exact λe=>ha (Uu.2 e)));have q0:(an != 115)=true:=by simp[ha]
      clear ht1 Uu TF hcc hxc hs1 ha;go_wp2;obtain⟨y0,y1,y2⟩:=eT (.int .i64 0) (.slice none 0 0) (.bool false) T0 T1 T2;refine bodyPost_ret (v:=.tuple #[.agg #[.int .i64 0,.slice none 0 0,.bool false],.bool false]) (by simp[results,Tryz.results27,go_sem,y0,y1,y2]) rfl ?_;exact UA.out _ (((HB1.out.setCell (p:=⟨w.heap.size,0,none⟩) (av _) _).setCell (p:=⟨w.heap.size,1,none⟩) (av _) _).setCell (p:=⟨w.heap.size,2,none⟩) (av _) _) mF.out
  ·have mF:Hid (dQ l=none):=Uc (by rw[Ku.out];exact HH0.out) (.inl hl2);have q0:((((tx w0).size:Nat):Int) != 2)=true:=by rw[hs0];simp;omega
   obtain⟨zw0,hz0⟩:∃y,tx w0=y:=⟨_,rfl⟩;rw[hz0]at c0 q0;clear hs0 hz0 hl2 TF hcc hw0 hw1 c1;go_wp2;obtain⟨y0,y1,y2⟩:=eT (.int .i64 0) (.slice none 0 0) (.bool false) T0 T1 T2;refine bodyPost_ret (v:=.tuple #[.agg #[.int .i64 0,.slice none 0 0,.bool false],.bool false]) (by simp[results,Tryz.results27,go_sem,y0,y1,y2]) rfl ?_;exact UA.out _ (((HB1.out.setCell (p:=⟨w.heap.size,0,none⟩) (av _) _).setCell (p:=⟨w.heap.size,1,none⟩) (av _) _).setCell (p:=⟨w.heap.size,2,none⟩) (av _) _) mF.out
section
attribute [local go_sem] Oper.semAt_some
theorem MX(s sep:ByteArray)(w:World):Calls Tryz.prog 178 #[.string s,.string sep,.int .i64 0] w λe w'=>
 e=.returned (.func (.func 219) #[] #[.pointer (some ⟨w.heap.size+1,0,none⟩),.pointer (some ⟨w.heap.size,0,none⟩),.pointer (some ⟨w.heap.size+2,0,none⟩)]) /\
 w'=((w.alloc (.cells #[.string s] 9)).alloc (.cells #[.string sep] 9)).alloc (.cells #[.int .i64 0] 3):=by
 go_enter Tryz.func178,Tryz.ntmps178;go_wp2;go_returns;exact⟨rfl,rfl⟩
theorem Md(s sep:ByteArray)(w:World):Calls Tryz.prog 140 #[.string s,.string sep] w λe w'=>
 e=.returned (.func (.func 219) #[] #[.pointer (some ⟨w.heap.size+1,0,none⟩),.pointer (some ⟨w.heap.size,0,none⟩),.pointer (some ⟨w.heap.size+2,0,none⟩)]) /\
 w'=((w.alloc (.cells #[.string s] 9)).alloc (.cells #[.string sep] 9)).alloc (.cells #[.int .i64 0] 3):=by
 go_enter Tryz.func140,Tryz.ntmps140;go_wp2_with (go_at_call 178;refine(MX _ _ _).mono ?_;rintro e w' ⟨rfl,rfl⟩)
 go_returns;exact⟨rfl,rfl⟩
theorem RV(A:Option Addr)(n c:Nat)(w:World)(h:n<=c/\c<=9223372036854775807) :
 Calls Tryz.prog 142 #[.slice A n c] w λe w'=>e=.returned (.slice A n n)/\w=w':=by
 have h1:(n:Int)<=(c:Int):=by omega
 have h2:(0:Int)<=(n:Int):=by omega
 go_enter Tryz.func142,Tryz.ntmps142;go_wp2;go_returns;exact⟨rfl,rfl⟩
def Xj(X:Nat->Prop)(W:World):Prop:=∀q,X q->(∃o,W.heap[q]? =some o/\o.isCells=false)∨TB 9 W q
theorem Xj.tb{X:Nat->Prop}{W:World}(h:Xj X W){T:TypeId}{q:Nat}(hq:TB T W q)(hT:T≠9):¬X q:=λhx=>by
 rcases h q hx with ⟨o,ho,hc⟩|h'
 ·obtain⟨cs,fr,hq⟩:=hq;rw[hq]at ho;cases ho;cases hc
 ·exact TB.ne hq h' hT rfl
def yU(base:Nat)(W:World)(v:Value)(ds:List fI):Prop:=∃rs:List BK,rs.length=ds.length/\Row 79 2 encDrV base W v rs/\∀(i:Nat) r d,rs[i]? =some r->ds[i]? =some d->r.az=d.az/\aL 3 encOpr W r.iP d.steps/\jD 67 W r.iP/\d.steps.length<=2097152
theorem yU.frX{base:Nat}{X:Nat->Prop}{W W':World}{v:Value}{ds:List fI}(h:yU base W v ds)(k:dz X W W')(h1:∀q,TB 79 W q->v.ownBlock=some q->¬X q)(h2:∀q,TB 67 W q->¬X q):yU base W' v ds:=by
 obtain⟨rs,hl,hr,hi⟩:=h;refine⟨rs,hl,eU hr k (λi e=>h1 i (TB.dS hr e) e),λi r d hri hdi=>?_⟩;obtain⟨a,b,c,e⟩:=hi i r d hri hdi;have hf:∀(ad:Addr) (n c:Nat),r.iP=.slice (some ad) n c->0<n->¬X ad.block:=λad n c' hv hn=>by obtain⟨cs,fr,hg⟩:=c ad n c' hv hn;exact h2 _ ⟨cs,fr,hg⟩
 exact⟨a,b.frX k hf,yE c k hf,e⟩
theorem yU.away{base:Nat}{X:Nat->Prop}{W W':World}{v:Value}{ds:List fI}(h:yU base W v ds)(k:dz X W W')(ha:Xj X W):yU base W' v ds:=
 h.frX k (λq hq _=>ha.tb hq (by decide)) (λq hq=>ha.tb hq (by decide))
theorem yU.pla{base:Nat}{W:World}{v:Value}{ds:List fI}(h:yU base W v ds):yV W v ds:=by obtain⟨rs,hl,hr,hi⟩:=h;exact⟨rs,hl,hr.cell.1,λi r d hri hdi=>⟨(hi i r d hri hdi).1,(hi i r d hri hdi).2.1⟩⟩
theorem yU.nil(base:Nat)(W:World)(hb:base<=W.heap.size):yU base (W.alloc (.cells #[] 79)) (.slice (some ⟨W.heap.size,0,none⟩) 0 0) []:=
 ⟨[],rfl,(dD (w:=W)).low hb,λi r d h=>by simp at h⟩
theorem yU.pushed{base:Nat}{W w':World}{v v':Value}{ds:List fI}{rs:List BK}{r:BK}{d:fI}(hl:rs.length=ds.length)(hi:∀(i:Nat) r d,rs[i]? =some r->ds[i]? =some d->r.az=d.az/\aL 3 encOpr W r.iP d.steps/\jD 67 W r.iP/\d.steps.length<=2097152)
 (hr:Row 79 2 encDrV base W v rs) (hp:Row 79 2 encDrV base w' v' (rs++[r])) (k:dz (λq=>v.ownBlock=some q) W w') (hd:r.az=d.az/\aL 3 encOpr W r.iP d.steps/\jD 67 W r.iP/\d.steps.length<=2097152):yU base w' v' (ds++[d]):=by
 have hx:∀(u:Value),jD 67 W u->∀(ad:Addr) (n c:Nat),u=.slice (some ad) n c->0<n->¬v.ownBlock=some ad.block:=λu hu ad n c hv hn e=>by obtain⟨cs,fr,hg⟩:=hu ad n c hv hn;exact TB.ne (TB.dS hr e) ⟨cs,fr,hg⟩ (by decide) rfl
 refine⟨rs++[r],by simp[hl],hp,λi y e hy he=>?_⟩;have key:∀(y:BK) (e:fI),(y.az=e.az/\aL 3 encOpr W y.iP e.steps/\jD 67 W y.iP/\e.steps.length<=2097152)->y.az=e.az/\aL 3 encOpr w' y.iP e.steps/\jD 67 w' y.iP/\e.steps.length<=2097152:=λy e ⟨a,b,c,g⟩=>⟨a,b.frX k (hx _ c),yE c k (hx _ c),g⟩;rw[MS]at hy he;split at hy
 ·rename_i h;rw[aj (by rw[<-hl];exact h)]at he;exact key _ _ (hi i y e hy he)
 ·rename_i h;rw[au (by rw[<-hl];exact h)]at he;have h0:i-rs.length=0:=by
   have:=(bG.1 hy).1
   simp at this;omega
  rw[h0]at hy;rw[<-hl,h0]at he;simp at hy he;subst hy he;exact key _ _ hd
theorem JF:∀l:List UInt8,(splitS l).length<=l.length+1:=λl=>by
 induction l using splitS.induct with
 | case1=>simp[splitS]
 | case2 l ih=>simp[splitS];omega
 | case3 x l hx e ih=>exact absurd e (Vd l)
 | case4 x l hx y r e ih=>
   rw[splitS]
   ·rw[e]at ih ⊢;simp only[eO]at ih ⊢;omega
   ·exact hx
def BJ(s:List Tt)(ds:List fI):Prop:=∀p',eu p'=true->s.map (·.1)=(p'.map fo).take s.length->ds=p'.take s.length
theorem H9{s:List Tt}{x:Tt}{p':List fI}(he:(s++[x]).map (·.1)=(p'.map fo).take (s++[x]).length):s.map (·.1)=(p'.map fo).take s.length/\∃d,p'[s.length]? =some d/\x.1=fo d:=by
 have h0:=agB (λl=>l[s.length]?) he;simp only[rR,qc,kN,dw,oN]at h0 he;rw[agG (by simp),dX,Nat.sub_self,nU,aj (by omega),jT]at h0;simp only[List.getElem?_cons_zero]at h0;obtain⟨d,hd,hx⟩:=kL.1 h0.symm;refine⟨?_,d,hd,hx.symm⟩;rw[ak (x:=fo d) (by rw[jT,hd];rfl)]at he
 exact(List.append_inj he (by simp;have:=(bG.1 hd).1;omega)).1
theorem BJ.nil:BJ [] []:=λp' _ _=>by simp
def Om(w:World)(s:List Tt)(W:World):Prop:=Ext w W/\Boxed W w.heap.size 36 (.slice none 0 0)/\Boxed W (w.heap.size+1) 4 (.bool false)/\∃v ds,Boxed W (w.heap.size+1+1+1) 36 v/\yU (w.heap.size+1+1) W v ds/\ds.length=s.length/\BJ s ds
def YH(w W:World):Prop:=TB 9 W (w.heap.size+1+1+1+1)/\TB 9 W (w.heap.size+1+1+1+1+1)/\TB 3 W (w.heap.size+1+1+1+1+2)
def Tc(w:World)(s:List Tt)(W:World):Prop:=Ext w W/\Boxed W w.heap.size 36 (.slice none 0 0)/\Boxed W (w.heap.size+1) 4 (.bool false)/\∀p',eu p'=true->s.map (·.1)≠(p'.map fo).take s.length
theorem lD{X:Nat->Prop}{W W':World}{B:Nat}{T:TypeId}{v:Value}(h:Boxed W B T v)(k:dz X W W')(hx:¬X B):Boxed W' B T v:=k.heap h hx
theorem iX{W:World}{B:Nat}{T:TypeId}{v:Value}(h:Boxed W B T v):TB T W B:=⟨_,_,h⟩
theorem Om.away{w:World}{s:List Tt}{X:Nat->Prop}{W W':World}(h:Om w s W)(k:dz X W W')(ha:Xj X W)(hX:∀q,X q->w.heap.size<=q):Om w s W':=by obtain⟨h1,h2,h3,v,ds,h4,h5,h6,h7⟩:=h;exact⟨dz.out h1 k hX,lD h2 k (ha.tb (iX h2) (by decide)),lD h3 k (ha.tb (iX h3) (by decide)),v,ds,lD h4 k (ha.tb (iX h4) (by decide)),h5.away k ha,h6,h7⟩
theorem Tc.away{w:World}{s:List Tt}{X:Nat->Prop}{W W':World}(h:Tc w s W)(k:dz X W W')(ha:Xj X W)(hX:∀q,X q->w.heap.size<=q):Tc w s W':=by obtain⟨h1,h2,h3,h4⟩:=h;exact⟨dz.out h1 k hX,lD h2 k (ha.tb (iX h2) (by decide)),lD h3 k (ha.tb (iX h3) (by decide)),h4⟩
theorem rJ{W W':World}{row:Option Nat}(hg:W.grownBy W' row):dz (λk=>row=some k) W W':=(dz.refl _ W).grown hg (λ_ e=>.inl e)
theorem zN{B:Nat}{X:Nat->Prop}{W W':World}(k:dz X W W')(hX:∀q,X q->∃T,TB T W q):KeepsFrom B W W':=
 ⟨k.size,λq o _ hq ho=>(k.block q (fF.1 hq).1 (λhx=>by obtain⟨T,cs,fr,h⟩:=hX q hx;rw[hq]at h;cases h;cases ho)).trans hq⟩
theorem Sw{n lo hi:Nat}{X:Nat->Prop}{W W':World}(k:dz X W W')(hn:n<=W.heap.size)(hh:hi<=W.heap.size)(h1:∀q,X q->n<=q)(h2:∀q,lo<=q->q<hi->¬X q):yx n lo hi W W':=
 ⟨⟨k.os,k.tape,k.output,k.size,λq hq=>k.block q (by omega) (λhx=>by have:=h1 q hx;omega)⟩,λq ha hb=>k.block q (by omega) (h2 q ha hb)⟩
theorem EA:(Tryz.prog.info? 79).map (λi=>(i.zero,i.size,i.bytes))=some (some (.agg #[.int .i64 0,.slice none 0 0]),2,32):=by kernel_rfl
theorem yV.clip{W:World}{A:Option Addr}{n c:Nat}{p:List fI}(h:yV W (.slice A n c) p):yV W (.slice A n n) p:=by obtain⟨rs,h1,h2,h3⟩:=h;obtain⟨A',c',e,hc⟩:=h2;cases e;exact⟨rs,h1,⟨_,_,rfl,hc⟩,h3⟩
theorem Du{l:List UInt8}{w W:World}{D:Nat}(h:Ext w W)(hD:w.heap.size<=D)(hK:W.heap[D]? =some (.deferred (some [])))(hno:bL l=none) :
 ∃(p:List fI) (v:Value),Ending.returned (.tuple #[.slice none 0 0,.bool false])=.returned (.tuple #[v,.bool (bL l).isSome])/\yV (W.putObj D (.deferred none)) v p/\p=(bL l).getD []/\Ext w (W.putObj D (.deferred none)):=
 ⟨[],.slice none 0 0,by rw[hno];rfl,⟨[],rfl,aL.nil _ _ _ _ _,λi r d hr=>by simp at hr⟩,by rw[hno];rfl,Below.trans h (belowK_b (w:=w) (av _) W D _ _ hD hK rfl rfl)⟩
theorem Kh(l:List UInt8)(w:World)(hE:Env w)(hl:l.length<=1048576)(hne:l≠[]) :
 Calls Tryz.prog 103 #[.string (tx l)] w λe w'=>∃(p:List fI) (v:Value),e=.returned (.tuple #[v,.bool (bL l).isSome])/\yV w' v p/\p=(bL l).getD []/\Ext w w':=by
 obtain⟨m,hm⟩:=hE.max;have hg:0<w.heap.size:=by
  rcases eP 0 w.heap.size with h|h
  ·exact h
  ·simp[World.cell?,DR h]at hm
 have HE:=aa hE;have hq0:((tx l).toList != [])=true:=by
  rw[fA]
  cases l with
  | nil=>exact absurd rfl hne
  | cons a r=>rfl
 have hq1:(tx l).toList.isEmpty=false:=by
  rw[fA]
  cases l with
  | nil=>exact absurd rfl hne
  | cons a r=>rfl
 obtain⟨z,hz⟩:∃z,tx l=z:=⟨_,rfl⟩;have HZ:=aa hz;have HL:=aa (aB hl hne);rw[hz]at hq0 hq1 ⊢;clear hE hl hne hz
 refine(callsIn_wide (n:=9)).1 ?_
 refine callsIn_of_wp_marks Tryz.func103 rfl trivial ?_ rfl;simp only[Tryz.ntmps103,List.size_toArray,eO,iJ,Nat.reduceAdd,Nat.reduceSub,Array.replicate_succ,Array.replicate_zero,List.push_toArray,List.append_toArray,List.nil_append,List.cons_append]
 gi_wp2_with (refine⟨trivial,?_⟩;gi_at_call 140;refine(callsIn_wide.2 (Md _ _ _)).mono ?_;rintro e w' ⟨rfl,rfl⟩)
 obtain⟨W0,hW0⟩:∃W0,(((((((w.alloc (.cells #[.slice none 0 0] 36)).alloc (.cells #[.bool false] 4)).alloc (.cells #[] 79)).alloc (.cells #[.slice (some ⟨w.heap.size+1+1,0,none⟩) 0 0] 36)).alloc (.cells #[.string z] 9)).alloc (.cells #[.string ⟨#[59,32]⟩] 9)).alloc (.cells #[.int .i64 0] 3))=W0:=⟨_,rfl⟩;have hsz:W0.heap.size=w.heap.size+7:=by rw[<-hW0];simp
 have B0:Ext w W0:=by rw[<-hW0];exact(((((((af _).alloc _).alloc _).alloc _).alloc _).alloc _).alloc _).alloc _
 have bA:Boxed W0 w.heap.size 36 (.slice none 0 0):=by rw[<-hW0];exact aQ (mQ w _ _ _ rfl) (((((((af _).alloc _).alloc _).alloc _).alloc _).alloc _).alloc _)
 have bB:Boxed W0 (w.heap.size+1) 4 (.bool false):=by rw[<-hW0];exact aQ (mQ (w.alloc _) _ _ _ (by simp)) ((((((af _).alloc _).alloc _).alloc _).alloc _).alloc _)
 have bP:yU (w.heap.size+1+1) W0 (.slice (some ⟨w.heap.size+1+1,0,none⟩) 0 0) []:=by
  rw[<-hW0];have h:=yU.nil (w.heap.size+1+1) ((w.alloc (.cells #[.slice none 0 0] 36)).alloc (.cells #[.bool false] 4)) (by simp);have e:((w.alloc (.cells #[.slice none 0 0] 36)).alloc (.cells #[.bool false] 4)).heap.size=w.heap.size+1+1:=by simp
  rw[e]at h;exact h.away (dz.bK (X:=λ_=>False) (((((af _).alloc _).alloc _).alloc _).alloc _)) (λ_ h=>h.elim)
 have bC:Boxed W0 (w.heap.size+1+1+1) 36 (.slice (some ⟨w.heap.size+1+1,0,none⟩) 0 0):=by rw[<-hW0];exact aQ (mQ (((w.alloc _).alloc _).alloc _) _ _ _ (by simp)) ((((af _).alloc _).alloc _).alloc _)
 have bS:Boxed W0 (w.heap.size+1+1+1+1) 9 (.string z):=by rw[<-hW0];exact aQ (mQ ((((w.alloc _).alloc _).alloc _).alloc _) _ _ _ (by simp)) (((af _).alloc _).alloc _)
 have bE:Boxed W0 (w.heap.size+1+1+1+1+1) 9 (.string ⟨#[59,32]⟩):=by rw[<-hW0];exact aQ (mQ (((((w.alloc _).alloc _).alloc _).alloc _).alloc _) _ _ _ (by simp)) ((af _).alloc _)
 have bV:Boxed W0 (w.heap.size+1+1+1+1+2) 3 (.int .i64 0):=by rw[<-hW0];exact mQ ((((((w.alloc _).alloc _).alloc _).alloc _).alloc _).alloc _) _ _ _ (by simp)
 rw[hW0];clear hW0;have HW0:=aa (aB hsz B0);rw[<-HZ.out]at bS;have hsb:=Km 8 (by omega) (w.heap.size+1+1+1+1) w.heap.size ⟨l,HL.out.1⟩ m W0 hg (by omega) (B0.cell hm) bS bE bV;refine NN (by omega) (gf:=219) rfl (enters_of Tryz.func219 (by kernel_rfl) rfl) hsb WE (XB (by omega) (by omega)) (Below.refl _ _) (by omega) (λ_=>rfl)
  (λs W=>Om w s W/\YH w W) (Tc w) ?hI ?hIx ?hIc ⟨⟨B0,bA,bB,_,[],bC,bP,rfl,BJ.nil⟩,iX bS,iX bE,iX bV⟩ ?a1 ?assign ?body ?done ?stop
 case hI=>
  intro s A B row hs hgr hr;have hn:∀{T:TypeId} {q:Nat},TB T A q->¬row=some q:=λhq e=>by obtain⟨cs,fr,hq⟩:=hq;obtain⟨_,o,ho,hc⟩:=hr _ e;rw[hq]at ho;cases ho;cases hc
  exact⟨hs.1.away (rJ hgr) (λq e=>.inl (hr q e).2) (λq e=>by have:=(hr q e).1;omega),hs.2.1.frX (rJ hgr) (hn hs.2.1),hs.2.2.1.frX (rJ hgr) (hn hs.2.2.1),hs.2.2.2.frX (rJ hgr) (hn hs.2.2.2)⟩
 case hIx=>
  intro s A B row hs hgr hr;exact hs.away (rJ hgr) (λq e=>.inl (hr q e).2) (λq e=>by have:=(hr q e).1;omega)
 case hIc=>
  intro s W v hs;have k:dz (λq=>q=w.heap.size+1+1+1+1) W (W.setCell ⟨w.heap.size+1+1+1+1,0,none⟩ v):=dz.setCell (X:=λq=>q=w.heap.size+1+1+1+1) (dz.refl _ _) (.inl rfl) _;exact⟨hs.1.away k (λq e=>.inr (e▸hs.2.1)) (λq e=>by omega),hs.2.1.set _ _,hs.2.2.1.frX k (by omega),hs.2.2.2.frX k (by omega)⟩
 case assign=>
  intro l x W K hK
  gi_wp2
  exact hK
 case body=>
  rintro l2 pre ⟨x,hxl⟩ W ⟨⟨h1,h2,h3,v,ds,h4,h5,h6,h7⟩,ht1,ht2,ht3⟩ hlen
  dsimp only
  have hEW:=HE.out.ext h1;have KO:=aa (KZ x W hEW (by omega));have hwl:(splitL 32 x).length<=1048577:=by have:=pq 32 x;omega
  have HX:=aa (p9 32 x);obtain⟨zx,hzx⟩:∃z,tx x=z:=⟨_,rfl⟩;rw[hzx]at KO ⊢;obtain⟨ws,hws⟩:∃ws,splitL 32 x=ws:=⟨_,rfl⟩;rw[hws]at KO hwl HX;have Ku:=aa hws;have HI:=aa (aB h1 (aB h2 (aB h3 (aB h4 (aB h5 (aB h6 (aB h7 (aB ht1 (aB ht2 ht3)))))))));have hvs:∃A c,v=.slice A ds.length c:=by obtain⟨rs,e1,e2,_⟩:=h5;obtain⟨A,c,e3,_⟩:=e2.cell.1;exact⟨A,c,by rw[e3,e1]⟩
  obtain⟨Av,cv,rfl⟩:=hvs;clear h1 h2 h3 h5 h6 h7 ht1 ht2 ht3 hzx hws hsb bA bB bC bP bS bE bV
  gi_wp2_with fail
  refine⟨trivial,(CallsIn.inRound l2 (callsIn_wide.2 KO.out)).mono ?_⟩;rintro e W1 ⟨g,rfl,hs,hty,b1⟩;obtain⟨P,hP⟩:∃P,W1.heap.size=P:=⟨_,rfl⟩;have HP:=aa hP;have hS2:Scan P (W1.alloc (.cells #[.slice (some ⟨g,0,none⟩) ws.length ws.length,.bool false] 149)) ws false:=
   ⟨_,by rw[<-hP];exact dP W1 _,hs.ext ((af _).alloc _),nG (av _) (by omega),hty.ext ((af _).alloc _)⟩
  have HB1:=aa b1;have aeA:Hid (∀W',dz (λk=>k=P) W1 W'->Env W'):=λW' k=>hEW.ext (dz.out b1 k (λi e=>by rw[e,<-hP];exact b1.size));have U0:=aa (Et _ hS2 (by omega) (λW' k=>aeA.out W' (dz.trans ((dz.refl _ _).alloc _) k)) (λy hy=>by have:=HX.out y hy;omega));clear hs hty b1 hS2 hEW
  gi_wp2_with fail
  refine⟨trivial,(CallsIn.inRound l2 (callsIn_wide.2 U0.out)).mono ?_⟩;rintro e W3 ⟨n,b3,rfl,s3,k3,KE,he3⟩;have NI:=aa s3;have HK3:Hid (dz (λk=>k=P) W1 W3):=dz.trans ((dz.refl _ _).alloc _) k3;have HD0:Hid (∀d',dm d'=true->ws=dM d'->b3=false/\n=d'.az/\([]:List aV)=d'.steps.take 0):=λd' hd he=>by
   have hds:=kD hd
   have:=KE d'.az.toNat (by omega) (by rw[he];rfl)
   exact⟨this.2,by omega,by simp⟩
  clear s3 k3 KE he3 U0;obtain⟨B,hB⟩:∃B,W3.heap.size=B:=⟨_,rfl⟩;have HBQ:=aa hB
  gi_wp2_with fail
  gi_loopw [] (λwr=>dz (λk=>k=P) W1 wr/\Hid (∃(b':Bool) (rem:List (List UInt8)) (steps:List aV) (ov:Value),Scan P wr rem b'/\wr.heap[B]? =some (.cells #[.int .i64 n,ov] 79 (0,0))/\Row 67 3 encOpr P wr ov steps/\(∀d',dm d'=true->ws=dM d'->b'=false/\n=d'.az/\steps=d'.steps.take steps.length)/\rem=ws.drop (1+steps.length)/\steps.length<=ws.length)) (λwr=>Ua wr P)
  case atStart=>
   refine⟨HK3.out.alloc _,b3,ws.tail,[],.slice none 0 0,NI.out.ext ((af _).alloc _),?_,Row.nil,HD0.out,?_,aT _⟩
   ·rw[<-HBQ.out];exact dP W3 _
   ·rw[<-List.drop_one];rfl
  case round=>
   obtain⟨hb,HJ⟩:=hrel;obtain⟨b',rem,steps,ov,hsc,hbx,hrow,hinv,Yh,hol⟩:=HJ.out;obtain⟨A,c,c0,c1,fz,_⟩:=hsc.cells;have f1:=fz 1;obtain⟨A5,c5,rfl,_⟩:=id hrow.cell.1;have B0:wr.cell? ⟨B,0,none⟩=some (.int .i64 n):=by simp[World.cell?,hbx]
   have B1:wr.cell? ⟨B,1,none⟩=some (.slice A5 steps.length c5):=by simp[World.cell?,hbx]
   have Bf:wr.frozen? ⟨B,1,none⟩=false:=by simp[World.frozen?,hbx]
   have Ru:=aa hinv;have UT:=aa hsc;have JP:=aa hbx;have rA:=aa hrow;have MB:=aa Yh;have hcap:=hrow.cap _ _ _ rfl;clear HJ hsc hbx hrow hinv Yh fz;have hPW:W.heap.size<=P:=by rw[<-HP.out];exact HB1.out.size
   have aeK:=HI.out.2.2.2.1.lt;have hKW:dz (λq=>q=P) W wr:=dz.trans (.bK HB1.out) hb;have X3:=aa hKW
   cases b' with
   | true=>
     have r0:=lD HI.out.2.1 hKW (by omega);have r1:=lD HI.out.2.2.1 hKW (by omega);have cr0:=r0.cell;have fr0:=r0.frozen;have cr1:=r1.cell;have fr1:=r1.frozen;have HR:=aa (aB r0 r1);clear B0 B1 Bf hb hKW r0 r1
     gi_wp2
     have kx:dz (λq=>q=w.heap.size∨q=w.heap.size+1) W ((wr.setCell ⟨w.heap.size,0,none⟩ (.slice none 0 0)).setCell ⟨w.heap.size+1,0,none⟩ (.bool false)):=
      (((dz.refl _ _).more X3.out (λi e=>.inr (by omega))).setCell (.inl (.inl rfl)) _).setCell (.inl (.inr rfl)) _
     refine⟨zN kx (λq e=>?_),dz.out HI.out.1 kx (λq e=>by omega),?_,?_,λp' hp he=>?_⟩
     ·rcases e with rfl|rfl
      ·exact⟨_,iX HI.out.2.1⟩
      ·exact⟨_,iX HI.out.2.2.1⟩
     ·exact kr (HR.out.1.set _) (by simp) _
     ·exact(kr HR.out.2 (by simp) _).set _
     ·obtain⟨_,d,hd,hx⟩:=H9 he;have hdk:=dO hp (aM hd)
      have:=(Ru.out d hdk (by rw[<-Ku.out];simp only at hx;rw[hx,ow hdk])).1
      cases this
   | false=>
     cases rem with
     | nil=>
       have hlb:P<=B:=by rw[<-HBQ.out];exact aai (by obtain⟨_,_,h⟩:=NI.out.tb;exact(fF.1 h).1)
       have E8:Ext W (wr.setCell ⟨B,1,none⟩ (.slice A5 steps.length steps.length)):=(dz.out (af W) X3.out (λi e=>by rw[e];exact hPW)).setCell (by simp only;omega) _;have Yk:=heap_set JP.out (.slice A5 steps.length steps.length) (i:=1);obtain⟨W8,hW8⟩:∃W8,wr.setCell ⟨B,1,none⟩ (.slice A5 steps.length steps.length)=W8:=⟨_,rfl⟩;have ZU:Row 67 3 encOpr P W8 (.slice A5 steps.length c5) steps:=by rw[<-hW8];exact eU rA.out (dz.setCell (X:=λk=>k=B) (dz.refl _ _) (.inl rfl) _) (λk hk=>TB.ne (TB.dS rA.out hk) ⟨_,_,JP.out⟩ (by decide))
       rw[hW8]at E8 Yk;have s8:aL 3 encOpr W8 (.slice A5 steps.length steps.length) steps:=by obtain⟨_,_,e,hc⟩:=ZU.cell.1;cases e;exact⟨_,_,rfl,hc⟩
       have t8:jD 67 W8 (.slice A5 steps.length steps.length):=λad n' c' e hn=>by injection e with e1 e2 _;obtain⟨g',cap,e3,_⟩:=nZ ZU (by omega);injection e3 with e3 _ _;rw[e3]at e1;injection e1 with e1;subst e1;exact TB.dS ZU (by rw[e3];rfl)
       have hds:Hid (BJ (pre++[(⟨x,hxl⟩:Tt)]) (ds++[(⟨n,steps⟩:fI)])):=λp' hp' he=>by
        obtain⟨e1,d,hd,hx⟩:=H9 he;have e2:=HI.out.2.2.2.2.2.2.1 p' hp' e1;have hdk:=dO hp' (aM hd);have hwd:ws=dM d:=by rw[<-Ku.out];simp only at hx;rw[hx,ow hdk]
        obtain⟨_,q1,q2⟩:=Ru.out d hdk hwd;have q3:=agB List.length MB.out;rw[rX,hwd]at q3;simp[dM]at q3;have hde:(⟨n,steps⟩:fI)=d:=by cases d;simp only at q1 q2 q3;rw[q1,q2,jX (by omega)]
        rw[dw,oN,ak hd,<-e2,hde]
       have hT:=HI.out.2.2.2.1;have h4:=aQ hT E8;have h5:=HI.out.2.2.2.2.1.away (dz.bK (X:=λ_=>False) E8) (λ_ h=>h.elim);obtain⟨rs,hl,hr,hi⟩:=h5;have hdl:ds.length<=1048576:=by
        have:=JF l
        have:=HL.out.1
        have h6:=HI.out.2.2.2.2.2.1;rw[h6]
        have:pre.length<(splitS l).length:=hlen
        omega
       obtain⟨v',w9,hrun,hp⟩:=jY wr.heap.size (by rw[<-hW8];simp) qm EA rfl (by omega) hr (af _) ⟨n,.slice A5 steps.length steps.length⟩ (λj=>by rcases j with _|j<;>rfl) #[.int .i64 n,.slice A5 steps.length steps.length] rfl (by have:=h4.lt;omega) (by omega) (by omega)
       obtain⟨A9,cc9,hv9,_⟩:=id hp.1.cell.1;obtain⟨n9,hn9⟩:∃k,(rs++[(⟨n,.slice A5 steps.length steps.length⟩:BK)]).length=k:=⟨_,rfl⟩;rw[hn9]at hv9;subst hv9;have K9:=jV hr hp (HI.out.1.trans E8) (by omega);have VA:∀{T:TypeId} {q:Nat},TB T W8 q->T≠79->¬(Value.slice Av ds.length cv).ownBlock=some q:=λhq hT e=>TB.ne (TB.dS hr e) hq hT.symm rfl;have h49:=lD h4 K9 (VA (iX h4) (by decide));have KX:dz (λq=>q=w.heap.size+1+1+1∨(Value.slice Av ds.length cv).ownBlock=some q) W8 (w9.setCell ⟨w.heap.size+1+1+1,0,none⟩ (.slice A9 n9 cc9)):=(K9.wide (λ_ e=>.inr e)).setCell (.inl (.inl rfl)) _;have hq8:∀{T:TypeId} {q:Nat},TB T W8 q->T≠79->q≠w.heap.size+1+1+1->TB T (w9.setCell ⟨w.heap.size+1+1+1,0,none⟩ (.slice A9 n9 cc9)) q:=λhq hT hne=>hq.frX KX (λe=>e.elim hne (VA hq hT));have i1:YH w W8:=⟨HI.out.2.2.2.2.2.2.2.1.frX (dz.bK (X:=λ_=>False) E8) id,HI.out.2.2.2.2.2.2.2.2.1.frX (dz.bK (X:=λ_=>False) E8) id,HI.out.2.2.2.2.2.2.2.2.2.frX (dz.bK (X:=λ_=>False) E8) id⟩;have hlow:∀q,(q=w.heap.size+1+1+1∨(Value.slice Av ds.length cv).ownBlock=some q)->w.heap.size+1+1<=q:=λq e=>e.elim (by omega) (λe=>(jU hr e).1);have HIT:Hid (YH w (w9.setCell ⟨w.heap.size+1+1+1,0,none⟩ (.slice A9 n9 cc9))):=⟨hq8 i1.1 (by decide) (by omega),hq8 i1.2.1 (by decide) (by omega),hq8 i1.2.2 (by decide) (by omega)⟩;have HPI:Hid (Om w (pre++[(⟨x,hxl⟩:Tt)]) (w9.setCell ⟨w.heap.size+1+1+1,0,none⟩ (.slice A9 n9 cc9))):=by refine⟨dz.out (HI.out.1.trans E8) KX (λq e=>by have:=hlow q e;omega),lD (aQ HI.out.2.1 E8) KX (λe=>by have:=hlow _ e;omega),lD (aQ HI.out.2.2.1 E8) KX (λe=>by have:=hlow _ e;omega),(.slice A9 n9 cc9),ds++[⟨n,steps⟩],h49.set _,?_,by simp[HI.out.2.2.2.2.2.1],hds.out⟩;have hpb:=yU.pushed (r:=⟨n,.slice A5 steps.length steps.length⟩) (d:=⟨n,steps⟩) hl hi hr hp.1 K9 ⟨rfl,s8,t8,by simp only;omega⟩;exact hpb.frX (dz.setCell (X:=λk=>k=w.heap.size+1+1+1) (dz.refl _ _) (.inl rfl) _) (λq hq _ e=>TB.ne hq (iX h49) (by decide) e) (λq hq e=>TB.ne hq (iX h49) (by decide) e)
       have KW:dz (λq=>q=w.heap.size+1+1+1∨(Value.slice Av ds.length cv).ownBlock=some q) W (w9.setCell ⟨w.heap.size+1+1+1,0,none⟩ (.slice A9 n9 cc9)):=dz.trans (dz.bK E8) KX;have HKF:Hid (KeepsFrom W0.heap.size W (w9.setCell ⟨w.heap.size+1+1+1,0,none⟩ (.slice A9 n9 cc9))):=zN KW (λq e=>e.elim (λe=>⟨_,e▸iX hT⟩) (λe=>by obtain⟨_,_,hr0,_⟩:=HI.out.2.2.2.2.1;exact⟨_,TB.dS hr0 e⟩))
       have HKA:Hid (yx w.heap.size (w.heap.size+1+1+1+1) (w.heap.size+1+1+1+1+3) W (w9.setCell ⟨w.heap.size+1+1+1,0,none⟩ (.slice A9 n9 cc9))):=Sw KW (by omega) (by have:=HI.out.2.2.2.2.2.2.2.2.2;obtain⟨_,_,h⟩:=this;have:=(fF.1 h).1;omega) (λq e=>by have:=hlow q e;omega) (λq h1 h2 e=>by
        rcases e with e|e
        ·omega
        ·obtain rfl|rfl|rfl:q=w.heap.size+1+1+1+1∨q=w.heap.size+1+1+1+1+1∨q=w.heap.size+1+1+1+1+2:=by omega
         ·exact VA i1.1 (by decide) e
         ·exact VA i1.2.1 (by decide) e
         ·exact VA i1.2.2 (by decide) e)
       have bH:=aa hrun;have c8:=h4.cell;have c9:=h49.cell;have f9:=h49.frozen;have b80:W8.cell? ⟨B,0,none⟩=some (.int .i64 n):=by simp[World.cell?,Yk]
       have b81:W8.cell? ⟨B,1,none⟩=some (.slice A5 steps.length steps.length):=by simp[World.cell?,Yk]
       have hln:B<W8.heap.size:=(fF.1 Yk).1;have hcap1:=hcap.1;have hcap2:=hcap.2;have afn:w.heap.size+1+1+1<B:=by omega
       clear hb hKW hlb E8 Yk ZU s8 t8 hds hT h4 hl hr hi hrun hp K9 VA h49 KX hq8 i1 hlow KW hdl hcap;have c4:=(lD HI.out.2.2.2.1 X3.out (by omega)).cell;have hBT:B≠w.heap.size+1+1+1:=Nat.ne_of_gt afn;have hTB:=hBT.symm;clear c8 b80 b81;subst hW8
       gi_wp2_with fail
       refine⟨trivial,(CallsIn.inRound l2 (callsIn_wide.2 (yD A5 steps.length c5 _ hcap1 hcap2))).mono ?_⟩;rintro e w' ⟨rfl,rfl⟩;clear hcap1 hcap2 c0 c1 f1
       gi_wp2_with (gi_at_builtin;refine yY rfl rfl rfl rfl bH.out ?_)
       exact⟨HKF.out,HKA.out,HPI.out,HIT.out⟩
     | cons y r=>
       have hrl:(y :: r).length<=1048577:=by rw[MB.out,rX];omega
       have hyw:ws[1+steps.length]? =some y:=by
        have:=agB (λl=>l[0]?) MB.out
        simp only[List.getElem?_cons_zero,Bd,fE]at this;exact this.symm
       have aeB:steps.length+1<=ws.length:=by have:=(bG.1 hyw).1;omega
       have hr2:Hid (r=ws.drop (1+(steps.length+1))):=by
        have:=agB List.tail MB.out
        rw[List.tail_drop]at this;exact this
       have HYW:=aa hyw;have jC:=aa (λ(W:World) (h:Scan P W (y :: r) false)=>Nl W h (by omega));simp only[List.tail_cons]at jC;have HPN:Hid (P≠B):=λe=>by
        have:=TB.ne UT.out.tb ⟨_,_,JP.out⟩ (by decide)
        exact this e
       have OT:=aa UT.out.left;clear hyw hrl f1;have jR:Hid (∀(W5:World) (kd ky vl:Int) (b5:Bool),Scan P W5 r b5->dz (λk=>k=P) wr W5->(∀o':aV,gq o'=true->(y :: r).head? =some (mg o')->(⟨kd,ky,vl⟩:aV)=o'/\b5=false) ->
        ∃A7 c7 w7,W5.cell? ⟨B,1,none⟩=some (.slice A5 steps.length c5)/\(W5.alloc (.cells #[.int .i64 kd,.int .i64 ky,.int .i64 vl] 67)).cell? ⟨B,1,none⟩=some (.slice A5 steps.length c5) /\
         (Builtin.append_ #[46,46] 46 #[.slice A5 steps.length c5,.slice (some ⟨W5.heap.size,0,none⟩) 1 1]).run Tryz.prog (W5.alloc (.cells #[.int .i64 kd,.int .i64 ky,.int .i64 vl] 67))=.ok (.slice A7 (steps.length+1) c7) w7 /\
         w7.cell? ⟨B,1,none⟩=some (.slice A5 steps.length c5)/\w7.frozen? ⟨B,1,none⟩=false /\
         Scan P (w7.setCell ⟨B,1,none⟩ (.slice A7 (steps.length+1) c7)) r b5/\(w7.setCell ⟨B,1,none⟩ (.slice A7 (steps.length+1) c7)).heap[B]? =some (.cells #[.int .i64 n,.slice A7 (steps.length+1) c7] 79 (0,0)) /\
         Row 67 3 encOpr P (w7.setCell ⟨B,1,none⟩ (.slice A7 (steps.length+1) c7)) (.slice A7 (steps.length+1) c7) (steps++[(⟨kd,ky,vl⟩:aV)]) /\
         dz (λk=>k=P) W1 (w7.setCell ⟨B,1,none⟩ (.slice A7 (steps.length+1) c7))/\(∀d',dm d'=true->ws=dM d'->b5=false/\n=d'.az/\steps++[(⟨kd,ky,vl⟩:aV)]=d'.steps.take (steps++[(⟨kd,ky,vl⟩:aV)]).length)):=by
        intro W5 kd ky vl b5 s5 k5 hst;have ad6:∀d',dm d'=true->ws=dM d'->b5=false/\n=d'.az/\steps++[(⟨kd,ky,vl⟩:aV)]=d'.steps.take (steps++[(⟨kd,ky,vl⟩:aV)]).length:=λd' hd he=>by obtain⟨_,e1,e2⟩:=Ru.out d' hd he;have hy2:=HYW.out;rw[he,show 1+steps.length=steps.length+1 by omega]at hy2;simp only[dM,List.getElem?_cons_succ,jT]at hy2;obtain⟨o',ho',hyo⟩:=kL.1 hy2;obtain⟨q1,q2⟩:=hst o' (gN hd (aM ho')) (by rw[List.head?_cons,<-hyo]);refine⟨q2,e1,?_⟩;rw[dw,oN,ak ho',<-e2,q1]
        have hPB:=HPN.out;have hBP:=hPB.symm;have FN:=eU rA.out k5 (λk hk=>TB.ne (TB.dS rA.out hk) UT.out.tb (by decide));have Cv:P<W5.heap.size:=by obtain⟨_,_,h⟩:=s5.tb;exact(fF.1 h).1
        obtain⟨v',w7,hrun,hp⟩:=jY W5.heap.size rfl eG mq rfl (by omega) FN (af _) ⟨kd,ky,vl⟩ (λj=>wh _ j) #[.int .i64 kd,.int .i64 ky,.int .i64 vl] rfl (by omega) (by omega) (by omega);have hT7:=jV FN hp (dz.out (af W1) (hb.trans k5) (λi e=>(by rw[e,HP.out];omega))) (by rw[HP.out];omega);obtain⟨A7,c7,rfl,_⟩:=id hp.1.cell.1;rw[show (steps++[(⟨kd,ky,vl⟩:aV)]).length=steps.length+1 by simp]at hp hrun;have acg:=k5.heap JP.out (by simpa using hBP);have Fq:=hT7.heap acg (λe=>TB.ne (TB.dS FN e) ⟨_,_,acg⟩ (by decide) rfl);have aaB:=s5.far hT7 (λq e=>⟨_,TB.dS FN e,by decide,by decide⟩);have hBW:P<=B:=by rw[<-HBQ.out];exact aai (by obtain⟨_,_,h⟩:=NI.out.tb;exact(fF.1 h).1)
        have b51:W5.cell? ⟨B,1,none⟩=some (.slice A5 steps.length c5):=by simp[World.cell?,acg]
        refine⟨A7,c7,w7,b51,((af _).alloc _).cell b51,hrun,by simp[World.cell?,Fq],by simp[World.frozen?,Fq],aaB.other ⟨_,_,Fq⟩ (by decide) _ _,heap_set Fq _,?_,?_,ad6⟩
        ·exact eU hp.1 (dz.setCell (X:=λk=>k=B) (dz.refl _ _) (.inl rfl) _) (λk hk=>TB.ne (TB.dS hp.1 hk) ⟨_,_,Fq⟩ (by decide))
        ·exact((hb.trans k5).more hT7 (λi e=>.inr (by rw[HP.out];exact(jU FN e).1))).setCell (.inr (by rw[HP.out];exact hBW)) _
       clear hb hKW
       gi_wp2_with fail
       refine FO (S:=λ_=>True) (by kernel_rfl) (by kernel_rfl) trivial (λhHeld=>?_);refine fG 0 (.pointer (some ⟨B,1,none⟩)) rfl (iK ⟨by rfl,λV _=>by go_simp⟩) trivial ?_ (hQ:=kg _ _);try go_frame
       refine fG 2 (.pointer (some ⟨P,0,none⟩)) rfl (iK ⟨by rfl,λV _=>by go_simp⟩) trivial ?_ (hQ:=kg _ _);try go_frame
       refine aO (rs:=[1,3]) (by kernel_rfl) (by simp) ?_;refine aY rfl (λK hK=>?_) (aY rfl (λK hK=>?_) bu)
       ·go_simp;refine hK.out _ _ trivial (λ_=>?_);clear hK K;try go_frame
        refine aO (rs:=[3]) (by kernel_rfl) (by simp) ?_;refine aY rfl (λK hK=>?_) bu;go_simp
        refine(jC.out wr.drew (show Scan P wr.drew (y :: r) false from UT.out)).mono ?_
        rintro e W5 ⟨⟨kd,ky,vl⟩,b5,rfl,s5,k5,hst⟩;obtain⟨A7,c7,w7,b51,b52,hrun,g1,gf,q1,q2,q3,q4,q5⟩:=jR.out W5 kd ky vl b5 s5 (dz.trans (dz.bK (af wr).drew) k5) hst;have HQ:=aa (aB q1 (aB q2 (aB q3 (aB q4 q5))));have bH:=aa hrun;clear s5 k5 hst q1 q2 q3 q4 q5 hrun
        dsimp only[iG]
        refine hK.out _ _ trivial (λ_=>?_);clear hK K;try go_frame
        refine aO (rs:=[4]) (by kernel_rfl) (by simp) ?_;refine aY rfl (λK hK=>?_) bu;go_simp;refine hK.out _ _ trivial (λ_=>?_);clear hK K;try go_frame
        refine aO (rs:=[5]) (by kernel_rfl) (by simp) ?_;refine aY rfl (λK hK=>?_) bu;refine aP (by rfl) (by rfl) (by rfl) (by rfl) bH.out ?_;refine hK.out _ _ trivial (λ_=>?_);clear hK K;try go_frame
        refine aO (rs:=[6]) (by kernel_rfl) (by simp) ?_;refine aY rfl (λK hK=>?_) bu;go_simp;refine hK.out _ _ trivial (λ_=>?_);clear hK K;try go_frame
        refine aO (rs:=[7]) (by kernel_rfl) (by simp) ?_;refine aY rfl (λK hK=>?_) bu;go_simp;refine hK.out _ _ trivial (λ_=>?_);clear hK K;try go_frame
        refine ji (by kernel_rfl) ⟨rfl,?_⟩ _;clear jR jC bH;go_roundw;case rel=>refine⟨_,_,_,_,_,_,_,_,_,_,_,_,_,_,_,_,_,_,_,_,⟨HQ.out.2.2.2.1,b5,r,steps++[⟨kd,ky,vl⟩],_,HQ.out.1,HQ.out.2.1,HQ.out.2.2.1,HQ.out.2.2.2.2,by rw[dw];exact hr2.out,by simp;omega⟩,rfl⟩
        case measure=>
         rw[OT.out]
         have:=HQ.out.1.left
         simp only[eO];omega
       ·go_simp
        refine(jC.out wr.drew (show Scan P wr.drew (y :: r) false from UT.out)).mono ?_
        rintro e W5 ⟨⟨kd,ky,vl⟩,b5,rfl,s5,k5,hst⟩;obtain⟨A7,c7,w7,b51,b52,hrun,g1,gf,q1,q2,q3,q4,q5⟩:=jR.out W5 kd ky vl b5 s5 (dz.trans (dz.bK (af wr).drew) k5) hst;have HQ:=aa (aB q1 (aB q2 (aB q3 (aB q4 q5))));have bH:=aa hrun;clear s5 k5 hst q1 q2 q3 q4 q5 hrun
        dsimp only[iG]
        refine hK.out _ _ trivial (λ_=>?_);clear hK K;try go_frame
        refine aO (rs:=[1,4]) (by kernel_rfl) (by simp) ?_;refine aY rfl (λK hK=>?_) (aY rfl (λK hK=>?_) bu)
        ·go_simp;refine hK.out _ _ trivial (λ_=>?_);clear hK K;try go_frame
         refine aO (rs:=[4]) (by kernel_rfl) (by simp) ?_;refine aY rfl (λK hK=>?_) bu;go_simp;refine hK.out _ _ trivial (λ_=>?_);clear hK K;try go_frame
         refine aO (rs:=[5]) (by kernel_rfl) (by simp) ?_;refine aY rfl (λK hK=>?_) bu;refine aP (by rfl) (by rfl) (by rfl) (by rfl) bH.out ?_;refine hK.out _ _ trivial (λ_=>?_);clear hK K;try go_frame
         refine aO (rs:=[6]) (by kernel_rfl) (by simp) ?_;refine aY rfl (λK hK=>?_) bu;go_simp;refine hK.out _ _ trivial (λ_=>?_);clear hK K;try go_frame
         refine aO (rs:=[7]) (by kernel_rfl) (by simp) ?_;refine aY rfl (λK hK=>?_) bu;go_simp;refine hK.out _ _ trivial (λ_=>?_);clear hK K;try go_frame
         refine ji (by kernel_rfl) ⟨rfl,?_⟩ _;clear jR jC bH;go_roundw;case rel=>refine⟨_,_,_,_,_,_,_,_,_,_,_,_,_,_,_,_,_,_,_,_,⟨HQ.out.2.2.2.1,b5,r,steps++[⟨kd,ky,vl⟩],_,HQ.out.1,HQ.out.2.1,HQ.out.2.2.1,HQ.out.2.2.2.2,by rw[dw];exact hr2.out,by simp;omega⟩,rfl⟩
         case measure=>
          rw[OT.out]
          have:=HQ.out.1.left
          simp only[eO];omega
        ·go_simp;refine hK.out _ _ trivial (λ_=>?_);clear hK K;try go_frame
         refine aO (rs:=[1]) (by kernel_rfl) (by simp) ?_;refine aY rfl (λK hK=>?_) bu;go_simp;refine hK.out _ _ trivial (λ_=>?_);clear hK K;try go_frame
         refine aO (rs:=[5]) (by kernel_rfl) (by simp) ?_;refine aY rfl (λK hK=>?_) bu;refine aP (by rfl) (by rfl) (by rfl) (by rfl) bH.out ?_;refine hK.out _ _ trivial (λ_=>?_);clear hK K;try go_frame
         refine aO (rs:=[6]) (by kernel_rfl) (by simp) ?_;refine aY rfl (λK hK=>?_) bu;go_simp;refine hK.out _ _ trivial (λ_=>?_);clear hK K;try go_frame
         refine aO (rs:=[7]) (by kernel_rfl) (by simp) ?_;refine aY rfl (λK hK=>?_) bu;go_simp;refine hK.out _ _ trivial (λ_=>?_);clear hK K;try go_frame
         refine ji (by kernel_rfl) ⟨rfl,?_⟩ _;clear jR jC bH;go_roundw;case rel=>refine⟨_,_,_,_,_,_,_,_,_,_,_,_,_,_,_,_,_,_,_,_,⟨HQ.out.2.2.2.1,b5,r,steps++[⟨kd,ky,vl⟩],_,HQ.out.1,HQ.out.2.1,HQ.out.2.2.1,HQ.out.2.2.2.2,by rw[dw];exact hr2.out,by simp;omega⟩,rfl⟩
         case measure=>
          rw[OT.out]
          have:=HQ.out.1.left
          simp only[eO];omega
 case done=>
  rintro D xs W hD hS ⟨⟨h1,h2,h3,v,ds,h4,h5,h6,h7⟩,-⟩ hK;have hxl:xs.length=(splitS l).length:=by rw[<-hS,dX]
  have hsome:∀p',eu p'=true->jP p'=l->ds=p':=λp' hp' he=>by
   have hne:p'≠[]:=λe=>HL.out.2 (by rw[<-he,e];rfl);have hsp:=vJ hp' hne;rw[he]at hsp;have hm':xs.map (·.1)=p'.map fo:=by rw[hS];exact hsp
   have hl':xs.length=p'.length:=by have:=agB List.length hm';simpa using this
   have:=h7 p' hp' (by rw[hm',jX (by simp;omega)])
   rw[this,jX (by omega)]
  have hlen:ds.length<=2097152:=by
   have:=JF l
   have:=HL.out.1
   omega
  have hst:∀d∈ds,d.steps.length<=2097152:=λd hd=>by
   obtain⟨rs,e1,_,e3⟩:=h5;obtain⟨i,hi,hid⟩:=jq hd
   exact(e3 i (rs[i]'(by omega)) d (dJ _) (by rw[dJ hi,hid])).2.2.2
  have hvs:∃A c,v=.slice A ds.length c/\ds.length<=c/\c<=9223372036854775807:=by
   obtain⟨rs,e1,e2,_⟩:=h5;obtain⟨A,c,e3,_⟩:=id e2.cell.1
   have:=e2.cap _ _ _ e3
   rw[e1]at e3 this;exact⟨A,c,e3,this⟩
  obtain⟨Av,cv,rfl,hcap⟩:=hvs;have HV:=aa (rT W h5.pla hlen hst);have HT:=aa (λW' (k:Ext W W')=>Kz W' (h5.pla.ext k) hlen hst);have c4:=h4.cell;have HH:=aa (aB h1 (aB h2 (aB h3 (aB h4 h5))));have HK:=aa hK;clear h1 h2 h3 h4 h5 h6 h7 hst hK hsb bA bB bC bP bS bE bV;by_cases hv:eu ds=true
  ·have NW:=HV.out;rw[hv]at NW;have HT2:=HT.out;rw[hv,aj rfl]at HT2;by_cases he:jP ds=l
   ·rw[he,HZ.out]at HT2;have HTQ:=aa HT2;have hyes:Hid (bL l=some ds):=kR.2 ⟨hv,he⟩;clear hv HV HT HT2 hsome he
    gi_wp2_with fail
    refine⟨trivial,(callsIn_wide.2 NW).mono ?_⟩;rintro e W1 ⟨rfl,b1⟩;have c4:=b1.cell c4
    gi_wp2_with fail
    refine⟨trivial,(callsIn_wide.2 (HTQ.out _ b1)).mono ?_⟩;rintro e W2 ⟨rfl,b12⟩;have b2:Ext W W2:=b1.trans b12;have c4:=b12.cell c4;have k2:=aQ HH.out.2.1 b2;have k3:=aQ HH.out.2.2.1 b2;have cr0:=k2.cell;have fr0:=k2.frozen;have cr1:=k3.cell;have fr1:=k3.frozen
    gi_wp2_with fail
    refine⟨trivial,(callsIn_wide.2 (RV Av ds.length cv W2 hcap)).mono ?_⟩;rintro e w' ⟨rfl,rfl⟩
    gi_wp2
    have hK3:=(KeepsOthers.setCell (W2.setCell ⟨w.heap.size,0,none⟩ (.slice Av ds.length ds.length)) ⟨w.heap.size+1,0,none⟩ (.bool true)).same D _ ((KeepsOthers.setCell W2 ⟨w.heap.size,0,none⟩ (.slice Av ds.length ds.length)).same D _ (qH b2 |>.same D _ HK.out rfl) rfl) rfl;refine⟨by simp,.inl ⟨_,_,rfl,run_takeDeferred hK3,?_⟩⟩;have YZ:=cell_kept (kr (k2.set (.slice Av ds.length ds.length)) (a:=⟨w.heap.size+1,0,none⟩) (by simp) (.bool true)).cell (grownBy_putObj' _ D (.deferred none)) (λr e=>by cases e;exact⟨_,hK3,rfl⟩);have hc6:=cell_kept ((kr k3 (a:=⟨w.heap.size,0,none⟩) (by simp) (.slice Av ds.length ds.length)).set (.bool true)).cell (grownBy_putObj' _ D (.deferred none)) (λr e=>by cases e;exact⟨_,hK3,rfl⟩);have q1:=HH.out.2.2.2.2.away (dz.bK (X:=λ_=>False) b2) (λ_ h=>h.elim);have q2:=q1.frX (X:=λq=>q=w.heap.size∨q=w.heap.size+1) (((dz.refl _ _).setCell (p:=⟨w.heap.size,0,none⟩) (.inl (.inl rfl)) (.slice Av ds.length ds.length)).setCell (p:=⟨w.heap.size+1,0,none⟩) (.inl (.inr rfl)) (.bool true)) (λq hq _ e=>e.elim (TB.ne hq (iX k2) (by decide)) (TB.ne hq (iX k3) (by decide))) (λq hq e=>e.elim (TB.ne hq (iX k2) (by decide)) (TB.ne hq (iX k3) (by decide)));have q3:=q2.away (rJ (grownBy_putObj' _ D (.deferred none))) (λq e=>.inl ⟨_,(by cases e;exact hK3),rfl⟩);refine⟨.tuple #[.slice Av ds.length ds.length,.bool true],by simp[results,Tryz.f103,go_sem,YZ,hc6],ds,_,by rw[hyes.out];rfl,q3.pla.clip,by rw[hyes.out];rfl,?_⟩;exact Below.trans (((HH.out.1.trans b2).setCell (av _) _).setCell (by simp) _) (belowK_b (w:=w) (av _) _ D _ _ (by omega) hK3 rfl rfl)
   ·obtain⟨z2,hz2⟩:∃z2,tx (jP ds)=z2:=⟨_,rfl⟩;rw[hz2]at HT2;have HTQ:=aa HT2;have hq:(z2.toList==z.toList)=false:=by rw[<-hz2,<-HZ.out,fA,fA];simpa using he
    have hno:Hid (bL l=none):=mo λp' hp' he'=>he (by rw[hsome p' hp' he'];exact he');clear hv HV HT HT2 hsome he hz2
    gi_wp2_with fail
    refine⟨trivial,(callsIn_wide.2 NW).mono ?_⟩;rintro e W1 ⟨rfl,b1⟩;have c4:=b1.cell c4
    gi_wp2_with fail
    refine⟨trivial,(callsIn_wide.2 (HTQ.out _ b1)).mono ?_⟩;rintro e W2 ⟨rfl,b12⟩;have b2:Ext W W2:=b1.trans b12;have k2:=aQ HH.out.2.1 b2;have k3:=aQ HH.out.2.2.1 b2;have cr0:=k2.cell;have fr0:=k2.frozen;have cr1:=k3.cell;have fr1:=k3.frozen
    gi_wp2
    have hK3:=(KeepsOthers.setCell (W2.setCell ⟨w.heap.size,0,none⟩ (.slice none 0 0)) ⟨w.heap.size+1,0,none⟩ (.bool false)).same D _ ((KeepsOthers.setCell W2 ⟨w.heap.size,0,none⟩ (.slice none 0 0)).same D _ (qH b2 |>.same D _ HK.out rfl) rfl) rfl;refine⟨by simp,.inl ⟨_,_,rfl,run_takeDeferred hK3,?_⟩⟩;have YZ:=cell_kept (kr (k2.set (.slice none 0 0)) (a:=⟨w.heap.size+1,0,none⟩) (by simp) (.bool false)).cell (grownBy_putObj' _ D (.deferred none)) (λr e=>by cases e;exact⟨_,hK3,rfl⟩);have hc6:=cell_kept ((kr k3 (a:=⟨w.heap.size,0,none⟩) (by simp) (.slice none 0 0)).set (.bool false)).cell (grownBy_putObj' _ D (.deferred none)) (λr e=>by cases e;exact⟨_,hK3,rfl⟩);refine⟨.tuple #[.slice none 0 0,.bool false],by simp[results,Tryz.f103,go_sem,YZ,hc6],Du (((HH.out.1.trans b2).setCell (av _) _).setCell (by simp) _) (by omega) hK3 hno.out⟩
  ·have hv':eu ds=false:=by simpa using hv
   have hno:Hid (bL l=none):=mo λp' hp' he=>hv (by rw[hsome p' hp' he];exact hp');have NW:=HV.out;rw[hv']at NW;clear hv hv' HV hsome
   gi_wp2_with fail
   refine⟨trivial,(callsIn_wide.2 NW).mono ?_⟩;rintro e W2 ⟨rfl,b2⟩;have k2:=aQ HH.out.2.1 b2;have k3:=aQ HH.out.2.2.1 b2;have cr0:=k2.cell;have fr0:=k2.frozen;have cr1:=k3.cell;have fr1:=k3.frozen
   gi_wp2
   refine⟨trivial,?_⟩
   gi_wp2
   have hK3:=(KeepsOthers.setCell (W2.setCell ⟨w.heap.size,0,none⟩ (.slice none 0 0)) ⟨w.heap.size+1,0,none⟩ (.bool false)).same D _ ((KeepsOthers.setCell W2 ⟨w.heap.size,0,none⟩ (.slice none 0 0)).same D _ (qH b2 |>.same D _ HK.out rfl) rfl) rfl;refine⟨by simp,.inl ⟨_,_,rfl,run_takeDeferred hK3,?_⟩⟩;have YZ:=cell_kept (kr (k2.set (.slice none 0 0)) (a:=⟨w.heap.size+1,0,none⟩) (by simp) (.bool false)).cell (grownBy_putObj' _ D (.deferred none)) (λr e=>by cases e;exact⟨_,hK3,rfl⟩);have hc6:=cell_kept ((kr k3 (a:=⟨w.heap.size,0,none⟩) (by simp) (.slice none 0 0)).set (.bool false)).cell (grownBy_putObj' _ D (.deferred none)) (λr e=>by cases e;exact⟨_,hK3,rfl⟩);refine⟨.tuple #[.slice none 0 0,.bool false],by simp[results,Tryz.f103,go_sem,YZ,hc6],Du (((HH.out.1.trans b2).setCell (av _) _).setCell (by simp) _) (by omega) hK3 hno.out⟩
 case stop=>
  rintro D pre W hD ⟨r,hr⟩ ⟨h1,h2,h3,h4⟩ hK;have hno:Hid (bL l=none):=mo λp' hp' he=>by have hne:p'≠[]:=λe=>HL.out.2 (by rw[<-he,e];rfl);have hsp:=vJ hp' hne;rw[he]at hsp;refine h4 p' hp' ?_;rw[<-hsp];show _=(splitS l).take pre.length;rw[show splitS l=pre.map (·.1)++r from hr,List.take_left' (by simp)]
  gi_wp2
  have hK3:=hK;refine⟨by simp,.inl ⟨_,_,rfl,run_takeDeferred hK3,?_⟩⟩;have YZ:=cell_kept h2.cell (grownBy_putObj' _ D (.deferred none)) (λr e=>by cases e;exact⟨_,hK3,rfl⟩);have hc6:=cell_kept h3.cell (grownBy_putObj' _ D (.deferred none)) (λr e=>by cases e;exact⟨_,hK3,rfl⟩);refine⟨.tuple #[.slice none 0 0,.bool false],by simp[results,Tryz.f103,go_sem,YZ,hc6],Du h1 (by omega) hK3 hno.out⟩
end
def vY(base:Nat)(W:World)(v:Value)(ds:List fI):Prop:=∃rs:List BK,rs.length=ds.length/\Row 79 2 encDrV base W v rs /\
 (∀(i:Nat) r d,rs[i]? =some r->ds[i]? =some d->r.az=d.az/\Row 67 3 encOpr base W r.iP d.steps) /\
 ∀(i j:Nat) r s g,rs[i]? =some r->rs[j]? =some s->r.iP.ownBlock=some g->s.iP.ownBlock=some g->i=j
theorem vY.nil(W:World):vY W.heap.size (W.alloc (.cells #[] 79)) (.slice (some ⟨W.heap.size,0,none⟩) 0 0) []:=
 ⟨[],rfl,dD (w:=W),λi r d h=>by simp at h,λi j r s g h=>by simp at h⟩
theorem vY.ext{base:Nat}{W W':World}{v:Value}{ds:List fI}(h:vY base W v ds)(hb:Ext W W'):vY base W' v ds:=by obtain⟨rs,h1,h2,h3,h4⟩:=h;exact⟨rs,h1,h2.ext hb,λi r d hr hd=>⟨(h3 i r d hr hd).1,(h3 i r d hr hd).2.ext hb⟩,h4⟩
theorem vY.pla{base:Nat}{W:World}{v:Value}{ds:List fI}(h:vY base W v ds):yV W v ds:=by obtain⟨rs,h1,h2,h3,_⟩:=h;exact⟨rs,h1,h2.cell.1,λi r d hr hd=>⟨(h3 i r d hr hd).1,(h3 i r d hr hd).2.cell.1⟩⟩
theorem vY.slice{base:Nat}{W:World}{v:Value}{ds:List fI}(h:vY base W v ds):∃A c,v=.slice A ds.length c:=by obtain⟨rs,h1,h2,_⟩:=h;obtain⟨A,c,e,_⟩:=id h2.cell.1;exact⟨A,c,by rw[<-h1];exact e⟩
theorem vY.push{base:Nat}{w W0 w1:World}{v:Value}{ds:List fI}(q:Nat)(hq:w1.heap.size=q)(H:vY base W0 v ds)(hb0:Ext w W0)(hwb:w.heap.size<=base)(hx:Ext W0 w1)(s:Int)(hbs:base<=W0.heap.size)(hn:ds.length+1<=4194304) :
 ∃A n c w',(Builtin.append_ #[36,36] 36 #[v,.slice (some ⟨q,0,none⟩) 1 1]).run Tryz.prog (w1.alloc (.cells #[.int .i64 s,.slice none 0 0] 79))=.ok (.slice A n c) w'/\vY base w' (.slice A n c) (ds++[⟨s,[]⟩])/\Ext w w'/\(∀q,TB 9 W0 q->w'.heap[q]? =W0.heap[q]?):=by
 subst hq;obtain⟨rs,h1,h2,h3,h4⟩:=H.ext hx;obtain⟨v',w',hrun,hrow,hg⟩:=sJ (P:=Tryz.prog) (t:=36) (ty:=36) (e:=79) qm EA rfl (by omega) h2 (⟨s,.slice none 0 0⟩:BK) (λj=>by cases j<;>rfl) (by omega) (by omega) (aX hbs hx.size)
 have hcs:(aH 2 encDrV (⟨s,.slice none 0 0⟩:BK)).toArray=#[.int .i64 s,.slice none 0 0]:=rfl;rw[hcs]at hrun hg;have hfx:dz (λq=>v.ownBlock=some q) w1 w':=(dz.bK ((af w1).alloc _)).grown hg (λi e=>.inl e);obtain⟨A,n,c,rfl⟩:=jL hrow;refine⟨A,n,c,w',hrun,⟨rs++[⟨s,.slice none 0 0⟩],by simp[h1],hrow,λi r d hr hd=>?_,λi j r t g hr ht eg eg'=>?_⟩,?_⟩
 ·rw[MS]at hr hd;split at hr
  ·rename_i hi;rw[aj (by omega)]at hd;obtain⟨a,b⟩:=h3 i r d hr hd;exact⟨a,eU b hfx (λk e e'=>TB.ne (TB.dS h2 e') (TB.dS b e) (by decide) rfl)⟩
  ·rename_i hi;rw[au (by omega)]at hd;rw[h1]at hr
   cases hj:i-ds.length with
   | zero=>rw[hj]at hr hd;simp at hr hd;subst hr hd;exact⟨rfl,Row.nil⟩
   | succ m=>rw[hj]at hr;simp at hr
 ·have key:∀(i:Nat) (r:BK),(rs++[⟨s,.slice none 0 0⟩])[i]? =some r->r.iP.ownBlock=some g->rs[i]? =some r:=λi r hr eg=>by
   rw[MS]at hr;split at hr
   ·exact hr
   ·cases hj:i-rs.length with
    | zero=>rw[hj]at hr;simp at hr;subst hr;cases eg
    | succ m=>rw[hj]at hr;simp at hr
  exact h4 i j r t g (key i r hr eg) (key j t ht eg') eg eg'
 ·refine⟨dz.out (hb0.trans hx) hfx (λi e=>aX hwb (h2.block i e)),λq hq=>?_⟩;obtain⟨cs,fr,hg0⟩:=hq;have hlt:=(fF.1 hg0).1;have hg1:w1.heap[q]? = _:=(Below.block hx q hlt).trans hg0;rw[hfx.heap hg1 (λe=>TB.ne (TB.dS h2 e) ⟨cs,fr,hg1⟩ (by decide) rfl),hg0]
theorem Le{x x':BK}(h0:encDrV x' 0=encDrV x 0):∀(xs:List BK) (k:Nat),xs[k]? =some x->(xs.flatMap (aH 2 encDrV)).set (k*2+1) (encDrV x' 1)=(xs.set k x').flatMap (aH 2 encDrV)
 | [],k,h=>by simp at h
 | y :: ys,0,h=>by simp at h;subst h;show ([encDrV y 0,encDrV y 1]++ys.flatMap (aH 2 encDrV)).set 1 (encDrV x' 1)=[encDrV x' 0,encDrV x' 1]++ys.flatMap (aH 2 encDrV);rw[h0];rfl
 | y :: ys,k+1,h=>by have ih:=Le h0 ys k (by simpa using h);show ([encDrV y 0,encDrV y 1]++ys.flatMap (aH 2 encDrV)).set ((k+1)*2+1) (encDrV x' 1)=[encDrV y 0,encDrV y 1]++(ys.set k x').flatMap (aH 2 encDrV);rw[<-ih,show (k+1)*2+1=(k*2+1)+2 by omega];rfl
theorem Row.acf{e:TypeId}{base:Nat}{w:World}{v:Value}{xs:List BK}(h:Row e 2 encDrV base w v xs){k:Nat}{x:BK}(hk:xs[k]? =some x)(u:Value) :
 ∃g c,v=.slice (some ⟨g,0,none⟩) xs.length c/\v.ownBlock=some g/\base<=g/\(∀i,w.frozen? ⟨g,i,none⟩=false)/\w.cell? ⟨g,k*2+1,none⟩=some x.iP/\Row e 2 encDrV base (w.setCell ⟨g,k*2+1,none⟩ u) v (xs.set k ⟨x.az,u⟩):=by
 have hlt:=(bG.1 hk).1;have hcell:=h.cell.1;obtain⟨h1,h2⟩:=h;rcases h2 with ⟨rfl,h0⟩|⟨g,cap,cur,rfl,hb,hg,hnc,hcm,hcs,ht⟩
 ·omega
 ·refine⟨g,cap,rfl,by simp[Value.ownBlock],hb,λi=>by simp[World.frozen?,hg],?_,?_⟩
  ·obtain⟨A',c',e,hc⟩:=hcell;obtain⟨b,off,e',hlt',hcc⟩:=hc (by omega);obtain rfl:=(sQ e).1;obtain⟨rfl,rfl⟩:b=g/\off=0:=by simpa using e'.symm
   have:=hcc k x hk 1 (by omega)
   simpa[encDrV] using this
  ·have hlen:(xs.flatMap (aH 2 encDrV)).length=xs.length*2:=kG xs;refine⟨?_,.inr ⟨g,cap,cur.setIfInBounds (k*2+1) u,?_,hb,?_,?_,hcm,?_,?_⟩⟩
   ·rw[kG]
   ·rw[iE]
   ·simp[World.setCell,lW,hg]
   ·rw[iE];exact hnc
   ·rw[agL];exact hcs
   ·rw[<-Le (x:=x) (x':=⟨x.az,u⟩) rfl xs k hk,Array.toList_setIfInBounds,iE,<-ht,List.take_set];rfl
theorem vY.last{base:Nat}{W:World}{v:Value}{ds:List fI}(H:vY base W v ds){s:Int}{os:List aV}{ds0:List fI}(hd:ds=ds0++[⟨s,os⟩]) :
 ∃g c sv,v=.slice (some ⟨g,0,none⟩) ds.length c/\W.cell? ⟨g,ds0.length*2+1,none⟩=some sv/\Row 67 3 encOpr base W sv os:=by
 obtain⟨rs,h1,h2,h3,h4⟩:=H;subst hd;obtain⟨r,hr⟩:=ah (show ds0.length<rs.length by rw[h1];simp);obtain⟨g,c,hv,_,_,_,hc,_⟩:=Row.acf h2 hr .nilFunc;exact⟨g,c,r.iP,by rw[<-h1];exact hv,hc,(h3 _ r ⟨s,os⟩ hr (by simp)).2⟩
theorem Ka{base:Nat}{w:World}{v:Value}{xs:List aV}(H:Row 67 3 encOpr base w v xs)(o:aV)(hb:base<=w.heap.size)(hn:xs.length+1<=4194304) :
 ∃v' w',(Builtin.append_ #[46,46] 46 #[v,.slice (some ⟨w.heap.size,0,none⟩) 1 1]).run Tryz.prog (w.alloc (.cells #[.int .i64 o.kind,.int .i64 o.key,.int .i64 o.value] 67))=.ok v' w'/\Row 67 3 encOpr base w' v' (xs++[o]) /\
  (w.alloc (.cells #[.int .i64 o.kind,.int .i64 o.key,.int .i64 o.value] 67)).grownBy w' v.ownBlock/\(v'.ownBlock=v.ownBlock∨∃k,v'.ownBlock=some k/\w.heap.size<=k):=by
 obtain⟨i,hi,hz,hs,hby⟩:=qo mq;have hl:(aH 3 encOpr o).length=1*3:=by simp[aH]
 have hcs:(aH 3 encOpr o).toArray=#[.int .i64 o.kind,.int .i64 o.key,.int .i64 o.value]:=rfl;rw[<-hcs];obtain⟨v',w',hrun,hown,hg,_,hat⟩:=run_append_own_at (P:=Tryz.prog) (w:=w.alloc (.cells (aH 3 encOpr o).toArray 67)) base 46 46 67 i _ 3 _ eG hi hz hs hby rfl (by omega) v xs.length _ (World.ownsRow.alloc H _)
  ⟨w.heap.size,0,none⟩ 1 1 (aH 3 encOpr o) hl
  (λj u hu=>by
   have hadd:(⟨w.heap.size,0,none⟩:Addr).add j=⟨w.heap.size,j,none⟩:=by unfold Addr.add;split<;>simp_all
   rw[hadd,cell_of_row _ _ j _ _ (0,0) (dP w _)];simpa using hu)
  (λu hu=>by simp[aH]at hu;obtain⟨j,_,rfl⟩:=hu;exact wh o j) (by simp only[maxLen];omega)
  (by omega) (by simp;omega)
 refine⟨v',w',hrun,?_,hg,?_⟩
 ·unfold Row;rw[lq,dw];simpa using hown
 ·rcases hat with h|h
  ·exact .inl h
  ·exact .inr ⟨_,h,by simp⟩
theorem vY.grow{base:Nat}{w W0 w1:World}{v sv:Value}{ds0:List fI}{s:Int}{os:List aV}{g cc:Nat}(q:Nat)(hq:w1.heap.size=q)(H:vY base W0 v (ds0++[⟨s,os⟩]))(hv:v=.slice (some ⟨g,0,none⟩) (ds0++[(⟨s,os⟩:fI)]).length cc)(hsv:W0.cell? ⟨g,ds0.length*2+1,none⟩=some sv)(hb0:Ext w W0)(hwb:w.heap.size<=base)(hx:Ext W0 w1)(o:aV)(hbs:base<=W0.heap.size)(hn:os.length+1<=4194304) :
 ∃A n c w',(Builtin.append_ #[46,46] 46 #[sv,.slice (some ⟨q,0,none⟩) 1 1]).run Tryz.prog (w1.alloc (.cells #[.int .i64 o.kind,.int .i64 o.key,.int .i64 o.value] 67))=.ok (.slice A n c) w' /\
  w'.cell? ⟨g,ds0.length*2+1,none⟩=some sv/\w'.frozen? ⟨g,ds0.length*2+1,none⟩=false /\
  vY base (w'.setCell ⟨g,ds0.length*2+1,none⟩ (.slice A n c)) v (ds0++[⟨s,os++[o]⟩])/\Ext w (w'.setCell ⟨g,ds0.length*2+1,none⟩ (.slice A n c))/\(∀q,TB 9 W0 q->(w'.setCell ⟨g,ds0.length*2+1,none⟩ (.slice A n c)).heap[q]? =W0.heap[q]?):=by
 subst hq;have hsv:=hx.cell hsv;obtain⟨rs,h1,h2,h3,h4⟩:=H.ext hx;obtain⟨r,hr⟩:=ah (show ds0.length<rs.length by rw[h1];simp);obtain⟨g',c',hv',hob,hbg,_,hc,_⟩:=Row.acf h2 hr .nilFunc;rw[hv]at hv';obtain rfl:g=g':=by simpa using (sQ hv').1
 rw[hsv]at hc;obtain rfl:sv=r.iP:=M5 hc;obtain⟨hrs,hro⟩:=h3 _ r ⟨s,os⟩ hr (by simp);simp only at hrs hro;obtain⟨v',w',hrun,hrow,hg,hat⟩:=Ka hro o (aX hbs hx.size) hn;have hfx:dz (λq=>r.iP.ownBlock=some q) w1 w':=(dz.bK ((af w1).alloc _)).grown hg (λi e=>.inl e);have hdb:TB 79 w1 g:=TB.dS h2 hob;have hng:¬r.iP.ownBlock=some g:=λe=>TB.ne hdb (TB.dS hro e) (by decide) rfl;have h2':Row 79 2 encDrV base w' v rs:=eU h2 hfx (λk e e'=>TB.ne (TB.dS h2 e) (TB.dS hro e') (by decide) rfl);obtain⟨A,n,c,rfl⟩:=jL hrow;obtain⟨g2,c2,hv2,_,_,hfz,hc2,hset⟩:=Row.acf h2' hr (.slice A n c);rw[hv]at hv2;obtain rfl:g=g2:=by simpa using (sQ hv2).1
 have hlr:=(bG.1 hr).1;have acQ:TB 79 w' g:=hdb.frX hfx hng;have hgs:dz (λq=>q=g) w' (w'.setCell ⟨g,ds0.length*2+1,none⟩ (.slice A n c)):=dz.setCell (X:=λq=>q=g) (dz.refl _ _) (p:=⟨g,ds0.length*2+1,none⟩) (.inl rfl) _;have hop:∀(u:Value) (xs:List aV),Row 67 3 encOpr base w' u xs->Row 67 3 encOpr base (w'.setCell ⟨g,ds0.length*2+1,none⟩ (.slice A n c)) u xs:=λu xs h=>
  eU h hgs (λk e e'=>TB.ne (TB.dS h e) (e'▸acQ) (by decide) rfl)
 have key:∀(i:Nat) (y:BK),(rs.set ds0.length ⟨r.az,.slice A n c⟩)[i]? =some y->(i=ds0.length/\y=⟨r.az,.slice A n c⟩)∨(i≠ds0.length/\rs[i]? =some y):=λi y hy=>by
  by_cases e:ds0.length=i
  ·subst e;rw[qJ hlr]at hy;exact .inl ⟨rfl,(M5 hy).symm⟩
  ·rw[G6 e]at hy;exact .inr ⟨λe'=>e e'.symm,hy⟩
 have hnew:∀(j:Nat) (z:BK) (k:Nat),j≠ds0.length->rs[j]? =some z->(Value.slice A n c).ownBlock=some k->z.iP.ownBlock=some k->False:=λj z k hj hz ek ez=>by
  rcases hat with h|⟨m,h,hm⟩
  ·rw[h]at ek;exact hj (h4 j _ z r k hz hr ez ek)
  ·rw[h]at ek;obtain rfl:=M5 ek;obtain⟨d,hd⟩:=ah (show j<(ds0++[(⟨s,os⟩:fI)]).length by rw[<-h1];exact(bG.1 hz).1);obtain⟨cs,fr,hb⟩:=TB.dS (h3 j z d hz hd).2 ez
   have:=(fF.1 hb).1
   omega
 refine⟨A,n,c,w',hrun,hc2,hfz _,⟨rs.set ds0.length ⟨r.az,.slice A n c⟩,by rw[iE,h1];simp,hset,λi y d hy hd=>?_,λi j y z k hy hz ey ez=>?_⟩,?_⟩
 ·rcases key i y hy with ⟨rfl,rfl⟩|⟨hne,hy⟩
  ·rw[agG (av _),Nat.sub_self]at hd;simp at hd;subst hd;exact⟨hrs,hop _ _ hrow⟩
  ·have hil:=(bG.1 hy).1;rw[h1]at hil;simp at hil;rw[oK (by omega)]at hd;obtain⟨a,b⟩:=h3 i y d hy (by rw[oK (by omega)];exact hd);exact⟨a,hop _ _ (eU b hfx (λk e e'=>hne (h4 i _ y r k hy hr e e')))⟩
 ·rcases key i y hy with ⟨rfl,rfl⟩|⟨hne,hy⟩<;>rcases key j z hz with ⟨rfl,rfl⟩|⟨hne',hz⟩
  ·rfl
  ·exact(hnew j z k hne' hz ey ez).elim
  ·exact(hnew i y k hne hy ez ey).elim
  ·exact h4 i j y z k hy hz ey ez
 ·refine⟨(dz.out (hb0.trans hx) hfx (λi e=>aX hwb (hro.block i e))).setCell (p:=⟨g,ds0.length*2+1,none⟩) (aX hwb hbg) _,λq hq=>?_⟩;obtain⟨cs,fr,hg0⟩:=hq;have hlt:=(fF.1 hg0).1;have hg1:w1.heap[q]? = _:=(Below.block hx q hlt).trans hg0;have hg2:=hfx.heap hg1 (λe=>TB.ne (TB.dS hro e) ⟨cs,fr,hg1⟩ (by decide) rfl);rw[hgs.heap hg2 (λe=>TB.ne acQ ⟨cs,fr,e▸hg2⟩ (by decide) rfl),hg0]
