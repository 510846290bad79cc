/- Lemmas. -/
import Derived.Test.YtomkjlklninhpaaGreatDoorKBB
import Derived.Test.YtomkjlklninhpaaGreatDoorKBC
set_option maxHeartbeats 16000000
set_option maxRecDepth 8000
set_option linter.all false
namespace Go.Proofs.YtomkjlklninhpaaGreatDoor
open Go.RowKit
theorem Row.Xk{α:Type}{e:TypeId}{enc:α->Nat->Value}{base:Nat}{w:World}{v:Value}{xs:List α}(h:Row e 1 enc base w v xs){k:Nat}(hk:k<xs.length)(x:α) :
 ∃g c,v=.slice (some ⟨g,0,none⟩) xs.length c/\base<=g/\(∀i,w.frozen? ⟨g,i,none⟩=false)/\(∀y,xs[k]? =some y->w.cell? ⟨g,k,none⟩=some (enc y 0))/\Row e 1 enc base (w.setCell ⟨g,k,none⟩ (enc x 0)) v (xs.set k x):=by
 have hcell:=h.cell.1;obtain⟨h1,h2⟩:=h;rcases h2 with ⟨rfl,h0⟩|⟨g,cap,cur,rfl,hb,hg,hnc,hcm,hcs,ht⟩
 ·omega
 ·refine⟨g,cap,rfl,hb,fun i=>by simp[World.frozen?,hg],fun y hy=>?_,?_⟩
  ·obtain⟨A',c',e,hc⟩:=hcell;injection e with e1 e2 e3;obtain⟨b,off,e,hlt,hcc⟩:=hc (by omega);rw[<-e1]at e;injection e with e;injection e with e4 e5;subst e4 e5
   have:=hcc k y hy 0 (by omega)
   simpa using this
  ·have e1:∀ys:List α,ys.flatMap (aI 1 enc)=ys.map fun y=>enc y 0:=fun ys=>by
    induction ys with
    | nil=>rfl
    | cons y ys ih=>rw[List.flatMap_cons,ih];rfl
   refine⟨?_,.inr ⟨g,cap,cur.setIfInBounds k (enc x 0),?_,hb,?_,?_,hcm,?_,?_⟩⟩
   ·rw[ji]
   ·rw[List.length_set]
   ·simp[World.setCell,Array.getElem?_modify,hg]
   ·rw[List.length_set];exact hnc
   ·rw[Array.size_setIfInBounds];exact hcs
   ·rw[e1]at ht ⊢;rw[Array.toList_setIfInBounds,List.length_set,List.map_set,<-ht,List.take_set]
theorem Xq{α:Type}{ws:List α}(h:ws≠[])(y:α):∃p last,ws.length=p+1/\ws[p]? =some last/\ws.dropLast++[y]=ws.set p y/\ws.getLast? =some last:=by obtain⟨a,x,rfl⟩:∃a x,ws=a++[x]:=⟨ws.dropLast,ws.getLast h,(List.dropLast_concat_getLast h).symm⟩;exact⟨a.length,x,by simp,by simp,by simp,by simp⟩
theorem CL(l:List UInt8)(w:World)(hl:l.length<=1048576) :
 Calls Tryz.prog 44 #[.string (tx l)] w fun e w'=>∃v,e=.returned v/\Row 9 1 encS w.heap.size w' v (aK 32 l)/\Ext w w':=by
 have HI:=aa (fun(k:Nat) (x:UInt8) (hx:l[k]? =some x)=>jZ hx (k:Int) rfl);have HE:=aa (fun i j=>ny l i j);have hsz:=dH l;have HSL:=aa (fun k=>nH 32 (l.take k));have HSS:=aa (fun k=>nX 32 (l.take k));obtain⟨z,hz⟩:∃z,tx l=z:=⟨_,rfl⟩;rw[hz]at hsz HI HE ⊢;clear hz;have hr0:Row 9 1 encS w.heap.size (w.alloc (.cells #[.string ⟨#[]⟩] 9)) (.slice (some ⟨w.heap.size,0,none⟩) 1 1) (aK 32 (l.take 0)):=Row.lit w #[.string ⟨#[]⟩] 9 [[]] rfl (by simp);have xw:=aa hr0;clear hr0;go_enter Tryz.func44,Tryz.ntmps44;go_wp2;go_loopw [3,4] (fun o i wr=>Ext w wr/\∃k:Nat,k<=l.length/\i=.int .i64 (k:Int)/\Hid (Row 9 1 encS w.heap.size wr o (aK 32 (l.take k)))) (fun _ i _=>l.length-(intOf i).toNat)
 case atStart=>exact⟨(Ext.refl _).alloc _,0,Nat.zero_le _,rfl,xw.out⟩
 case round=>
  obtain⟨hb,k,hk,rfl,HR⟩:=hrel;by_cases hlt:k<l.length
  ·obtain⟨x,hx⟩:=af hlt;have hi0:=HI.out k x hx;have hki:(k:Int)<(l.length:Int):=by omega
   have hk0:(0:Int)<=(k:Int):=by omega
   have hsn:=vK 32 (l.take k) x;rw[<-ah hx]at hsn;have hsl:=HSL.out k;have hss:=HSS.out k;have hne:=pV 32 (l.take k);have hrr:=HR.out;obtain⟨ws,hws⟩:∃ws,aK 32 (l.take k)=ws:=⟨_,rfl⟩;rw[hws]at hsn hsl hss hne hrr;rw[List.length_take]at hsl;by_cases h32:x=32
   ·subst h32;rw[if_pos rfl]at hsn;obtain⟨v',w3,hrun,hP⟩:=iP wr.heap.size rfl Tryz.underlying31 gK rfl (by omega) hrr (Ext.refl _) ([]:List UInt8) (fun j=>rfl) #[.string ⟨#[]⟩] rfl hb.size (by omega) (by omega);have aU:=aa hrun;have HP:=aa hP;have sI:=aa (hP.2.1 w hb (Nat.le_refl _));have Ua:=aa hsn;obtain⟨Ao,no,co,rfl⟩:∃A n c,u3=Value.slice A n c:=iK hrr;clear hx hsn hsl hss hne hrr hws hrun hP HR;go_wp2_with (at_builtin;refine wpList_append_run rfl rfl rfl rfl aU.out ?_)
    go_roundw;case rel=>exact⟨sI.out,k+1,by omega,by go_num,by rw[Ua.out];exact HP.out.1⟩
    case measure=>simp[intOf];omega
   ·rw[if_neg h32]at hsn;obtain⟨p,last,hp1,hp2,hp3,R6⟩:=Xq hne (((ws.getLast?).getD [])++[x]);rw[hp3,R6,Option.getD_some]at hsn;have hll:=hss last (List.mem_of_getElem? hp2);rw[List.length_take]at hll;obtain⟨g,cc,hv,hgb,hfr,hcell,hput⟩:=Row.Xk hrr (show p<ws.length by omega) (last++[x]);have hx32:((x.toNat:Int)==32)=false:=by
     rw[beq_eq_false_iff_ne];intro e;have e':(x.toNat:Int)=32:=by simpa using e
     exact h32 (UInt8.toNat_inj.1 (show x.toNat=(32:UInt8).toNat from Int.ofNat_inj.1 e'))
    have c0:=hcell last hp2;simp only[encS]at c0 hput;have a1:=aZ last [x] (by simp;omega);have hex:=HE.out k (k+1);rw[ah hx,List.drop_append_of_le_length (by rw[List.length_take];omega),show (l.take k).drop k=[] from List.drop_of_length_le (by rw[List.length_take];omega),List.nil_append]at hex;obtain⟨y1,hy1⟩:∃y,tx last=y:=⟨_,rfl⟩;obtain⟨y2,hy2⟩:∃y,tx [x]=y:=⟨_,rfl⟩;obtain⟨y3,hy3⟩:∃y,tx (last++[x])=y:=⟨_,rfl⟩;rw[hy1]at c0 a1;rw[hy2]at a1 hex;rw[hy3]at a1 hput;have hwk:IntKind.i64.wrap ((k:Int)+1)=(k:Int)+1:=IntWalk.i64_in _ (by omega);have ZC:Row 9 1 encS w.heap.size (wr.drew.setCell ⟨g,p,none⟩ (.string y3)) u3 (ws.set p (last++[x])):=by
     obtain⟨g',cc',hv',_,_,_,hq⟩:=Row.Xk (Row.ext hrr (Ext.refl wr).drew) (show p<ws.length by omega) (last++[x]);rw[hv]at hv';obtain rfl:g'=g:=by simpa using (Value.slice.inj hv').1.symm
     simp only[encS,hy3]at hq;exact hq
    have IK:=aa ZC;have HXE:=aa (hb.drew.setCell (p:=⟨g,p,none⟩) hgb (.string y3));have Ua:=aa hsn;have hfp:=hfr p;rw[hp1]at hv;subst hv;have hpi:IntKind.i64.wrap (((p+1:Nat):Int)-1)=(p:Int):=by rw[show ((p+1:Nat):Int)-1=(p:Int) by omega];exact IntWalk.i64_in _ (by omega)
    obtain⟨q,hq⟩:∃q:Nat,q=p+1:=⟨_,rfl⟩;rw[<-hq]at hpi IK ⊢;have hpq:(p:Int)<(q:Int):=by omega
    have hp0:(0:Int)<=(p:Int):=by omega
    have hk1:(k:Int)+1<=(l.length:Int):=by omega
    have hk2:(k:Int)<=(k:Int)+1:=by omega
    have hk3:((k:Int)+1).toNat=k+1:=by omega
    clear hx hsn hsl hss hne hrr hws hp1 hp2 hp3 R6 hll hcell hput ZC hgb hfr hy1 hy2 hy3 HR h32 hq;go_wp2;have u1:({ wr with drawn:=wr.drawn+1 }:World).cell? ⟨g,p,none⟩=some (.string y1):=c0;go_still_tail 16,(by kernel_rfl)
    change wpList _ _ _ _ _ wr.drew;clear u1;go_wp2;go_roundw;case rel=>exact⟨HXE.out,k+1,by omega,by go_num,by rw[Ua.out];exact IK.out⟩
    case measure=>simp[intOf];omega
  ·obtain rfl:k=l.length:=by omega
   have hr:=HR.out;rw[List.take_length]at hr;have Y6:=aa hr;obtain⟨Ao,no,co,rfl⟩:∃A n c,u3=Value.slice A n c:=iK hr;clear hr HR;go_wp2;go_returns;exact⟨_,rfl,Y6.out,hb⟩
theorem Ws{l:List UInt8}(h:(aK 32 l).length<2):dh l=none:=lT (fun t _ e=>by rw[e]at h;simp[bR]at h;omega)
theorem R7{l w0:List UInt8}(h:(aK 32 l)[0]? =some w0)(hb:w0.length≠2∨w0[0]?≠some 115):dh l=none:=lT (fun t _ e=>by rw[e]at h;simp[bR]at h;subst h;simp at hb)
theorem YF{l w1:List UInt8}(h:(aK 32 l)[1]? =some w1)(h1:w1≠[111,107])(h2:w1≠[111,102,102]):dh l=none:=lT (fun t _ e=>by
 rw[e]at h;simp[bR]at h;cases hd:t.done<;>rw[hd]at h<;>simp at h
 ·exact h2 h.symm
 ·exact h1 h.symm)
theorem abO{l wk:List UInt8}{k:Nat}(h:(aK 32 l)[k+2]? =some wk)(hn:fD wk=none):dh l=none:=lT (fun t ht e=>by rw[e]at h;simp[bR]at h;obtain⟨o,ho,rfl⟩:=h;rw[jS.2 ⟨eT ht (List.mem_of_getElem? ho),rfl⟩]at hn;cases hn)
theorem aaB{l w1:List UInt8}{c:UInt8}{ws:List (List UInt8)}{os:List aQ}(h:aK 32 l=[115,c] :: w1 :: ws)(h1:w1=[111,107]∨w1=[111,102,102])(hs:rO ws os)(hl:os.length=ws.length) :
 (bX ⟨eU [c],os,decide (w1=[111,107])⟩=true->dh l=some ⟨eU [c],os,decide (w1=[111,107])⟩)/\(bX ⟨eU [c],os,decide (w1=[111,107])⟩=false->dh l=none):=by
 constructor
 ·intro hk;have h0:=jC hk;have hsn:=yN (l:=[c]) h0.1;have he:((eU [c]).toNat:Int)=eU [c]:=Int.toNat_of_nonneg h0.1
  have:=M7 (s:=l) (c:=c) (n:=(eU [c]).toNat) (d:=decide (w1=[111,107])) (ws:=ws) (os:=os) (by rw[h];rcases h1 with rfl|rfl<;>rfl) hsn hs hl (by rw[he];exact hk)
  rw[he]at this;exact this
 ·intro hk;refine lT (fun t ht e=>?_);obtain⟨e1,e2,e3⟩:=TE h e;obtain⟨a1,a2⟩:=hs.all hl;have ho:os=t.ops:=GU a2 (fun o ho=>eT ht ho) (a1.symm.trans e3);have hc:eU [c]=t.az:=by injection e1 with _ e1;injection e1 with e1;have h0:=jC ht;unfold eU;rw[QF ht e1];simp only;omega
  have hd:decide (w1=[111,107])=t.done:=by rw[e2];cases t.done<;>rfl
  rw[ho,hc,hd]at hk
  have:(⟨t.az,t.ops,t.done⟩:aA)=t:=rfl
  rw[this,ht]at hk;cases hk
theorem I8{P:Program}{id:Nat}{ops:Array Oper}{b:Bool}{Q:Exit->Act->World->Prop}{a:Act}{w:World}(R:Act->Act->World->Prop)(h1:(Code.region id ops b).wp P (Cq fun _ a' w'=>R a a' w') a w)(h2:∀a' w',R a a' w'->Q .normal a' w'):(Code.region id ops b).wp P Q a w:=
 Code.wp_mono (fun e a' w' h=>by obtain⟨rfl,h⟩:=h;exact h2 a' w' h) h1
theorem VD{α:Type}{ws:List α}{x y:α}(h0:ws[0]? =some x)(h1:ws[1]? =some y):ws=x :: y :: ws.drop 2:=by
 match ws,h0,h1 with
 | [],h0,_=>simp at h0
 | [_],_,h1=>simp at h1
 | a :: b :: r,h0,h1=>simp at h0 h1;subst h0 h1;rfl
theorem Xp{W0 wr W:World}{q:Nat}{a c v:Value}{T:TypeId}{os:List aQ}(qs:Nat)(hqs:W.heap.size=qs)(hv:Ext W0 wr)(hq:W0.heap.size<=q)(hg:wr.heap[q]? =some (.cells #[a,v,c] T (0,0)))(hrow:Row 71 3 aj (q+1) wr v os)(hx:Ext wr W)(o:aQ)(hl:os.length<4194303) :
 ∃A n c' w4,(Builtin.append_ #[46,46] 46 #[v,.slice (some ⟨qs,0,none⟩) 1 1]).run Tryz.prog (W.alloc (.cells #[.int .i64 o.kind,.int .i64 o.key,.int .i64 o.value] 71))=.ok (.slice A n c') w4/\w4.cell? ⟨q,1,none⟩=some v/\w4.frozen? ⟨q,1,none⟩=false /\
  Ext W0 (w4.setCell ⟨q,1,none⟩ (.slice A n c'))/\(w4.setCell ⟨q,1,none⟩ (.slice A n c')).heap[q]? =some (.cells #[a,.slice A n c',c] T (0,0))/\Row 71 3 aj (q+1) (w4.setCell ⟨q,1,none⟩ (.slice A n c')) (.slice A n c') (os++[o]):=by
 have hlt:q<wr.heap.size:=(Array.getElem?_eq_some_iff.1 hg).1;obtain⟨v',w4,hrun,hP⟩:=uR qs hqs hrow hx o (by omega) (by omega);have hne:v.ownBlock≠some q:=fun e=>by have:=hrow.block q e;omega
 have hg4:=(hP.2.2.1 q hlt hne).trans hg;obtain⟨A,n,c',rfl⟩:=iK hP.1;obtain⟨_,g41,_,gf4⟩:=sO hg4;exact⟨A,n,c',w4,hrun,g41,gf4 1,(hP.2.1 W0 hv (by omega)).setCell (p:=⟨q,1,none⟩) hq _,Oy hg4 _,hP.1.Cg (a:=⟨q,1,none⟩) (Nat.lt_succ_self _) _⟩
def WW(w:World)(l:List UInt8)(e:Ending)(w':World):Prop:=
 ∃(t:aA) (ov:Value),e=.returned (.tuple #[.agg #[.int .i64 t.az,ov,.bool t.done],.bool (dh l).isSome])/\aF 3 aj w' ov t.ops/\Own w.heap.size w' ov/\iY 71 w' ov/\qL ov/\(∀t',dh l=some t'->t=t')/\Ext w w'
theorem Pf{w w':World}{l:List UInt8}(h:dh l=none)(hx:Ext w w'):WW w l (.returned (.tuple #[.agg #[.int .i64 0,.slice none 0 0,.bool false],.bool false])) w':=
 ⟨⟨0,[],false⟩,.slice none 0 0,by rw[h];rfl,aF.nil _ _ _ _ _,Own.nil _ _ _ _,fun a n c e=>(by cases e),fun A n c e=>by cases e;exact⟨Nat.le_refl _,by omega⟩,fun t' e=>(by rw[h]at e;cases e),hx⟩
theorem K7(l:List UInt8)(w:World)(hl:l.length<=1048576) :
 Calls Tryz.prog 23 #[.string (tx l)] w (WW w l):=by
 have HW3:=aa (fun W=>CL l W hl);have hwl:(aK 32 l).length<=1048577:=by have:=nH 32 l;omega
 have HSS:=aa (nX 32 l);have Sz:=aa (fun w' (hx:Ext w w') (h:dh l=none)=>Pf h hx);obtain⟨z,hz⟩:∃z,tx l=z:=⟨_,rfl⟩;rw[hz]at HW3 ⊢;obtain⟨ws,hws⟩:∃ws,aK 32 l=ws:=⟨_,rfl⟩;have IG:=aa hws;rw[hws]at HW3 hwl HSS;clear hz hws;go_enter Tryz.func23,Tryz.ntmps23;go_wp2_with fail
 refine(HW3.out _).mono ?_
 rintro e W1 ⟨vw,rfl,XA,b1⟩;have T0:W1.cell? ⟨w.heap.size,0,none⟩=some (.int .i64 0):=b1.cell (av rfl);have T1:W1.cell? ⟨w.heap.size,1,none⟩=some (.slice none 0 0):=b1.cell (av rfl);have T2:W1.cell? ⟨w.heap.size,2,none⟩=some (.bool false):=b1.cell (av rfl);have TF:∀j,W1.frozen? ⟨w.heap.size,j,none⟩=false:=fun j=>(b1.frozen (p:=⟨w.heap.size,j,none⟩) (by simp)).trans (gN j rfl);have TF0:=TF 0;have TF1:=TF 1;have TF2:=TF 2;have HB1:Hid (Ext w W1):=((Ext.refl _).alloc _).trans b1;have Vq:Hid (w.heap.size<W1.heap.size):=by have:=b1.size;simp at this;show _<_;omega
 have Vl:0<ws.length->∃g cw,vw=.slice (some ⟨g,0,none⟩) ws.length cw/\∀(i:Nat) (x:List UInt8),ws[i]? =some x->W1.cell? ⟨g,i,none⟩=some (.string (tx x)):=fun hp=>by
  rcases id XA.2 with ⟨rfl,h0⟩|⟨g,cap,cur,rfl,-⟩
  ·omega
  ·refine⟨g,cap,rfl,fun i x hx=>?_⟩;obtain⟨A',c',e,hc⟩:=XA.cell.1;obtain⟨b,off,e',hlt,hcc⟩:=hc (by omega);obtain rfl:=(Value.slice.inj e).1;obtain⟨rfl,rfl⟩:b=g/\off=0:=by simpa using e'.symm
   have:=hcc i x hx 0 (by omega)
   simpa[encS] using this
 have HCW:=aa Vl;obtain⟨Aw,cw,rfl,hcw⟩:=id XA.cell.1;have HOWN:=aa XA.cell.2;clear XA b1 hcw Vl;by_cases h2:ws.length<2
 ·have kg:Hid (dh l=none):=Ws (by rw[IG.out];exact h2);have h2i:(ws.length:Int)<2:=by omega
  clear h2 TF;go_wp2;obtain⟨y0,y1,y2⟩:=dK (.int .i64 0) (.slice none 0 0) (.bool false) T0 T1 T2;refine bodyPost_ret (v:=.tuple #[.agg #[.int .i64 0,.slice none 0 0,.bool false],.bool false]) (by simp[results,Tryz.results23,go_sem,y0,y1,y2]) rfl ?_;exact Sz.out _ (((HB1.out.setCell (p:=⟨w.heap.size,0,none⟩) (Nat.le_refl _) _).setCell (p:=⟨w.heap.size,1,none⟩) (Nat.le_refl _) _).setCell (p:=⟨w.heap.size,2,none⟩) (Nat.le_refl _) _) kg.out
 ·have h2i:¬((ws.length:Int)<2):=by omega
  obtain⟨g,cw',e,hcc⟩:=HCW.out (by omega);obtain⟨rfl,-,rfl⟩:=Value.slice.inj e;clear e;have HCC:=aa hcc;obtain⟨w0,hw0⟩:=af (show 0<ws.length by omega);obtain⟨w1,hw1⟩:=af (show 1<ws.length by omega);have c0:W1.cell? ⟨g,0,none⟩=some (.string (tx w0)):=hcc 0 w0 hw0;have c1:W1.cell? ⟨g,1,none⟩=some (.string (tx w1)):=hcc 1 w1 hw1;have hs0:=dH w0;have i1:(1:Int)<(ws.length:Int):=by omega
  have i0:(0:Int)<(ws.length:Int):=by omega
  have HH0:=aa hw0;have HH1:=aa hw1;by_cases hl2:w0.length=2
  ·match w0,hl2,hw0 with
   | [a,c],_,hw0=>
     have hi0:=jZ (l:=[a,c]) (k:=0) rfl 0 rfl;have hxc:(tx [a,c]).extract 1 (tx [a,c]).size=tx [c]:=Kl [a,c] 1;have Zv:=aa (fun W=>uf [c] W (by simp));have hs1:(1:Int)<=((tx [a,c]).size:Int):=by rw[dH];simp
     have adQ:((((tx [a,c]).size:Nat):Int) != 2)=false:=by rw[dH];rfl
     have TD:((a.toNat:Int)=115)↔a=115:=⟨fun e=>UInt8.toNat_inj.1 (show a.toNat=(115:UInt8).toNat from Int.ofNat_inj.1 e),fun e=>by rw[e];rfl⟩;obtain⟨zw0,hz0⟩:∃y,tx [a,c]=y:=⟨_,rfl⟩;obtain⟨zc,hzc⟩:∃y,tx [c]=y:=⟨_,rfl⟩;have ht1:(tx w1).toList=w1:=eD w1;obtain⟨ZE,hz1⟩:∃y,tx w1=y:=⟨_,rfl⟩;rw[hz0]at c0 hi0 hxc hs1 adQ;rw[hzc]at hxc Zv;rw[hz1]at c1 ht1;obtain⟨n,hn⟩:∃n,eU [c]=n:=⟨_,rfl⟩;rw[hn]at Zv;obtain⟨an,DV⟩:∃y:Int,(a.toNat:Int)=y:=⟨_,rfl⟩;rw[DV]at hi0 TD;have HN:=aa hn;clear hz0 hzc hz1 hn DV hw0 hs0;by_cases ha:an=115
     ·by_cases hmk:w1=[111,107]∨w1=[111,102,102]
      ·have Cx:a=115:=TD.1 ha;have aev:Hid (ws=[115,c] :: w1 :: ws.drop 2):=by
        have:=VD HH0.out HH1.out
        rw[Cx]at this;exact this
       have HX0:Hid (∀V:World,Ext W1 V->(fun V:World=>V.cell? ⟨g,0,none⟩=some (.string zw0)/\V.cell? ⟨g,1,none⟩=some (.string ZE)) V):=fun V b=>⟨b.cell c0,b.cell c1⟩;have XH:Hid (∀V:World,Ext W1 V->∀j,V.frozen? ⟨w.heap.size,j,none⟩=false):=fun V b j=>(b.frozen (p:=⟨w.heap.size,j,none⟩) Vq.out).trans (TF j);have hmk':=hmk;subst ha;clear Cx TD;obtain⟨dv,hdd⟩:∃d,decide (w1=[111,107])=d:=⟨_,rfl⟩;have q1:(ZE.toList==[111,107])=dv:=by rw[ht1,<-hdd];by_cases e:w1=[111,107]<;>simp[e]
       have HQ:Hid (dv=true∨(dv=false/\(ZE.toList==[111,102,102])=true)):=by
        rcases hmk with h|h
        ·exact .inl (by rw[<-hdd,h];rfl)
        ·exact .inr ⟨by rw[<-hdd,h];rfl,by rw[ht1,h];rfl⟩
       go_upto_region 2 with fail
       go_cut [39] (fun s wx=>s=.bool false/\W1=wx)
       case first=>
        clear TF hmk' ht1 hmk hdd hcc hw1;rcases HQ.out with h|⟨h,q2⟩<;>(
         subst h;go_wp2;all_goals (go_meet;exact⟨by first|rfl|(rw[decide_eq_false (by omega)])|(simp;done)|(simp[q1];done)|(simp[*];done),rfl⟩))
       case rest=>
        obtain⟨aeN,hwc⟩:=hcut;subst aeN hwc;have i0:(0:Int)<(ws.length:Int):=by omega
        have hne:ws≠[]:=fun e=>by rw[e]at i0;exact absurd i0 (by decide)
        have qX:Hid (∀os,rO (ws.drop 2) os->os.length=(ws.drop 2).length->(bX ⟨n,os,dv⟩=true->dh l=some ⟨n,os,dv⟩)/\(bX ⟨n,os,dv⟩=false->dh l=none)):=fun os hs hl=>by
         have:=aaB (l:=l) (c:=c) (w1:=w1) (ws:=ws.drop 2) (os:=os) (by rw[IG.out];exact aev.out) hmk' hs hl
         rwa [HN.out,hdd]at this
        clear ht1 hmk' hdd hmk TF hcc hw1;go_wp2;refine I8 (fun a0 a' w'=>∃q,a'=((((((((((a0.put (some 41) (.slice (some ⟨g,0,none⟩) ws.length cw)).put (some 42) (.pointer (some ⟨g,0,none⟩))).put (some 43) (.string zw0)).put (some 44) (.string zc)).put (some 46) (.slice (some ⟨g,0,none⟩) ws.length cw)).put (some 47) (.pointer (some ⟨g,1,none⟩))).put (some 48) (.string ZE)).put (some 49) (.bool dv)).put (some 45) (.int .i64 n)).put (some 50) (.agg #[.int .i64 n,.slice none 0 0,.bool dv])).put (some 5) (.pointer (some ⟨q,0,none⟩))/\w'.heap[q]? =some (.cells #[.int .i64 n,.slice none 0 0,.bool dv] 48 (0,0))/\W1.heap.size<=q/\Ext W1 w') ?_ ?_
        ·refine wp_region_held_drew (S:=(fun V:World=>V.cell? ⟨g,0,none⟩=some (.string zw0)/\V.cell? ⟨g,1,none⟩=some (.string ZE))) (by kernel_rfl) (HX0.out _ (Ext.refl _).drew) (fun hHeld=>?_);simp only[List.size_toArray,List.length_cons,List.length_nil,Nat.zero_add,Nat.reduceAdd];refine eu 0 (.slice (some ⟨g,0,none⟩) ws.length cw) rfl (Or.inl ⟨by kernel_rfl,fun V ⟨s1,s2⟩=>by go_simp⟩) hHeld ?_ (hQ:=je _ _);try go_frame
         refine eu 1 (.pointer (some ⟨g,0,none⟩)) rfl (Or.inl ⟨by kernel_rfl,fun V ⟨s1,s2⟩=>by go_simp⟩) hHeld ?_ (hQ:=je _ _);try go_frame
         refine eu 2 (.string zw0) rfl (Or.inl ⟨by kernel_rfl,fun V ⟨s1,s2⟩=>by go_simp⟩) hHeld ?_ (hQ:=je _ _);try go_frame
         refine eu 3 (.string zc) rfl (Or.inl ⟨by kernel_rfl,fun V ⟨s1,s2⟩=>by go_simp⟩) hHeld ?_ (hQ:=je _ _);try go_frame
         refine eu 5 (.slice (some ⟨g,0,none⟩) ws.length cw) rfl (Or.inl ⟨by kernel_rfl,fun V ⟨s1,s2⟩=>by go_simp⟩) hHeld ?_ (hQ:=je _ _);try go_frame
         refine eu 6 (.pointer (some ⟨g,1,none⟩)) rfl (Or.inl ⟨by kernel_rfl,fun V ⟨s1,s2⟩=>by go_simp⟩) hHeld ?_ (hQ:=je _ _);try go_frame
         refine eu 7 (.string ZE) rfl (Or.inl ⟨by kernel_rfl,fun V ⟨s1,s2⟩=>by go_simp⟩) hHeld ?_ (hQ:=je _ _);try go_frame
         refine eu 8 (.bool dv) rfl (Or.inl ⟨by kernel_rfl,fun V ⟨s1,s2⟩=>by go_simp⟩) hHeld ?_ (hQ:=je _ _);try go_frame
         refine wpAnyH_ready (rs:=[4,10]) (by kernel_rfl) (by simp) ?_;refine AllReadyH.cons rfl (fun K hK=>?_) (AllReadyH.cons rfl (fun K hK=>?_) AllReadyH.nil)
         ·go_simp
          refine(Zv.out _).mono ?_
          rintro e W2 ⟨rfl,b2⟩;refine hK.out _ _ (HX0.out _ ((Ext.refl W1).drew.trans b2)) (fun hHeld=>?_);clear hK K;try go_frame
          refine eu 9 (.agg #[.int .i64 n,.slice none 0 0,.bool dv]) rfl (Or.inl ⟨by kernel_rfl,fun V ⟨s1,s2⟩=>by go_simp⟩) hHeld ?_ (hQ:=je _ _);try go_frame
          refine wpAnyH_ready (rs:=[10]) (by kernel_rfl) (by simp) ?_;refine AllReadyH.cons rfl (fun K hK=>?_) AllReadyH.nil;go_simp;refine hK.out _ _ (HX0.out _ (((Ext.refl W1).drew.trans b2).alloc _)) (fun hHeld=>?_);clear hK K;try go_frame
          have f0:(W2.alloc (.cells #[.int .i64 0,.slice none 0 0,.bool false] 48)).cell? ⟨W2.heap.size,0,none⟩=some (.int .i64 0):=av rfl;have f1:(W2.alloc (.cells #[.int .i64 0,.slice none 0 0,.bool false] 48)).cell? ⟨W2.heap.size,1,none⟩=some (.slice none 0 0):=av rfl;have f2:(W2.alloc (.cells #[.int .i64 0,.slice none 0 0,.bool false] 48)).cell? ⟨W2.heap.size,2,none⟩=some (.bool false):=av rfl;refine wpAnyH_ready (rs:=[11]) (by kernel_rfl) (by simp) ?_;refine AllReadyH.cons rfl (fun K hK=>?_) AllReadyH.nil;go_simp;refine hK.out _ _ (HX0.out _ (((Ext.refl W1).drew.trans b2).alloc _)) (fun hHeld=>?_);clear hK K;try go_frame
          refine wpAnyH_done (by kernel_rfl) ?_ _;exact⟨rfl,W2.heap.size,rfl,heap_alloc_new W2 _,b2.size,((Ext.refl W1).drew.trans b2).alloc _⟩
         ·go_simp;refine hK.out _ _ (HX0.out _ ((Ext.refl W1).drew.alloc _)) (fun hHeld=>?_);clear hK K;try go_frame
          refine wpAnyH_ready (rs:=[4]) (by kernel_rfl) (by simp) ?_;refine AllReadyH.cons rfl (fun K hK=>?_) AllReadyH.nil;go_simp
          refine(Zv.out _).mono ?_
          rintro e W2 ⟨rfl,b2⟩;refine hK.out _ _ (HX0.out _ (((Ext.refl W1).drew.alloc (.cells #[.int .i64 0,.slice none 0 0,.bool false] 48)).trans b2)) (fun hHeld=>?_);clear hK K;try go_frame
          refine eu 9 (.agg #[.int .i64 n,.slice none 0 0,.bool dv]) rfl (Or.inl ⟨by kernel_rfl,fun V ⟨s1,s2⟩=>by go_simp⟩) hHeld ?_ (hQ:=je _ _);try go_frame
          have hg:W2.heap[W1.heap.size]? =some (.cells #[.int .i64 0,.slice none 0 0,.bool false] 48 (0,0)):=uW b2 (heap_alloc_new W1.drew _);obtain⟨f0,f1,f2,ff⟩:=sO hg;have ff0:=ff 0;have ff1:=ff 1;have ff2:=ff 2;have hxx:=((Ext.refl W1).drew.alloc (.cells #[.int .i64 0,.slice none 0 0,.bool false] 48)).trans b2;have hset:(((W2.setCell ⟨W1.heap.size,0,none⟩ (.int .i64 n)).setCell ⟨W1.heap.size,1,none⟩ (.slice none 0 0)).setCell ⟨W1.heap.size,2,none⟩ (.bool dv)).heap[W1.heap.size]? =some (.cells #[.int .i64 n,.slice none 0 0,.bool dv] 48 (0,0)):=by simp[World.setCell,Array.getElem?_modify,hg]
          refine wpAnyH_ready (rs:=[11]) (by kernel_rfl) (by simp) ?_;refine AllReadyH.cons rfl (fun K hK=>?_) AllReadyH.nil;go_simp;refine hK.out _ _ (HX0.out _ (((hxx.setCell (p:=⟨W1.heap.size,0,none⟩) (Nat.le_refl _) _).setCell (p:=⟨W1.heap.size,1,none⟩) (Nat.le_refl _) _).setCell (p:=⟨W1.heap.size,2,none⟩) (Nat.le_refl _) _)) (fun hHeld=>?_);clear hK K;try go_frame
          refine wpAnyH_done (by kernel_rfl) ?_ _;exact⟨rfl,W1.heap.size,rfl,hset,Nat.le_refl _,((hxx.setCell (p:=⟨W1.heap.size,0,none⟩) (Nat.le_refl _) _).setCell (p:=⟨W1.heap.size,1,none⟩) (Nat.le_refl _) _).setCell (p:=⟨W1.heap.size,2,none⟩) (Nat.le_refl _) _⟩
        ·rintro a' WS ⟨q,rfl,hg,hq,hx⟩;simp only[Act.put,List.setIfInBounds_toArray,List.set_cons_zero,List.set_cons_succ];have HG:=aa (And.intro hg hx);clear hg hx hxc hi0 hs1 c0 c1;go_wp2;go_loopw [6] (fun i wr=>Ext W1 wr/\∃m:Nat,2<=m/\m<=ws.length/\i=.int .i64 (m:Int)/\Hid (∃ov os,wr.heap[q]? =some (.cells #[.int .i64 n,ov,.bool dv] 48 (0,0))/\Row 71 3 aj (q+1) wr ov os/\rO (ws.drop 2) os/\os.length+2=m)) (fun i _=>ws.length-(intOf i).toNat)
         case atStart=>exact⟨HG.out.2,2,Nat.le_refl _,by omega,rfl,_,[],HG.out.1,Row.nil,rO.nil _,rfl⟩
         case round=>
          obtain⟨hv,m,hm2,hm,rfl,HI⟩:=hrel;by_cases hlt:m<ws.length
          ·obtain⟨wk,hwk⟩:=af hlt;have ck:wr.cell? ⟨g,m,none⟩=some (.string (tx wk)):=hv.cell (HCC.out m wk hwk);have Uo:=aa (fun W=>OV wk W (Nat.le_trans (HSS.out wk (List.mem_of_getElem? hwk)) hl));obtain⟨zk,oN⟩:∃y,tx wk=y:=⟨_,rfl⟩;rw[oN]at ck Uo;have i1:(m:Int)<(ws.length:Int):=by omega
           have i2:(0:Int)<=(m:Int):=by omega
           cases hr:fD wk with
           | none=>
             have Zy:Hid (∀W,Calls Tryz.prog 45 #[.string zk] W fun e w'=>e=.returned (.tuple #[.agg #[.int .i64 0,.int .i64 0,.int .i64 0],.bool false])/\Ext W w'):=fun W=>by have:=Uo.out W;rw[hr]at this;exact this
             have kg:Hid (dh l=none):=abO (k:=m-2) (by rw[IG.out,Nat.sub_add_cancel hm2];exact hwk) hr;clear oN hwk hr HI hm2;go_wp2_with (go_at_call 45;refine(Zy.out _).mono ?_;rintro e W2 ⟨rfl,b2⟩;have hX:=(hv.trans b2).alloc (.cells #[.int .i64 0,.int .i64 0,.int .i64 0] 71);have t0:=hX.cell T0;have t1:=hX.cell T1;have t2:=hX.cell T2;have tf0:=XH.out _ hX 0;have tf1:=XH.out _ hX 1;have tf2:=XH.out _ hX 2;have Vx:=aa (HB1.out.trans hX))
             obtain⟨y0,y1,y2⟩:=dK (.int .i64 0) (.slice none 0 0) (.bool false) t0 t1 t2;refine bodyPost_ret (v:=.tuple #[.agg #[.int .i64 0,.slice none 0 0,.bool false],.bool false]) (by simp[results,Tryz.results23,go_sem,y0,y1,y2]) rfl ?_;exact Sz.out _ (((Vx.out.setCell (p:=⟨w.heap.size,0,none⟩) (Nat.le_refl _) _).setCell (p:=⟨w.heap.size,1,none⟩) (Nat.le_refl _) _).setCell (p:=⟨w.heap.size,2,none⟩) (Nat.le_refl _) _) kg.out
           | some o=>
             have Rk:Hid (∀W,Calls Tryz.prog 45 #[.string zk] W fun e w'=>e=.returned (.tuple #[.agg #[.int .i64 o.kind,.int .i64 o.key,.int .i64 o.value],.bool true])/\Ext W w'):=fun W=>by have:=Uo.out W;rw[hr]at this;exact this
             obtain⟨ov,os,hg,hrow,hsp,hol⟩:=HI.out;have I9:Hid (rO (ws.drop 2) (os++[o])):=hsp.push (w:=wk) (by rw[List.getElem?_drop,show 2+os.length=m by omega];exact hwk) hr;obtain⟨kd,ky,vl⟩:=o;obtain⟨A5,n5,c5,rfl⟩:=iK hrow;have Iy:=aa (fun W2 (b2:Ext wr W2)=>Xp (W2.heap.size+1) (W:=W2.alloc (.cells #[.int .i64 kd,.int .i64 ky,.int .i64 vl] 71)) (by simp) hv hq hg hrow (b2.alloc _) ⟨kd,ky,vl⟩ (by omega));have HGG:=aa hg;clear oN hwk hr HI hg hrow hsp;go_wp2_with (first|(go_at_call 45;refine(Rk.out _).mono ?_;rintro e W2 ⟨rfl,b2⟩;obtain⟨g0,g1,g2,gf⟩:=sO (uW (b2.alloc (.cells #[.int .i64 kd,.int .i64 ky,.int .i64 vl] 71)) HGG.out);obtain⟨A7,n7,c7,w4,hrun,g41,gf1,f1,f2,f3⟩:=Iy.out W2 b2;have aU:=aa hrun;have HF1:=aa f1;have HF2:=aa (And.intro f2 f3);clear hrun f1 f2 f3 gf)|(at_builtin;refine wpList_append_run rfl rfl rfl rfl aU.out ?_))
             go_roundw;case rel=>exact⟨HF1.out,m+1,by omega,by omega,by go_num,_,_,HF2.out.1,HF2.out.2,I9.out,by rw[List.length_append];simp;omega⟩
             case measure=>simp[intOf];omega
          ·obtain rfl:m=ws.length:=by omega
           obtain⟨ov,os,hg,hrow,hsp,hol⟩:=HI.out;obtain⟨g0,g1,g2,-⟩:=sO hg;have Vb:=qX.out os hsp (by rw[List.length_drop];omega);have HV:=aa (fun W (b:Ext wr W)=>lN ⟨n,os,dv⟩ ov W (hrow.cell.1.ext b) (by simp;omega));have HFV:Hid (bX ⟨n,os,dv⟩=true->∀W9,Ext wr W9->WW w l (.returned (.tuple #[.agg #[.int .i64 n,ov,.bool dv],.bool true])) (((W9.setCell ⟨w.heap.size,0,none⟩ (.int .i64 n)).setCell ⟨w.heap.size,1,none⟩ ov).setCell ⟨w.heap.size,2,none⟩ (.bool dv))):=fun hk W9 b9=>by have aec:w.heap.size<W1.heap.size:=Vq.out;have R3:=(((hrow.ext b9).Cg (a:=⟨w.heap.size,0,none⟩) (show w.heap.size<q+1 by omega) (.int .i64 n)).Cg (a:=⟨w.heap.size,1,none⟩) (show w.heap.size<q+1 by omega) ov).Cg (a:=⟨w.heap.size,2,none⟩) (show w.heap.size<q+1 by omega) (.bool dv);have hE:=Vb.1 hk;exact⟨⟨n,os,dv⟩,ov,by rw[hE];rfl,R3.cell.1,R3.cell.2.mono (by omega),R3.KQ,R3.cap,fun t' e=>by rw[hE]at e;exact Option.some.inj e,(((HB1.out.trans (hv.trans b9)).setCell (p:=⟨w.heap.size,0,none⟩) (Nat.le_refl _) _).setCell (p:=⟨w.heap.size,1,none⟩) (Nat.le_refl _) _).setCell (p:=⟨w.heap.size,2,none⟩) (Nat.le_refl _) _⟩
           have kg:=aa Vb.2;obtain⟨A5,n5,c5,rfl⟩:=iK hrow;clear Vb hg hrow hsp HI
           cases hk:bX ⟨n,os,dv⟩ with
           | false=>
             have adR:Hid (dh l=none):=kg.out hk;go_wp2_with (go_at_call 42;refine(HV.out _ (Ext.refl _)).mono ?_;rw[hk];rintro e W9 ⟨rfl,b9⟩;have hX:=hv.trans b9;have t0:=hX.cell T0;have t1:=hX.cell T1;have t2:=hX.cell T2;have tf0:=XH.out _ hX 0;have tf1:=XH.out _ hX 1;have tf2:=XH.out _ hX 2;have g0:=b9.cell g0;have g1:=b9.cell g1;have g2:=b9.cell g2;have Vx:=aa (HB1.out.trans hX))
             obtain⟨y0,y1,y2⟩:=dK (.int .i64 0) (.slice none 0 0) (.bool false) t0 t1 t2;refine bodyPost_ret (v:=.tuple #[.agg #[.int .i64 0,.slice none 0 0,.bool false],.bool false]) (by simp[results,Tryz.results23,go_sem,y0,y1,y2]) rfl ?_;exact Sz.out _ (((Vx.out.setCell (p:=⟨w.heap.size,0,none⟩) (Nat.le_refl _) _).setCell (p:=⟨w.heap.size,1,none⟩) (Nat.le_refl _) _).setCell (p:=⟨w.heap.size,2,none⟩) (Nat.le_refl _) _) adR.out
           | true=>
             have aex:=aa (HFV.out hk);go_wp2_with (go_at_call 42;refine(HV.out _ (Ext.refl _)).mono ?_;rw[hk];rintro e W9 ⟨rfl,b9⟩;have hX:=hv.trans b9;have t0:=hX.cell T0;have t1:=hX.cell T1;have t2:=hX.cell T2;have tf0:=XH.out _ hX 0;have tf1:=XH.out _ hX 1;have tf2:=XH.out _ hX 2;have g0:=b9.cell g0;have g1:=b9.cell g1;have g2:=b9.cell g2;have Vx:=aa (HB1.out.trans hX))
             obtain⟨y0,y1,y2⟩:=dK (.int .i64 n) (.slice A5 n5 c5) (.bool dv) t0 t1 t2;refine bodyPost_ret (v:=.tuple #[.agg #[.int .i64 n,.slice A5 n5 c5,.bool dv],.bool true]) (by simp[results,Tryz.results23,go_sem,y0,y1,y2]) rfl ?_;exact aex.out _ b9
      ·have kg:Hid (dh l=none):=YF (by rw[IG.out];exact HH1.out) (fun e=>hmk (.inl e)) (fun e=>hmk (.inr e));have q1:(ZE.toList==[111,107])=false:=by rw[ht1,beq_eq_false_iff_ne];exact fun e=>hmk (.inl e)
       have q2:(ZE.toList==[111,102,102])=false:=by rw[ht1,beq_eq_false_iff_ne];exact fun e=>hmk (.inr e)
       subst ha;clear ht1 hmk TD TF hcc hxc hs1;go_wp2;obtain⟨y0,y1,y2⟩:=dK (.int .i64 0) (.slice none 0 0) (.bool false) T0 T1 T2;refine bodyPost_ret (v:=.tuple #[.agg #[.int .i64 0,.slice none 0 0,.bool false],.bool false]) (by simp[results,Tryz.results23,go_sem,y0,y1,y2]) rfl ?_;exact Sz.out _ (((HB1.out.setCell (p:=⟨w.heap.size,0,none⟩) (Nat.le_refl _) _).setCell (p:=⟨w.heap.size,1,none⟩) (Nat.le_refl _) _).setCell (p:=⟨w.heap.size,2,none⟩) (Nat.le_refl _) _) kg.out
     ·have kg:Hid (dh l=none):=R7 (by rw[IG.out];exact HH0.out) (.inr (by simp;exact fun e=>ha (TD.2 e)));have q0:(an != 115)=true:=by simp[ha]
      clear ht1 TD TF hcc hxc hs1 ha;go_wp2;obtain⟨y0,y1,y2⟩:=dK (.int .i64 0) (.slice none 0 0) (.bool false) T0 T1 T2;refine bodyPost_ret (v:=.tuple #[.agg #[.int .i64 0,.slice none 0 0,.bool false],.bool false]) (by simp[results,Tryz.results23,go_sem,y0,y1,y2]) rfl ?_;exact Sz.out _ (((HB1.out.setCell (p:=⟨w.heap.size,0,none⟩) (Nat.le_refl _) _).setCell (p:=⟨w.heap.size,1,none⟩) (Nat.le_refl _) _).setCell (p:=⟨w.heap.size,2,none⟩) (Nat.le_refl _) _) kg.out
  ·have kg:Hid (dh l=none):=R7 (by rw[IG.out];exact HH0.out) (.inl hl2);have q0:((((tx w0).size:Nat):Int) != 2)=true:=by rw[hs0];simp;omega
   obtain⟨zw0,hz0⟩:∃y,tx w0=y:=⟨_,rfl⟩;rw[hz0]at c0 q0;clear hs0 hz0 hl2 TF hcc hw0 hw1 c1;go_wp2;obtain⟨y0,y1,y2⟩:=dK (.int .i64 0) (.slice none 0 0) (.bool false) T0 T1 T2;refine bodyPost_ret (v:=.tuple #[.agg #[.int .i64 0,.slice none 0 0,.bool false],.bool false]) (by simp[results,Tryz.results23,go_sem,y0,y1,y2]) rfl ?_;exact Sz.out _ (((HB1.out.setCell (p:=⟨w.heap.size,0,none⟩) (Nat.le_refl _) _).setCell (p:=⟨w.heap.size,1,none⟩) (Nat.le_refl _) _).setCell (p:=⟨w.heap.size,2,none⟩) (Nat.le_refl _) _) kg.out
