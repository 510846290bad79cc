/- Lemmas. -/
import Derived.Test.YtomkjlklninhpaaGreatDoorKAU
import Derived.ProofKit
import Derived.OpenShut
import Derived.Deep.Slices
import Derived.Deep.Fields
import Derived.ChangeSame
import Derived.ChangeOld
import Derived.Lib.SmallJoins
import Derived.SliceStrings
import Derived.LaidLaws
import Derived.Lib.LaidU8
import Derived.LaidSub
import Derived.Shelf.Vars
import Derived.Handed
set_option maxHeartbeats 16000000
set_option maxRecDepth 8000
set_option linter.all false
namespace Go.Proofs.YtomkjlklninhpaaGreatDoor
open Go.RowKit
def En(w:World)(v:Value)(h:List aA):Prop:=∃rs:List iX,rs.length=h.length/\aF 3 iT w v rs/\∀(i:Nat) r t,rs[i]? =some r->h[i]? =some t->r.az=t.az/\r.done=t.done/\aF 3 aj w r.aY t.ops
theorem En.ext{w w':World}{v:Value}{h:List aA}(H:En w v h)(hb:Ext w w'):En w' v h:=let ⟨rs,a,b,c⟩:=H;⟨rs,a,b.ext hb,fun i r t hr ht=>let ⟨x,y,z⟩:=c i r t hr ht;⟨x,y,z.ext hb⟩⟩
theorem En.slice{w:World}{v:Value}{h:List aA}(H:En w v h):∃A c,v=.slice A h.length c:=by obtain⟨rs,h1,⟨A,c,rfl,_⟩,_⟩:=H;exact⟨A,c,by rw[h1]⟩
theorem En.head{w:World}{A:Option Addr}{n c:Nat}{h:List aA}(H:En w (.slice A n c) h)(hn:0<h.length) :
 ∃b off,A=some ⟨b,off,none⟩/\b<w.heap.size/\∀(k:Nat) t,h[k]? =some t->∃ov,w.cell? ⟨b,off+k*3,none⟩=some (.int .i64 t.az)/\w.cell? ⟨b,off+k*3+1,none⟩=some ov/\w.cell? ⟨b,off+k*3+2,none⟩=some (.bool t.done)/\aF 3 aj w ov t.ops:=by
 obtain⟨rs,h1,⟨A',c',hA,hc⟩,h3⟩:=H;injection hA with e1 e2 e3;subst e1;obtain⟨b,off,hb,hlt,hc⟩:=hc (by omega);refine⟨b,off,hb,hlt,fun k t ht=>?_⟩;obtain⟨r,hr⟩:=af (show k<rs.length by rw[h1];exact(List.getElem?_eq_some_iff.1 ht).1);obtain⟨x,y,z⟩:=h3 k r t hr ht;exact⟨r.aY,by rw[<-x];exact hc k r hr 0 (by omega),hc k r hr 1 (by omega),by rw[<-y];exact hc k r hr 2 (by omega),z⟩
theorem oC{lo:Nat}{X:Nat->Prop}{w w':World}{u:Value}(h:Own lo w u)(k:bH X w w')(hx:∀a n c,u=.slice (some a) n c->0<n->¬X a.block):Own lo w' u:=fun a n c hu hn=>by obtain⟨h1,h2,h3⟩:=h a n c hu hn;exact⟨h1,Nat.lt_of_lt_of_le h2 k.size,fun i=>(k.frozen (p:=⟨a.block,i,none⟩) h2 (hx a n c hu hn)).trans (h3 i)⟩
theorem ZI{w:World}{B:Nat}{a b c:Value}{T:TypeId}(hg:w.heap[B]? =some (.cells #[a,b,c] T (0,0))):w.cell? ⟨B,0,none⟩=some a/\w.cell? ⟨B,1,none⟩=some b/\w.cell? ⟨B,2,none⟩=some c/\∀j,w.frozen? ⟨B,j,none⟩=false:=
 ⟨by simp[World.cell?,hg],by simp[World.cell?,hg],by simp[World.cell?,hg],fun j=>by simp[World.frozen?,hg]⟩
theorem BM{w w':World}{k:Nat}{o:Obj}(hb:Ext w w')(h:w.heap[k]? =some o):w'.heap[k]? =some o:=(Below.block hb _ (Array.getElem?_eq_some_iff.1 h).1).trans h
theorem TM{v:Value}{ops:List aQ}(s:Int)(d:Bool)(w:World)(h:aF 3 aj w v ops)(hlen:ops.length<=2097152) :
 Calls Tryz.prog 33 #[.agg #[.int .i64 s,v,.bool d]] w fun e w'=>∃ov,e=.returned (.agg #[.int .i64 s,ov,.bool d])/\aF 3 aj w' ov ops/\Own w.heap.size w' ov/\qL ov/\Ext w w':=by
 obtain⟨A,c,rfl,_⟩:=id h;have HT:=aa (fun W (b:Ext w W)=>TI W (h.ext b) hlen);clear h hlen;go_enter Tryz.func33,Tryz.ntmps33;go_wp2_with fail
 have A2:(((w.alloc (.cells #[.int .i64 s,.slice A ops.length c,.bool d] 41)).alloc (.cells #[.int .i64 0,.slice none 0 0,.bool false] 48)).alloc (.cells #[.int .i64 s,.slice none 0 0,.bool false] 48)).cell? ⟨w.heap.size,2,none⟩=some (.bool d):=(((Ext.refl (w.alloc (.cells #[.int .i64 s,.slice A ops.length c,.bool d] 41))).alloc _).alloc _).cell (av rfl);have hw3:Ext w (((w.alloc (.cells #[.int .i64 s,.slice A ops.length c,.bool d] 41)).alloc (.cells #[.int .i64 0,.slice none 0 0,.bool false] 48)).alloc (.cells #[.int .i64 s,.slice none 0 0,.bool false] 48)):=(((Ext.refl w).alloc _).alloc _).alloc _;have B1:=BM ((Ext.refl ((w.alloc (.cells #[.int .i64 s,.slice A ops.length c,.bool d] 41)).alloc (.cells #[.int .i64 0,.slice none 0 0,.bool false] 48))).alloc (.cells #[.int .i64 s,.slice none 0 0,.bool false] 48)) (heap_alloc_new (w.alloc (.cells #[.int .i64 s,.slice A ops.length c,.bool d] 41)) (.cells #[.int .i64 0,.slice none 0 0,.bool false] 48));have B2:=heap_alloc_new ((w.alloc (.cells #[.int .i64 s,.slice A ops.length c,.bool d] 41)).alloc (.cells #[.int .i64 0,.slice none 0 0,.bool false] 48)) (.cells #[.int .i64 s,.slice none 0 0,.bool false] 48);simp only[World.size_alloc]at B1 B2;have HC:=HT.out _ hw3;have hn:w.heap.size<=(((w.alloc (.cells #[.int .i64 s,.slice A ops.length c,.bool d] 41)).alloc (.cells #[.int .i64 0,.slice none 0 0,.bool false] 48)).alloc (.cells #[.int .i64 s,.slice none 0 0,.bool false] 48)).heap.size:=hw3.size;obtain⟨W,hW⟩:∃W,(((w.alloc (.cells #[.int .i64 s,.slice A ops.length c,.bool d] 41)).alloc (.cells #[.int .i64 0,.slice none 0 0,.bool false] 48)).alloc (.cells #[.int .i64 s,.slice none 0 0,.bool false] 48))=W:=⟨_,rfl⟩;rw[hW]at A2 B1 B2 hw3 HC hn ⊢;have HC:=aa HC;have HN:=aa hn;obtain⟨q,hq⟩:∃q,w.heap.size=q:=⟨_,rfl⟩;have HQ:=aa hq;rw[hq]at A2 B1 B2 ⊢;generalize hq2:q+1+1=q2 at B2 ⊢;generalize hq1:q+1=q1 at B1 ⊢;have n1:q≠q1:=by omega
 have n2:q≠q2:=by omega
 have n3:q1≠q2:=by omega
 have n4:q1≠q:=by omega
 have n5:q2≠q:=by omega
 have n6:q2≠q1:=by omega
 have Zc:Hid (w.heap.size<=q1):=by show _<=_;omega
 have HL2:Hid (w.heap.size<=q2):=by show _<=_;omega
 have HL3:Hid (q1<W.heap.size/\q2<W.heap.size):=by show _/\_;rw[<-hW];simp only[World.size_alloc];omega
 clear hq2 hq1 hq hn HT hW;refine HC.out.mono ?_;rintro e w1 ⟨ov,rfl,hs1,ho1,hc1,b1⟩;obtain⟨B,cb,rfl,_⟩:=id hs1;have a2:=b1.cell A2;obtain⟨x0,x1,x2,xf⟩:=ZI (BM b1 B1);obtain⟨y0,y1,y2,yf⟩:=ZI (BM b1 B2);have f1:=yf 1;have f2:=yf 2;have g0:=xf 0;have g1:=xf 1;have g2:=xf 2;have uJ:=aa hs1;have ZH:=aa ho1;have Xe:=aa hc1;have HW1:=aa (hw3.trans b1);clear hs1 ho1 hc1 b1 A2 B1 B2 xf yf hw3;go_wp2;refine bodyPost_ret (v:=.agg #[.int .i64 s,.slice B ops.length cb,.bool d]) (by simp[results,Tryz.results33,go_sem,x0,x1,x2,n1,n2,n3,n4,n5,n6]) rfl ?_;have fx:=(((((bH.refl (fun k=>k=q1∨k=q2) w1).setCell (p:=⟨q2,1,none⟩) (.inl (.inr rfl)) (.slice B ops.length cb)).setCell (p:=⟨q2,2,none⟩) (.inl (.inr rfl)) (.bool d)).setCell (p:=⟨q1,0,none⟩) (.inl (.inl rfl)) (.int .i64 s)).setCell (p:=⟨q1,1,none⟩) (.inl (.inl rfl)) (.slice B ops.length cb)).setCell (p:=⟨q1,2,none⟩) (.inl (.inl rfl)) (.bool d);have nx:∀a n c,(Value.slice B ops.length cb)=.slice (some a) n c->0<n->¬(a.block=q1∨a.block=q2):=fun a n c e hn e'=>by have:=(ZH.out a n c e hn).1;have:=HL3.out;omega
 exact⟨_,rfl,uJ.out.frX fx nx,oC (ZH.out.mono HN.out) fx nx,Xe.out,((((HW1.out.setCell (p:=⟨q2,1,none⟩) HL2.out _).setCell (p:=⟨q2,2,none⟩) HL2.out _).setCell (p:=⟨q1,0,none⟩) Zc.out _).setCell (p:=⟨q1,1,none⟩) Zc.out _).setCell (p:=⟨q1,2,none⟩) Zc.out _⟩
theorem Oj{α:Type}{m:Nat}{enc:α->Nat->Value}{g N:Nat}{xs:List α}{w:World}(h:cZ m enc g N xs xs.length w)(y:α):cZ m enc g N (xs++[y]) xs.length w:=
 ⟨h.1,fun i x hi hx j hj=>h.2 i x hi (by rwa [List.getElem?_append_left hi]at hx) j hj⟩
theorem He{v:Value}{h:List aA}(w:World)(H:En w v h)(hlen:h.length<=2097152)(hM:∀t∈h,t.ops.length<=2097152) :
 Calls Tryz.prog 7 #[v] w (qj w h):=by
 obtain⟨A,c,rfl⟩:=H.slice;have HH:=aa H;have HM:=aa hM;have hmk:=jV (P:=Tryz.prog) 24 48 Tryz.underlying24 mq h.length (by omega) (by omega);clear H hM;go_enter Tryz.func7,Tryz.ntmps7;go_wp2;go_loopw [4] (fun i wr=>Ext w wr/\∃k:Nat,k<=h.length/\i=.int .i64 k/\Hid (∃rs:List iX,rs.length=k/\cZ 3 iT w.heap.size (h.length*3) rs rs.length wr/\(∀(i:Nat) r t,rs[i]? =some r->h[i]? =some t->Bu wr r t/\Own (w.heap.size+1) wr r.aY)/\∀(i j:Nat) r r',i<j->rs[i]? =some r->rs[j]? =some r'->Apart r.aY r'.aY)) (fun i _=>h.length-(intOf i).toNat)
 case atStart=>exact⟨(Ext.refl _).alloc _,0,Nat.zero_le _,rfl,[],rfl,cZ.start _ _ (size_madeCells _ _),fun i r t hr=>(by simp at hr),fun i j r r' _ hr=>(by simp at hr)⟩
 case round=>
  obtain⟨hb,k,hk,rfl,HI⟩:=hrel;clear hmk;by_cases hlt:k<h.length
  ·obtain⟨b,off,rfl,hbl,hc⟩:=HH.out.head (by omega);obtain⟨t,ht⟩:=af hlt;obtain⟨ov,x0,x1,x2,xs⟩:=hc k t ht;obtain⟨B,cb,rfl,_⟩:=id xs;have c0:=hb.cell x0;have c1:=hb.cell x1;have c2:=hb.cell x2;obtain⟨rs,hrl,hf,hrows,hap⟩:=HI.out;have hlast:w.heap.size+1<=wr.heap.size:=by have:=hf.1.lt;omega
   obtain⟨u0,g0⟩:∃u,wr.cell? ⟨w.heap.size,k*3,none⟩=some u:=hf.1.cell (by omega);obtain⟨u1,g1⟩:∃u,wr.cell? ⟨w.heap.size,k*3+1,none⟩=some u:=hf.1.cell (by omega);obtain⟨u2,g2⟩:∃u,wr.cell? ⟨w.heap.size,k*3+2,none⟩=some u:=hf.1.cell (by omega);have HQ:=aa (TM t.az t.done wr (xs.ext hb) (HM.out t (List.mem_of_getElem? ht)));have HT:=aa ht;have HF:=aa hf;have nV:=aa hrows;have HAP:=aa hap;have HLA:=aa hlast;have HRL:=aa hrl;clear ht hc x0 x1 x2 xs hf hrows hap HI hlast hrl;go_wp2_with (go_at_call 33;refine HQ.out.mono ?_;rintro e w1 ⟨ov,rfl,hs1,ho1,hc1,hb1⟩;(
    obtain⟨B1,cb1,rfl,_⟩:=id hs1;have G0:=hb1.cell g0;have F0:w1.frozen? ⟨w.heap.size,k*3,none⟩=false:=(HF.out.1.ext hb1).free _;have G1:=hb1.cell g1;have F1:w1.frozen? ⟨w.heap.size,k*3+1,none⟩=false:=(HF.out.1.ext hb1).free _;have G2:=hb1.cell g2;have F2:w1.frozen? ⟨w.heap.size,k*3+2,none⟩=false:=(HF.out.1.ext hb1).free _;have uJ:=aa hs1;have ZH:=aa ho1;have Xe:=aa hc1;clear hs1 ho1 hc1))
   go_roundw;case rel=>
    have hf1:=HF.out.ext hb1;have hrl:=HRL.out;have hN:(k+1)*3<=h.length*3:=by omega
    have hx:Ext w w1:=hb.trans hb1;refine⟨(((hx.setCell (p:=⟨w.heap.size,k*3,none⟩) (Nat.le_refl _) _).setCell (p:=⟨w.heap.size,k*3+1,none⟩) (Nat.le_refl _) _).setCell (p:=⟨w.heap.size,k*3+2,none⟩) (Nat.le_refl _) _),k+1,by omega,by go_num,rs++[⟨t.az,.slice B1 t.ops.length cb1,t.done⟩],by simp[hrl],?_,?_,?_⟩
    ·have h1:=Oj hf1 (⟨t.az,.slice B1 t.ops.length cb1,t.done⟩:iX);rw[hrl]at h1;have h2:=cZ.next (cZ.set (j:=2) (by omega) (cZ.set (j:=1) (by omega) (cZ.set (j:=0) (by omega) (h1.bF ⟨t.az,.slice B1 t.ops.length cb1,t.done⟩) hN) hN) hN) (by rw[<-hrl];simp);rw[List.length_append,hrl];exact h2
    ·intro i r t' hr ht';have fx:=(((bH.refl (fun q=>q=w.heap.size) w1).setCell (p:=⟨w.heap.size,k*3,none⟩) (.inl rfl) (.int .i64 t.az)).setCell (p:=⟨w.heap.size,k*3+1,none⟩) (.inl rfl) (.slice B1 t.ops.length cb1)).setCell (p:=⟨w.heap.size,k*3+2,none⟩) (.inl rfl) (.bool t.done);rw[List.getElem?_append]at hr;split at hr
     ·obtain⟨a,b⟩:=nV.out i r t' hr ht';have nx:∀a n c,r.aY=.slice (some a) n c->0<n->¬a.block=w.heap.size:=fun x n c e hn e'=>by have:=(b x n c e hn).1;omega
      exact⟨⟨a.1,a.2.1,(a.2.2.1.ext hb1).frX fx nx,a.2.2.2⟩,oC (b.ext hb1) fx nx⟩
     ·rename_i hi;have hi1:=(List.getElem?_eq_some_iff.1 hr).1;simp at hi1;obtain rfl:i=k:=by omega
      rw[show i-rs.length=0 by omega]at hr;simp at hr;subst hr;rw[HT.out]at ht';cases ht';have ho:=ZH.out.mono HLA.out;have nx:∀a n c,(Value.slice B1 t.ops.length cb1)=.slice (some a) n c->0<n->¬a.block=w.heap.size:=fun x n c e hn e'=>by have:=(ho x n c e hn).1;omega
      exact⟨⟨rfl,rfl,uJ.out.frX fx nx,Xe.out⟩,oC ho fx nx⟩
    ·intro i j r r' hij hr hr';rw[List.getElem?_append]at hr hr';split at hr'
     ·rw[if_pos (by omega)]at hr;exact HAP.out i j r r' hij hr hr'
     ·rename_i hj;have hj1:=(List.getElem?_eq_some_iff.1 hr').1;simp at hj1;rw[show j-rs.length=0 by omega]at hr';simp at hr';subst hr';rw[if_pos (by omega)]at hr;obtain⟨t1,ht1⟩:=af (show i<h.length by omega);exact aF.apart (nV.out i r t1 hr ht1).1.2.2.1 ZH.out
   case measure=>simp[intOf];omega
  ·obtain rfl:k=h.length:=by omega
   have HI2:=aa HI.out;clear HI;go_wp2;go_returns;obtain⟨rs,hrl,hf,hrows,hap⟩:=HI2.out;have hd:=hf.done h.length;have ho:=hf.1.own (Nat.le_refl _) 0 h.length h.length;rw[hrl]at hd;refine⟨_,rs,rfl,⟨hrl,hd,fun i r t hr ht=>(hrows i r t hr ht).1⟩,⟨ho,fun i r hr=>?_,hap⟩,hb⟩;obtain⟨t,ht⟩:=af (show i<h.length by rw[<-hrl];exact(List.getElem?_eq_some_iff.1 hr).1)
   have:=(hrows i r t hr ht).2
   refine⟨this.mono (by omega),fun a n c a' n' c' e e' hn hn' he=>?_⟩;have h1:=(this _ _ _ e' hn').1;cases e;simp only at he;omega
theorem Um{v v':Value}{ops:List aQ}(s:Int)(d:Bool)(w:World)(h:aF 3 aj w v ops)(h':aF 3 aj w v' ops)(hlen:ops.length<=2097152) :
 Calls Tryz.prog 37 #[.agg #[.int .i64 s,v,.bool d],.agg #[.int .i64 s,v',.bool d]] w fun e w'=>e=.returned (.bool true)/\Ext w w':=by
 obtain⟨A,c,rfl,_⟩:=id h;obtain⟨A',c',rfl,_⟩:=id h';have HE:=aa (fun W (b:Ext w W)=>SG W (h.ext b) (h'.ext b) hlen);clear h h' hlen;go_enter Tryz.func37,Tryz.ntmps37;go_wp2_with (go_at_call 77;refine(HE.out _ (((Ext.refl _).alloc _).alloc _)).mono ?_;rintro e w1 ⟨rfl,b1⟩;have b2:=(((Ext.refl w).alloc _).alloc _).trans b1;have e2:w1.cell? ⟨w.heap.size,2,none⟩=some (.bool d):=b1.cell (((Ext.refl _).alloc _).cell (av rfl));have f2:w1.cell? ⟨w.heap.size+1,2,none⟩=some (.bool d):=b1.cell (fT (by simp) rfl))
 go_returns;exact⟨rfl,b2⟩
theorem uq{v v':Value}{h:List aA}(w:World)(H:gL w v h)(H':gL w v' h)(hlen:h.length<=2097152)(hM:∀t∈h,t.ops.length<=2097152) :
 Calls Tryz.prog 9 #[v,v'] w fun e w'=>e=.returned (.bool true)/\Ext w w':=by
 obtain⟨A,c,rfl⟩:=H.slice;obtain⟨A',c',rfl⟩:=H'.slice;have HH:=aa H;have HH':=aa H';have HM:=aa hM;clear H H' hM;go_enter Tryz.func9,Tryz.ntmps9;go_wp2;go_loopw [5] (fun i wr=>Ext w wr/\∃k:Nat,k<=h.length/\i=.int .i64 k) (fun i _=>h.length-(intOf i).toNat)
 case atStart=>exact⟨Ext.refl _,0,Nat.zero_le _,rfl⟩
 case round=>
  obtain⟨hb,k,hk,rfl⟩:=hrel;by_cases hlt:k<h.length
  ·obtain⟨b,off,rfl,hbl,hc⟩:=HH.out.head (by omega);obtain⟨b',off',rfl,pg,hc'⟩:=HH'.out.head (by omega);obtain⟨t,ht⟩:=af hlt;obtain⟨ov,x0,x1,x2,xs⟩:=hc k t ht;obtain⟨ov',y0,y1,y2,ys⟩:=hc' k t ht;obtain⟨B,cb,rfl,_⟩:=id xs;obtain⟨B',cb',rfl,_⟩:=id ys;have c0:∀e,(over wr e).cell? ⟨b,off+k*3,none⟩=some (.int .i64 t.az):=aG (hb.cell x0);have c1:∀e,(over wr e).cell? ⟨b,off+k*3+1,none⟩=some (.slice B t.ops.length cb):=aG (hb.cell x1);have c2:∀e,(over wr e).cell? ⟨b,off+k*3+2,none⟩=some (.bool t.done):=aG (hb.cell x2);have d0:∀e,(over wr e).cell? ⟨b',off'+k*3,none⟩=some (.int .i64 t.az):=aG (hb.cell y0);have d1:∀e,(over wr e).cell? ⟨b',off'+k*3+1,none⟩=some (.slice B' t.ops.length cb'):=aG (hb.cell y1);have d2:∀e,(over wr e).cell? ⟨b',off'+k*3+2,none⟩=some (.bool t.done):=aG (hb.cell y2);have HQ:=aa (fun e=>Um t.az t.done (over wr e) (xs.ext (hb.trans (vN _ _))) (ys.ext (hb.trans (vN _ _))) (HM.out t (List.mem_of_getElem? ht)));clear ht hc hc' x0 x1 x2 xs y0 y1 y2 ys;go_wp2;refine aO (by kernel_rfl) (by kernel_rfl) ?_;repeat (go_big_quiet_step ((go_at_call 37;exact lq (HQ.out _))))
   refine wpQuiet_nil ?_;intro w1 hb1;go_wp2;go_roundw;case rel=>exact⟨hb.trans hb1,k+1,by omega,by go_num⟩
   case measure=>simp[intOf];omega
  ·go_wp2;go_returns;exact⟨rfl,hb⟩
theorem Ju(s:Int)(d:Bool)(A:Option Addr)(n c:Nat)(left:Int)(w:World)(hn:n<=9223372036854775807)(h0:0<=left)(h1:left<=1048576) :
 Calls Tryz.prog 19 #[.agg #[.int .i64 s,.slice A n c,.bool d],.int .i64 left] w fun e w'=>e=.returned (.int .i64 (if (n:Int)<=left then left-n else -1))/\Ext w w':=by
 by_cases h:(n:Int)<=left
 ·have HZ:=aa (fun W=>JB A n c left W hn h0 h1);rw[if_pos h]at HZ ⊢;have hx:0<=left-n:=by omega
  obtain⟨y,hy⟩:∃y,left-n=y:=⟨_,rfl⟩;rw[hy]at HZ hx ⊢;clear hy h;go_enter Tryz.func19,Tryz.ntmps19;go_wp2_with (go_at_call 41;refine(HZ.out _).mono ?_;rintro e w1 ⟨rfl,rfl⟩)
  go_returns;exact⟨rfl,(Ext.refl _).alloc _⟩
 ·have HZ:=aa (fun W=>JB A n c left W hn h0 h1);rw[if_neg h]at HZ ⊢;clear h;go_enter Tryz.func19,Tryz.ntmps19;go_wp2_with (go_at_call 41;refine(HZ.out _).mono ?_;rintro e w1 ⟨rfl,rfl⟩)
  go_returns;exact⟨rfl,(Ext.refl _).alloc _⟩
theorem Hu{v:Value}{h:List aA}(left:Int)(w:World)(H:En w v h)(hlen:h.length<=9223372036854775807)(hM:∀t∈h,t.ops.length<=9223372036854775807)(h0:0<=left)(h1:left<=1048576) :
 Calls Tryz.prog 5 #[v,.int .i64 left] w fun e w'=>e=.returned (.int .i64 (if ((h.length+kW h:Nat):Int)<=left then left-((h.length+kW h:Nat):Int) else -1))/\Ext w w':=by
 obtain⟨A,c,rfl⟩:=H.slice;have HH:=aa H;have HM:=aa hM;obtain⟨R,hR⟩:∃R,(if ((h.length+kW h:Nat):Int)<=left then left-((h.length+kW h:Nat):Int) else -1)=R:=⟨_,rfl⟩;rw[hR];have HR:=aa hR;clear H hM hR;by_cases hl:(h.length:Int)<=left
 ·go_enter Tryz.func5,Tryz.ntmps5;go_wp2;go_loopw [1,5] (fun a i wr=>Ext w wr/\∃k:Nat,k<=h.length/\i=.int .i64 k/\a=.int .i64 (left-h.length-(kW (h.take k):Int))/\0<=left-h.length-(kW (h.take k):Int)) (fun _ i _=>h.length-(intOf i).toNat)
  case atStart=>exact⟨Ext.refl _,0,Nat.zero_le _,rfl,by simp[kW],by simp[kW];omega⟩
  case round=>
   obtain⟨hb,k,hk,rfl,rfl,hge⟩:=hrel;by_cases hlt:k<h.length
   ·obtain⟨b,off,rfl,hbl,hc⟩:=HH.out.head (by omega);obtain⟨t,ht⟩:=af hlt;obtain⟨ov,x0,x1,x2,xs⟩:=hc k t ht;obtain⟨B,cb,rfl,_⟩:=id xs;have c0:=hb.cell x0;have c1:=hb.cell x1;have c2:=hb.cell x2;have hn:=HM.out t (List.mem_of_getElem? ht);have HN:=aa (TY ht);have HT:=aa ht;obtain⟨y,hy⟩:∃y,left-h.length-(kW (h.take k):Int)=y:=⟨_,rfl⟩;have HY:=aa hy;rw[hy]at hge ⊢;have hyl:y<=1048576:=by omega
    clear ht hc x0 x1 x2 xs hy;by_cases hok:(t.ops.length:Int)<=y
    ·have HZ:=aa (fun W=>Ju t.az t.done B t.ops.length cb y W hn hge hyl);rw[if_pos hok]at HZ;obtain⟨z,hz⟩:∃z,y-t.ops.length=z:=⟨_,rfl⟩;have hz0:0<=z:=by omega
     rw[hz]at HZ;have HZE:=aa hz;clear hz hok;go_wp2_with (go_at_call 19;refine(HZ.out _).mono ?_;rintro e w1 ⟨rfl,b1⟩)
     go_roundw;case rel=>exact⟨hb.trans b1,k+1,by omega,by go_num,by rw[HN.out];have:=HZE.out;have:=HY.out;congr 1;omega,by rw[HN.out];have:=HZE.out;have:=HY.out;omega⟩
     case measure=>simp[intOf];omega
    ·have HZ:=aa (fun W=>Ju t.az t.done B t.ops.length cb y W hn hge hyl);rw[if_neg hok]at HZ;have kg:Hid (¬((h.length+kW h:Nat):Int)<=left):=fun e=>by
      have h2:kW (h.take (k+1))<=kW h:=qD _ _ _
      have:=HN.out
      have:=HY.out
      omega
     clear hok;go_wp2_with (go_at_call 19;refine(HZ.out _).mono ?_;rintro e w1 ⟨rfl,b1⟩)
     go_returns;exact⟨aX (by rw[<-HR.out,if_neg (by have:=kg.out;omega)]),hb.trans b1⟩
   ·obtain rfl:k=h.length:=by omega
    rw[List.take_length]at hge ⊢;have HO:Hid (((h.length+kW h:Nat):Int)<=left):=by show _<=_;omega
    have HE:Hid (left-h.length-(kW h:Int)=left-((h.length+kW h:Nat):Int)):=by show _ = _;omega
    obtain⟨y,hy⟩:∃y,left-h.length-(kW h:Int)=y:=⟨_,rfl⟩;rw[hy]at HE ⊢;clear hy;go_wp2;go_returns;exact⟨aX (by rw[<-HR.out,if_pos HO.out,<-HE.out]),hb⟩
 ·have hno:¬((h.length+kW h:Nat):Int)<=left:=by omega
  have hr:=HR.out;rw[if_neg hno]at hr;subst hr;clear hno;go_enter Tryz.func5,Tryz.ntmps5;go_wp2;go_returns;exact⟨rfl,Ext.refl _⟩
theorem Only.frX{v:Value}{X:Nat->Prop}{w w':World}(h:Only v w w')(hX:∀a n c,v=.slice (some a) n c->0<n->X a.block):bH X w w':=
 ⟨h.os,h.tape,h.output,h.size,fun k hk hx=>h.block k hk (fun a n c hv hn e=>hx (e▸hX a n c hv hn))⟩
theorem JU{α:Type}{m:Nat}{enc:α->Nat->Value}{w:World}{b off n c:Nat}{xs:List α}(h:aF m enc w (.slice (some ⟨b,off,none⟩) n c) xs){k j:Nat}(hk:k<xs.length)(hj:j<m)(x':α)(hx:∀x,xs[k]? =some x->∀i,i<m->i≠j->enc x' i=enc x i) :
 aF m enc (w.setCell ⟨b,off+k*m+j,none⟩ (enc x' j)) (.slice (some ⟨b,off,none⟩) n c) (xs.set k x'):=by
 obtain⟨A',c',e,hc⟩:=h;injection e with e1 e2 e3;subst e1 e2 e3;refine⟨_,_,by rw[List.length_set],fun hn=>?_⟩;rw[List.length_set]at hn;obtain⟨b',off',e,hbl,hc⟩:=hc hn;injection e with e;injection e with e1 e2;subst e1 e2;refine⟨b,off,rfl,by simpa[World.setCell] using hbl,fun i z hz q hq=>?_⟩;rw[List.getElem?_set]at hz;by_cases hi:k=i
 ·subst hi;rw[if_pos rfl,if_pos hk]at hz;cases hz;obtain⟨x,hx0⟩:=af hk;by_cases hqj:q=j
  ·subst hqj;exact dx (hc k x hx0 q hq) _
  ·rw[au (by intro e;injection e with _ e _;omega),hc k x hx0 q hq,hx x hx0 q hq hqj]
 ·rw[if_neg hi]at hz;rw[au (by
   intro e;injection e with _ e _;rcases Nat.lt_or_gt_of_ne hi with hlt|hlt
   ·have:=Nat.mul_le_mul_right m hlt
    rw[Nat.succ_mul]at this;omega
   ·have:=Nat.mul_le_mul_right m hlt
    rw[Nat.succ_mul]at this
    omega)]
  exact hc i z hz q hq
theorem TV{lo:Nat}{w:World}{v:Value}{rs rs':List iX}(O:iZ lo w v rs)(h:∀(i:Nat) r',rs'[i]? =some r'->∃r,rs[i]? =some r/\r.aY=r'.aY):iZ lo w v rs':=
 ⟨O.1,fun i r' hr=>by
  obtain⟨r,h1,h2⟩:=h i r' hr;rw[<-h2];exact O.2.1 i r h1,fun i j r1 r2 hij h1 h2=>by
  obtain⟨s1,a1,b1⟩:=h i r1 h1;obtain⟨s2,a2,b2⟩:=h j r2 h2;rw[<-b1,<-b2];exact O.2.2 i j s1 s2 hij a1 a2⟩
theorem Ur{lo b off n c k:Nat}{w0 w2:World}{rs:List iX}{h:List aA}{r:iX}{ops':List aQ}{s:Int}{d:Bool}(H:jI w0 (.slice (some ⟨b,off,none⟩) n c) rs h)(O:iZ lo w0 (.slice (some ⟨b,off,none⟩) n c) rs)(hr:rs[k]? =some r)(hn:0<n)
 (h2:aF 3 aj w2 r.aY ops') (q:Only r.aY (w0.setCell ⟨b,off+k*3,none⟩ (.int .i64 s)) w2) :
 jI (w2.setCell ⟨b,off+k*3+2,none⟩ (.bool d)) (.slice (some ⟨b,off,none⟩) n c) (rs.set k ⟨s,r.aY,d⟩) (h.set k ⟨s,ops',d⟩)/\iZ lo (w2.setCell ⟨b,off+k*3+2,none⟩ (.bool d)) (.slice (some ⟨b,off,none⟩) n c) (rs.set k ⟨s,r.aY,d⟩):=by
 have hk:=(List.getElem?_eq_some_iff.1 hr).1;have q0:Only (.slice (some ⟨b,off,none⟩) n c) w0 (w0.setCell ⟨b,off+k*3,none⟩ (.int .i64 s)):=Only.setCell (a:=⟨b,off,none⟩) hn _ _;have q3:Only (.slice (some ⟨b,off,none⟩) n c) w2 (w2.setCell ⟨b,off+k*3+2,none⟩ (.bool d)):=Only.setCell (a:=⟨b,off,none⟩) hn _ _;have hap:=(O.2.1 k r hr).2;have e1:=JU (j:=0) H.2.1 hk (by omega) (⟨s,r.aY,r.done⟩:iX) (fun x hx i hi hne=>by
  rw[hr]at hx;cases hx
  match i,hi with
  | 0,_=>exact absurd rfl hne
  | 1,_=>rfl
  | 2,_=>rfl)
 have e2:=aF.only (w:=w0.setCell ⟨b,off+k*3,none⟩ (.int .i64 s)) e1 q hap;have e3:=JU (j:=2) e2 (k:=k) (by simpa using hk) (by omega) (⟨s,r.aY,d⟩:iX) (fun x hx i hi hne=>by
  rw[List.getElem?_set_self hk]at hx;cases hx
  match i,hi with
  | 0,_=>rfl
  | 1,_=>rfl
  | 2,_=>exact absurd rfl hne)
 rw[List.set_set]at e3;refine⟨⟨by simpa using H.1,e3,fun i x t hx ht=>?_⟩,TV (((O.only q0).only q).only q3) (fun i x hx=>?_)⟩
 ·rw[List.getElem?_set]at hx ht;have hkh:k<h.length:=H.1▸hk;by_cases e:k=i
  ·subst e;rw[if_pos rfl,if_pos hk]at hx;rw[if_pos rfl,if_pos hkh]at ht;cases hx;cases ht;obtain⟨t0,ht0⟩:=af hkh;exact⟨rfl,rfl,h2.only q3 hap.symm,(H.2.2 k r t0 hr ht0).2.2.2⟩
  ·rw[if_neg e]at hx ht;obtain⟨a1,a2,a3,a4⟩:=H.2.2 i x t hx ht;have ax:=(O.2.1 i x hx).2.symm;have ay:Apart x.aY r.aY:=by
    rcases Nat.lt_or_gt_of_ne e with hlt|hlt
    ·exact(O.2.2 k i r x hlt hr hx).symm
    ·exact O.2.2 i k x r hlt hx hr
   exact⟨a1,a2,((a3.only q0 ax).only q ay).only q3 ax,a4⟩
 ·rw[List.getElem?_set]at hx;by_cases e:k=i
  ·subst e;rw[if_pos rfl,if_pos hk]at hx;cases hx;exact⟨r,hr,rfl⟩
  ·rw[if_neg e]at hx;exact⟨x,hx,rfl⟩
theorem pJ{v:Value}{h:List aA}{rs:List iX}{lo:Nat}{X:Nat->Prop}(k0:Nat)(w:World)(H:jI w v rs h)(O:iZ lo w v rs)(hvX:∀a n c,v=.slice (some a) n c->0<n->X a.block)(hoX:∀(i:Nat) r,rs[i]? =some r->∀a n c,r.aY=.slice (some a) n c->0<n->X a.block)(hlen:h.length<=2097152)(hM:∀t∈h,t.ops.length<=2097152)(hk0:k0+lK h<=1073741824) :
 Calls Tryz.prog 10 #[v,.int .i64 (k0:Int)] w fun e w'=>e=.returned (.int .i64 ((k0+lK h:Nat):Int))/\(∃rs',jI w' v rs' (sw k0 h)/\iZ lo w' v rs')/\bH X w w':=by
 obtain⟨A,c,rfl⟩:=gL.slice ⟨rs,H⟩;have HM:=aa hM;have HVX:=aa hvX;have HOX:=aa hoX;have HS:Hid (∃rs',jI w (.slice A h.length c) rs' (nA k0 h 0)/\iZ lo w (.slice A h.length c) rs'/\∀(i:Nat) r',rs'[i]? =some r'->∃r,rs[i]? =some r/\r.aY=r'.aY):=by show ∃rs',_;rw[MB];exact⟨rs,H,O,fun i r' hr=>⟨r',hr,rfl⟩⟩
 clear H O hM hvX hoX;go_enter Tryz.func10,Tryz.ntmps10;go_wp2;go_loopw [1,5] (fun a i wr=>bH X w wr/\∃k:Nat,k<=h.length/\i=.int .i64 k/\∃y:Nat,a=.int .i64 (y:Int)/\Hid (k0+lK (h.take k)=y)/\Hid (∃rs',jI wr (.slice A h.length c) rs' (nA k0 h k)/\iZ lo wr (.slice A h.length c) rs'/\∀(i:Nat) r',rs'[i]? =some r'->∃r,rs[i]? =some r/\r.aY=r'.aY)) (fun _ i _=>h.length-(intOf i).toNat)
 case atStart=>exact⟨bH.refl _ _,0,Nat.zero_le _,rfl,k0,rfl,rfl,HS.out⟩
 case round=>
  obtain⟨hb,k,hk,rfl,y,rfl,HY,HI⟩:=hrel;by_cases hlt:k<h.length
  ·obtain⟨t,ht⟩:=af hlt;obtain⟨rs',hR,hO,hsame⟩:=HI.out;have htk:=UA (k:=k0) ht;obtain⟨r,hr⟩:=af (show k<rs'.length by rw[hR.1,QJ _ _ _ hk];exact hlt);obtain⟨r0,hr0,hro⟩:=hsame k r hr;obtain⟨a1,a2,a3,a4⟩:=hR.2.2 k r t hr htk;obtain⟨_,_,e,hc⟩:=hR.2.1;injection e with e1 e2 e3;subst e1 e3;obtain⟨b,off,rfl,hbl,hc⟩:=hc (by omega);have c0:=hc k r hr 0 (by omega);have c1:=hc k r hr 1 (by omega);have c2:=hc k r hr 2 (by omega);have hfr:=(hO.1 _ _ _ rfl (by omega)).2.2;have hn0:0<h.length:=by omega
   have q0:∀u,Only (.slice (some ⟨b,off,none⟩) h.length c) wr (wr.setCell ⟨b,off+k*3,none⟩ u):=fun u=>Only.setCell (a:=⟨b,off,none⟩) hn0 _ _;have hap:=(hO.2.1 k r hr).2;have hown:=(hO.2.1 k r hr).1;have hle:k0+lK (h.take (k+1))<=1073741824:=by have:lK (h.take (k+1))<=lK h:=qD _ _ _;omega
   rw[wR ht]at hle;have HN:=aa (wR ht);have HMN:=aa (Og (k:=k0) ht);rw[HY.out]at HMN;have hyl:y+2+t.ops.length*3<=1073741824:=by have:=HY.out;unfold Ef at hle;omega
   have hoq:=HOX.out k r0 hr0;have hvq:=HVX.out;rw[hro]at hoq;have yX:=aa (fun(w2:World) (h2:aF 3 aj w2 r.aY (iD (y+1) t.ops.length)) (q:Only r.aY (wr.setCell ⟨b,off+k*3,none⟩ (.int .i64 (y:Int))) w2)=>Ur (d:=(((y:Int)+1)%3==0)) hR hO hr hn0 h2 q);have Nz:=aa hsame;have ady:=aa (fun(w2:World) (q:Only r.aY (wr.setCell ⟨b,off+k*3,none⟩ (.int .i64 (y:Int))) w2) (u:Value)=>((hb.trans ((q0 (.int .i64 (y:Int))).frX hvq)).trans (q.frX hoq)).setCell (p:=⟨b,off+k*3+2,none⟩) (.inl (show X b from hvq ⟨b,off,none⟩ _ _ rfl hn0)) u);have UZ:=aa (fun(w2:World) (q:Only r.aY (wr.setCell ⟨b,off+k*3,none⟩ (.int .i64 (y:Int))) w2)=>q.cell (p:=⟨b,off+k*3+2,none⟩) (fun a n c' e hn e'=>hap _ _ _ _ _ _ rfl e hn0 hn e'.symm) ((au (by intro e;injection e with _ e _;omega) _).trans c2));have HF2:=aa (fun(w2:World) (q:Only r.aY (wr.setCell ⟨b,off+k*3,none⟩ (.int .i64 (y:Int))) w2)=>((hO.only (q0 (.int .i64 (y:Int)))).only q).1);have HRR:=aa hr;have hs1:=a3.only (q0 (.int .i64 (y:Int))) hap.symm;have ho1:=hown.only (q0 (.int .i64 (y:Int)));have Xu:=aa (NV (wr.setCell ⟨b,off+k*3,none⟩ (.int .i64 (y:Int))) (y+1) hs1 ho1 (HM.out t (List.mem_of_getElem? ht)) (by omega));obtain⟨ro,afZ⟩:∃ro,r.aY=ro:=⟨_,rfl⟩;have F0:wr.frozen? ⟨b,off+k*3,none⟩=false:=hfr _;simp only[iT,Nat.add_zero]at c0 c1;obtain⟨B,cb,ace,_⟩:=id a3;rw[ace]at c1 Xu yX ady UZ HF2;have HT:Hid (y+Ef t=y+1+t.ops.length*3+1):=by show _ = _;unfold Ef;omega
   have HMT:Hid (markT y t=⟨(y:Int),iD (y+1) t.ops.length,(((y:Int)+1)%3==0)⟩):=by show _ = _;unfold markT;rw[show ((y+1+t.ops.length*3:Nat):Int)%3=((y:Int)+1)%3 by omega]
   clear e2 c2 hs1 ho1 hr hap hown hoq hvq hR hO hsame htk hr0 hro a1 a2 a3 a4 hc hfr q0 ht hle HI;go_wp2_with (go_at_call 38;refine Xu.out.mono ?_;rintro e w2 ⟨rfl,hs2,q2⟩;(
    have G2:=UZ.out _ q2;have F2:w2.frozen? ⟨b,off+k*3+2,none⟩=false:=(HF2.out _ q2).rC hn0 _;have HST:=aa (yX.out _ hs2 q2);have HFX:=aa (ady.out _ q2);clear hs2 q2))
   go_roundw;case rel=>exact⟨HFX.out _,k+1,by omega,by go_num,y+1+t.ops.length*3+1,by go_num,by show _ = _;have:=HY.out;have:=HN.out;have:=HT.out;omega,by
    show ∃afK,_;rw[HMN.out,HMT.out];refine⟨_,HST.out.1,HST.out.2,fun i r' hr'=>?_⟩;rw[List.getElem?_set]at hr';by_cases e:k=i
    ·subst e;rw[if_pos rfl]at hr';split at hr'
     ·cases hr';obtain⟨r0,h1,h2⟩:=Nz.out k r HRR.out;exact⟨r0,h1,h2.trans ace⟩
     ·cases hr'
    ·rw[if_neg e]at hr';exact Nz.out i r' hr'⟩
   case measure=>simp[intOf];omega
  ·obtain rfl:k=h.length:=by omega
   obtain⟨rs',hR,hO,_⟩:=HI.out;rw[Pp]at hR;have hy:=HY.out;rw[List.take_length]at hy;subst hy;have HR2:=aa (And.intro hR hO);clear hR hO HI;go_wp2;go_returns;exact⟨rfl,⟨rs',HR2.out.1,HR2.out.2⟩,hb⟩
theorem AJ{v:Value}(h:List aA)(k0:Nat)(w:World)(H:gL w v (sw k0 h))(hlen:h.length<=2097152)(hM:∀t∈h,t.ops.length<=2097152)(hk0:k0+lK h<=1073741824) :
 Calls Tryz.prog 11 #[v,.int .i64 (k0:Int)] w fun e w'=>e=.returned (.int .i64 ((k0+lK h:Nat):Int))/\Ext w w':=by
 obtain⟨A,c,rfl⟩:=H.slice;rw[kX]at H ⊢;have HH:=aa H;have HM:=aa hM;have HML:=aa (kX k0 h);clear H hM;go_enter Tryz.func11,Tryz.ntmps11;go_wp2;go_loopw [1,5] (fun a i wr=>Ext w wr/\∃k:Nat,k<=h.length/\i=.int .i64 k/\∃y:Nat,a=.int .i64 (y:Int)/\Hid (k0+lK (h.take k)=y)) (fun _ i _=>h.length-(intOf i).toNat)
 case atStart=>exact⟨Ext.refl _,0,Nat.zero_le _,rfl,k0,rfl,rfl⟩
 case round=>
  obtain⟨hb,k,hk,rfl,y,rfl,HY⟩:=hrel;by_cases hlt:k<h.length
  ·obtain⟨t,ht⟩:=af hlt;obtain⟨b,off,rfl,hbl,hc⟩:=HH.out.head (by rw[HML.out];omega);obtain⟨ov,x0,x1,x2,xs⟩:=hc k _ (Fz k0 h k t ht);have hle:k0+lK (h.take (k+1))<=1073741824:=by have:lK (h.take (k+1))<=lK h:=qD _ _ _;omega
   rw[wR ht]at hle;have HN:=aa (wR ht);rw[HY.out]at x0 x2 xs;have c0:=hb.cell x0;have c1:=hb.cell x1;have c2:=hb.cell x2;simp only[markT]at c0 c1 c2 xs;have hyl:y+2+t.ops.length*3<=1073741824:=by have:=HY.out;unfold Ef at hle;omega
   have HO:=aa (fun W (bb:Ext w W)=>Oa W (y+1) t.ops.length (xs.ext bb) (HM.out t (List.mem_of_getElem? ht)) (by omega));obtain⟨B,cb,rfl,_⟩:=id xs;rw[LV]at c1 HO;have HT:Hid (y+Ef t=y+1+t.ops.length*3+1):=by show _ = _;unfold Ef;omega
   clear ht hc x0 x1 x2 xs hle;go_wp2_with (go_at_call 39;refine(HO.out _ hb).mono ?_;rintro e w1 ⟨rfl,b1⟩;have d2:=b1.cell c2)
   go_roundw;case rel=>exact⟨hb.trans b1,k+1,by omega,by go_num,y+1+t.ops.length*3+1,by go_num,by show _ = _;have:=HY.out;have:=HN.out;have:=HT.out;omega⟩
   case measure=>simp[intOf];omega
  ·obtain rfl:k=h.length:=by omega
   have hy:=HY.out;rw[List.take_length]at hy;subst hy;go_wp2;go_returns;exact⟨rfl,hb⟩
section
open Go.RowKit Go.ChangeShapes Go.WideShapes Go.Deep
theorem GH{α:Type}{m:Nat}{enc:α->Nat->Value}{W:World}{a:Addr}{len:Nat}(cap:Nat)(p:α->Prop)(hm:0<m)(h:∀i,i<len->∃x:α,p x/\∀j,j<m->W.cell? (a.add (i*m+j))=some (enc x j)) :
 ∃xs:List α,xs.length=len/\aF m enc W (.slice (some a) len cap) xs/\∀x∈xs,p x:=by
 have h':∃f:Fin len->α,∀i:Fin len,p (f i)/\∀j,j<m->W.cell? (a.add (i.1*m+j))=some (enc (f i) j):=
  ⟨fun i=>Classical.choose (h i.1 i.2),fun i=>Classical.choose_spec (h i.1 i.2)⟩
 obtain⟨f,hpf⟩:=h';have hf:=fun i=>(hpf i).2;refine⟨List.ofFn f,by simp,⟨some a,cap,by simp,fun hn=>?_⟩,fun x hx=>by
  obtain⟨i,rfl⟩:=List.mem_ofFn.1 hx
  exact(hpf i).1⟩
 simp at hn;have h0:=hf ⟨0,hn⟩ 0 hm;have hs:a.spot=none:=by
  rw[show (0*m+0)=0 by omega]at h0;simp only[Addr.add,if_true]at h0
  cases hsp:a.spot with
  | none=>rfl
  | some s=>simp[World.cell?,hsp]at h0;split at h0<;>cases h0
 obtain⟨b,off,sp⟩:=a;subst hs;have hadd:∀n,(⟨b,off,none⟩:Addr).add n=⟨b,off+n,none⟩:=fun n=>by
  unfold Addr.add;split
  ·rename_i h;rw[h];rfl
  ·rfl
 refine⟨b,off,rfl,?_,fun i x hx j hj=>?_⟩
 ·rw[hadd]at h0;rcases Nat.lt_or_ge b W.heap.size with h|h
  ·exact h
  ·simp[World.cell?,Array.getElem?_eq_none h]at h0
 ·have hi:i<len:=by have:=(List.getElem?_eq_some_iff.1 hx).1;simpa using this
  have:=hf ⟨i,hi⟩ j hj
  rw[hadd,<-Nat.add_assoc]at this;rw[this];rw[List.getElem?_ofFn]at hx;simp[hi]at hx;rw[hx]
section
variable{H:Type}{enc:TypeId × Value->H}{P:Program}{w:World}{base:Nat}{spare:Nat->Bool}{held:Bool}
theorem qO{t e:TypeId}{fs:Array Field}{fuel:Nat}{cs:List Value}{x:DataW H × List MemPlace}(ht:P.underlying t=some (.slice e))(he:P.underlying e=some (.struct fs))
 (hone:oneCellFields P fs=true) (hC:P.cellsOf e=fs.size) (h:DataW.trod enc P w base spare held fuel t cs=some x) :
 (cs=[.slice none 0 0]/\x=(.nil,[])) ∨
 ∃(a:Addr) (len cap m:Nat) (D:Nat->DataW H) (Pl:Nat->List MemPlace),cs=[.slice (some a) len cap]/\base<=a.block/\len<=cap/\cap<=maxLen/\m=(if spare a.block then cap else len) /\
  x=(.slice ((List.range len).map D) ((List.range (m-len)).map fun j=>D (len+j)),MemPlace.row a (m*fs.size)++(List.range m).flatMap Pl) /\
  ∀i,i<m->∃(ys:List (DataW H × List MemPlace)) (n:Nat),D i=.agg (ys.map (·.1))/\Pl i=ys.flatMap (·.2)/\ys.length=fs.size /\
   ∀(j:Nat) (f:Field),fs[j]? =some f->∃(v:Value) (y:DataW H × List MemPlace),w.cell? (a.add (i*fs.size+j))=some v/\ys[j]? =some y/\DataW.trod enc P w base spare held n f.type [v]=some y:=by
 rcases open_slice ht h with h0|⟨a,len,cap,m,n,D,Pl,hcs,hb,hl,hm,hmm,hx,hi⟩
 ·exact .inl h0
 ·refine .inr ⟨a,len,cap,m,D,Pl,hcs,hb,hl,hm,hmm,by rw[hC]at hx;exact hx,fun i him=>?_⟩;obtain⟨cs',hc,ht'⟩:=hi i him;rw[hC]at hc;obtain⟨ys,n',hn',hy,hlen,hyl,hf⟩:=DataW.trod_struct he ht';obtain⟨_,hcl,hat⟩:=World.cells?_some hc;simp only[Prod.mk.injEq]at hy;refine⟨ys,n',hy.1,hy.2,hyl,fun j f hj=>?_⟩;obtain⟨ho,hk⟩:=hone_of hone j f hj;have hjl:j<fs.size:=(Array.getElem?_eq_some_iff.1 hj).1;have hcell:=hat j hjl;have hv:cs'[j]? =some (cs'[j]'(by omega)):=List.getElem?_eq_getElem (by omega);have h1:=hf j f hj;rw[ho,hk]at h1;have hone':(cs'.drop j).take 1=[cs'[j]'(by omega)]:=by rw[List.drop_eq_getElem_cons (by omega)];rfl
  rw[hone']at h1;have hys:ys[j]? =some (ys[j]'(by omega)):=List.getElem?_eq_getElem (by omega);refine⟨_,_,?_,hys,h1.trans hys⟩;rw[<-Go.Deep.add_add,hcell,hv]
end
theorem Xg{H:Type}{enc:TypeId × Value->H}{W:World}{fuel:Nat}{v:Value}{x:DataW H × List MemPlace}(hf:DataW.trod enc Tryz.prog W 0 (fun _=>true) true fuel 39 [v]=some x) :
 ∃xs:List aQ,aF 3 aj W v xs/\xs.length<=9223372036854775807:=by
 rcases qO Tryz.underlying39 Tryz.underlying120 (by kernel_rfl) (by kernel_rfl) hf with ⟨hcs,_⟩|⟨a,n,cp,m,D,Pl,hcs,_,hl,hm,hmm,_,hi⟩
 ·simp at hcs;subst hcs;exact⟨[],aF.nil _ _ _ _ _,by simp⟩
 ·simp at hcs;subst hcs;simp only[if_true]at hmm;subst hmm;obtain⟨xs,hlen,hs,_⟩:=GH (α:=aQ) (m:=3) (enc:=aj) (W:=W) (a:=a) (len:=n) m (fun _=>True) (by omega) (fun i hin=>by
   obtain⟨ys,k,_,_,_,hfd⟩:=hi i (by omega);obtain⟨v0,y0,hc0,_,ht0⟩:=hfd 0 _ rfl;obtain⟨n0,e0,_⟩:=DataW.trod_int Tryz.underlying3 ht0;cases e0;obtain⟨v1,y1,hc1,_,ht1⟩:=hfd 1 _ rfl;obtain⟨n1,e1,_⟩:=DataW.trod_int Tryz.underlying3 ht1;cases e1;obtain⟨v2,y2,hc2,_,ht2⟩:=hfd 2 _ rfl;obtain⟨n2,e2,_⟩:=DataW.trod_int Tryz.underlying3 ht2;cases e2;refine⟨⟨n0,n1,n2⟩,trivial,fun j hj=>?_⟩
   match j,hj with
   | 0,_=>exact hc0
   | 1,_=>exact hc1
   | 2,_=>exact hc2)
  exact⟨xs,hs,by simp only[maxLen]at hm;omega⟩
theorem Dc{Q:iX->List aQ->Prop}:∀xs:List iX,(∀x∈xs,∃ops,Q x ops)->∃h:List aA,xs.length=h.length/\∀(i:Nat) r t,xs[i]? =some r->h[i]? =some t->r.az=t.az/\r.done=t.done/\Q r t.ops
 | [],_=>⟨[],rfl,fun i r t hr=>by simp at hr⟩
 | x :: xs,hx=>by
   obtain⟨ops,ho⟩:=hx x (by simp);obtain⟨h,hl,hh⟩:=Dc xs (fun y hy=>hx y (by simp[hy]));refine⟨⟨x.az,ops,x.done⟩ :: h,by simp[hl],fun i r t hr ht=>?_⟩
   match i with
   | 0=>
     cases hr;cases ht;exact⟨rfl,rfl,ho⟩
   | i+1=>exact hh i r t (by simpa using hr) (by simpa using ht)
theorem Ji{H:Type}{enc:TypeId × Value->H}{W:World}{a:Option Addr}{n c:Nat}{d:DataW H}{p:List MemPlace}(h:DataW.Trod enc Tryz.prog W 0 (fun _=>true) true 22 (.slice a n c) d p) :
 ∃h:List aA,En W (.slice a n c) h/\h.length<=9223372036854775807/\∀t∈h,t.ops.length<=9223372036854775807:=by
 obtain⟨fuel,hf⟩:=h;rcases qO Tryz.underlying22 Tryz.underlying41 (by kernel_rfl) (by kernel_rfl) hf with ⟨hcs,_⟩|⟨x,l,cp,m,D,Pl,hcs,_,hl,hm,hmm,_,hi⟩
 ·simp[Value.cells]at hcs;obtain⟨rfl,rfl,rfl⟩:=hcs;exact⟨[],⟨[],rfl,aF.nil _ _ _ _ _,fun i r t hr=>by simp at hr⟩,by simp,fun t ht=>by cases ht⟩
 ·simp[Value.cells]at hcs;obtain⟨rfl,rfl,rfl⟩:=hcs;simp only[if_true]at hmm;subst hmm;obtain⟨xs,hlen,hs,hp⟩:=GH (α:=iX) (m:=3) (enc:=iT) (W:=W) (a:=x) (len:=n) m (fun r=>∃ops,aF 3 aj W r.aY ops/\ops.length<=9223372036854775807) (by omega) (fun i hin=>by
   obtain⟨ys,k,_,_,_,hfd⟩:=hi i (by omega);obtain⟨v0,y0,hc0,_,ht0⟩:=hfd 0 _ rfl;obtain⟨n0,e0,_⟩:=DataW.trod_int Tryz.underlying3 ht0;cases e0;obtain⟨v1,y1,hc1,_,ht1⟩:=hfd 1 _ rfl;obtain⟨v2,y2,hc2,_,ht2⟩:=hfd 2 _ rfl;obtain⟨n2,e2,_⟩:=DataW.trod_bool Tryz.underlying4 ht2;cases e2;refine⟨⟨n0,v1,n2⟩,Xg ht1,fun j hj=>?_⟩
   match j,hj with
   | 0,_=>exact hc0
   | 1,_=>exact hc1
   | 2,_=>exact hc2)
  obtain⟨h,hhl,hh⟩:=Dc xs hp;refine⟨h,⟨xs,hhl,hs,fun i r t hr ht=>let ⟨a,b,c⟩:=hh i r t hr ht;⟨a,b,c.1⟩⟩,by simp only[maxLen]at hm;omega,fun t ht=>?_⟩;obtain⟨i,hi1,hi2⟩:=List.getElem_of_mem ht;obtain⟨r,hr⟩:=af (show i<xs.length by omega)
  exact(hh i r t hr (by rw[List.getElem?_eq_getElem hi1,hi2])).2.2.2
theorem OD{laid:List (String × DataW Unit)}{W:World}{nm name:String}{d:DataW Unit}{g:Nat}{t:TypeId}{ms:Array (String × TypeId)}(hp:(laid.all fun x=>x.2.handleName?.isNone)=true)(hm:(nm,(DataW.iface name d:DataW Unit))∈laid)(h:laidMetH Tryz.prog laid W)
 (hg:Tryz.prog.globalNamed nm=some g) (ht:(Tryz.prog.globals[g]?).map (·.type)=some t) (hi:Tryz.prog.underlying t=some (.interface ms)):∃te pe,W.cell? ⟨g,0,none⟩=some (.iface te pe):=by
 have h1:=(laidMetH_iff.1 h).1;have h2:(nm,(DataW.iface name d:DataW Unit))∈laid.filter fun x=>x.2.handleName?.isNone:=List.mem_filter.2 ⟨hm,List.all_eq_true.1 hp _ hm⟩;obtain⟨g',t',cs,fuel,p,hg',hty,hvar,hd⟩:=Lib.laidMet.reads h1 h2;obtain rfl:=Option.some.inj (hg.symm.trans hg');obtain rfl:=Option.some.inj (ht.symm.trans hty);obtain⟨_,u,v,hcs,_⟩:=iface_of_trod hi hd;refine⟨u,v,?_⟩;rw[World.var?_cell hg' hvar 0,<-Array.getElem?_toList,hcs];rfl
theorem CE{laid:List (String × DataW Unit)}{W:World}(hp:(laid.all fun x=>x.2.handleName?.isNone)=true)(hm1:("strconv.ErrSyntax",Rows.laid_strconv_ErrSyntax)∈laid) (hm2:("strconv.ErrRange",Rows.laid_strconv_ErrRange)∈laid) (h:laidMetH Tryz.prog laid W) (hsh:W.ShapedOpen Tryz.prog):Env W where
 max:=cell_of_shapedOpen_int (P:=Tryz.prog) (g:=0) (t:=3) (zero:=#[.int .i64 0]) hsh (of_decide_eq_true (by kernel_rfl)) (by kernel_rfl) rfl (by kernel_rfl) (by kernel_rfl) Tryz.underlying3
 syn:=OD (g:=2) (t:=144) hp hm1 h (by kernel_rfl) (by kernel_rfl) Tryz.underlying144
 rng:=OD (g:=3) (t:=144) hp hm2 h (by kernel_rfl) (by kernel_rfl) Tryz.underlying144
theorem qm{H:Type}{enc:TypeId × Value->H}{a:Assume}{C:Checked}{os:Os}{f:FuncId}{fn:Func}{s:ChangeSpec}{conds:List PathCond}{apart fresh handsOn again:Bool}{X:World->Array Value->Prop}
 (hX:∀(w w':World) (args:Array Value),w.heap=w'.heap->X w args->X w' args)
 (own:ownKnob C.prog.godebug=none) (started:os.Started) (noInit:C.prog.inits.idxOf? f=none) (hfn:C.prog.funcs[f]? =some fn)
 (witness:∃(w:World) (tape:Tape) (i:Input),w.os=os/\(w.forCall tape i).Shaped C.prog/\i.vars=[]/\Input.okWide C.prog (w.forCall tape i) .any w.heap.size f i /\
  ((s.pre enc C.prog fn conds apart (w.forCall tape i).memory i.args/\X (w.forCall tape i).memory i.args)/\sizedMet enc C.prog fn (OpenSpec.ofChange s) apart (w.forCall tape i).memory i.args)/\a.holds C.prog (lone (Frame.enter C.prog f i.args .normal) [] (w.forCall tape i)))
 (contract:∀(W:World) (base:Nat) (args:Array Value) (ds gs:List (DataW H)) (before:List MemPlace),
  (∀(j:Nat) t v,fn.params[j]? =some t->args[j]? =some v->Value.okWide C.prog W .any base t v) ->
  DataW.Whole enc C.prog fn.params.toList s.vars apart W args.toList ds gs before ->
  X W args->W.ShapedOpen C.prog ->
  Calls C.prog f args W fun e W'=>∃v,e=.returned v/\s.post enc C.prog fn apart fresh handsOn again W args v W') :
 ReturnsInHanded a C os f .any (fun w args=>(s.pre enc C.prog fn conds apart w args/\X w args)/\sizedMet enc C.prog fn (OpenSpec.ofChange s) apart w args) (s.post enc C.prog fn apart fresh handsOn again):=by
 refine returnsInHanded_of_calls own started noInit witness ?_;intro w tape i _ hsh _ hok hpre hholds;obtain⟨_,_,_,fn',hfn',_,_,_,_,hval⟩:=hok;have e:fn'=fn:=Option.some.inj (hfn'.symm.trans hfn);subst e;obtain⟨⟨⟨ds,gs,before,hw,hc⟩,hx⟩,hz⟩:=hpre;have hw':=DataW.Whole.of_heap (w':=w.forCall tape i) (by rfl) hw
 refine(contract (w.forCall tape i) w.heap.size i.args ds gs before hval hw' (hX _ _ _ (by rfl) hx) hsh).mono fun e W' ⟨v,he,hp⟩=>?_
 subst he;exact ChangeSpec.post_blind hp
theorem MX:ownKnob Tryz.prog.godebug=none:=by kernel_rfl
theorem z8:laidOutB Tryz.prog=true:=by kernel_rfl
end
