/- Lemmas. -/
import Derived.Test.YtcdopfdgknglfaaGreatDoorCAI
set_option maxHeartbeats 16000000
set_option maxRecDepth 8000
set_option linter.all false
namespace Go.Proofs.YtcdopfdgknglfaaGreatDoor
open Go.RowKit
theorem OE{α β:Type}{l:List α}{k:Nat}{x:α}{f:α->Option β}(hx:l[k]? =some x)(hn:(l.take k).findSome? f=none):∀o,f x=some o->l.findSome? f=some o:=λo ho=>by rw[zH hx,List.findSome?_append,hn,List.findSome?_cons,ho];rfl
theorem zJ{α β:Type}{l:List α}{k:Nat}{x:α}{f:α->Option β}(hx:l[k]? =some x)(hn:(l.take k).findSome? f=none)(h:f x=none):(l.take (k+1)).findSome? f=none:=by rw[aj hx,List.findSome?_append,hn,List.findSome?_cons,h];rfl
theorem BC(cur:List Nat)(n m:Nat):(cur++[n]).contains m=(cur.contains m || decide (n=m)):=by rw[lH];simp only[List.contains_eq_mem,iR,wE,eG,qo];exact⟨λh=>h.elim .inl (λe=>.inr e.symm),λh=>h.elim .inl (λe=>.inr e.symm)⟩
theorem Oy{α:Type}{m:Nat}{enc:α->Nat->Value}{w:World}{u:Value}{xs:List α}(h:aI m enc w u xs):∀a n c,u=.slice (some a) n c->0<n->a.block<w.heap.size:=λa n c hu hn=>by obtain⟨A,c',hA,h⟩:=h;rw[hA]at hu;injection hu with h1 h2 h3;obtain⟨b,off,hb,hlt,_⟩:=h (by omega);rw[hb]at h1;injection h1 with h1;rw[<-h1];exact hlt
def lU(h:List aF)(all:List Nat)(f:Nat)(s:jk)(order:List Nat)(n:Nat):Option (List Nat):=
 if order.contains n then none else (follow s (J2 h n)).bind λs'=>dfs h all f s' (order++[n])
theorem Ai(h:List aF)(all:List Nat)(f:Nat)(s:jk)(order:List Nat):dfs h all (f+1) s order=all.findSome? (lU h all f s order):=rfl
def XS(OB FB KB:Nat)(v:Value)(k:Nat):Prop:=k=OB∨k=FB∨k=KB∨v.ownBlock=some k
structure uw (w0:World) (hv wz:Value) (OB AB CB WB HB SB FB KB:Nat) (W:World):Prop where
 old:Ext w0 W
 a:Boxed W AB 56 wz
 c:Boxed W CB 189 (.func (.func 173) #[] #[.pointer (some ⟨FB,0,none⟩),.pointer (some ⟨KB,0,none⟩)])
 x:Boxed W WB 143 (.func (.func 130) #[] #[])
 hh:Boxed W HB 23 hv
 s:Boxed W SB 220 (.func (.func 211) #[] #[.pointer (some ⟨OB,0,none⟩),.pointer (some ⟨AB,0,none⟩),.pointer (some ⟨CB,0,none⟩),.pointer (some ⟨WB,0,none⟩),.pointer (some ⟨HB,0,none⟩),.pointer (some ⟨SB,0,none⟩)])
structure LV (lo OB AB CB WB HB SB FB KB bo:Nat):Prop where
 a:¬(AB=OB∨AB=FB∨AB=KB)
 c:¬(CB=OB∨CB=FB∨CB=KB)
 x:¬(WB=OB∨WB=FB∨WB=KB)
 hh:¬(HB=OB∨HB=FB∨HB=KB)
 s:¬(SB=OB∨SB=FB∨SB=KB)
 of:OB≠FB
 ok:OB≠KB
 fk:FB≠KB
 lo:lo<=OB/\lo<=FB/\lo<=KB/\lo<=bo
theorem vW{W:World}{OB FB KB B bo:Nat}{T:TypeId}{u v:Value}{cur:List Nat}(hr:Row 3 1 (one jE) bo W v cur)(hB:Boxed W B T u)(hT:T≠3)(hn:¬(B=OB∨B=FB∨B=KB)):¬XS OB FB KB v B:=λh=>by
 rcases h with h|h|h|h
 ·exact hn (.inl h)
 ·exact hn (.inr (.inl h))
 ·exact hn (.inr (.inr h))
 ·exact Boxed.not_row hB hT hr h.symm
theorem uw.frX{w0:World}{hv wz:Value}{OB AB CB WB HB SB FB KB bo:Nat}{W W':World}{v:Value}{cur:List Nat}(h:uw w0 hv wz OB AB CB WB HB SB FB KB W)(xU:LV w0.heap.size OB AB CB WB HB SB FB KB bo)(hr:Row 3 1 (one jE) bo W v cur)(k:bF (XS OB FB KB v) W W'):uw w0 hv wz OB AB CB WB HB SB FB KB W' where
 old:=k.out h.old (λi hi=>by
  obtain⟨l1,l2,l3,l4⟩:=xU.lo;rcases hi with e|e|e|e
  ·omega
  ·omega
  ·omega
  ·exact aR l4 (hr.block i e))
 a:=k.heap h.a (vW hr h.a (by decide) xU.a)
 c:=k.heap h.c (vW hr h.c (by decide) xU.c)
 x:=k.heap h.x (vW hr h.x (by decide) xU.x)
 hh:=k.heap h.hh (vW hr h.hh (by decide) xU.hh)
 s:=k.heap h.s (vW hr h.s (by decide) xU.s)
theorem uw.ext{w0:World}{hv wz:Value}{OB AB CB WB HB SB FB KB:Nat}{W W':World}(h:uw w0 hv wz OB AB CB WB HB SB FB KB W)(k:Ext W W'):uw w0 hv wz OB AB CB WB HB SB FB KB W':=
 ⟨h.old.trans k,aC h.a k,aC h.c k,aC h.x k,aC h.hh k,aC h.s k⟩
theorem bF.boxed{X:Nat->Prop}{w w':World}{B:Nat}{T:TypeId}{v:Value}(h:bF X w w')(hB:Boxed w B T v)(hx:¬X B):Boxed w' B T v:=h.heap hB hx
theorem iw{α:Type}{e:TypeId}{m:Nat}{enc:α->Nat->Value}{base:Nat}{X:Nat->Prop}{W W':World}{v:Value}{xs:List α}(h:Row e m enc base W v xs)(k:bF X W W')(hx:∀i,v.ownBlock=some i->¬X i):Row e m enc base W' v xs:=by
 refine⟨h.1,?_⟩;rcases h.2 with hn|⟨g,cap,cur,rfl,h1,h2,h3⟩
 ·exact .inl hn
 ·exact .inr ⟨g,cap,cur,rfl,h1,k.heap h2 (hx g rfl),h3⟩
theorem mZ{α:Type}{e:TypeId}{m:Nat}{enc:α->Nat->Value}{base:Nat}{W:World}{v:Value}{xs:List α}(h:Row e m enc base W v xs)(hn:0<xs.length):∃g cap,v=.slice (some ⟨g,0,none⟩) xs.length cap/\xs.length<=cap/\cap<=9223372036854775807:=by
 rcases h.2 with ⟨_,h0⟩|⟨g,cap,cur,rfl,h1,h2,h3,h4,_⟩
 ·omega
 ·exact⟨g,cap,rfl,h3,by unfold maxLen at h4;omega⟩
def Jz(h:List aF)(all:List Nat)(f:Nat)(s:jk)(cur:List Nat)(OB FB KB bo:Nat)(v fv:Value)(W:World)(e:Ending)(W':World):Prop:=
 bF (XS OB FB KB v) W W' /\
 (∀o,dfs h all f s cur=some o->e=.returned (.bool false)/\Boxed W' KB 4 (.bool true)/\∃u,Boxed W' FB 56 u/\Row 3 1 (one jE) bo W' u o) /\
 (dfs h all f s cur=none->e=.returned (.bool true)/\Boxed W' KB 4 (.bool false)/\Boxed W' FB 56 fv/\∃v',Boxed W' OB 56 v'/\Row 3 1 (one jE) bo W' v' cur/\(v'.ownBlock=v.ownBlock∨∃k,v'.ownBlock=some k/\W.heap.size<=k))
theorem GG{w0:World}{h:List aF}{all:List Nat}{hv wz fv:Value}{OB AB CB WB HB SB FB KB bo:Nat}(H:lV w0 hv h)(hok:aH h=true)(xU:LV w0.heap.size OB AB CB WB HB SB FB KB bo)
 (hab:∀a n c,wz=.slice (some a) n c->0<n->¬(a.block=OB∨a.block=FB∨a.block=KB)/\a.block<bo) (hlt:∀n∈all,n<h.length) (hal:all.length<=6) :
 ∀(f:Nat) (s:jk) (cur:List Nat) (gone:Nat) (v:Value) (W:World),uw w0 hv wz OB AB CB WB HB SB FB KB W->aI 1 (one jE) W wz all->Boxed W OB 56 v->Row 3 1 (one jE) bo W v cur->Boxed W FB 56 fv->Boxed W KB 4 (.bool false) ->
  (∀n,gone.testBit n=cur.contains n)->gone<64->cur.length+f=all.length->bo<=W.heap.size ->
  Calls Tryz.prog 211 #[Md s,.int .u64 (gone:Int),.pointer (some ⟨OB,0,none⟩),.pointer (some ⟨AB,0,none⟩),.pointer (some ⟨CB,0,none⟩),.pointer (some ⟨WB,0,none⟩),.pointer (some ⟨HB,0,none⟩),.pointer (some ⟨SB,0,none⟩)] W (Jz h all f s cur OB FB KB bo v fv W):=by
 obtain⟨Ah,Ym,rfl⟩:=H.slice;have HH:=aa H;have BR:=aa xU;have Xx:=aa hab;have PT:=aa hlt;have P8:=aa (aT hok);have V6:Hid (∀(n:Nat) t,h[n]? =some t->t.ops.length<=6/\∀o∈t.ops,jm o=true):=λn t ht=>by
  have hall:h.all eP=true:=by unfold aH at hok;simp only[bK]at hok;exact hok.1.2
  have:=iN.1 hall t (aN ht)
  exact⟨eY this,λo ho=>jc this ho⟩
 clear H xU hab hlt hok;intro f
 induction f with
 | zero=>
   intro s cur gone v W hE hS hO hR hF hK hG Zp hlen Eu;obtain⟨A,c,rfl,_⟩:=id hR.cell.1;obtain⟨Aa,ca,rfl,_⟩:=id hS;have E1:=aa (hE.ext ((af W).alloc (.cells #[.int .i64 (s 0),.int .i64 (s 1),.int .i64 (s 2)] 160)));have o1:=aC hO ((af W).alloc (.cells #[.int .i64 (s 0),.int .i64 (s 1),.int .i64 (s 2)] 160));have HR:=aa (hR.ext ((af W).alloc (.cells #[.int .i64 (s 0),.int .i64 (s 1),.int .i64 (s 2)] 160)));have HF:=aa (aC hF ((af W).alloc (.cells #[.int .i64 (s 0),.int .i64 (s 1),.int .i64 (s 2)] 160)));have HK:=aa (aC hK ((af W).alloc (.cells #[.int .i64 (s 0),.int .i64 (s 1),.int .i64 (s 2)] 160)));have co:=o1.cell;have ca:=E1.out.a.cell;have cc:=E1.out.c.cell;have hl:cur.length=all.length:=by omega
   have hle:((cur.length:Int)==(all.length:Int))=true:=by simp[hl]
   have Te:bo<=(W.alloc (.cells #[.int .i64 (s 0),.int .i64 (s 1),.int .i64 (s 2)] 160)).heap.size:=by simp;omega
   have XW:=aa Te;have HC6:=aa (show cur.length<=2097152 by omega);clear hE hS hO hR hF hK hG hlen hl o1 Te;unfold Md;go_enter Tryz.func211,Tryz.ntmps211;go_wp2_with (go_at_call 173;refine(GL HR.out HF.out HK.out BR.out.fk HC6.out XW.out).mono ?_;rintro e w2 ⟨rfl,hfr,hk2,u,hf2,hr2⟩)
   go_returns;refine⟨((bF.refl _ _).alloc _).trans (hfr.wide λi hi=>hi.elim (λe=>.inr (.inl e)) (λe=>.inr (.inr (.inl e)))),λo ho=>?_,λhn=>by cases hn⟩
   have:cur=o:=by simpa[dfs] using ho
   subst this;exact⟨rfl,hk2,u,hf2,hr2⟩
 | succ f ih=>
   intro s cur gone v W hE hS hO hR hF hK hG Zp hlen Eu;obtain⟨Aa,cp,rfl,hac⟩:=id hS;have b0:=(af W).alloc (.cells #[.int .i64 (s 0),.int .i64 (s 1),.int .i64 (s 2)] 160);have Rq:bo<=(W.alloc (.cells #[.int .i64 (s 0),.int .i64 (s 1),.int .i64 (s 2)] 160)).heap.size:=by simp;omega
   have hst:=zK W s 160;have E1:=hE.ext b0;have S1:=hS.ext b0;have O1:=aC hO b0;have R1:=hR.ext b0;have F1:=aC hF b0;have K1:=aC hK b0;have hsz:(W.alloc (.cells #[.int .i64 (s 0),.int .i64 (s 1),.int .i64 (s 2)] 160)).heap.size=W.heap.size+1:=by simp
   obtain⟨W1,hW1⟩:∃W1,W1=W.alloc (.cells #[.int .i64 (s 0),.int .i64 (s 1),.int .i64 (s 2)] 160):=⟨_,rfl⟩;have HW1:=aa hW1;rw[<-hW1]at b0 Rq hst E1 S1 O1 R1 F1 K1 hsz;have HB0:=aa b0;have XW:=aa Rq;have XC:=aa hst;have HE:=aa E1;have HS:=aa S1;have HO:=aa O1;have HR:=aa R1;have HF:=aa F1;have HK:=aa K1;have HG:=aa hG;have ZB:=aa hsz;have HLEN:=aa hlen;have XZ:=aa ih;have Xb:=aa (aL hO.lt (aL hF.lt (aL hK.lt (aL (λk hk=>(World.ownsRow.lt hR k hk).2) hE.old.size))));obtain⟨A,c,rfl,_⟩:=id hR.cell.1;have co:=O1.cell;have ca:=E1.a.cell;rw[hW1]at co ca;have hln:((cur.length:Int)==(all.length:Int))=false:=by simp;omega
   have OA:Hid (∀w',bF (XS OB FB KB (.slice A cur.length c)) W1 w'->aI 1 (one jE) w' (.slice Aa all.length cp) all):=λw' hf=>HS.out.frX hf (λa n c e hn hx=>by
    obtain⟨x1,x2⟩:=Xx.out a n c e hn;rcases hx with hx|hx|hx|hx
    ·exact x1 (.inl hx)
    ·exact x1 (.inr (.inl hx))
    ·exact x1 (.inr (.inr hx))
    ·have:=HR.out.block _ hx;omega)
   clear b0 Rq hst E1 S1 O1 R1 F1 K1 hsz hE hS hO hR hF hK hG hlen ih hac hW1;unfold Md;go_enter Tryz.func211,Tryz.ntmps211;go_wp2;go_loopw [24] (λi wr=>Hid (bF (XS OB FB KB (.slice A cur.length c)) W1 wr)/\∃k:Nat,k<=all.length/\i=.int .i64 k/\Hid ((all.take k).findSome? (lU h all f s cur)=none)/\Hid (∃v',Boxed wr OB 56 v'/\Row 3 1 (one jE) bo wr v' cur/\(v'.ownBlock=(Value.slice A cur.length c).ownBlock∨∃k,v'.ownBlock=some k/\W1.heap.size<=k))/\Hid (Boxed wr FB 56 fv/\Boxed wr KB 4 (.bool false))) (λi _=>all.length-(intOf i).toNat)
   case atStart=>exact⟨HW1.out▸bF.refl _ _,0,bR _,rfl,rfl,⟨_,HW1.out▸HO.out,HW1.out▸HR.out,.inl rfl⟩,HW1.out▸HF.out,HW1.out▸HK.out⟩
   case round=>
    clear co ca;obtain⟨LD,k,hk,rfl,HN,HV,LC⟩:=hrel;by_cases hlt:k<all.length
    ·have H0:=aa (HE.out.frX BR.out HR.out LD.out);obtain⟨n,hn⟩:=au hlt;have hnl:=PT.out n (aN hn);have hn6:n<6:=by have:=P8.out;omega
     have Hn:=aa hn;have hSw:=OA.out wr LD.out;obtain⟨Aq,cq,hAe,hca⟩:=id hSw;have HSw:=aa hSw;injection hAe with hA1 hA3 Qd;subst hA1;subst Qd;clear hA3;obtain⟨b,off,rfl,hbl,hcell⟩:=hca (by omega);have c0:wr.cell? ⟨b,off+k,none⟩=some (.int .i64 (n:Int)):=by have:=hcell k n hn 0 (by omega);simpa[one,jE] using this
     clear hn hSw hca hcell;have Oc:nX wr W.heap.size s:=XC.out.frX LD.out (λhx=>by
      obtain⟨l1,l2,l3,l4,l5⟩:=Xb.out;rcases hx with hx|hx|hx|hx
      ·omega
      ·omega
      ·omega
      ·have:=l4 _ hx;omega)
     have e0:wr.cell? ⟨W.heap.size,0,none⟩=some (.int .i64 (s 0)):=Oc.2 0 (by omega);have e1:wr.cell? ⟨W.heap.size,1,none⟩=some (.int .i64 (s 1)):=Oc.2 1 (by omega);have e2:wr.cell? ⟨W.heap.size,2,none⟩=some (.int .i64 (s 2)):=Oc.2 2 (by omega);clear Oc;have HX:=aa ((af wr).alloc (.cells #[.int .i64 (s 0),.int .i64 (s 1),.int .i64 (s 2)] 160));have hbit:=DJ gone n (by omega)
     cases hcn:cur.contains n with
     | true=>
       rw[HG.out n,hcn,ah rfl]at hbit;have HM:=aa (zJ (f:=lU h all f s cur) Hn.out HN.out (by unfold lU;rw[ah hcn]));clear hcn;go_wp2;go_roundw;case rel=>exact⟨LD.out.alloc _,k+1,by omega,by go_num,HM.out,(let ⟨v',a,b,c⟩:=HV.out;⟨v',aC a HX.out,b.ext HX.out,c⟩),aC LC.out.1 HX.out,aC LC.out.2 HX.out⟩
       case measure=>simp[intOf];omega
     | false=>
       rw[HG.out n,hcn,ak (by decide)]at hbit;have NN:=aa hcn;clear hcn;obtain⟨t,ht⟩:=au hnl;obtain⟨bh,oh,rfl,Rz,hch⟩:=HH.out.head (by omega);obtain⟨ov,d0,d1,d2,hops⟩:=hch n t ht;have Wx:=aa (Oy hops);replace d0:=HX.out.cell (H0.out.old.cell d0);replace d1:=HX.out.cell (H0.out.old.cell d1);replace d2:=HX.out.cell (H0.out.old.cell d2);have Uj:=aa (hops.ext (H0.out.old.trans HX.out));obtain⟨hto,htk⟩:=V6.out n t ht;have Sj:=aa htk;have UF:=aa hto;have hat:J2 h n=t.ops:=by simp[J2,ht]
       have HAT:=aa hat;have hfn:=HX.out.cell H0.out.hh.cell;have hwn:=HX.out.cell H0.out.x.cell;have HW0:=aa (show w0.heap.size<=wr.heap.size from H0.out.old.size);have HQ:Hid (Calls Tryz.prog 212 #[.pointer (some ⟨wr.heap.size,0,none⟩),sM t ov] (wr.alloc (.cells #[.int .i64 (s 0),.int .i64 (s 1),.int .i64 (s 2)] 160)) _):=Ig wr.heap.size s t ov _ (zK wr s 160) Uj.out (λa n c e hn=>by have:=Wx.out a n c e hn;have:=HW0.out;omega) Sj.out UF.out;obtain⟨As,cs,rfl,_⟩:=id hops;clear ht hch hops hto htk hat Rz
       cases hfo:follow s t.ops with
       | none=>
         have Wi:=aa hfo;have HM:=aa (zJ (f:=lU h all f s cur) Hn.out HN.out (by unfold lU;rw[NN.out,HAT.out,hfo];rfl));clear hfo;go_wp2_with (first|(go_at_call 130;refine(zb _ _ _).mono ?_;rintro e wa ⟨rfl,rfl⟩)|(go_at_call 212;refine HQ.out.mono ?_;rintro e w2 ⟨hf2,fb,rfl,_,Xm⟩;obtain rfl:=Xm Wi.out))
         go_roundw;case rel=>
          have b2:=bF.out HX.out hf2 (λi e=>by omega);exact⟨LD.out.ext b2,k+1,by omega,by go_num,HM.out,(let ⟨v',a,b,c⟩:=HV.out;⟨v',aC a b2,b.ext b2,c⟩),aC LC.out.1 b2,aC LC.out.2 b2⟩
         case measure=>simp[intOf];omega
       | some s'=>
         have Wi:=aa hfo;have CR:Hid (lU h all f s cur n=dfs h all f s' (cur++[n])):=by show _ = _;unfold lU;rw[NN.out,HAT.out,hfo];rfl
         obtain⟨v',ho',hr',T9⟩:=HV.out;obtain⟨A',c',rfl,_⟩:=id hr'.cell.1;have Lx:=aa ho';have HR2:=aa hr';have Rw:=aa T9;have hbw:bo<=wr.heap.size:=aR XW.out LD.out.size;have hc6:cur.length+1<=6:=by have:=HLEN.out;omega
         have hoc:=HX.out.cell ho'.cell;clear hfo ho' hr' T9;go_wp2_with (first|(go_at_call 130;refine(zb _ _ _).mono ?_;rintro e wa ⟨rfl,rfl⟩)|(go_at_call 212;refine HQ.out.mono ?_;rintro e w2 ⟨hf2,fb,rfl,hf3,Xm⟩;obtain⟨rfl,TH⟩:=hf3 s' Wi.out;have b2:=aa (bF.out HX.out hf2 (λi e=>by omega));have Wm:=b2.out.cell Lx.out.cell;have OM:=aa TH;clear TH hf2 hf3 Xm;obtain⟨v3,w3,hrun,hp⟩:=JC w2.heap.size rfl (HR2.out.ext b2.out) (af w2) n (aR hbw b2.out.size) (by omega);obtain⟨g3,c3,hv3,UL⟩:=mZ hp.1 (by simp);rw[bN,nI]at hv3 UL;subst hv3;have Ry:=aa (jY (u:=w0) (HR2.out.ext b2.out) hp (H0.out.old.trans b2.out) BR.out.lo.2.2.2);have O3:=aa (Ry.out.boxed (aC Lx.out b2.out) (λe=>Boxed.not_row Lx.out (by decide) HR2.out e.symm));have cz:=aa hrun;have HP:=aa hp;have ZH:=O3.out.cell;have xz3:=O3.out.frozen;clear hrun hp)|(at_builtin;refine wpList_append_run rfl rfl rfl rfl cz.out ?_;clear cz Wm))
         have Yf:OB<wr.heap.size:=Lx.out.lt;have Xg:FB<wr.heap.size:=LC.out.1.lt;have Xd:KB<wr.heap.size:=LC.out.2.lt;have hvb:∀i,(Value.slice A' cur.length c').ownBlock=some i->i<wr.heap.size:=λi e=>(World.ownsRow.lt HR2.out i e).2;have Xi:wr.heap.size<=w2.heap.size:=b2.out.size;have Yi:wr.heap.size<w2.heap.size:=OM.out.1.lt;have h3b:(Value.slice (some ⟨g3,0,none⟩) (cur.length+1) c3).ownBlock≠some wr.heap.size:=λe=>by
          rcases HP.out.2.2.2 with e'|⟨i,e',hi⟩
          ·rw[e']at e;have:=hvb _ e;omega
          ·rw[e']at e;injection e with e;omega
         have E3:=(H0.out.ext b2.out).frX BR.out (HR2.out.ext b2.out) (Ry.out.wide (λi e=>.inr (.inr (.inr e))));have ZR:=OM.out.frX Ry.out (λe=>by have:=hvb _ e;omega);have F3:=Ry.out.boxed (aC LC.out.1 b2.out) (λe=>Boxed.not_row LC.out.1 (by decide) HR2.out e.symm);have K3:=Ry.out.boxed (aC LC.out.2 b2.out) (λe=>Boxed.not_row LC.out.2 (by decide) HR2.out e.symm);have n3:=Boxed.not_row O3.out (by decide) HP.out.1;have Pz:bF (λi=>i=OB) w3 (w3.setCell ⟨OB,0,none⟩ (.slice (some ⟨g3,0,none⟩) (cur.length+1) c3)):=(bF.refl (λi=>i=OB) w3).setCell (p:=⟨OB,0,none⟩) (.inl rfl) _;have E4:=E3.frX BR.out HP.out.1 (Pz.wide (λi e=>.inl e));have O4:=O3.out.set (.slice (some ⟨g3,0,none⟩) (cur.length+1) c3);have R4:=iw HP.out.1 Pz (λi e hi=>n3 (by rw[e,hi]));have F4:=Pz.boxed F3 (λe=>BR.out.of e.symm);have K4:=Pz.boxed K3 (λe=>BR.out.ok e.symm);have U0:=ZR.frX Pz (by omega);have G4:=((LD.out.ext b2.out).more Ry.out (λi e=>by
          rcases Rw.out with e'|⟨j,e',hj⟩
          ·rw[e']at e;exact .inl (.inr (.inr (.inr e)))
          ·rw[e']at e;injection e with e;subst e;exact .inr hj)).more Pz (λi e=>.inl (.inl e))
         have UI:w2.heap.size<=(w3.setCell ⟨OB,0,none⟩ (.slice (some ⟨g3,0,none⟩) (cur.length+1) c3)).heap.size:=aR Ry.out.size Pz.size;clear E3 ZR F3 K3 n3 Pz ZH xz3;generalize hw4:w3.setCell ⟨OB,0,none⟩ (.slice (some ⟨g3,0,none⟩) (cur.length+1) c3)=w4 at E4 O4 R4 F4 K4 U0 G4 UI ⊢;have D4:=(af w4).drew;have Sl:Hid (Calls Tryz.prog 211 #[.agg #[.int .i64 (s' 0),.int .i64 (s' 1),.int .i64 (s' 2)],.int .u64 ((gone ||| 2 ^ n:Nat):Int),.pointer (some ⟨OB,0,none⟩),.pointer (some ⟨AB,0,none⟩),.pointer (some ⟨CB,0,none⟩),.pointer (some ⟨WB,0,none⟩),.pointer (some ⟨HB,0,none⟩),.pointer (some ⟨SB,0,none⟩)] w4.drew (Jz h all f s' (cur++[n]) OB FB KB bo (.slice (some ⟨g3,0,none⟩) (cur.length+1) c3) fv w4.drew)):=
          XZ.out s' (cur++[n]) (gone ||| 2 ^ n) _ w4.drew (E4.ext D4) ((OA.out w4 G4).ext D4) (aC O4 D4) (R4.ext D4) (aC F4 D4) (aC K4 D4) (λm=>by rw[Nat.testBit_or,HG.out,BC,Nat.testBit_two_pow]) (Nat.or_lt_two_pow (n:=6) Zp (Nat.pow_lt_pow_right (by omega) hn6)) (by have:=HLEN.out;simp;omega) (by show bo<=w4.heap.size;omega)
         have hset:=JY gone n (by omega) (by omega);have cs:=E4.s.cell;have x0:w4.cell? ⟨wr.heap.size,0,none⟩=some (.int .i64 (s' 0)):=U0.2 0 (by omega);have x1:w4.cell? ⟨wr.heap.size,1,none⟩=some (.int .i64 (s' 1)):=U0.2 1 (by omega);have x2:w4.cell? ⟨wr.heap.size,2,none⟩=some (.int .i64 (s' 2)):=U0.2 2 (by omega);have Sc:Hid (¬XS OB FB KB (.slice (some ⟨g3,0,none⟩) (cur.length+1) c3) wr.heap.size):=λhx=>by
          rcases hx with hx|hx|hx|hx
          ·omega
          ·omega
          ·omega
          ·exact h3b hx
         have Q0:=aa (vW R4 E4.s (by decide) BR.out.s);have JW:=aa E4;have YU:=aa G4;have HP4:=aa (show ∀i,XS OB FB KB (.slice (some ⟨g3,0,none⟩) (cur.length+1) c3) i->XS OB FB KB (.slice A cur.length c) i∨W1.heap.size<=i from λi hx=>by
          rcases hx with hx|hx|hx|hx
          ·exact .inl (.inl hx)
          ·exact .inl (.inr (.inl hx))
          ·exact .inl (.inr (.inr (.inl hx)))
          ·rcases HP.out.2.2.2 with e'|⟨j,e',hj⟩
           ·rw[e']at hx;rcases Rw.out with e2|⟨j,e2,hj⟩
            ·rw[e2]at hx;exact .inl (.inr (.inr (.inr hx)))
            ·rw[e2]at hx;injection hx with hx;subst hx;exact .inr hj
           ·rw[e']at hx;injection hx with hx;have:=LD.out.size;exact .inr (by omega))
         clear hw4 E4 O4 R4 F4 K4 U0 G4 Yf Xg Xd hvb Xi Yi h3b hoc hbit c0 e0 e1 e2 d0 d1 d2 hfn hwn UI
         cases hd:dfs h all f s' (cur++[n]) with
         | some o=>
           have HD:=aa hd;have nP:=aa (OE (f:=lU h all f s cur) Hn.out HN.out o (CR.out.trans hd));clear hd;go_region_held3 (λV=>V.cell? ⟨SB,0,none⟩=some (.func (.func 211) #[] #[.pointer (some ⟨OB,0,none⟩),.pointer (some ⟨AB,0,none⟩),.pointer (some ⟨CB,0,none⟩),.pointer (some ⟨WB,0,none⟩),.pointer (some ⟨HB,0,none⟩),.pointer (some ⟨SB,0,none⟩)])/\V.cell? ⟨wr.heap.size,0,none⟩=some (.int .i64 (s' 0))/\V.cell? ⟨wr.heap.size,1,none⟩=some (.int .i64 (s' 1))/\V.cell? ⟨wr.heap.size,2,none⟩=some (.int .i64 (s' 2))) (exact⟨by assumption,by assumption,by assumption,by assumption⟩) ((go_at_call 211;refine Sl.out.mono ?_;rintro e w5 ⟨Kz,Ux,VQ⟩;have XT:=Kz.cell (p:=⟨SB,0,none⟩) (JW.out.s.cell) Q0.out;have y0:=Kz.cell (p:=⟨wr.heap.size,0,none⟩) x0 Sc.out;have y1:=Kz.cell (p:=⟨wr.heap.size,1,none⟩) x1 Sc.out;have y2:=Kz.cell (p:=⟨wr.heap.size,2,none⟩) x2 Sc.out;obtain⟨rfl,hk5,u5,Sq,Sa⟩:=Ux o HD.out;have X6:=aa Kz;have P7:=aa hk5;have WR:=aa Sq;have VJ:=aa Sa;clear Kz Ux VQ hk5 Sq Sa))
           clear x0 x1 x2 cs XT y0 y1 y2;go_wp2;go_returns;refine⟨(bF.aO HB0.out).trans ((YU.out.ext (af w4).drew).more X6.out HP4.out),λo' ho'=>?_,λhn=>?_⟩
           ·rw[Ai,nP.out]at ho';cases ho';exact⟨rfl,P7.out,u5,WR.out,VJ.out⟩
           ·rw[Ai,nP.out]at hn;cases hn
         | none=>
           have HM:=aa (zJ (f:=lU h all f s cur) Hn.out HN.out (CR.out.trans hd));have HD:=aa hd;clear hd;go_region_held3 (λV=>V.cell? ⟨SB,0,none⟩=some (.func (.func 211) #[] #[.pointer (some ⟨OB,0,none⟩),.pointer (some ⟨AB,0,none⟩),.pointer (some ⟨CB,0,none⟩),.pointer (some ⟨WB,0,none⟩),.pointer (some ⟨HB,0,none⟩),.pointer (some ⟨SB,0,none⟩)])/\V.cell? ⟨wr.heap.size,0,none⟩=some (.int .i64 (s' 0))/\V.cell? ⟨wr.heap.size,1,none⟩=some (.int .i64 (s' 1))/\V.cell? ⟨wr.heap.size,2,none⟩=some (.int .i64 (s' 2))) (exact⟨by assumption,by assumption,by assumption,by assumption⟩) ((go_at_call 211;refine Sl.out.mono ?_;rintro e w5 ⟨Kz,Ux,VQ⟩;have XT:=Kz.cell (p:=⟨SB,0,none⟩) (JW.out.s.cell) Q0.out;have y0:=Kz.cell (p:=⟨wr.heap.size,0,none⟩) x0 Sc.out;have y1:=Kz.cell (p:=⟨wr.heap.size,1,none⟩) x1 Sc.out;have y2:=Kz.cell (p:=⟨wr.heap.size,2,none⟩) x2 Sc.out;obtain⟨rfl,hk5,Sq,v5,VB,Sa,hb5⟩:=VQ HD.out;obtain⟨g5,c5,hv5,hcap5⟩:=mZ Sa (by simp);rw[bN,nI]at hv5 hcap5;subst hv5;have X6:=aa Kz;have P7:=aa hk5;have WR:=aa Sq;have VJ:=aa Sa;have Z4:=aa VB;have Tt:=aa hb5;have xo5:=VB.cell;have xz5:=VB.frozen;clear Kz Ux VQ hk5 Sq Sa VB hb5))
           clear x0 x1 x2 cs XT y0 y1 y2;obtain⟨hcp1,hcp2⟩:=hcap5;have aas:(cur.length:Int)+1<=(c5:Int):=by omega
           have aax:(c5:Int)<=9223372036854775807:=by omega
           have hcl0:(0:Int)<=(cur.length:Int):=by omega
           have aaj:(cur.length:Int)<=6:=by omega
           go_wp2;have hrc:=Ph VJ.out cur.length (by simp);rw[List.take_left]at hrc;have HRC:=aa hrc;have P56:bF (λi=>i=OB) w5 (w5.setCell ⟨OB,0,none⟩ (.slice (some ⟨g5,0,none⟩) cur.length c5)):=(bF.refl (λi=>i=OB) w5).setCell (p:=⟨OB,0,none⟩) (.inl rfl) _;have OT:=aa P56;have HOWN:Hid ((Value.slice (some ⟨g5,0,none⟩) cur.length c5).ownBlock=(Value.slice A cur.length c).ownBlock∨∃k,(Value.slice (some ⟨g5,0,none⟩) cur.length c5).ownBlock=some k/\W1.heap.size<=k):=by
            show _∨_;have UO:=LD.out.size;have hwr2:=b2.out.size;have aak:=YU.out.size;rcases Tt.out with e1|⟨j,e1,hj⟩
            ·rcases HP.out.2.2.2 with e2|⟨j,e2,hj⟩
             ·rcases Rw.out with e3|⟨j,e3,hj⟩
              ·exact .inl (e1.trans (e2.trans e3))
              ·exact .inr ⟨j,e1.trans (e2.trans e3),hj⟩
             ·exact .inr ⟨j,e1.trans e2,by omega⟩
            ·exact .inr ⟨j,e1,by have:w4.heap.size<=j:=hj;omega⟩
           have n5:=aa (Boxed.not_row Z4.out (e:=3) (by decide) VJ.out);clear hrc P56 xo5 xz5;go_roundw;case rel=>exact⟨((YU.out.ext (af w4).drew).more X6.out HP4.out).trans (OT.out.wide (λi e=>.inl e)),k+1,by omega,by go_num,HM.out,⟨_,Z4.out.set _,iw HRC.out OT.out (λi e hi=>n5.out (by rw[<-hi];exact e.symm)),HOWN.out⟩,OT.out.boxed WR.out (λe=>BR.out.of e.symm),OT.out.boxed P7.out (λe=>BR.out.ok e.symm)⟩
           case measure=>simp[intOf];omega
    ·obtain rfl:k=all.length:=by omega
     have hdn:=HN.out;rw[bY,<-Ai]at hdn;have UW:=aa hdn;clear hdn;go_wp2;go_returns;refine⟨((bF.aO HB0.out)).trans LD.out,λo ho=>(by rw[UW.out]at ho;cases ho),λ_=>?_⟩;obtain⟨v',h1,h2,h3⟩:=HV.out;exact⟨rfl,LC.out.2,LC.out.1,v',h1,h2,h3.elim .inl (λ⟨k,e,hk⟩=>.inr ⟨k,e,by have:=ZB.out;omega⟩)⟩
