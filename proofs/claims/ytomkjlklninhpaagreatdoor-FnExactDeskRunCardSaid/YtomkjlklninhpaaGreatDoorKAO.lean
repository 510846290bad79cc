/- Lemmas. -/
import Derived.Test.YtomkjlklninhpaaGreatDoorKAM
set_option maxHeartbeats 16000000
set_option maxRecDepth 8000
set_option linter.all false
namespace Go.Proofs.YtomkjlklninhpaaGreatDoor
open Go.RowKit
theorem YV{α β:Type}{l:List α}{k:Nat}{x:α}{f:α->Option β}(hx:l[k]? =some x)(hn:(l.take k).findSome? f=none):∀o,f x=some o->l.findSome? f=some o:=fun o ho=>by rw[Gd hx,List.findSome?_append,hn,List.findSome?_cons,ho];rfl
theorem GV{α β:Type}{l:List α}{k:Nat}{x:α}{f:α->Option β}(hx:l[k]? =some x)(hn:(l.take k).findSome? f=none)(h:f x=none):(l.take (k+1)).findSome? f=none:=by rw[ah hx,List.findSome?_append,hn,List.findSome?_cons,h];rfl
theorem Iz(cur:List Nat)(n m:Nat):(cur++[n]).contains m=(cur.contains m || decide (n=m)):=by rw[Bool.eq_iff_iff];simp only[List.contains_eq_mem,List.mem_append,List.mem_singleton,decide_eq_true_eq,Bool.or_eq_true];exact⟨fun h=>h.elim .inl (fun e=>.inr e.symm),fun h=>h.elim .inl (fun e=>.inr e.symm)⟩
theorem Yt{α:Type}{m:Nat}{enc:α->Nat->Value}{w:World}{u:Value}{xs:List α}(h:aF m enc w u xs):∀a n c,u=.slice (some a) n c->0<n->a.block<w.heap.size:=fun a n c hu hn=>by obtain⟨A,c',hA,h⟩:=h;rw[hA]at hu;injection hu with h1 h2 h3;obtain⟨b,off,hb,hlt,_⟩:=h (by omega);rw[hb]at h1;injection h1 with h1;rw[<-h1];exact hlt
def ow(h:List aA)(all:List Nat)(f:Nat)(s:iV)(order:List Nat)(n:Nat):Option (List Nat):=
 if order.contains n then none else (follow s (rH h n)).bind fun s'=>Np h all f s' (order++[n])
theorem EH(h:List aA)(all:List Nat)(f:Nat)(s:iV)(order:List Nat):Np h all (f+1) s order=all.findSome? (ow h all f s order):=rfl
def XS(OB FB KB:Nat)(v:Value)(k:Nat):Prop:=k=OB∨k=FB∨k=KB∨v.ownBlock=some k
structure yH (w0:World) (hv BZ:Value) (OB AB CB WB HB SB FB KB:Nat) (W:World):Prop where
 old:Ext w0 W
 a:Boxed W AB 57 BZ
 c:Boxed W CB 191 (.func (.func 169) #[] #[.pointer (some ⟨FB,0,none⟩),.pointer (some ⟨KB,0,none⟩)])
 x:Boxed W WB 138 (.func (.func 121) #[] #[])
 hh:Boxed W HB 24 hv
 s:Boxed W SB 216 (.func (.func 204) #[] #[.pointer (some ⟨OB,0,none⟩),.pointer (some ⟨AB,0,none⟩),.pointer (some ⟨CB,0,none⟩),.pointer (some ⟨WB,0,none⟩),.pointer (some ⟨HB,0,none⟩),.pointer (some ⟨SB,0,none⟩)])
structure Vn (lo OB AB CB WB HB SB FB KB bo:Nat):Prop where
 a:¬(AB=OB∨AB=FB∨AB=KB)
 c:¬(CB=OB∨CB=FB∨CB=KB)
 x:¬(WB=OB∨WB=FB∨WB=KB)
 hh:¬(HB=OB∨HB=FB∨HB=KB)
 s:¬(SB=OB∨SB=FB∨SB=KB)
 of:OB≠FB
 ok:OB≠KB
 fk:FB≠KB
 lo:lo<=OB/\lo<=FB/\lo<=KB/\lo<=bo
theorem Bj{W:World}{OB FB KB B bo:Nat}{T:TypeId}{u v:Value}{cur:List Nat}(hr:Row 3 1 (one gT) bo W v cur)(hB:Boxed W B T u)(hT:T≠3)(hn:¬(B=OB∨B=FB∨B=KB)):¬XS OB FB KB v B:=fun h=>by
 rcases h with h|h|h|h
 ·exact hn (.inl h)
 ·exact hn (.inr (.inl h))
 ·exact hn (.inr (.inr h))
 ·exact Boxed.not_row hB hT hr h.symm
theorem yH.frX{w0:World}{hv BZ:Value}{OB AB CB WB HB SB FB KB bo:Nat}{W W':World}{v:Value}{cur:List Nat}(h:yH w0 hv BZ OB AB CB WB HB SB FB KB W)(Ej:Vn w0.heap.size OB AB CB WB HB SB FB KB bo)(hr:Row 3 1 (one gT) bo W v cur)(k:bH (XS OB FB KB v) W W'):yH w0 hv BZ OB AB CB WB HB SB FB KB W' where
 old:=k.out h.old (fun i hi=>by
  obtain⟨l1,l2,l3,l4⟩:=Ej.lo;rcases hi with e|e|e|e
  ·omega
  ·omega
  ·omega
  ·exact Nat.le_trans l4 (hr.block i e))
 a:=k.heap h.a (Bj hr h.a (by decide) Ej.a)
 c:=k.heap h.c (Bj hr h.c (by decide) Ej.c)
 x:=k.heap h.x (Bj hr h.x (by decide) Ej.x)
 hh:=k.heap h.hh (Bj hr h.hh (by decide) Ej.hh)
 s:=k.heap h.s (Bj hr h.s (by decide) Ej.s)
theorem yH.ext{w0:World}{hv BZ:Value}{OB AB CB WB HB SB FB KB:Nat}{W W':World}(h:yH w0 hv BZ OB AB CB WB HB SB FB KB W)(k:Ext W W'):yH w0 hv BZ OB AB CB WB HB SB FB KB W':=
 ⟨h.old.trans k,aL h.a k,aL h.c k,aL h.x k,aL h.hh k,aL h.s k⟩
theorem bH.boxed{X:Nat->Prop}{w w':World}{B:Nat}{T:TypeId}{v:Value}(h:bH X w w')(hB:Boxed w B T v)(hx:¬X B):Boxed w' B T v:=h.heap hB hx
theorem dM{α:Type}{e:TypeId}{m:Nat}{enc:α->Nat->Value}{base:Nat}{X:Nat->Prop}{W W':World}{v:Value}{xs:List α}(h:Row e m enc base W v xs)(k:bH X W W')(hx:∀i,v.ownBlock=some i->¬X i):Row e m enc base W' v xs:=by
 refine⟨h.1,?_⟩;rcases h.2 with hn|⟨g,cap,cur,rfl,h1,h2,h3⟩
 ·exact .inl hn
 ·exact .inr ⟨g,cap,cur,rfl,h1,k.heap h2 (hx g rfl),h3⟩
theorem mK{α:Type}{e:TypeId}{m:Nat}{enc:α->Nat->Value}{base:Nat}{W:World}{v:Value}{xs:List α}(h:Row e m enc base W v xs)(hn:0<xs.length):∃g cap,v=.slice (some ⟨g,0,none⟩) xs.length cap/\xs.length<=cap/\cap<=9223372036854775807:=by
 rcases h.2 with ⟨_,h0⟩|⟨g,cap,cur,rfl,h1,h2,h3,h4,_⟩
 ·omega
 ·exact⟨g,cap,rfl,h3,by unfold maxLen at h4;omega⟩
def Rh(h:List aA)(all:List Nat)(f:Nat)(s:iV)(cur:List Nat)(OB FB KB bo:Nat)(v fv:Value)(W:World)(e:Ending)(W':World):Prop:=
 bH (XS OB FB KB v) W W' /\
 (∀o,Np h all f s cur=some o->e=.returned (.bool false)/\Boxed W' KB 4 (.bool true)/\∃u,Boxed W' FB 57 u/\Row 3 1 (one gT) bo W' u o) /\
 (Np h all f s cur=none->e=.returned (.bool true)/\Boxed W' KB 4 (.bool false)/\Boxed W' FB 57 fv/\∃v',Boxed W' OB 57 v'/\Row 3 1 (one gT) bo W' v' cur/\(v'.ownBlock=v.ownBlock∨∃k,v'.ownBlock=some k/\W.heap.size<=k))
theorem Ns{w0:World}{h:List aA}{all:List Nat}{hv BZ fv:Value}{OB AB CB WB HB SB FB KB bo:Nat}(H:gL w0 hv h)(hok:aC h=true)(Ej:Vn w0.heap.size OB AB CB WB HB SB FB KB bo)
 (hab:∀a n c,BZ=.slice (some a) n c->0<n->¬(a.block=OB∨a.block=FB∨a.block=KB)/\a.block<bo) (hlt:∀n∈all,n<h.length) (hal:all.length<=6) :
 ∀(f:Nat) (s:iV) (cur:List Nat) (gone:Nat) (v:Value) (W:World),yH w0 hv BZ OB AB CB WB HB SB FB KB W->aF 1 (one gT) W BZ all->Boxed W OB 57 v->Row 3 1 (one gT) bo W v cur->Boxed W FB 57 fv->Boxed W KB 4 (.bool false) ->
  (∀n,gone.testBit n=cur.contains n)->gone<64->cur.length+f=all.length->bo<=W.heap.size ->
  Calls Tryz.prog 204 #[Vf s,.int .u64 (gone:Int),.pointer (some ⟨OB,0,none⟩),.pointer (some ⟨AB,0,none⟩),.pointer (some ⟨CB,0,none⟩),.pointer (some ⟨WB,0,none⟩),.pointer (some ⟨HB,0,none⟩),.pointer (some ⟨SB,0,none⟩)] W (Rh h all f s cur OB FB KB bo v fv W):=by
 obtain⟨Ah,chh,rfl⟩:=H.slice;have HH:=aa H;have Jb:=aa Ej;have HAB:=aa hab;have Vq:=aa hlt;have UK:=aa (aM hok);have HTX:Hid (∀(n:Nat) t,h[n]? =some t->t.ops.length<=6/\∀o∈t.ops,gH o=true):=fun n t ht=>by
  have hall:h.all bX=true:=by unfold aC at hok;simp only[Bool.and_eq_true]at hok;exact hok.1.2
  have:=List.all_eq_true.1 hall t (List.mem_of_getElem? ht)
  exact⟨bU this,fun o ho=>eT this ho⟩
 clear H Ej hab hlt hok;intro f
 induction f with
 | zero=>
   intro s cur gone v W hE hS hO hR hF hK hG hg6 hlen LY;obtain⟨A,c,rfl,_⟩:=id hR.cell.1;obtain⟨Aa,ca,rfl,_⟩:=id hS;have E1:=aa (hE.ext ((Ext.refl W).alloc (.cells #[.int .i64 (s 0),.int .i64 (s 1),.int .i64 (s 2)] 164)));have o1:=aL hO ((Ext.refl W).alloc (.cells #[.int .i64 (s 0),.int .i64 (s 1),.int .i64 (s 2)] 164));have HR:=aa (hR.ext ((Ext.refl W).alloc (.cells #[.int .i64 (s 0),.int .i64 (s 1),.int .i64 (s 2)] 164)));have HF:=aa (aL hF ((Ext.refl W).alloc (.cells #[.int .i64 (s 0),.int .i64 (s 1),.int .i64 (s 2)] 164)));have HK:=aa (aL hK ((Ext.refl W).alloc (.cells #[.int .i64 (s 0),.int .i64 (s 1),.int .i64 (s 2)] 164)));have co:=o1.cell;have ca:=E1.out.a.cell;have cc:=E1.out.c.cell;have hl:cur.length=all.length:=by omega
   have hle:((cur.length:Int)==(all.length:Int))=true:=by simp[hl]
   have ac8:bo<=(W.alloc (.cells #[.int .i64 (s 0),.int .i64 (s 1),.int .i64 (s 2)] 164)).heap.size:=by simp;omega
   have HBO:=aa ac8;have HC6:=aa (show cur.length<=2097152 by omega);clear hE hS hO hR hF hK hG hlen hl o1 ac8;unfold Vf;go_enter Tryz.func204,Tryz.ntmps204;go_wp2_with (go_at_call 169;refine(Pg HR.out HF.out HK.out Jb.out.fk HC6.out HBO.out).mono ?_;rintro e w2 ⟨rfl,hfr,hk2,u,hf2,hr2⟩)
   go_returns;refine⟨((bH.refl _ _).alloc _).trans (hfr.wide fun i hi=>hi.elim (fun e=>.inr (.inl e)) (fun e=>.inr (.inr (.inl e)))),fun o ho=>?_,fun hn=>by cases hn⟩
   have:cur=o:=by simpa[Np] using ho
   subst this;exact⟨rfl,hk2,u,hf2,hr2⟩
 | succ f ih=>
   intro s cur gone v W hE hS hO hR hF hK hG hg6 hlen LY;obtain⟨Aa,cp,rfl,hac⟩:=id hS;have b0:=(Ext.refl W).alloc (.cells #[.int .i64 (s 0),.int .i64 (s 1),.int .i64 (s 2)] 164);have aan:bo<=(W.alloc (.cells #[.int .i64 (s 0),.int .i64 (s 1),.int .i64 (s 2)] 164)).heap.size:=by simp;omega
   have hst:=Ba W s 164;have E1:=hE.ext b0;have S1:=hS.ext b0;have O1:=aL hO b0;have R1:=hR.ext b0;have F1:=aL hF b0;have K1:=aL hK b0;have hsz:(W.alloc (.cells #[.int .i64 (s 0),.int .i64 (s 1),.int .i64 (s 2)] 164)).heap.size=W.heap.size+1:=by simp
   obtain⟨W1,hW1⟩:∃W1,W1=W.alloc (.cells #[.int .i64 (s 0),.int .i64 (s 1),.int .i64 (s 2)] 164):=⟨_,rfl⟩;have HW1:=aa hW1;rw[<-hW1]at b0 aan hst E1 S1 O1 R1 F1 K1 hsz;have HB0:=aa b0;have HBO:=aa aan;have afj:=aa hst;have HE:=aa E1;have HS:=aa S1;have HO:=aa O1;have HR:=aa R1;have HF:=aa F1;have HK:=aa K1;have HG:=aa hG;have HSZ:=aa hsz;have HLEN:=aa hlen;have HIH:=aa ih;have aeo:=aa (And.intro hO.lt (And.intro hF.lt (And.intro hK.lt (And.intro (fun k hk=>(World.ownsRow.lt hR k hk).2) hE.old.size))));obtain⟨A,c,rfl,_⟩:=id hR.cell.1;have co:=O1.cell;have ca:=E1.a.cell;rw[hW1]at co ca;have hln:((cur.length:Int)==(all.length:Int))=false:=by simp;omega
   have PI:Hid (∀w',bH (XS OB FB KB (.slice A cur.length c)) W1 w'->aF 1 (one gT) w' (.slice Aa all.length cp) all):=fun w' hf=>HS.out.frX hf (fun a n c e hn hx=>by
    obtain⟨x1,x2⟩:=HAB.out a n c e hn;rcases hx with hx|hx|hx|hx
    ·exact x1 (.inl hx)
    ·exact x1 (.inr (.inl hx))
    ·exact x1 (.inr (.inr hx))
    ·have:=HR.out.block _ hx;omega)
   clear b0 aan hst E1 S1 O1 R1 F1 K1 hsz hE hS hO hR hF hK hG hlen ih hac hW1;unfold Vf;go_enter Tryz.func204,Tryz.ntmps204;go_wp2;go_loopw [24] (fun i wr=>Hid (bH (XS OB FB KB (.slice A cur.length c)) W1 wr)/\∃k:Nat,k<=all.length/\i=.int .i64 k/\Hid ((all.take k).findSome? (ow h all f s cur)=none)/\Hid (∃v',Boxed wr OB 57 v'/\Row 3 1 (one gT) bo wr v' cur/\(v'.ownBlock=(Value.slice A cur.length c).ownBlock∨∃k,v'.ownBlock=some k/\W1.heap.size<=k))/\Hid (Boxed wr FB 57 fv/\Boxed wr KB 4 (.bool false))) (fun i _=>all.length-(intOf i).toNat)
   case atStart=>exact⟨HW1.out▸bH.refl _ _,0,Nat.zero_le _,rfl,rfl,⟨_,HW1.out▸HO.out,HW1.out▸HR.out,.inl rfl⟩,HW1.out▸HF.out,HW1.out▸HK.out⟩
   case round=>
    clear co ca;obtain⟨Ma,k,hk,rfl,HN,HV,UQ⟩:=hrel;by_cases hlt:k<all.length
    ·have H0:=aa (HE.out.frX Jb.out HR.out Ma.out);obtain⟨n,hn⟩:=af hlt;have hnl:=Vq.out n (List.mem_of_getElem? hn);have hn6:n<6:=by have:=UK.out;omega
     have Hn:=aa hn;have hSw:=PI.out wr Ma.out;obtain⟨Aq,cq,hAe,hca⟩:=id hSw;have HSw:=aa hSw;injection hAe with hA1 hA3 hA4;subst hA1;subst hA4;clear hA3;obtain⟨b,off,rfl,hbl,hcell⟩:=hca (by omega);have c0:wr.cell? ⟨b,off+k,none⟩=some (.int .i64 (n:Int)):=by have:=hcell k n hn 0 (by omega);simpa[one,gT] using this
     clear hn hSw hca hcell;have Yh:oZ wr W.heap.size s:=afj.out.frX Ma.out (fun hx=>by
      obtain⟨l1,l2,l3,l4,l5⟩:=aeo.out;rcases hx with hx|hx|hx|hx
      ·omega
      ·omega
      ·omega
      ·have:=l4 _ hx;omega)
     have e0:wr.cell? ⟨W.heap.size,0,none⟩=some (.int .i64 (s 0)):=Yh.2 0 (by omega);have e1:wr.cell? ⟨W.heap.size,1,none⟩=some (.int .i64 (s 1)):=Yh.2 1 (by omega);have e2:wr.cell? ⟨W.heap.size,2,none⟩=some (.int .i64 (s 2)):=Yh.2 2 (by omega);clear Yh;have HX:=aa ((Ext.refl wr).alloc (.cells #[.int .i64 (s 0),.int .i64 (s 1),.int .i64 (s 2)] 164));have hbit:=LM gone n (by omega)
     cases hcn:cur.contains n with
     | true=>
       rw[HG.out n,hcn,if_pos rfl]at hbit;have HM:=aa (GV (f:=ow h all f s cur) Hn.out HN.out (by unfold ow;rw[if_pos hcn]));clear hcn;go_wp2;go_roundw;case rel=>exact⟨Ma.out.alloc _,k+1,by omega,by go_num,HM.out,(let ⟨v',a,b,c⟩:=HV.out;⟨v',aL a HX.out,b.ext HX.out,c⟩),aL UQ.out.1 HX.out,aL UQ.out.2 HX.out⟩
       case measure=>simp[intOf];omega
     | false=>
       rw[HG.out n,hcn,if_neg (by decide)]at hbit;have O5:=aa hcn;clear hcn;obtain⟨t,ht⟩:=af hnl;obtain⟨bh,oh,rfl,hbh,hch⟩:=HH.out.head (by omega);obtain⟨ov,d0,d1,d2,hops⟩:=hch n t ht;have ad4:=aa (Yt hops);replace d0:=HX.out.cell (H0.out.old.cell d0);replace d1:=HX.out.cell (H0.out.old.cell d1);replace d2:=HX.out.cell (H0.out.old.cell d2);have Ow:=aa (hops.ext (H0.out.old.trans HX.out));obtain⟨hto,htk⟩:=HTX.out n t ht;have O8:=aa htk;have Uf:=aa hto;have hat:rH h n=t.ops:=by simp[rH,ht]
       have HAT:=aa hat;have hfn:=HX.out.cell H0.out.hh.cell;have hwn:=HX.out.cell H0.out.x.cell;have HW0:=aa (show w0.heap.size<=wr.heap.size from H0.out.old.size);have HQ:Hid (Calls Tryz.prog 205 #[.pointer (some ⟨wr.heap.size,0,none⟩),ng t ov] (wr.alloc (.cells #[.int .i64 (s 0),.int .i64 (s 1),.int .i64 (s 2)] 164)) _):=PW wr.heap.size s t ov _ (Ba wr s 164) Ow.out (fun a n c e hn=>by have:=ad4.out a n c e hn;have:=HW0.out;omega) O8.out Uf.out;obtain⟨As,cs,rfl,_⟩:=id hops;clear ht hch hops hto htk hat hbh
       cases hfo:follow s t.ops with
       | none=>
         have HFO:=aa hfo;have HM:=aa (GV (f:=ow h all f s cur) Hn.out HN.out (by unfold ow;rw[O5.out,HAT.out,hfo];rfl));clear hfo;go_wp2_with (first|(go_at_call 121;refine(FV _ _ _).mono ?_;rintro e wa ⟨rfl,rfl⟩)|(go_at_call 205;refine HQ.out.mono ?_;rintro e w2 ⟨hf2,fb,rfl,_,hf4⟩;obtain rfl:=hf4 HFO.out))
         go_roundw;case rel=>
          have b2:=bH.out HX.out hf2 (fun i e=>by omega);exact⟨Ma.out.ext b2,k+1,by omega,by go_num,HM.out,(let ⟨v',a,b,c⟩:=HV.out;⟨v',aL a b2,b.ext b2,c⟩),aL UQ.out.1 b2,aL UQ.out.2 b2⟩
         case measure=>simp[intOf];omega
       | some s'=>
         have HFO:=aa hfo;have yX:Hid (ow h all f s cur n=Np h all f s' (cur++[n])):=by show _ = _;unfold ow;rw[O5.out,HAT.out,hfo];rfl
         obtain⟨v',ho',hr',acO⟩:=HV.out;obtain⟨A',c',rfl,_⟩:=id hr'.cell.1;have PD:=aa ho';have HR2:=aa hr';have abg:=aa acO;have hbw:bo<=wr.heap.size:=Nat.le_trans HBO.out Ma.out.size;have hc6:cur.length+1<=6:=by have:=HLEN.out;omega
         have hoc:=HX.out.cell ho'.cell;clear hfo ho' hr' acO;go_wp2_with (first|(go_at_call 121;refine(FV _ _ _).mono ?_;rintro e wa ⟨rfl,rfl⟩)|(go_at_call 205;refine HQ.out.mono ?_;rintro e w2 ⟨hf2,fb,rfl,hf3,hf4⟩;obtain⟨rfl,acX⟩:=hf3 s' HFO.out;have b2:=aa (bH.out HX.out hf2 (fun i e=>by omega));have co2:=b2.out.cell PD.out.cell;have DL:=aa acX;clear acX hf2 hf3 hf4;obtain⟨v3,w3,hrun,hp⟩:=LJ w2.heap.size rfl (HR2.out.ext b2.out) (Ext.refl w2) n (Nat.le_trans hbw b2.out.size) (by omega);obtain⟨g3,c3,hv3,ab9⟩:=mK hp.1 (by simp);rw[List.length_append,List.length_singleton]at hv3 ab9;subst hv3;have P23:=aa (iR (u:=w0) (HR2.out.ext b2.out) hp (H0.out.old.trans b2.out) Jb.out.lo.2.2.2);have O3:=aa (P23.out.boxed (aL PD.out b2.out) (fun e=>Boxed.not_row PD.out (by decide) HR2.out e.symm));have aU:=aa hrun;have HP:=aa hp;have xc3:=O3.out.cell;have xz3:=O3.out.frozen;clear hrun hp)|(at_builtin;refine wpList_append_run rfl rfl rfl rfl aU.out ?_;clear aU co2))
         have ad6:OB<wr.heap.size:=PD.out.lt;have ae5:FB<wr.heap.size:=UQ.out.1.lt;have afc:KB<wr.heap.size:=UQ.out.2.lt;have hvb:∀i,(Value.slice A' cur.length c').ownBlock=some i->i<wr.heap.size:=fun i e=>(World.ownsRow.lt HR2.out i e).2;have adM:wr.heap.size<=w2.heap.size:=b2.out.size;have aeA:wr.heap.size<w2.heap.size:=DL.out.1.lt;have h3b:(Value.slice (some ⟨g3,0,none⟩) (cur.length+1) c3).ownBlock≠some wr.heap.size:=fun e=>by
          rcases HP.out.2.2.2 with e'|⟨i,e',hi⟩
          ·rw[e']at e;have:=hvb _ e;omega
          ·rw[e']at e;injection e with e;omega
         have E3:=(H0.out.ext b2.out).frX Jb.out (HR2.out.ext b2.out) (P23.out.wide (fun i e=>.inr (.inr (.inr e))));have st3:=DL.out.frX P23.out (fun e=>by have:=hvb _ e;omega);have F3:=P23.out.boxed (aL UQ.out.1 b2.out) (fun e=>Boxed.not_row UQ.out.1 (by decide) HR2.out e.symm);have K3:=P23.out.boxed (aL UQ.out.2 b2.out) (fun e=>Boxed.not_row UQ.out.2 (by decide) HR2.out e.symm);have n3:=Boxed.not_row O3.out (by decide) HP.out.1;have Z6:bH (fun i=>i=OB) w3 (w3.setCell ⟨OB,0,none⟩ (.slice (some ⟨g3,0,none⟩) (cur.length+1) c3)):=(bH.refl (fun i=>i=OB) w3).setCell (p:=⟨OB,0,none⟩) (.inl rfl) _;have E4:=E3.frX Jb.out HP.out.1 (Z6.wide (fun i e=>.inl e));have O4:=O3.out.set (.slice (some ⟨g3,0,none⟩) (cur.length+1) c3);have R4:=dM HP.out.1 Z6 (fun i e hi=>n3 (by rw[e,hi]));have F4:=Z6.boxed F3 (fun e=>Jb.out.of e.symm);have K4:=Z6.boxed K3 (fun e=>Jb.out.ok e.symm);have st4:=st3.frX Z6 (by omega);have G4:=((Ma.out.ext b2.out).more P23.out (fun i e=>by
          rcases abg.out with e'|⟨j,e',hj⟩
          ·rw[e']at e;exact .inl (.inr (.inr (.inr e)))
          ·rw[e']at e;injection e with e;subst e;exact .inr hj)).more Z6 (fun i e=>.inl (.inl e))
         have abI:w2.heap.size<=(w3.setCell ⟨OB,0,none⟩ (.slice (some ⟨g3,0,none⟩) (cur.length+1) c3)).heap.size:=Nat.le_trans P23.out.size Z6.size;clear E3 st3 F3 K3 n3 Z6 xc3 xz3;generalize hw4:w3.setCell ⟨OB,0,none⟩ (.slice (some ⟨g3,0,none⟩) (cur.length+1) c3)=w4 at E4 O4 R4 F4 K4 st4 G4 abI ⊢;have D4:=(Ext.refl w4).drew;have aco:Hid (Calls Tryz.prog 204 #[.agg #[.int .i64 (s' 0),.int .i64 (s' 1),.int .i64 (s' 2)],.int .u64 ((gone ||| 2 ^ n:Nat):Int),.pointer (some ⟨OB,0,none⟩),.pointer (some ⟨AB,0,none⟩),.pointer (some ⟨CB,0,none⟩),.pointer (some ⟨WB,0,none⟩),.pointer (some ⟨HB,0,none⟩),.pointer (some ⟨SB,0,none⟩)] w4.drew (Rh h all f s' (cur++[n]) OB FB KB bo (.slice (some ⟨g3,0,none⟩) (cur.length+1) c3) fv w4.drew)):=
          HIH.out s' (cur++[n]) (gone ||| 2 ^ n) _ w4.drew (E4.ext D4) ((PI.out w4 G4).ext D4) (aL O4 D4) (R4.ext D4) (aL F4 D4) (aL K4 D4) (fun m=>by rw[Nat.testBit_or,HG.out,Iz,Nat.testBit_two_pow]) (Nat.or_lt_two_pow (n:=6) hg6 (Nat.pow_lt_pow_right (by omega) hn6)) (by have:=HLEN.out;simp;omega) (by show bo<=w4.heap.size;omega)
         have hset:=Ra gone n (by omega) (by omega);have cs:=E4.s.cell;have x0:w4.cell? ⟨wr.heap.size,0,none⟩=some (.int .i64 (s' 0)):=st4.2 0 (by omega);have x1:w4.cell? ⟨wr.heap.size,1,none⟩=some (.int .i64 (s' 1)):=st4.2 1 (by omega);have x2:w4.cell? ⟨wr.heap.size,2,none⟩=some (.int .i64 (s' 2)):=st4.2 2 (by omega);have Vx:Hid (¬XS OB FB KB (.slice (some ⟨g3,0,none⟩) (cur.length+1) c3) wr.heap.size):=fun hx=>by
          rcases hx with hx|hx|hx|hx
          ·omega
          ·omega
          ·omega
          ·exact h3b hx
         have Ua:=aa (Bj R4 E4.s (by decide) Jb.out.s);have wV:=aa E4;have HG4:=aa G4;have HP4:=aa (show ∀i,XS OB FB KB (.slice (some ⟨g3,0,none⟩) (cur.length+1) c3) i->XS OB FB KB (.slice A cur.length c) i∨W1.heap.size<=i from fun i hx=>by
          rcases hx with hx|hx|hx|hx
          ·exact .inl (.inl hx)
          ·exact .inl (.inr (.inl hx))
          ·exact .inl (.inr (.inr (.inl hx)))
          ·rcases HP.out.2.2.2 with e'|⟨j,e',hj⟩
           ·rw[e']at hx;rcases abg.out with e2|⟨j,e2,hj⟩
            ·rw[e2]at hx;exact .inl (.inr (.inr (.inr hx)))
            ·rw[e2]at hx;injection hx with hx;subst hx;exact .inr hj
           ·rw[e']at hx;injection hx with hx;have:=Ma.out.size;exact .inr (by omega))
         clear hw4 E4 O4 R4 F4 K4 st4 G4 ad6 ae5 afc hvb adM aeA h3b hoc hbit c0 e0 e1 e2 d0 d1 d2 hfn hwn abI
         cases hd:Np h all f s' (cur++[n]) with
         | some o=>
           have HD:=aa hd;have jl:=aa (YV (f:=ow h all f s cur) Hn.out HN.out o (yX.out.trans hd));clear hd;go_region_held3 (fun V=>V.cell? ⟨SB,0,none⟩=some (.func (.func 204) #[] #[.pointer (some ⟨OB,0,none⟩),.pointer (some ⟨AB,0,none⟩),.pointer (some ⟨CB,0,none⟩),.pointer (some ⟨WB,0,none⟩),.pointer (some ⟨HB,0,none⟩),.pointer (some ⟨SB,0,none⟩)])/\V.cell? ⟨wr.heap.size,0,none⟩=some (.int .i64 (s' 0))/\V.cell? ⟨wr.heap.size,1,none⟩=some (.int .i64 (s' 1))/\V.cell? ⟨wr.heap.size,2,none⟩=some (.int .i64 (s' 2))) (exact⟨by assumption,by assumption,by assumption,by assumption⟩) ((go_at_call 204;refine aco.out.mono ?_;rintro e w5 ⟨TS,zZ,hQ5⟩;have xs5:=TS.cell (p:=⟨SB,0,none⟩) (wV.out.s.cell) Ua.out;have y0:=TS.cell (p:=⟨wr.heap.size,0,none⟩) x0 Vx.out;have y1:=TS.cell (p:=⟨wr.heap.size,1,none⟩) x1 Vx.out;have y2:=TS.cell (p:=⟨wr.heap.size,2,none⟩) x2 Vx.out;obtain⟨rfl,hk5,u5,hf5,hr5⟩:=zZ o HD.out;have Z5:=aa TS;have HK5:=aa hk5;have HF5:=aa hf5;have HR5:=aa hr5;clear TS zZ hQ5 hk5 hf5 hr5))
           clear x0 x1 x2 cs xs5 y0 y1 y2;go_wp2;go_returns;refine⟨(bH.aT HB0.out).trans ((HG4.out.ext (Ext.refl w4).drew).more Z5.out HP4.out),fun o' ho'=>?_,fun hn=>?_⟩
           ·rw[EH,jl.out]at ho';cases ho';exact⟨rfl,HK5.out,u5,HF5.out,HR5.out⟩
           ·rw[EH,jl.out]at hn;cases hn
         | none=>
           have HM:=aa (GV (f:=ow h all f s cur) Hn.out HN.out (yX.out.trans hd));have HD:=aa hd;clear hd;go_region_held3 (fun V=>V.cell? ⟨SB,0,none⟩=some (.func (.func 204) #[] #[.pointer (some ⟨OB,0,none⟩),.pointer (some ⟨AB,0,none⟩),.pointer (some ⟨CB,0,none⟩),.pointer (some ⟨WB,0,none⟩),.pointer (some ⟨HB,0,none⟩),.pointer (some ⟨SB,0,none⟩)])/\V.cell? ⟨wr.heap.size,0,none⟩=some (.int .i64 (s' 0))/\V.cell? ⟨wr.heap.size,1,none⟩=some (.int .i64 (s' 1))/\V.cell? ⟨wr.heap.size,2,none⟩=some (.int .i64 (s' 2))) (exact⟨by assumption,by assumption,by assumption,by assumption⟩) ((go_at_call 204;refine aco.out.mono ?_;rintro e w5 ⟨TS,zZ,hQ5⟩;have xs5:=TS.cell (p:=⟨SB,0,none⟩) (wV.out.s.cell) Ua.out;have y0:=TS.cell (p:=⟨wr.heap.size,0,none⟩) x0 Vx.out;have y1:=TS.cell (p:=⟨wr.heap.size,1,none⟩) x1 Vx.out;have y2:=TS.cell (p:=⟨wr.heap.size,2,none⟩) x2 Vx.out;obtain⟨rfl,hk5,hf5,v5,ho5,hr5,hb5⟩:=hQ5 HD.out;obtain⟨g5,c5,hv5,hcap5⟩:=mK hr5 (by simp);rw[List.length_append,List.length_singleton]at hv5 hcap5;subst hv5;have Z5:=aa TS;have HK5:=aa hk5;have HF5:=aa hf5;have HR5:=aa hr5;have HO5:=aa ho5;have Ea:=aa hb5;have xo5:=ho5.cell;have xz5:=ho5.frozen;clear TS zZ hQ5 hk5 hf5 hr5 ho5 hb5))
           clear x0 x1 x2 cs xs5 y0 y1 y2;obtain⟨hcp1,hcp2⟩:=hcap5;have afX:(cur.length:Int)+1<=(c5:Int):=by omega
           have afs:(c5:Int)<=9223372036854775807:=by omega
           have hcl0:(0:Int)<=(cur.length:Int):=by omega
           have afJ:(cur.length:Int)<=6:=by omega
           go_wp2;have hrc:=XG HR5.out cur.length (by simp);rw[List.take_left]at hrc;have Zv:=aa hrc;have P56:bH (fun i=>i=OB) w5 (w5.setCell ⟨OB,0,none⟩ (.slice (some ⟨g5,0,none⟩) cur.length c5)):=(bH.refl (fun i=>i=OB) w5).setCell (p:=⟨OB,0,none⟩) (.inl rfl) _;have Zo:=aa P56;have HOWN:Hid ((Value.slice (some ⟨g5,0,none⟩) cur.length c5).ownBlock=(Value.slice A cur.length c).ownBlock∨∃k,(Value.slice (some ⟨g5,0,none⟩) cur.length c5).ownBlock=some k/\W1.heap.size<=k):=by
            show _∨_;have adx:=Ma.out.size;have hwr2:=b2.out.size;have afL:=HG4.out.size;rcases Ea.out with e1|⟨j,e1,hj⟩
            ·rcases HP.out.2.2.2 with e2|⟨j,e2,hj⟩
             ·rcases abg.out with e3|⟨j,e3,hj⟩
              ·exact .inl (e1.trans (e2.trans e3))
              ·exact .inr ⟨j,e1.trans (e2.trans e3),hj⟩
             ·exact .inr ⟨j,e1.trans e2,by omega⟩
            ·exact .inr ⟨j,e1,by have:w4.heap.size<=j:=hj;omega⟩
           have n5:=aa (Boxed.not_row HO5.out (e:=3) (by decide) HR5.out);clear hrc P56 xo5 xz5;go_roundw;case rel=>exact⟨((HG4.out.ext (Ext.refl w4).drew).more Z5.out HP4.out).trans (Zo.out.wide (fun i e=>.inl e)),k+1,by omega,by go_num,HM.out,⟨_,HO5.out.set _,dM Zv.out Zo.out (fun i e hi=>n5.out (by rw[<-hi];exact e.symm)),HOWN.out⟩,Zo.out.boxed HF5.out (fun e=>Jb.out.of e.symm),Zo.out.boxed HK5.out (fun e=>Jb.out.ok e.symm)⟩
           case measure=>simp[intOf];omega
    ·obtain rfl:k=all.length:=by omega
     have hdn:=HN.out;rw[List.take_length,<-EH]at hdn;have O0:=aa hdn;clear hdn;go_wp2;go_returns;refine⟨((bH.aT HB0.out)).trans Ma.out,fun o ho=>(by rw[O0.out]at ho;cases ho),fun _=>?_⟩;obtain⟨v',h1,h2,h3⟩:=HV.out;exact⟨rfl,UQ.out.2,UQ.out.1,v',h1,h2,h3.elim .inl (fun⟨k,e,hk⟩=>.inr ⟨k,e,by have:=HSZ.out;omega⟩)⟩
