/- Lemmas. -/
import Derived.Test.YtcdopfdgknglfaaGreatDoorKAI
set_option maxHeartbeats 16000000
set_option maxRecDepth 8000
set_option linter.all false
namespace Go.Proofs.YtcdopfdgknglfaaGreatDoor
open Go.RowKit
theorem aah{α β:Type}{l:List α}{k:Nat}{x:α}{f:α->Option β}(hx:l[k]? =some x)(hn:(l.take k).findSome? f=none):∀o,f x=some o->l.findSome? f=some o:=λo ho=>by rw[IU hx,List.findSome?_append,hn,List.findSome?_cons,ho];rfl
theorem Jg{α β:Type}{l:List α}{k:Nat}{x:α}{f:α->Option β}(hx:l[k]? =some x)(hn:(l.take k).findSome? f=none)(h:f x=none):(l.take (k+1)).findSome? f=none:=by rw[ak hx,List.findSome?_append,hn,List.findSome?_cons,h];rfl
theorem KC(cur:List Nat)(n m:Nat):(cur++[n]).contains m=(cur.contains m || decide (n=m)):=by rw[kQ];simp only[List.contains_eq_mem,iR,pF,rU,agF];exact⟨λh=>h.elim .inl (λe=>.inr e.symm),λh=>h.elim .inl (λe=>.inr e.symm)⟩
theorem Z0{α:Type}{m:Nat}{enc:α->Nat->Value}{w:World}{u:Value}{xs:List α}(h:aL m enc w u xs):∀a n c,u=.slice (some a) n c->0<n->a.block<w.heap.size:=λa n c hu hn=>by obtain⟨A,c',hA,h⟩:=h;rw[hA]at hu;injection hu with h1 h2 h3;obtain⟨b,off,hb,hlt,_⟩:=h (by omega);rw[hb]at h1;injection h1 with h1;rw[<-h1];exact hlt
def ql(h:List aG)(all:List Nat)(f:Nat)(s:j3)(order:List Nat)(n:Nat):Option (List Nat):=
 if order.contains n then none else (follow s (uO h n)).bind λs'=>dfs h all f s' (order++[n])
theorem IM(h:List aG)(all:List Nat)(f:Nat)(s:j3)(order:List Nat):dfs h all (f+1) s order=all.findSome? (ql h all f s order):=rfl
def XS(OB FB KB:Nat)(v:Value)(k:Nat):Prop:=k=OB∨k=FB∨k=KB∨v.ownBlock=some k
structure AZ (w0:World) (hv CY:Value) (OB AB CB WB HB SB FB KB:Nat) (W:World):Prop where
 old:Ext w0 W
 a:Boxed W AB 56 CY
 c:Boxed W CB 189 (.func (.func 173) #[] #[.pointer (some ⟨FB,0,none⟩),.pointer (some ⟨KB,0,none⟩)])
 x:Boxed W WB 143 (.func (.func 130) #[] #[])
 hh:Boxed W HB 23 hv
 s:Boxed W SB 220 (.func (.func 211) #[] #[.pointer (some ⟨OB,0,none⟩),.pointer (some ⟨AB,0,none⟩),.pointer (some ⟨CB,0,none⟩),.pointer (some ⟨WB,0,none⟩),.pointer (some ⟨HB,0,none⟩),.pointer (some ⟨SB,0,none⟩)])
structure WH (lo OB AB CB WB HB SB FB KB bo:Nat):Prop where
 a:¬(AB=OB∨AB=FB∨AB=KB)
 c:¬(CB=OB∨CB=FB∨CB=KB)
 x:¬(WB=OB∨WB=FB∨WB=KB)
 hh:¬(HB=OB∨HB=FB∨HB=KB)
 s:¬(SB=OB∨SB=FB∨SB=KB)
 of:OB≠FB
 ok:OB≠KB
 fk:FB≠KB
 lo:lo<=OB/\lo<=FB/\lo<=KB/\lo<=bo
theorem Di{W:World}{OB FB KB B bo:Nat}{T:TypeId}{u v:Value}{cur:List Nat}(hr:Row 3 1 (one jl) bo W v cur)(hB:Boxed W B T u)(hT:T≠3)(hn:¬(B=OB∨B=FB∨B=KB)):¬XS OB FB KB v B:=λh=>by
 rcases h with h|h|h|h
 ·exact hn (.inl h)
 ·exact hn (.inr (.inl h))
 ·exact hn (.inr (.inr h))
 ·exact Boxed.not_row hB hT hr h.symm
theorem AZ.frX{w0:World}{hv CY:Value}{OB AB CB WB HB SB FB KB bo:Nat}{W W':World}{v:Value}{cur:List Nat}(h:AZ w0 hv CY OB AB CB WB HB SB FB KB W)(FQ:WH w0.heap.size OB AB CB WB HB SB FB KB bo)(hr:Row 3 1 (one jl) bo W v cur)(k:dz (XS OB FB KB v) W W'):AZ w0 hv CY OB AB CB WB HB SB FB KB W' where
 old:=k.out h.old (λi hi=>by
  obtain⟨l1,l2,l3,l4⟩:=FQ.lo;rcases hi with e|e|e|e
  ·omega
  ·omega
  ·omega
  ·exact aX l4 (hr.block i e))
 a:=k.heap h.a (Di hr h.a (by decide) FQ.a)
 c:=k.heap h.c (Di hr h.c (by decide) FQ.c)
 x:=k.heap h.x (Di hr h.x (by decide) FQ.x)
 hh:=k.heap h.hh (Di hr h.hh (by decide) FQ.hh)
 s:=k.heap h.s (Di hr h.s (by decide) FQ.s)
theorem AZ.ext{w0:World}{hv CY:Value}{OB AB CB WB HB SB FB KB:Nat}{W W':World}(h:AZ w0 hv CY OB AB CB WB HB SB FB KB W)(k:Ext W W'):AZ w0 hv CY OB AB CB WB HB SB FB KB W':=
 ⟨h.old.trans k,aQ h.a k,aQ h.c k,aQ h.x k,aQ h.hh k,aQ h.s k⟩
theorem dz.boxed{X:Nat->Prop}{w w':World}{B:Nat}{T:TypeId}{v:Value}(h:dz X w w')(hB:Boxed w B T v)(hx:¬X B):Boxed w' B T v:=h.heap hB hx
theorem eU{α:Type}{e:TypeId}{m:Nat}{enc:α->Nat->Value}{base:Nat}{X:Nat->Prop}{W W':World}{v:Value}{xs:List α}(h:Row e m enc base W v xs)(k:dz X W W')(hx:∀i,v.ownBlock=some i->¬X i):Row e m enc base W' v xs:=by
 refine⟨h.1,?_⟩;rcases h.2 with hn|⟨g,cap,cur,rfl,h1,h2,h3⟩
 ·exact .inl hn
 ·exact .inr ⟨g,cap,cur,rfl,h1,k.heap h2 (hx g rfl),h3⟩
theorem nZ{α:Type}{e:TypeId}{m:Nat}{enc:α->Nat->Value}{base:Nat}{W:World}{v:Value}{xs:List α}(h:Row e m enc base W v xs)(hn:0<xs.length):∃g cap,v=.slice (some ⟨g,0,none⟩) xs.length cap/\xs.length<=cap/\cap<=9223372036854775807:=by
 rcases h.2 with ⟨_,h0⟩|⟨g,cap,cur,rfl,h1,h2,h3,h4,_⟩
 ·omega
 ·exact⟨g,cap,rfl,h3,by unfold maxLen at h4;omega⟩
def Ti(h:List aG)(all:List Nat)(f:Nat)(s:j3)(cur:List Nat)(OB FB KB bo:Nat)(v fv:Value)(W:World)(e:Ending)(W':World):Prop:=
 dz (XS OB FB KB v) W W' /\
 (∀o,dfs h all f s cur=some o->e=.returned (.bool false)/\Boxed W' KB 4 (.bool true)/\∃u,Boxed W' FB 56 u/\Row 3 1 (one jl) bo W' u o) /\
 (dfs h all f s cur=none->e=.returned (.bool true)/\Boxed W' KB 4 (.bool false)/\Boxed W' FB 56 fv/\∃v',Boxed W' OB 56 v'/\Row 3 1 (one jl) bo W' v' cur/\(v'.ownBlock=v.ownBlock∨∃k,v'.ownBlock=some k/\W.heap.size<=k))
theorem Qk{w0:World}{h:List aG}{all:List Nat}{hv CY fv:Value}{OB AB CB WB HB SB FB KB bo:Nat}(H:iM w0 hv h)(hok:aD h=true)(FQ:WH w0.heap.size OB AB CB WB HB SB FB KB bo)
 (hab:∀a n c,CY=.slice (some a) n c->0<n->¬(a.block=OB∨a.block=FB∨a.block=KB)/\a.block<bo) (hlt:∀n∈all,n<h.length) (hal:all.length<=6) :
 ∀(f:Nat) (s:j3) (cur:List Nat) (gone:Nat) (v:Value) (W:World),AZ w0 hv CY OB AB CB WB HB SB FB KB W->aL 1 (one jl) W CY all->Boxed W OB 56 v->Row 3 1 (one jl) bo W v cur->Boxed W FB 56 fv->Boxed W KB 4 (.bool false) ->
  (∀n,gone.testBit n=cur.contains n)->gone<64->cur.length+f=all.length->bo<=W.heap.size ->
  Calls Tryz.prog 211 #[Xc s,.int .u64 (gone:Int),.pointer (some ⟨OB,0,none⟩),.pointer (some ⟨AB,0,none⟩),.pointer (some ⟨CB,0,none⟩),.pointer (some ⟨WB,0,none⟩),.pointer (some ⟨HB,0,none⟩),.pointer (some ⟨SB,0,none⟩)] W (Ti h all f s cur OB FB KB bo v fv W):=by
 obtain⟨Ah,chh,rfl⟩:=H.slice;have HH:=aa H;have Kw:=aa FQ;have HAB:=aa hab;have Xa:=aa hlt;have Ws:=aa (aR hok);have HTX:Hid (∀(n:Nat) t,h[n]? =some t->t.ops.length<=6/\∀o∈t.ops,iY o=true):=λn t ht=>by
  have hall:h.all dG=true:=by unfold aD at hok;simp only[dh]at hok;exact hok.1.2
  have:=kT.1 hall t (aM ht)
  exact⟨dF this,λo ho=>gD this ho⟩
 clear H FQ hab hlt hok;intro f
 induction f with
 | zero=>
   intro s cur gone v W hE hS hO hR hF hK hG hg6 hlen NM;obtain⟨A,c,rfl,_⟩:=id hR.cell.1;obtain⟨Aa,ca,rfl,_⟩:=id hS;have E1:=aa (hE.ext ((af W).alloc (.cells #[.int .i64 (s 0),.int .i64 (s 1),.int .i64 (s 2)] 160)));have o1:=aQ hO ((af W).alloc (.cells #[.int .i64 (s 0),.int .i64 (s 1),.int .i64 (s 2)] 160));have HR:=aa (hR.ext ((af W).alloc (.cells #[.int .i64 (s 0),.int .i64 (s 1),.int .i64 (s 2)] 160)));have HF:=aa (aQ hF ((af W).alloc (.cells #[.int .i64 (s 0),.int .i64 (s 1),.int .i64 (s 2)] 160)));have HK:=aa (aQ hK ((af W).alloc (.cells #[.int .i64 (s 0),.int .i64 (s 1),.int .i64 (s 2)] 160)));have co:=o1.cell;have ca:=E1.out.a.cell;have cc:=E1.out.c.cell;have hl:cur.length=all.length:=by omega
   have hle:((cur.length:Int)==(all.length:Int))=true:=by simp[hl]
   have adT:bo<=(W.alloc (.cells #[.int .i64 (s 0),.int .i64 (s 1),.int .i64 (s 2)] 160)).heap.size:=by simp;omega
   have HBO:=aa adT;have HC6:=aa (show cur.length<=2097152 by omega);clear hE hS hO hR hF hK hG hlen hl o1 adT;unfold Xc;go_enter Tryz.func211,Tryz.ntmps211;go_wp2_with (go_at_call 173;refine(SY HR.out HF.out HK.out Kw.out.fk HC6.out HBO.out).mono ?_;rintro e w2 ⟨rfl,hfr,hk2,u,hf2,hr2⟩)
   go_returns;refine⟨((dz.refl _ _).alloc _).trans (hfr.wide λi hi=>hi.elim (λe=>.inr (.inl e)) (λe=>.inr (.inr (.inl e)))),λo ho=>?_,λhn=>by cases hn⟩
   have:cur=o:=by simpa[dfs] using ho
   subst this;exact⟨rfl,hk2,u,hf2,hr2⟩
 | succ f ih=>
   intro s cur gone v W hE hS hO hR hF hK hG hg6 hlen NM;obtain⟨Aa,cp,rfl,hac⟩:=id hS;have b0:=(af W).alloc (.cells #[.int .i64 (s 0),.int .i64 (s 1),.int .i64 (s 2)] 160);have acm:bo<=(W.alloc (.cells #[.int .i64 (s 0),.int .i64 (s 1),.int .i64 (s 2)] 160)).heap.size:=by simp;omega
   have hst:=BU W s 160;have E1:=hE.ext b0;have S1:=hS.ext b0;have O1:=aQ hO b0;have R1:=hR.ext b0;have F1:=aQ hF b0;have K1:=aQ hK b0;have hsz:(W.alloc (.cells #[.int .i64 (s 0),.int .i64 (s 1),.int .i64 (s 2)] 160)).heap.size=W.heap.size+1:=by simp
   obtain⟨W1,hW1⟩:∃W1,W1=W.alloc (.cells #[.int .i64 (s 0),.int .i64 (s 1),.int .i64 (s 2)] 160):=⟨_,rfl⟩;have HW1:=aa hW1;rw[<-hW1]at b0 acm hst E1 S1 O1 R1 F1 K1 hsz;have HB0:=aa b0;have HBO:=aa acm;have afq:=aa hst;have HE:=aa E1;have HS:=aa S1;have HO:=aa O1;have HR:=aa R1;have HF:=aa F1;have HK:=aa K1;have HG:=aa hG;have HSZ:=aa hsz;have HLEN:=aa hlen;have HIH:=aa ih;have afv:=aa (aB hO.lt (aB hF.lt (aB hK.lt (aB (λk hk=>(World.ownsRow.lt hR k hk).2) hE.old.size))));obtain⟨A,c,rfl,_⟩:=id hR.cell.1;have co:=O1.cell;have ca:=E1.a.cell;rw[hW1]at co ca;have hln:((cur.length:Int)==(all.length:Int))=false:=by simp;omega
   have QJ:Hid (∀w',dz (XS OB FB KB (.slice A cur.length c)) W1 w'->aL 1 (one jl) w' (.slice Aa all.length cp) all):=λw' hf=>HS.out.frX hf (λa n c e hn hx=>by
    obtain⟨x1,x2⟩:=HAB.out a n c e hn;rcases hx with hx|hx|hx|hx
    ·exact x1 (.inl hx)
    ·exact x1 (.inr (.inl hx))
    ·exact x1 (.inr (.inr hx))
    ·have:=HR.out.block _ hx;omega)
   clear b0 acm hst E1 S1 O1 R1 F1 K1 hsz hE hS hO hR hF hK hG hlen ih hac hW1;unfold Xc;go_enter Tryz.func211,Tryz.ntmps211;go_wp2;go_loopw [24] (λi wr=>Hid (dz (XS OB FB KB (.slice A cur.length c)) W1 wr)/\∃k:Nat,k<=all.length/\i=.int .i64 k/\Hid ((all.take k).findSome? (ql h all f s cur)=none)/\Hid (∃v',Boxed wr OB 56 v'/\Row 3 1 (one jl) bo wr v' cur/\(v'.ownBlock=(Value.slice A cur.length c).ownBlock∨∃k,v'.ownBlock=some k/\W1.heap.size<=k))/\Hid (Boxed wr FB 56 fv/\Boxed wr KB 4 (.bool false))) (λi _=>all.length-(intOf i).toNat)
   case atStart=>exact⟨HW1.out▸dz.refl _ _,0,aT _,rfl,rfl,⟨_,HW1.out▸HO.out,HW1.out▸HR.out,.inl rfl⟩,HW1.out▸HF.out,HW1.out▸HK.out⟩
   case round=>
    clear co ca;obtain⟨QE,k,hk,rfl,HN,HV,Wq⟩:=hrel;by_cases hlt:k<all.length
    ·have H0:=aa (HE.out.frX Kw.out HR.out QE.out);obtain⟨n,hn⟩:=ah hlt;have hnl:=Xa.out n (aM hn);have hn6:n<6:=by have:=Ws.out;omega
     have Hn:=aa hn;have hSw:=QJ.out wr QE.out;obtain⟨Aq,cq,hAe,hca⟩:=id hSw;have HSw:=aa hSw;injection hAe with hA1 hA3 hA4;subst hA1;subst hA4;clear hA3;obtain⟨b,off,rfl,hbl,hcell⟩:=hca (by omega);have c0:wr.cell? ⟨b,off+k,none⟩=some (.int .i64 (n:Int)):=by have:=hcell k n hn 0 (by omega);simpa[one,jl] using this
     clear hn hSw hca hcell;have aaq:qR wr W.heap.size s:=afq.out.frX QE.out (λhx=>by
      obtain⟨l1,l2,l3,l4,l5⟩:=afv.out;rcases hx with hx|hx|hx|hx
      ·omega
      ·omega
      ·omega
      ·have:=l4 _ hx;omega)
     have e0:wr.cell? ⟨W.heap.size,0,none⟩=some (.int .i64 (s 0)):=aaq.2 0 (by omega);have e1:wr.cell? ⟨W.heap.size,1,none⟩=some (.int .i64 (s 1)):=aaq.2 1 (by omega);have e2:wr.cell? ⟨W.heap.size,2,none⟩=some (.int .i64 (s 2)):=aaq.2 2 (by omega);clear aaq;have HX:=aa ((af wr).alloc (.cells #[.int .i64 (s 0),.int .i64 (s 1),.int .i64 (s 2)] 160));have hbit:=LZ gone n (by omega)
     cases hcn:cur.contains n with
     | true=>
       rw[HG.out n,hcn,aj rfl]at hbit;have HM:=aa (Jg (f:=ql h all f s cur) Hn.out HN.out (by unfold ql;rw[aj hcn]));clear hcn;go_wp2;go_roundw;case rel=>exact⟨QE.out.alloc _,k+1,by omega,by go_num,HM.out,(let ⟨v',a,b,c⟩:=HV.out;⟨v',aQ a HX.out,b.ext HX.out,c⟩),aQ Wq.out.1 HX.out,aQ Wq.out.2 HX.out⟩
       case measure=>simp[intOf];omega
     | false=>
       rw[HG.out n,hcn,au (by decide)]at hbit;have QB:=aa hcn;clear hcn;obtain⟨t,ht⟩:=ah hnl;obtain⟨bh,oh,rfl,hbh,hch⟩:=HH.out.head (by omega);obtain⟨ov,d0,d1,d2,hops⟩:=hch n t ht;have afe:=aa (Z0 hops);replace d0:=HX.out.cell (H0.out.old.cell d0);replace d1:=HX.out.cell (H0.out.old.cell d1);replace d2:=HX.out.cell (H0.out.old.cell d2);have OL:=aa (hops.ext (H0.out.old.trans HX.out));obtain⟨hto,htk⟩:=HTX.out n t ht;have R8:=aa htk;have VZ:=aa hto;have hat:uO h n=t.ops:=by simp[uO,ht]
       have HAT:=aa hat;have hfn:=HX.out.cell H0.out.hh.cell;have hwn:=HX.out.cell H0.out.x.cell;have HW0:=aa (show w0.heap.size<=wr.heap.size from H0.out.old.size);have HQ:Hid (Calls Tryz.prog 212 #[.pointer (some ⟨wr.heap.size,0,none⟩),o9 t ov] (wr.alloc (.cells #[.int .i64 (s 0),.int .i64 (s 1),.int .i64 (s 2)] 160)) _):=Rh wr.heap.size s t ov _ (BU wr s 160) OL.out (λa n c e hn=>by have:=afe.out a n c e hn;have:=HW0.out;omega) R8.out VZ.out;obtain⟨As,cs,rfl,_⟩:=id hops;clear ht hch hops hto htk hat hbh
       cases hfo:follow s t.ops with
       | none=>
         have HFO:=aa hfo;have HM:=aa (Jg (f:=ql h all f s cur) Hn.out HN.out (by unfold ql;rw[QB.out,HAT.out,hfo];rfl));clear hfo;go_wp2_with (first|(go_at_call 130;refine(Jy _ _ _).mono ?_;rintro e wa ⟨rfl,rfl⟩)|(go_at_call 212;refine HQ.out.mono ?_;rintro e w2 ⟨hf2,fb,rfl,_,hf4⟩;obtain rfl:=hf4 HFO.out))
         go_roundw;case rel=>
          have b2:=dz.out HX.out hf2 (λi e=>by omega);exact⟨QE.out.ext b2,k+1,by omega,by go_num,HM.out,(let ⟨v',a,b,c⟩:=HV.out;⟨v',aQ a b2,b.ext b2,c⟩),aQ Wq.out.1 b2,aQ Wq.out.2 b2⟩
         case measure=>simp[intOf];omega
       | some s'=>
         have HFO:=aa hfo;have LM:Hid (ql h all f s cur n=dfs h all f s' (cur++[n])):=by show _ = _;unfold ql;rw[QB.out,HAT.out,hfo];rfl
         obtain⟨v',ho',hr',ac1⟩:=HV.out;obtain⟨A',c',rfl,_⟩:=id hr'.cell.1;have Su:=aa ho';have HR2:=aa hr';have acn:=aa ac1;have hbw:bo<=wr.heap.size:=aX HBO.out QE.out.size;have hc6:cur.length+1<=6:=by have:=HLEN.out;omega
         have hoc:=HX.out.cell ho'.cell;clear hfo ho' hr' ac1;go_wp2_with (first|(go_at_call 130;refine(Jy _ _ _).mono ?_;rintro e wa ⟨rfl,rfl⟩)|(go_at_call 212;refine HQ.out.mono ?_;rintro e w2 ⟨hf2,fb,rfl,hf3,hf4⟩;obtain⟨rfl,adC⟩:=hf3 s' HFO.out;have b2:=aa (dz.out HX.out hf2 (λi e=>by omega));have co2:=b2.out.cell Su.out.cell;have FD:=aa adC;clear adC hf2 hf3 hf4;obtain⟨v3,w3,hrun,hp⟩:=Nh w2.heap.size rfl (HR2.out.ext b2.out) (af w2) n (aX hbw b2.out.size) (by omega);obtain⟨g3,c3,hv3,ac2⟩:=nZ hp.1 (by simp);rw[dw,oN]at hv3 ac2;subst hv3;have P23:=aa (jV (u:=w0) (HR2.out.ext b2.out) hp (H0.out.old.trans b2.out) Kw.out.lo.2.2.2);have O3:=aa (P23.out.boxed (aQ Su.out b2.out) (λe=>Boxed.not_row Su.out (by decide) HR2.out e.symm));have bH:=aa hrun;have HP:=aa hp;have xc3:=O3.out.cell;have xz3:=O3.out.frozen;clear hrun hp)|(at_builtin;refine wpList_append_run rfl rfl rfl rfl bH.out ?_;clear bH co2))
         have aeX:OB<wr.heap.size:=Su.out.lt;have ae6:FB<wr.heap.size:=Wq.out.1.lt;have afu:KB<wr.heap.size:=Wq.out.2.lt;have hvb:∀i,(Value.slice A' cur.length c').ownBlock=some i->i<wr.heap.size:=λi e=>(World.ownsRow.lt HR2.out i e).2;have afY:wr.heap.size<=w2.heap.size:=b2.out.size;have aeL:wr.heap.size<w2.heap.size:=FD.out.1.lt;have h3b:(Value.slice (some ⟨g3,0,none⟩) (cur.length+1) c3).ownBlock≠some wr.heap.size:=λe=>by
          rcases HP.out.2.2.2 with e'|⟨i,e',hi⟩
          ·rw[e']at e;have:=hvb _ e;omega
          ·rw[e']at e;injection e with e;omega
         have E3:=(H0.out.ext b2.out).frX Kw.out (HR2.out.ext b2.out) (P23.out.wide (λi e=>.inr (.inr (.inr e))));have st3:=FD.out.frX P23.out (λe=>by have:=hvb _ e;omega);have F3:=P23.out.boxed (aQ Wq.out.1 b2.out) (λe=>Boxed.not_row Wq.out.1 (by decide) HR2.out e.symm);have K3:=P23.out.boxed (aQ Wq.out.2 b2.out) (λe=>Boxed.not_row Wq.out.2 (by decide) HR2.out e.symm);have n3:=Boxed.not_row O3.out (by decide) HP.out.1;have P34:dz (λi=>i=OB) w3 (w3.setCell ⟨OB,0,none⟩ (.slice (some ⟨g3,0,none⟩) (cur.length+1) c3)):=(dz.refl (λi=>i=OB) w3).setCell (p:=⟨OB,0,none⟩) (.inl rfl) _;have E4:=E3.frX Kw.out HP.out.1 (P34.wide (λi e=>.inl e));have O4:=O3.out.set (.slice (some ⟨g3,0,none⟩) (cur.length+1) c3);have R4:=eU HP.out.1 P34 (λi e hi=>n3 (by rw[e,hi]));have F4:=P34.boxed F3 (λe=>Kw.out.of e.symm);have K4:=P34.boxed K3 (λe=>Kw.out.ok e.symm);have st4:=st3.frX P34 (by omega);have G4:=((QE.out.ext b2.out).more P23.out (λi e=>by
          rcases acn.out with e'|⟨j,e',hj⟩
          ·rw[e']at e;exact .inl (.inr (.inr (.inr e)))
          ·rw[e']at e;injection e with e;subst e;exact .inr hj)).more P34 (λi e=>.inl (.inl e))
         have adD:w2.heap.size<=(w3.setCell ⟨OB,0,none⟩ (.slice (some ⟨g3,0,none⟩) (cur.length+1) c3)).heap.size:=aX P23.out.size P34.size;clear E3 st3 F3 K3 n3 P34 xc3 xz3;generalize hw4:w3.setCell ⟨OB,0,none⟩ (.slice (some ⟨g3,0,none⟩) (cur.length+1) c3)=w4 at E4 O4 R4 F4 K4 st4 G4 adD ⊢;have D4:=(af w4).drew;have ado:Hid (Calls Tryz.prog 211 #[.agg #[.int .i64 (s' 0),.int .i64 (s' 1),.int .i64 (s' 2)],.int .u64 ((gone ||| 2 ^ n:Nat):Int),.pointer (some ⟨OB,0,none⟩),.pointer (some ⟨AB,0,none⟩),.pointer (some ⟨CB,0,none⟩),.pointer (some ⟨WB,0,none⟩),.pointer (some ⟨HB,0,none⟩),.pointer (some ⟨SB,0,none⟩)] w4.drew (Ti h all f s' (cur++[n]) OB FB KB bo (.slice (some ⟨g3,0,none⟩) (cur.length+1) c3) fv w4.drew)):=
          HIH.out s' (cur++[n]) (gone ||| 2 ^ n) _ w4.drew (E4.ext D4) ((QJ.out w4 G4).ext D4) (aQ O4 D4) (R4.ext D4) (aQ F4 D4) (aQ K4 D4) (λm=>by rw[Nat.testBit_or,HG.out,KC,Nat.testBit_two_pow]) (Nat.or_lt_two_pow (n:=6) hg6 (Nat.pow_lt_pow_right (by omega) hn6)) (by have:=HLEN.out;simp;omega) (by show bo<=w4.heap.size;omega)
         have hset:=Tv gone n (by omega) (by omega);have cs:=E4.s.cell;have x0:w4.cell? ⟨wr.heap.size,0,none⟩=some (.int .i64 (s' 0)):=st4.2 0 (by omega);have x1:w4.cell? ⟨wr.heap.size,1,none⟩=some (.int .i64 (s' 1)):=st4.2 1 (by omega);have x2:w4.cell? ⟨wr.heap.size,2,none⟩=some (.int .i64 (s' 2)):=st4.2 2 (by omega);have Yv:Hid (¬XS OB FB KB (.slice (some ⟨g3,0,none⟩) (cur.length+1) c3) wr.heap.size):=λhx=>by
          rcases hx with hx|hx|hx|hx
          ·omega
          ·omega
          ·omega
          ·exact h3b hx
         have Uj:=aa (Di R4 E4.s (by decide) Kw.out.s);have sU:=aa E4;have HG4:=aa G4;have HP4:=aa (show ∀i,XS OB FB KB (.slice (some ⟨g3,0,none⟩) (cur.length+1) c3) i->XS OB FB KB (.slice A cur.length c) i∨W1.heap.size<=i from λi hx=>by
          rcases hx with hx|hx|hx|hx
          ·exact .inl (.inl hx)
          ·exact .inl (.inr (.inl hx))
          ·exact .inl (.inr (.inr (.inl hx)))
          ·rcases HP.out.2.2.2 with e'|⟨j,e',hj⟩
           ·rw[e']at hx;rcases acn.out with e2|⟨j,e2,hj⟩
            ·rw[e2]at hx;exact .inl (.inr (.inr (.inr hx)))
            ·rw[e2]at hx;injection hx with hx;subst hx;exact .inr hj
           ·rw[e']at hx;injection hx with hx;have:=QE.out.size;exact .inr (by omega))
         clear hw4 E4 O4 R4 F4 K4 st4 G4 aeX ae6 afu hvb afY aeL h3b hoc hbit c0 e0 e1 e2 d0 d1 d2 hfn hwn adD
         cases hd:dfs h all f s' (cur++[n]) with
         | some o=>
           have HD:=aa hd;have jR:=aa (aah (f:=ql h all f s cur) Hn.out HN.out o (LM.out.trans hd));clear hd;go_region_held3 (λV=>V.cell? ⟨SB,0,none⟩=some (.func (.func 211) #[] #[.pointer (some ⟨OB,0,none⟩),.pointer (some ⟨AB,0,none⟩),.pointer (some ⟨CB,0,none⟩),.pointer (some ⟨WB,0,none⟩),.pointer (some ⟨HB,0,none⟩),.pointer (some ⟨SB,0,none⟩)])/\V.cell? ⟨wr.heap.size,0,none⟩=some (.int .i64 (s' 0))/\V.cell? ⟨wr.heap.size,1,none⟩=some (.int .i64 (s' 1))/\V.cell? ⟨wr.heap.size,2,none⟩=some (.int .i64 (s' 2))) (exact⟨by assumption,by assumption,by assumption,by assumption⟩) ((go_at_call 211;refine ado.out.mono ?_;rintro e w5 ⟨Vu,Cv,hQ5⟩;have xs5:=Vu.cell (p:=⟨SB,0,none⟩) (sU.out.s.cell) Uj.out;have y0:=Vu.cell (p:=⟨wr.heap.size,0,none⟩) x0 Yv.out;have y1:=Vu.cell (p:=⟨wr.heap.size,1,none⟩) x1 Yv.out;have y2:=Vu.cell (p:=⟨wr.heap.size,2,none⟩) x2 Yv.out;obtain⟨rfl,hk5,u5,hf5,hr5⟩:=Cv o HD.out;have WZ:=aa Vu;have HK5:=aa hk5;have HF5:=aa hf5;have HR5:=aa hr5;clear Vu Cv hQ5 hk5 hf5 hr5))
           clear x0 x1 x2 cs xs5 y0 y1 y2;go_wp2;go_returns;refine⟨(dz.bK HB0.out).trans ((HG4.out.ext (af w4).drew).more WZ.out HP4.out),λo' ho'=>?_,λhn=>?_⟩
           ·rw[IM,jR.out]at ho';cases ho';exact⟨rfl,HK5.out,u5,HF5.out,HR5.out⟩
           ·rw[IM,jR.out]at hn;cases hn
         | none=>
           have HM:=aa (Jg (f:=ql h all f s cur) Hn.out HN.out (LM.out.trans hd));have HD:=aa hd;clear hd;go_region_held3 (λV=>V.cell? ⟨SB,0,none⟩=some (.func (.func 211) #[] #[.pointer (some ⟨OB,0,none⟩),.pointer (some ⟨AB,0,none⟩),.pointer (some ⟨CB,0,none⟩),.pointer (some ⟨WB,0,none⟩),.pointer (some ⟨HB,0,none⟩),.pointer (some ⟨SB,0,none⟩)])/\V.cell? ⟨wr.heap.size,0,none⟩=some (.int .i64 (s' 0))/\V.cell? ⟨wr.heap.size,1,none⟩=some (.int .i64 (s' 1))/\V.cell? ⟨wr.heap.size,2,none⟩=some (.int .i64 (s' 2))) (exact⟨by assumption,by assumption,by assumption,by assumption⟩) ((go_at_call 211;refine ado.out.mono ?_;rintro e w5 ⟨Vu,Cv,hQ5⟩;have xs5:=Vu.cell (p:=⟨SB,0,none⟩) (sU.out.s.cell) Uj.out;have y0:=Vu.cell (p:=⟨wr.heap.size,0,none⟩) x0 Yv.out;have y1:=Vu.cell (p:=⟨wr.heap.size,1,none⟩) x1 Yv.out;have y2:=Vu.cell (p:=⟨wr.heap.size,2,none⟩) x2 Yv.out;obtain⟨rfl,hk5,hf5,v5,ho5,hr5,hb5⟩:=hQ5 HD.out;obtain⟨g5,c5,hv5,hcap5⟩:=nZ hr5 (by simp);rw[dw,oN]at hv5 hcap5;subst hv5;have WZ:=aa Vu;have HK5:=aa hk5;have HF5:=aa hf5;have HR5:=aa hr5;have HO5:=aa ho5;have BA:=aa hb5;have xo5:=ho5.cell;have xz5:=ho5.frozen;clear Vu Cv hQ5 hk5 hf5 hr5 ho5 hb5))
           clear x0 x1 x2 cs xs5 y0 y1 y2;obtain⟨hcp1,hcp2⟩:=hcap5;have agu:(cur.length:Int)+1<=(c5:Int):=by omega
           have age:(c5:Int)<=9223372036854775807:=by omega
           have hcl0:(0:Int)<=(cur.length:Int):=by omega
           have agj:(cur.length:Int)<=6:=by omega
           go_wp2;have hrc:=ZM HR5.out cur.length (by simp);rw[List.take_left]at hrc;have HRC:=aa hrc;have P56:dz (λi=>i=OB) w5 (w5.setCell ⟨OB,0,none⟩ (.slice (some ⟨g5,0,none⟩) cur.length c5)):=(dz.refl (λi=>i=OB) w5).setCell (p:=⟨OB,0,none⟩) (.inl rfl) _;have Z4:=aa P56;have HOWN:Hid ((Value.slice (some ⟨g5,0,none⟩) cur.length c5).ownBlock=(Value.slice A cur.length c).ownBlock∨∃k,(Value.slice (some ⟨g5,0,none⟩) cur.length c5).ownBlock=some k/\W1.heap.size<=k):=by
            show _∨_;have aad:=QE.out.size;have hwr2:=b2.out.size;have agq:=HG4.out.size;rcases BA.out with e1|⟨j,e1,hj⟩
            ·rcases HP.out.2.2.2 with e2|⟨j,e2,hj⟩
             ·rcases acn.out with e3|⟨j,e3,hj⟩
              ·exact .inl (e1.trans (e2.trans e3))
              ·exact .inr ⟨j,e1.trans (e2.trans e3),hj⟩
             ·exact .inr ⟨j,e1.trans e2,by omega⟩
            ·exact .inr ⟨j,e1,by have:w4.heap.size<=j:=hj;omega⟩
           have n5:=aa (Boxed.not_row HO5.out (e:=3) (by decide) HR5.out);clear hrc P56 xo5 xz5;go_roundw;case rel=>exact⟨((HG4.out.ext (af w4).drew).more WZ.out HP4.out).trans (Z4.out.wide (λi e=>.inl e)),k+1,by omega,by go_num,HM.out,⟨_,HO5.out.set _,eU HRC.out Z4.out (λi e hi=>n5.out (by rw[<-hi];exact e.symm)),HOWN.out⟩,Z4.out.boxed HF5.out (λe=>Kw.out.of e.symm),Z4.out.boxed HK5.out (λe=>Kw.out.ok e.symm)⟩
           case measure=>simp[intOf];omega
    ·obtain rfl:k=all.length:=by omega
     have hdn:=HN.out;rw[bM,<-IM]at hdn;have QC:=aa hdn;clear hdn;go_wp2;go_returns;refine⟨((dz.bK HB0.out)).trans QE.out,λo ho=>(by rw[QC.out]at ho;cases ho),λ_=>?_⟩;obtain⟨v',h1,h2,h3⟩:=HV.out;exact⟨rfl,Wq.out.2,Wq.out.1,v',h1,h2,h3.elim .inl (λ⟨k,e,hk⟩=>.inr ⟨k,e,by have:=HSZ.out;omega⟩)⟩
