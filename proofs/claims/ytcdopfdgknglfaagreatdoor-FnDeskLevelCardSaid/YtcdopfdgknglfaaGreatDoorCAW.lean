/- Lemmas. -/
import Derived.Test.YtcdopfdgknglfaaGreatDoorCAO
import Derived.Test.YtcdopfdgknglfaaGreatDoorCAQ
set_option maxHeartbeats 16000000
set_option maxRecDepth 8000
set_option linter.all false
namespace Go.Proofs.YtcdopfdgknglfaaGreatDoor
open Go.RowKit
theorem JF{h:List aF}{n:Nat}{t':aF}(hn:n<h.length)(i:Nat):opsOf (h.set n t') i=if i=n then t'.ops else opsOf h i:=by
 unfold opsOf;by_cases e:i=n
 ·subst e;simp[H8 hn]
 ·rw[Ie (λe'=>e e'.symm)];simp[e]
theorem Nj{h:List aF}{n:Nat}{t':aF}(hn:n<h.length)(i:Nat):eH (h.set n t') i=if i=n then t'.done else eH h i:=by
 unfold eH;by_cases e:i=n
 ·subst e;simp[H8 hn]
 ·rw[Ie (λe'=>e e'.symm)];simp[e]
def kH(h:List aF)(k:Int)(w:Nat):Int:=((dm (opsOf h w) k).map (·.value)).getD 0
def l7(h:List aF)(k:Int)(l:List Nat)(j:Nat):Int:=if j=0 then 0 else ((l[j-1]?).map (kH h k)).getD 0
theorem Ll{h:List aF}{n:Nat}{t':aF}(hn:n<h.length){k:Int}{l:List Nat}(hl:∀w∈l,w≠n)(j:Nat):l7 (h.set n t') k l j=l7 h k l j:=by
 unfold l7;split
 ·rfl
 ·cases e:l[j-1]? with
  | none=>rfl
  | some w=>simp[kH,JF hn,hl w (aN e)]
theorem KV{h:List aF}{k:Int}{l:List Nat}{n j:Nat}(hj:j<=l.length):l7 h k (l++[n]) j=l7 h k l j:=by
 unfold l7;split
 ·rfl
 ·rw[nZ (by omega)]
theorem K6(h:List aF)(k:Int)(l:List Nat)(n:Nat):l7 h k (l++[n]) (l.length+1)=kH h k n:=by simp[l7]
structure mG (m:pG) (K:Nat) (vw:Int->List Nat) (bt ct:Nat->Nat):Prop where
 bG:∀k,m.bG k=((vw k).length:Int)
 vals:∀k,m.vals k=l7 m.h k (vw k) (vw k).length
 wr:∀k (i:Nat) w,(vw k)[i]? =some w->eH m.h w=true/\(∃o,dm (opsOf m.h w) k=some o)/\ct w<K/\bt w<=ct w/\m.began w k=(i:Int)
 back:∀w,eH m.h w=true->∀k:Int,(k=0∨k=1∨k=2)->(∃o,dm (opsOf m.h w) k=some o)->∃i:Nat,(vw k)[i]? =some w
 RI:∀n,0<(opsOf m.h n).length->bt n<K/\∀k,∃b:Nat,m.began n k=(b:Int)/\b<=(vw k).length/\m.kept n k=l7 m.h k (vw k) b/\∀(i:Nat) w,(vw k)[i]? =some w->(i<b->ct w<bt n)/\(b<=i->bt n<=ct w)
 rd:∀(n j:Nat) o,(opsOf m.h n)[j]? =some o->mh o=true->o.value=fH ((opsOf m.h n).take j) (m.kept n) o.key
theorem mG.up{m:pG}{K:Nat}{vw:Int->List Nat}{bt ct:Nat->Nat}(S:mG m K vw bt ct):mG m (K+1) vw bt ct:=
 ⟨S.bG,S.vals,λk i w h=>let ⟨a,b,c,d,e⟩:=S.wr k i w h;⟨a,b,by omega,d,e⟩,S.back,λn h=>let ⟨a,b⟩:=S.RI n h;⟨by omega,b⟩,S.rd⟩
theorem GQ{ops:List aJ}{k:Int}:((aV ops).any λw=>w.key==k)=true↔(k=0∨k=1∨k=2)/\∃o,dm ops k=some o:=by
 rw[gN];constructor
 ·rintro⟨o,ho,hk⟩;have hk:=eq_of_beq hk;obtain⟨h1,h2⟩:=gY.1 ho;rw[hk]at h1 h2;exact⟨h1,o,h2⟩
 ·rintro⟨hk,o,ho⟩;have e:=rY ho;exact⟨o,gY.2 ⟨by rw[e];exact hk,by rw[e];exact ho⟩,by rw[e];exact beq_self_eq_true k⟩
theorem GX(ops:List aJ)(k:Int):((aV ops).filter λw=>decide (w.key=k)).length=if ((aV ops).any λw=>w.key==k)=true then 1 else 0:=by
 have hle:((aV ops).filter λw=>decide (w.key=k)).length<=1:=by
  have h1:=zT ops k;unfold nO at h1
  have:∀l:List aJ,(l.filter λw=>decide (w.key=k)).length=(l.filterMap λo=>if o.key=k then some o.value else none).length:=λl=>by
   induction l with
   | nil=>rfl
   | cons o l ih=>by_cases h:o.key=k<;>simp[h,ih]
  rw[this];exact h1
 split
 ·rename_i h;rw[gN]at h;obtain⟨o,ho,hk⟩:=h
  have:0<((aV ops).filter λw=>decide (w.key=k)).length:=M8 (lC.2 ⟨ho,by simpa using hk⟩)
  omega
 ·rename_i h;rw[List.length_eq_zero_iff,List.filter_eq_nil_iff];intro o ho hk;apply h;rw[gN];exact⟨o,ho,by simpa using hk⟩
theorem EE(s:jk)(ops:List aJ)(k:Int):jX s (aV ops) k=if ((aV ops).any λw=>w.key==k)=true then ((dm ops k).map (·.value)).getD 0 else s k:=by
 have key:∀l:List aJ,(∀o∈l,dm ops o.key=some o)->∀s:jk,jX s l k=if (l.any λw=>w.key==k)=true then ((dm ops k).map (·.value)).getD 0 else s k:=by
  intro l
  induction l with
  | nil=>intro _ s;rfl
  | cons o l ih=>
    intro hl s;show jX (s.put o.key o.value) l k = _;rw[ih (λx hx=>hl x (List.mem_cons_of_mem _ hx))];rw[List.any_cons];by_cases e:o.key=k
    ·have h1:(o.key==k)=true:=by simp[e]
     have h2:=hl o (List.mem_cons_self ..);rw[e]at h2;rw[h1,Bool.true_or,ah rfl];split
     ·rfl
     ·rw[h2];simp[jk.put,e]
    ·have h1:(o.key==k)=false:=by simp[e]
     rw[h1,Bool.false_or];split
     ·rfl
     ·have:¬k=o.key:=λe'=>e e'.symm
      simp[jk.put,this]
 exact key _ (λo ho=>(gY.1 ho).2) s
theorem mG.step{m m':pG}{K:Nat}{vw:Int->List Nat}{bt ct:Nat->Nat}(S:mG m K vw bt ct){n:Nat}{t:aF}{o0:aJ}{dn:Bool}(ht:m.h[n]? =some t)(hd:t.done=false)
 (hh:m'.h=m.h.set n ⟨t.aD,t.ops++[ji (aA m n) n o0],dn⟩) (hkp:m'.kept=(aA m n).kept) (hbg:m'.began=(aA m n).began)
 (hc:(dn=false/\m'.vals=m.vals/\m'.bG=m.bG)∨(dn=true/\(∀o∈aV (t.ops++[ji (aA m n) n o0]),m.bG o.key=(aA m n).began n o.key)/\m'.vals=jX m.vals (aV (t.ops++[ji (aA m n) n o0]))/\m'.bG=fD m.bG (aV (t.ops++[ji (aA m n) n o0])))) :
 ∃N8 Ov Qz,mG m' (K+1) N8 Ov Qz:=by
 have hn:n<m.h.length:=(aS.1 ht).1;have hot:opsOf m.h n=t.ops:=dM ht;have hdt:eH m.h n=false:=by simp[eH,ht,hd]
 obtain⟨N,hN⟩:∃N,ji (aA m n) n o0=N:=⟨_,rfl⟩;have hne:=Gr (m:=m) (n:=n) o0 ht;rw[hN]at hh hc hne;have hop:∀i,opsOf m'.h i=if i=n then t.ops++[N] else opsOf m.h i:=λi=>by rw[hh,JF hn]
 have hdo:∀i,eH m'.h i=if i=n then dn else eH m.h i:=λi=>by rw[hh,Nj hn]
 have hnw:∀k,∀w∈vw k,w≠n:=λk w hw e=>by
  obtain⟨i,hi⟩:=List.mem_iff_getElem?.1 hw
  have:=(S.wr k i w hi).1
  rw[e,hdt]at this;cases this
 have hva:∀k j,l7 m'.h k (vw k) j=l7 m.h k (vw k) j:=λk j=>by rw[hh];exact Ll hn (hnw k) j
 have hko:∀i,i≠n->(aA m n).kept i=m.kept i/\(aA m n).began i=m.began i:=λi hi=>by
  by_cases h0:t.ops.length=0
  ·obtain⟨e1,e2⟩:=qV ht h0;rw[e1,e2];simp[wu,hi]
  ·obtain⟨e1,e2⟩:=qa ht h0;rw[e1,e2];exact⟨rfl,rfl⟩
 have hbn:∃Ov:Nat->Nat,(∀i,i≠n->Ov i=bt i)/\Ov n<=K/\∀k,∃b:Nat,(aA m n).began n k=(b:Int)/\b<=(vw k).length/\(aA m n).kept n k=l7 m.h k (vw k) b/\∀(i:Nat) w,(vw k)[i]? =some w->(i<b->ct w<Ov n)/\(b<=i->Ov n<=ct w):=by
  by_cases h0:t.ops.length=0
  ·obtain⟨e1,e2⟩:=qV ht h0;refine⟨λi=>if i=n then K else bt i,λi hi=>by simp[hi],by simp,λk=>⟨(vw k).length,by rw[e2];simp[wu,S.bG],ay _,by rw[e1];simp[wu,S.vals],λi w hw=>⟨λ_=>?_,λhl=>?_⟩⟩⟩
   ·have:=(S.wr k i w hw).2.2.1
    simp;omega
   ·have:=(aS.1 hw).1
    omega
  ·obtain⟨e1,e2⟩:=qa ht h0;obtain⟨h1,h2⟩:=S.RI n (by rw[hot];omega);exact⟨bt,λ_ _=>rfl,by omega,λk=>by rw[e1,e2];exact h2 k⟩
 obtain⟨Ov,Eu,ZE,hbk⟩:=hbn;have hrd:∀(i j:Nat) o,(opsOf m'.h i)[j]? =some o->mh o=true->o.value=fH ((opsOf m'.h i).take j) (m'.kept i) o.key:=λi j o ho hr=>by
  rw[hop]at ho ⊢;rw[hkp];by_cases e:i=n
  ·subst e;rw[ah rfl]at ho ⊢;rcases eX j t.ops.length with hj|hj
   ·rw[nZ hj]at ho;rw[LM (by omega)]
    have:=S.rd i j o (by rw[hot];exact ho) hr
    rw[hot]at this;rw[this,(qa ht (by omega)).1]
   ·have hj2:j=t.ops.length:=by
     have:=(aS.1 ho).1
     simp at this;omega
    subst hj2;rw[qp (ay _),Nat.sub_self]at ho;injection ho with ho;subst ho;rw[LM (ay _),bY];rw[hne]at hr ⊢;split at hr
    ·rename_i hw;have h1:(o0.kind==2)=true:=hw;have h2:(o0.kind==1)=true:=hr;have h1:=eq_of_beq h1;have h2:=eq_of_beq h2;omega
    ·rename_i hw;rw[ak hw]
  ·rw[ak e]at ho ⊢;rw[(hko i e).1];exact S.rd i j o ho hr
 rcases hc with ⟨rfl,hv,hvs⟩|⟨rfl,hf,hv,hvs⟩
 ·refine⟨vw,Ov,ct,λk=>by rw[hvs];exact S.bG k,λk=>by rw[hv,S.vals,hva],λk i w hw=>?_,λw hw k hk hl=>?_,λi hi=>?_,hrd⟩
  ·have hwn:=hnw k w (aN hw);obtain⟨a,b,c,d,e⟩:=S.wr k i w hw;rw[hdo,hop,ak hwn,ak hwn,Eu w hwn,hbg,(hko w hwn).2];exact⟨a,b,by omega,d,e⟩
  ·rw[hdo]at hw;by_cases e:w=n
   ·rw[ah e]at hw;cases hw
   ·rw[ak e]at hw;rw[hop,ak e]at hl;exact S.back w hw k hk hl
  ·by_cases e:i=n
   ·subst e;refine⟨by omega,λk=>?_⟩;obtain⟨b,h1,h2,h3,h4⟩:=hbk k;exact⟨b,by rw[hbg];exact h1,h2,by rw[hkp,hva];exact h3,h4⟩
   ·rw[hop,ak e]at hi;obtain⟨h1,h2⟩:=S.RI i hi;rw[Eu i e];refine⟨by omega,λk=>?_⟩;obtain⟨b,g1,g2,g3,g4⟩:=h2 k;exact⟨b,by rw[hbg,(hko i e).2];exact g1,g2,by rw[hkp,(hko i e).1,hva];exact g3,g4⟩
 ·obtain⟨A,hA⟩:∃A:Int->Bool,(λk=>(aV (t.ops++[N])).any λw=>w.key==k)=A:=⟨_,rfl⟩;have hAk:∀k,A k=(aV (t.ops++[N])).any λw=>w.key==k:=λk=>by rw[<-hA]
  have PK:∀k,A k=true↔(k=0∨k=1∨k=2)/\∃o,dm (t.ops++[N]) k=some o:=λk=>by rw[hAk];exact GQ
  have hfk:∀k,A k=true->(aA m n).began n k=((vw k).length:Int):=λk hk=>by
   rw[hAk,gN]at hk;obtain⟨o,ho,e⟩:=hk
   have:=hf o ho
   rw[eq_of_beq e]at this;rw[<-this,S.bG]
  obtain⟨N8,hvw⟩:∃v:Int->List Nat,(λk=>if A k=true then vw k++[n] else vw k)=v:=⟨_,rfl⟩;have QW:∀k,A k=true->N8 k=vw k++[n]:=λk hk=>by rw[<-hvw];simp[hk]
  have RO:∀k,A k=false->N8 k=vw k:=λk hk=>by rw[<-hvw];simp[hk]
  have hvl:∀k,(vw k).length<=(N8 k).length:=λk=>by
   cases hk:A k with
   | true=>rw[QW k hk];simp
   | false=>rw[RO k hk];exact ay _
  have SF:∀k j,j<=(vw k).length->l7 m'.h k (N8 k) j=l7 m.h k (vw k) j:=λk j hj=>by
   cases hk:A k with
   | true=>rw[QW k hk,KV hj,hva]
   | false=>rw[RO k hk,hva]
  have hget:∀k (i:Nat) w,(N8 k)[i]? =some w->(vw k)[i]? =some w∨(A k=true/\i=(vw k).length/\w=n):=λk i w hw=>by
   cases hk:A k with
   | false=>rw[RO k hk]at hw;exact .inl hw
   | true=>
     rw[QW k hk]at hw;rcases eX i (vw k).length with hi|hi
     ·rw[nZ hi]at hw;exact .inl hw
     ·have:i=(vw k).length:=by
       have:=(aS.1 hw).1
       simp at this;omega
      subst this;rw[qp (ay _),Nat.sub_self]at hw;injection hw with hw;exact .inr ⟨rfl,rfl,hw.symm⟩
  obtain⟨Qz,hct⟩:∃c:Nat->Nat,(λi=>if i=n then K else ct i)=c:=⟨_,rfl⟩;have hcn:Qz n=K:=by rw[<-hct];simp
  have hco:∀i,i≠n->Qz i=ct i:=λi hi=>by rw[<-hct];simp[hi]
  refine⟨N8,Ov,Qz,λk=>?_,λk=>?_,λk i w hw=>?_,λw hw k hk hl=>?_,λi hi=>?_,hrd⟩
  ·rw[hvs,Lh,GX,<-hAk,S.bG]
   cases hk:A k with
   | true=>rw[QW k hk];simp
   | false=>rw[RO k hk];simp
  ·rw[hv,EE,<-hAk]
   cases hk:A k with
   | true=>
     rw[QW k hk,ah rfl,bN,nI,K6];unfold kH;rw[hop,ah rfl]
   | false=>rw[RO k hk,ak (by decide),S.vals,hva]
  ·rcases hget k i w hw with h1|⟨h1,rfl,rfl⟩
   ·have hwn:=hnw k w (aN h1);obtain⟨a,b,c,d,e⟩:=S.wr k i w h1;rw[hdo,hop,ak hwn,ak hwn,Eu w hwn,hco w hwn,hbg,(hko w hwn).2];exact⟨a,b,by omega,d,e⟩
   ·rw[hdo,hop,ah rfl,ah rfl,hcn,hbg];exact⟨rfl,((PK k).1 h1).2,by omega,ZE,hfk k h1⟩
  ·by_cases e:w=n
   ·subst e;rw[hop,ah rfl]at hl;have h1:=(PK k).2 ⟨hk,hl⟩;exact⟨(vw k).length,by rw[QW k h1];simp⟩
   ·rw[hdo,ak e]at hw;rw[hop,ak e]at hl;obtain⟨i,hi⟩:=S.back w hw k hk hl;have hil:=(aS.1 hi).1;refine⟨i,?_⟩
    cases h1:A k with
    | true=>rw[QW k h1,nZ hil];exact hi
    | false=>rw[RO k h1];exact hi
  ·have hnew:∀k (b j:Nat) w B,b<=(vw k).length->B<=K->(∀(i:Nat) w,(vw k)[i]? =some w->(i<b->ct w<B)/\(b<=i->B<=ct w))->(N8 k)[j]? =some w->(j<b->Qz w<B)/\(b<=j->B<=Qz w):=λk b j w B hb hB H hw=>by
    rcases hget k j w hw with h1|⟨h1,rfl,rfl⟩
    ·have hwn:=hnw k w (aN h1);rw[hco w hwn];exact H j w h1
    ·rw[hcn];exact⟨λh=>by omega,λ_=>hB⟩
   by_cases e:i=n
   ·subst e;refine⟨by omega,λk=>?_⟩;obtain⟨b,h1,h2,h3,h4⟩:=hbk k;exact⟨b,by rw[hbg];exact h1,aR h2 (hvl k),by rw[hkp,SF k b h2];exact h3,λj w hw=>hnew k b j w _ h2 ZE h4 hw⟩
   ·rw[hop,ak e]at hi;obtain⟨h1,h2⟩:=S.RI i hi;rw[Eu i e];refine⟨by omega,λk=>?_⟩;obtain⟨b,g1,g2,g3,g4⟩:=h2 k;exact⟨b,by rw[hbg,(hko i e).2];exact g1,aR g2 (hvl k),by rw[hkp,(hko i e).1,SF k b g2];exact g3,λj w hw=>hnew k b j w _ g2 (by omega) g4 hw⟩
section
open Go.RowKit
end
theorem oL{h:List aF}(hok:aH h=true){k:Nat}{t:aF}(ht:h[k]? =some t){o:aJ}(ho:o∈t.ops)(hw:jl o=true):aQ h o.key o.value=k:=by obtain⟨j,hj,rfl⟩:=jw ho;obtain⟨l,e⟩:=CQ ht (dz hj) hw;have hnd:=Eh hok;rw[e,j3,List.nodup_append]at hnd;have hn:lookW (fF h k t.ops j) ((t.ops[j]).key,(t.ops[j]).value)=none:=uf.2 λhm=>hnd.2.2 _ hm _ (by simp) rfl;unfold aQ;rw[e,DD,hn];simp[lookW]
theorem BN{h:List aF}{k:Nat}{key value:Int}(hw:aQ h key value=k):∃t,h[k]? =some t/\∃o∈t.ops,jl o=true/\o.key=key/\o.value=value:=by
 unfold aQ at hw
 cases hl:lookW (Bo h) (key,value) with
 | none=>rw[hl]at hw;simp at hw
 | some n=>
   rw[hl]at hw;simp at hw
   have:n=k:=by omega
   subst this;have hm:((key,value),n)∈Bo h:=by unfold lookW at hl;rw[qi]at hl;obtain⟨p,hp,rfl⟩:=hl;have h1:=List.find?_some hp;have h2:=List.mem_of_find?_eq_some hp;obtain⟨q,n⟩:=p;simp at h1;subst h1;exact h2
   obtain⟨t,ht,o,ho,hw,e⟩:=NZ hm;injection e with e1 e2;exact⟨t,ht,o,ho,hw,e1,e2⟩
theorem zS{h:List aF}{n:Nat}(hn:n∈aB h):∃t,h[n]? =some t/\t.done=true/\opsOf h n=t.ops:=by unfold aB at hn;rw[lC]at hn;obtain⟨h1,h2⟩:=hn;obtain⟨t,ht⟩:∃t,h[n]? =some t:=⟨_,dz (by simpa using h1)⟩;rw[ht]at h2;exact⟨t,ht,by simpa using h2,by simp[opsOf,ht]⟩
section
theorem mG.start(p:List dZ):mG (iD p) 0 (λ_=>[]) (λ_=>0) (λ_=>0):=by
 have ho:∀n,opsOf (iD p).h n=[]:=λn=>by unfold opsOf iD;simp only[jM];cases p[n]?<;>rfl
 refine⟨λk=>rfl,λk=>rfl,λk i w h=>by simp at h,λw hw=>?_,λn hn=>by rw[ho]at hn;simp at hn,λn j o h=>by rw[ho]at h;simp at h⟩;unfold eH iD at hw;simp only[jM]at hw;cases h:p[w]?<;>simp[h]at hw
theorem Mi{p:List dZ}(hp:bJ p=true):∀k,k<=(dA p.length).length->∃vw bt ct,mG (fo p k) k vw bt ct
 | 0,_=>⟨_,_,_,mG.start p⟩
 | k+1,hk=>by
   obtain⟨vw,bt,ct,S⟩:=Mi hp k (by omega);obtain⟨n,hn⟩:=au (show k<(dA p.length).length by omega);rw[nK hn];have hro:=uR hp k (by omega);have hdn:=AY (p:=p) k (by omega);generalize fo p k=m at S hro hdn ⊢;have hnp:=rU (aN hn);obtain⟨d,hd⟩:=au hnp;obtain⟨t,ht⟩:=au (show n<m.h.length by rw[hro.len];exact hnp)
   cases hs:d.steps[t.ops.length]? with
   | none=>rw[tY ht hd hs];exact⟨_,_,_,S.up⟩
   | some o0=>
     have hlt:=(aS.1 hs).1;have htd:=hdn n t d ht hd hlt;by_cases hl:t.ops.length+1=d.steps.length
     ·rw[kY ht hd hs hl]
      cases hf:lY (aA m n).bG ((aA m n).began n) (aV (t.ops++[ji (aA m n) n o0])) with
      | true=>
        rw[vR ht hf];refine S.step ht htd (o0:=o0) (dn:=true) (pK _ true ht) rfl rfl (.inr ⟨rfl,λo ho=>?_,rfl,rfl⟩);unfold lY at hf;rw[iN]at hf
        have:=eq_of_beq (hf o ho)
        rwa [jq]at this
      | false=>
        rw[Bd ht hf];exact S.step ht htd (o0:=o0) (dn:=false) (pK _ false ht) rfl rfl (.inl ⟨rfl,qL m n,jq m n⟩)
     ·rw[qg ht hd hs hl];exact S.step ht htd (o0:=o0) (dn:=false) (pK _ false ht) rfl rfl (.inl ⟨rfl,qL m n,jq m n⟩)
section
variable{m:pG}{K:Nat}{vw:Int->List Nat}{bt ct:Nat->Nat}
theorem Dh{h:List aF}{w:Nat}(hd:eH h w=true):∃t,h[w]? =some t/\t.done=true/\opsOf h w=t.ops:=by
 unfold eH at hd
 cases e:h[w]? with
 | none=>rw[e]at hd;simp at hd
 | some t=>rw[e]at hd;exact⟨t,rfl,by simpa using hd,dM e⟩
theorem O0{o:aJ}(h:jm o=true):mh o=true∨jl o=true:=by unfold jm at h;simp only[bK,qo]at h;exact h.1.1.1
theorem DX{o:aJ}(h:jm o=true)(hw:jl o=true):0<o.value:=by
 unfold jm at h;simp only[bK,hw,Bool.true_and,Bool.not_eq_true']at h;have h1:=cK.1 h.1.2;have h2:o.value≠0:=by simpa using h.2
 omega
theorem mG.wrote(S:mG m K vw bt ct)(hok:aH m.h=true){k:Int}{i w:Nat}(hw:(vw k)[i]? =some w) :
 ∃o t,m.h[w]? =some t/\t.done=true/\dm (opsOf m.h w) k=some o/\kH m.h k w=o.value/\o∈t.ops/\jl o=true/\o.key=k/\aQ m.h k (kH m.h k w)=w/\0<kH m.h k w:=by
 obtain⟨hd,⟨o,ho⟩,_⟩:=S.wr k i w hw;obtain⟨t,ht,htd,e⟩:=Dh hd;have ho':=ho;rw[e]at ho';obtain⟨h1,h2,h3⟩:=iM ho';have hv:kH m.h k w=o.value:=by unfold kH;rw[ho];rfl
 have hwm:=oL hok ht h1 h2;rw[h3,<-hv]at hwm;have hpos:=DX (jc (dW hok (aN ht)) h1) h2;exact⟨o,t,ht,htd,ho,hv,h1,h2,h3,hwm,by rw[hv];exact hpos⟩
theorem Fa{h:List aF}(hok:aH h=true)(k:Int):aQ h k 0<0:=by
 have h1:=(eU (h:=h) k 0).1;rcases Int.lt_or_le (aQ h k 0) 0 with h2|h2
 ·exact h2
 ·obtain⟨w,hw⟩:=iH h2;obtain⟨t,ht,o,ho,hiw,_,hv⟩:=BN hw
  have:=DX (jc (dW hok (aN ht)) ho) hiw
  omega
theorem mG.seen(S:mG m K vw bt ct){n:Nat}(hn:0<(opsOf m.h n).length)(k:Int):∃b:Nat,b<=(vw k).length/\m.kept n k=l7 m.h k (vw k) b/\(∀(i:Nat) w,(vw k)[i]? =some w->(i<b->ct w<bt n)/\(b<=i->bt n<=ct w))/\(b=0/\m.kept n k=0∨∃i w,b=i+1/\(vw k)[i]? =some w/\m.kept n k=kH m.h k w/\ct w<bt n):=by
 obtain⟨b,_,h2,h3,h4⟩:=(S.RI n hn).2 k;refine⟨b,h2,h3,h4,?_⟩
 cases b with
 | zero=>exact .inl ⟨rfl,by rw[h3];rfl⟩
 | succ i=>
   obtain⟨w,hw⟩:=au (show i<(vw k).length by omega);exact .inr ⟨i,w,rfl,hw,by rw[h3];simp[l7,hw],(h4 i w hw).1 (by omega)⟩
theorem mG.read(S:mG m K vw bt ct){n:Nat}{o:aJ}(ho:o∈uD (opsOf m.h n)):0<(opsOf m.h n).length/\mh o=true/\o∈opsOf m.h n/\o.value=m.kept n o.key:=by
 obtain⟨j,hj,hf⟩:=JL.1 ho;unfold GR at hf;rw[hj]at hf;simp only[bK]at hf
 have:=S.rd n j o hj hf.1
 rw[GU (by simpa using hf.2)]at this;exact⟨by have:=(aS.1 hj).1;omega,hf.1,aN hj,this⟩
def rz(h:List aF)(vw:Int->List Nat):List (List Int):=(List.range 3).map λk:Nat=>(vw (k:Int)).map (kH h (k:Int))
theorem Cm(h:List aF)(vw:Int->List Nat){k:Nat}(hk:k<3):(rz h vw).getD k []=(vw (k:Int)).map (kH h (k:Int)):=by simp[rz,List.getD,hk]
theorem tZ{h:List aF}{f t k:Int}{e:Edge}(he:e∈gU h f t k):e.iG=f/\e.to=t/\e.kind=k/\0<=f/\0<=t/\f≠t/\isDone h f=true/\isDone h t=true:=by
 unfold gU at he;split at he
 ·rename_i hc;simp only[wE]at he;subst he;exact⟨rfl,rfl,rfl,hc⟩
 ·cases he
def Ba(bt ct:Nat->Nat)(e:Edge):Prop:=0<=e.iG/\0<=e.to /\
 ((e.kind=1∨e.kind=2)/\bt e.iG.toNat<=ct e.iG.toNat/\ct e.iG.toNat<bt e.to.toNat∨e.kind=3/\bt e.iG.toNat<=ct e.to.toNat)
theorem mG.TU(S:mG m K vw bt ct)(hok:aH m.h=true):∀e∈aX m.h (rz m.h vw),Ba bt ct e:=by
 intro e he;unfold aX at he;rcases iR.1 he with he|he
 ·obtain⟨key,hkey,he⟩:=List.mem_flatMap.1 he;rw[j5]at hkey;rw[Cm _ _ hkey]at he;unfold chainTo at he;obtain⟨i,hi,he⟩:=List.mem_flatMap.1 he;rw[j5,dF]at hi;obtain⟨w,hw⟩:=au (show i<(vw (key:Int)).length by omega);obtain⟨w2,hw2⟩:=au (show i+1<(vw (key:Int)).length by omega);have g1:((vw (key:Int)).map (kH m.h (key:Int))).getD i 0=kH m.h (key:Int) w:=by simp[List.getD,hw]
  have g2:((vw (key:Int)).map (kH m.h (key:Int))).getD (i+1) 0=kH m.h (key:Int) w2:=by simp[List.getD,hw2]
  rw[g1,g2]at he;obtain⟨_,_,_,_,_,_,_,_,_,hx,_⟩:=S.wrote hok hw;obtain⟨o2,t2,ht2,_,ho2,_,hm2,_,_,hx2,_⟩:=S.wrote hok hw2;rw[hx,hx2]at he;obtain⟨e1,e2,e3,_⟩:=tZ he;obtain⟨_,_,_,hbc,_⟩:=S.wr _ _ _ hw;have hb2:=(S.wr _ _ _ hw2).2.2.2.2;have Nn:0<(opsOf m.h w2).length:=by rw[dM ht2];exact M8 hm2
  obtain⟨b,c1,c2,_,c4⟩:=(S.RI w2 Nn).2 (key:Int);have hbi:b=i+1:=by rw[hb2]at c1;omega
  have hlt:=(c4 i w hw).1 (by omega);unfold Ba;rw[e1,e2,e3];exact⟨by omega,by omega,.inl ⟨.inl rfl,by simpa using hbc,by simpa using hlt⟩⟩
 ·obtain⟨n,hn,he⟩:=List.mem_flatMap.1 he;obtain⟨o,ho,he⟩:=List.mem_flatMap.1 he;obtain⟨hpos,hir,hom,hval⟩:=S.read ho;obtain⟨t,ht,htd,hot⟩:=zS hn;have Uh:=jc (dW hok (aN ht)) (by rw[<-hot];exact hom);obtain⟨b,hb1,hb2,hb3,hb4⟩:=S.seen hpos o.key;unfold fJ at he;rcases iR.1 he with he|he
  ·obtain⟨e1,e2,e3,e4,e5,e6,_⟩:=tZ he;rcases hb4 with ⟨_,h0⟩|⟨i,w,hbi,hw,hv,hlt⟩
   ·rw[hval,h0]at e4
    have:=Fa hok o.key
    omega
   ·obtain⟨_,_,_,_,_,_,_,_,_,hx,_⟩:=S.wrote hok hw;rw[hval,hv,hx]at e1;obtain⟨_,_,_,hbc,_⟩:=S.wr _ _ _ hw;unfold Ba;rw[e1,e2,e3];exact⟨by omega,by omega,.inl ⟨.inr rfl,by simpa using hbc,by simpa using hlt⟩⟩
  ·obtain⟨kn,hkn⟩:∃kn:Nat,o.key=(kn:Int):=⟨o.key.toNat,by
    have:=(jr Uh).1
    omega⟩
   have hk3:kn<3:=by have:=(jr Uh).2;omega
   unfold overOf at he;rw[hkn,oN,Cm _ _ hk3]at he;have WA:kE ((vw (kn:Int)).map (kH m.h (kn:Int))) o.value=some b:=by
    unfold kE;rcases hb4 with ⟨hb0,h0⟩|⟨i,w,hbi,hw,hv,_⟩
    ·rw[hval,h0,ah rfl,hb0]
    ·rw[hkn]at hw hv;obtain⟨_,_,_,_,_,_,_,_,_,hx,hpv⟩:=S.wrote hok hw;rw[hkn]at hval;rw[hval,hv,ak (by omega),hbi];have hfi:((vw (kn:Int)).map (kH m.h (kn:Int))).findIdx? (·==kH m.h (kn:Int) w)=some i:=by
      rw[List.findIdx?_eq_some_iff_getElem];have hil:=(aS.1 hw);refine⟨by rw[dF];exact hil.1,by simp[hil.2],λj hj=>?_⟩;have hjl:j<(vw (kn:Int)).length:=by have:=hil.1;omega
      simp only[List.getElem_map,Bool.not_eq_true,oO,ne_eq];intro e;have ZG:(vw (kn:Int))[j]? =some ((vw (kn:Int))[j]):=dz hjl;obtain⟨_,_,_,_,_,_,_,_,_,hxj,_⟩:=S.wrote hok ZG;rw[e,hx]at hxj;have hij:(vw (kn:Int))[j]=w:=by omega
      have b1:=(S.wr _ _ _ ZG).2.2.2.2;have b2:=(S.wr _ _ _ hw).2.2.2.2;rw[hij,b2]at b1;omega
     rw[hfi];rfl
   rw[WA]at he;simp only at he;split at he
   ·rename_i hlt;rw[dF]at hlt;obtain⟨w,hw⟩:=au hlt;have g1:((vw (kn:Int)).map (kH m.h (kn:Int))).getD b 0=kH m.h (kn:Int) w:=by simp[List.getD,hw]
    obtain⟨_,_,_,_,_,_,_,_,_,hx,_⟩:=S.wrote hok hw;rw[g1,hx]at he;obtain⟨e1,e2,e3,_⟩:=tZ he
    have:=(hb3 b w (by rw[hkn];exact hw)).2 (ay _)
    unfold Ba;rw[e1,e2,e3];exact⟨by omega,by omega,.inr ⟨rfl,by simpa using this⟩⟩
   ·cases he
end
end
section
section
variable{m:pG}{K:Nat}{vw:Int->List Nat}{bt ct:Nat->Nat}
theorem Cf{es:List Edge}(H:∀e∈es,Ba bt ct e)(h12:∀e∈es,e.kind=1∨e.kind=2){a b:Nat}(P:Path (rowsOf es) a b):bt a<=ct a/\ct a<bt b:=by
 have one:∀{a b:Nat},(rowsOf es a).testBit b=true->bt a<=ct a/\ct a<bt b:=λ{a b} he=>by
  obtain⟨e,hm,e1,e2⟩:=uy.1 he;obtain⟨_,_,h|h⟩:=H e hm
  ·obtain⟨_,x,y⟩:=h;rw[e1,oN]at x y;rw[e2]at y;exact⟨x,y⟩
  ·have:=h12 e hm
   have:=h.1
   omega
 induction P with
 | edge he=>exact one he
 | step _ he ih=>
   have:=one he
   exact⟨ih.1,by omega⟩
theorem MB{es:List Edge}(H:∀e∈es,Ba bt ct e)(h12:∀e∈es,e.kind=1∨e.kind=2):JE es=false:=by
 rw[Bool.eq_false_iff];intro h;unfold JE at h;obtain⟨i,_,hi⟩:=gN.1 h
 have:=Cf H h12 (Cw hi)
 omega
theorem j6{ds:List Edge}{ks:List Int}{e:Edge}(h:e∈bU ds ks):e∈ds/\e.kind∈ks:=by unfold bU at h;rw[lC]at h;exact⟨h.1,by simpa using h.2⟩
theorem Jj{ds:List Edge}(H:∀e∈ds,Ba bt ct e):lI ds 3=false:=by
 have c1:JE (bU ds [1])=false:=MB (λe he=>H e (j6 he).1) (λe he=>.inl (by simpa using (j6 he).2));have c2:JE (bU ds [1,2])=false:=MB (λe he=>H e (j6 he).1) (λe he=>by simpa using (j6 he).2);have c3:ds.any (oK ds)=false:=by
  rw[Bool.eq_false_iff];intro h;obtain⟨e,he,ho⟩:=gN.1 h;unfold oK at ho;simp only[bK,beq_iff_eq]at ho
  have:=Cf (λe he=>H e (j6 he).1) (λe he=>by simpa using (j6 he).2) (Cw ho.2)
  obtain⟨_,_,h|h⟩:=H e he
  ·have:=h.1;omega
  ·have:=h.2;omega
 have h1:dG ds 1=false:=by unfold dG;rw[ah rfl];exact c1
 have h2:dG ds 2=false:=by unfold dG;rw[ak (by decide),ah rfl];exact c2
 have h3:dG ds 3=false:=by unfold dG;rw[ak (by decide),ak (by decide),ah rfl];exact c3
 have e:lI ds 3=(dG ds 1 || dG ds 2 || dG ds 3):=by rw[lW,lW,lW];rfl
 rw[e,h1,h2,h3];rfl
theorem yE{ops:List aJ}{s:jk}{key:Int}{o:aJ}(h:dm ops key=some o):fH ops s key=o.value:=by unfold fH;rw[h];rfl
theorem yB{ops:List aJ}{s:jk}{key:Int}(h:dm ops key=none):fH ops s key=s key:=by unfold fH;rw[h];rfl
theorem Jd(ops:List aJ)(o:aJ)(s:jk)(key:Int):fH (ops++[o]) s key=if jl o=true/\o.key=key then o.value else fH ops s key:=by
 unfold fH;rw[tV]
 split<;>rfl
theorem Gj{ops:List aJ}{s:jk}(hk:∀o∈ops,mh o=true∨jl o=true)(hr:∀(j:Nat) o,ops[j]? =some o->mh o=true->o.value=fH (ops.take j) s o.key)(key:Int) :
 ∀(j:Nat),j<=ops.length->∀v,before (ops.take j) key=some v->fH (ops.take j) s key=v
 | 0,_,v,h=>by cases h
 | j+1,hj,v,h=>by
   obtain⟨o,ho⟩:=au (show j<ops.length by omega);rw[aj ho,wZ]at h;rw[aj ho,Jd];by_cases e:key=o.key
   ·rw[ah e]at h;injection h with h;rcases hk o (aN ho) with h1|h1
    ·have hw:¬(jl o=true/\o.key=key):=λx=>by have a:=eq_of_beq (show (o.kind==1)=true from h1);have b:=eq_of_beq (show (o.kind==2)=true from x.1);omega
     rw[ak hw,<-h,hr j o ho h1,e]
    ·rw[ah ⟨h1,e.symm⟩,h]
   ·rw[ak e]at h;rw[ak (λx=>e x.2.symm)];exact Gj hk hr key j (by omega) v h
theorem mG.right{p:List dZ}(S:mG m K vw bt ct)(hro:kW p m)(hok:aH m.h=true):gP m.h=true:=by
 have hdone:∀n,eH m.h n=true->∃t,m.h[n]? =some t/\opsOf m.h n=t.ops/\(∀o∈t.ops,jm o=true):=λn hn=>by obtain⟨t,ht,_,e⟩:=Dh hn;exact⟨t,ht,e,λo ho=>jc (dW hok (aN ht)) ho⟩
 have hbad:∀n,eH m.h n=true->∀o∈opsOf m.h n,gp m.h n o=0:=λn hn o ho=>by
  obtain⟨t,ht,e,hops⟩:=hdone n hn;obtain⟨j,hj,hjo⟩:=jw ho;have hjo:(opsOf m.h n)[j]? =some o:=by rw[dz hj,hjo]
  have hpos:0<(opsOf m.h n).length:=by omega
  unfold gp;by_cases hr:mh o=true
  ·have hrd:=S.rd n j o hjo hr
   cases hl:dm ((opsOf m.h n).take j) o.key with
   | some w'=>
     rw[yE hl]at hrd;obtain⟨g1,g2,g3⟩:=iM hl;have hm:=oL hok ht (by rw[<-e];exact uA g1) g2;rw[g3,<-hrd]at hm;rw[ah (.inr (.inr hm))]
   | none=>
     rw[yB hl]at hrd;obtain⟨b,_,_,_,h4⟩:=S.seen hpos o.key;rcases h4 with ⟨_,h0⟩|⟨i,w,_,hw,hv,_⟩
     ·rw[h0]at hrd;rw[ah (.inr (.inl hrd))]
     ·obtain⟨o',t',ht',YG,Cn,hvo,_,_,_,hx,_⟩:=S.wrote hok hw;rw[hv]at hrd;rw[hrd,hx];split
      ·rfl
      ·rw[ak (by omega),oN];have hd':eH m.h w=true:=by simp[eH,ht',YG]
       rw[ak (by rw[hd'];decide)];have hlv:kM m.h o.key (kH m.h o.key w)=true:=by unfold kM;rw[hx,oN,Cn];simp[hvo]
       rw[ak (by rw[hlv];decide)]
  ·rw[ah (.inl (by simpa using hr))]
 have hown:∀n,eH m.h n=true->yN (opsOf m.h n)=false:=λn hn=>by
  obtain⟨t,ht,e,hops⟩:=hdone n hn;have hk:∀o∈opsOf m.h n,mh o=true∨jl o=true:=λo ho=>O0 (hops o (by rw[<-e];exact ho));rw[Bool.eq_false_iff];intro h;unfold yN xm at h;obtain⟨j,hj,h⟩:=gN.1 h;obtain⟨o,ho⟩:=au (j5.1 hj);unfold Cr at h;rw[ho]at h;simp only[bK]at h;obtain⟨hr,h⟩:=h
  cases hb:before ((opsOf m.h n).take j) o.key with
  | none=>rw[hb]at h;cases h
  | some v=>
    rw[hb]at h;have h1:=Gj hk (λj o ho hr=>S.rd n j o ho hr) o.key j (by have:=j5.1 hj;omega) v hb;rw[<-S.rd n j o ho hr]at h1;simp[h1]at h
 have Rv:∀n,eH m.h n=true->qU (opsOf m.h n)=false:=λn hn=>by
  obtain⟨t,ht,e,hops⟩:=hdone n hn;obtain⟨d,hd⟩:=au (show n<_ by rw[<-hro.len];exact(aS.1 ht).1);have hval:=(hro.tx n t d ht hd).2.2;rw[Bool.eq_false_iff];intro h;unfold qU at h;obtain⟨i,hi,h⟩:=gN.1 h;obtain⟨o,ho⟩:=au (j5.1 hi);rw[ho]at h;simp only[bK]at h;obtain⟨hr,h⟩:=h;obtain⟨l,hl,hkv⟩:=gN.1 h;obtain⟨hk2,hkey,hvl⟩:=of_decide_eq_true hkv;have Cn:jl l=true:=by unfold jl;simp[hk2]
  obtain⟨s,hs,hsl⟩:=jw hl;rw[List.getElem_drop]at hsl;have hs2:t.ops[i+1+s]? =some l:=by rw[<-e,<-hsl];exact dz _
  have hlm:l∈t.ops:=aN hs2;have hwl:=oL hok ht hlm Cn;rw[hkey,hvl]at hwl;have hlv:=DX (hops l hlm) Cn;obtain⟨_,_,_,_,hv2,_⟩:=hval _ l hs2;have hv2:=hv2 Cn;have hrd:=S.rd n i o ho hr
  cases Qt:dm ((opsOf m.h n).take i) o.key with
  | some w'=>
    rw[yE Qt]at hrd;obtain⟨g1,g2,_⟩:=iM Qt;obtain⟨s1,hs1,hse⟩:=jw g1;rw[List.getElem_take]at hse;have aap:s1<i:=by rw[ig]at hs1;omega
    have hq:t.ops[s1]? =some w':=by rw[<-e,<-hse];exact dz _
    obtain⟨_,_,_,_,hv1,_⟩:=hval _ w' hq;have hv1:=hv1 g2;omega
  | none=>
    rw[yB Qt]at hrd;have hpos:0<(opsOf m.h n).length:=by have:=j5.1 hi;omega
    obtain⟨b,_,_,_,h4⟩:=S.seen hpos o.key;rcases h4 with ⟨_,h0⟩|⟨q,w,_,hw,hv,hlt⟩
    ·omega
    ·obtain⟨_,_,_,_,_,_,_,_,_,hx,_⟩:=S.wrote hok hw;rw[hrd,hv,hx]at hwl;have hwn:w=n:=by omega
     have:=(S.wr _ _ _ hw).2.2.2.1
     rw[hwn]at hlt this;omega
 have hany:∀kind,(kind=1∨kind=2∨kind=3∨kind=4)->gT m.h kind=false:=λkind hk=>by
  rw[Bool.eq_false_iff];intro h;unfold gT at h;obtain⟨n,_,h⟩:=gN.1 h;simp only[bK]at h;obtain⟨hd,h⟩:=h;unfold qZ at h;split at h
  ·rw[hown n hd]at h;cases h
  ·obtain⟨o,ho,h⟩:=gN.1 h;rw[hbad n hd o ho]at h
   have:=eq_of_beq h
   omega
 unfold gP;rw[hok,hany 1 (by omega),hany 2 (by omega),hany 3 (by omega),hany 4 (by omega)];simp only[Bool.not_false,Bool.and_true,Bool.true_and,Bool.not_eq_true'];rw[Bool.eq_false_iff];intro h;obtain⟨n,_,h⟩:=gN.1 h;simp only[bK]at h;rw[Rv n h.1]at h;cases h.2
theorem IW:∀n (xs:List Int),xs.length=n->∀p,p.Perm xs->p∈permsN n xs:=by
 intro n
 induction n with
 | zero=>
   intro xs hx p hp;obtain rfl:xs=[]:=kZ hx;rw[List.Perm.eq_nil hp];simp[permsN]
 | succ n ih=>
   intro xs hx p hp
   cases p with
   | nil=>have:=hp.length_eq;simp[hx]at this
   | cons x p=>
     have hm:x∈xs:=hp.mem_iff.1 (List.mem_cons_self ..);obtain⟨i,hi,e⟩:=jw hm;have h2:=tK xs i hi;rw[e]at h2;have h3:=(hp.trans h2.symm).cons_inv;simp only[permsN,List.mem_flatMap,j5,dX];refine⟨i,hi,p,ih _ (by rw[qx,ah hi];omega) p h3,?_⟩;simp[List.getD,hi,e]
theorem KJ(ops:List aJ){key:Int}(hk:key=0∨key=1∨key=2):nO ops key=((dm ops key).map (·.value)).toList:=by
 unfold nO aV;rw[List.filterMap_filterMap];have e:∀k:Int,(dm ops k).bind (λo=>if o.key=key then some o.value else none)=if k=key then (dm ops k).map (·.value) else none:=λk=>by
  cases h:dm ops k with
  | none=>simp
  | some o=>simp[rY h]
 simp only[e];rcases hk with rfl|rfl|rfl
 ·simp only[qN,List.filterMap_nil];cases dm ops 0<;>simp
 ·simp only[qN,List.filterMap_nil];cases dm ops 1<;>simp
 ·simp only[qN,List.filterMap_nil];cases dm ops 2<;>simp
theorem Es(h:List aF){key:Int}(hk:key=0∨key=1∨key=2):aP h key=((aB h).filter λn=>(dm (opsOf h n) key).isSome).map (kH h key):=by
 unfold aP;generalize aB h=l
 induction l with
 | nil=>rfl
 | cons n l ih=>
   rw[qI,ih,uk,KJ _ hk]
   cases e:dm (opsOf h n) key with
   | none=>simp
   | some o=>simp[kH,e]
theorem mG.perm(S:mG m K vw bt ct){key:Int}(hk:key=0∨key=1∨key=2):((vw key).map (kH m.h key)).Perm (aP m.h key):=by
 rw[Es _ hk];refine List.Perm.map _ ((List.perm_ext_iff_of_nodup ?_ ((Br _).filter _)).2 λw=>?_)
 ·unfold List.Nodup;rw[List.pairwise_iff_getElem];intro i j hi hj hij e;have h1:=(S.wr key i _ (dz hi)).2.2.2.2;have h2:=(S.wr key j _ (dz hj)).2.2.2.2;rw[e,h2]at h1;omega
 ·rw[lC];constructor
  ·intro hw;obtain⟨i,hi⟩:=List.mem_iff_getElem?.1 hw;obtain⟨hd,⟨o,ho⟩,_⟩:=S.wr key i w hi;obtain⟨t,ht,htd,_⟩:=Dh hd;refine⟨?_,by rw[ho];rfl⟩;unfold aB;rw[lC];exact⟨j5.2 (aS.1 ht).1,by simp[ht,htd]⟩
  ·rintro⟨h1,h2⟩;obtain⟨t,ht,htd,_⟩:=zS h1;obtain⟨o,ho⟩:=Option.isSome_iff_exists.1 h2;obtain⟨i,hi⟩:=S.back w (by simp[eH,ht,htd]) key hk ⟨o,ho⟩;exact aN hi
theorem mG.order(S:mG m K vw bt ct):rz m.h vw∈bq m.h 3:=by
 have hp:∀k:Nat,k<3->(vw (k:Int)).map (kH m.h (k:Int))∈perms (aP m.h (k:Int)):=λk hk=>
  IW _ _ rfl _ (S.perm (by omega))
 have e:rz m.h vw=(([]++[(vw ((0:Nat):Int)).map (kH m.h ((0:Nat):Int))])++[(vw ((1:Nat):Int)).map (kH m.h ((1:Nat):Int))])++[(vw ((2:Nat):Int)).map (kH m.h ((2:Nat):Int))]:=rfl;rw[e];simp only[bq];refine List.mem_flatMap.2 ⟨_,List.mem_flatMap.2 ⟨_,List.mem_flatMap.2 ⟨[],wE.2 rfl,dX.2 ⟨_,hp 0 (by omega),rfl⟩⟩,dX.2 ⟨_,hp 1 (by omega),rfl⟩⟩,dX.2 ⟨_,hp 2 (by omega),rfl⟩⟩
theorem KY(h:List aF)(l:List (List (List Int))){os:List (List Int)}(ho:os∈l):(gq h (aX h os):Int)<=jL h l l.length:=by
 unfold jL;rw[bY];have mono:∀(l:List (List (List Int))) (b:Int),b<=l.foldl (λb os=>max b (gq h (aX h os):Int)) b:=by
  intro l
  induction l with
  | nil=>intro b;exact Int.le_refl _
  | cons x l ih=>
    intro b;rw[kL]
    have:=ih (max b (gq h (aX h x):Int))
    omega
 have key:∀(l:List (List (List Int))) (b:Int),os∈l->(gq h (aX h os):Int)<=l.foldl (λb os=>max b (gq h (aX h os):Int)) b:=by
  intro l
  induction l with
  | nil=>intro b hm;cases hm
  | cons x l ih=>
    intro b hm;rw[kL];rcases iC.1 hm with rfl|hm
    ·have:=mono l (max b (gq h (aX h os):Int))
     omega
    ·exact ih _ hm
 exact key l _ ho
end
theorem G6{p:List dZ}(hp:bJ p=true):nN (jJ p)<0∨3<=nN (jJ p):=by
 obtain⟨vw,bt,ct,S⟩:=Mi hp (dA p.length).length (ay _);have hro:=uR hp (dA p.length).length (ay _);have hok:=JR hro hp;have e:jJ p=(fo p (dA p.length).length).h:=rfl;rw[e];generalize fo p (dA p.length).length=m at S hro hok ⊢;unfold nN gD;by_cases hm:iP m.h<=200
 ·rw[ah ⟨hok,hm⟩];right;have h1:=KY m.h (bq m.h 3) S.order;have h2:gJ m.h (aX m.h (rz m.h vw)) 3=true:=by unfold gJ;rw[Jj (S.TU hok),S.right hro hok];simp
  have h3:3<=gq m.h (aX m.h (rz m.h vw)):=by
   unfold gq
   cases h4:gJ m.h (aX m.h (rz m.h vw)) 4 with
   | true=>rw[oI h4];omega
   | false=>rw[qK h4,oI h2];omega
  omega
 ·rw[ak (λx=>hm x.2)];left;show (-1:Int)<0
  decide
end
