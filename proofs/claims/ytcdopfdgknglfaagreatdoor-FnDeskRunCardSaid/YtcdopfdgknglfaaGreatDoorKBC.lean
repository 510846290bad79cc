/- Lemmas. -/
import Derived.Test.YtcdopfdgknglfaaGreatDoorKAW
import Derived.Test.YtcdopfdgknglfaaGreatDoorKBB
set_option maxHeartbeats 16000000
set_option maxRecDepth 8000
set_option linter.all false
namespace Go.Proofs.YtcdopfdgknglfaaGreatDoor
open Go.RowKit
theorem aac{l w:List UInt8}{k:Nat}{st:List fI × Bool}(hne:l≠[])(hr:wX (splitL 32 l) k=some st)(hw:(splitL 32 l)[k]? =some w)(h:rpStep st w=none):bL l=none:=by
 refine mo λp hp he=>?_;have h1:wX (splitL 32 l) (k+1)=none:=by rw[yR hw,hr];exact h
 have hk:=(bG.1 hw).1;have h2:=aaa (yL hk) h1 (av _);rw[KJ hp (λe=>hne (by rw[<-he,e];rfl)) he]at h2;cases h2
theorem gH{st:List fI × Bool}{wk:List UInt8}{a b:UInt8}{E:Bool}(hb:xP wk=[a,b])(he:Ie wk=E):rpStep st wk=(kP st.1 st.2 a b).map λp=>(p,E):=by unfold rpStep;rw[hb,he]
theorem vK{ds:List fI}{fr:Bool}{a b:UInt8}(h:gU b=false):kP ds fr a b=none:=by simp[kP,h]
theorem Ew{ds:List fI}{fr:Bool}{a b:UInt8}(h:4<ds.length):kP ds fr a b=none:=by unfold kP;rw[au (λe=>by have:=e.2;omega)]
theorem BN{ds:List fI}{a b:UInt8}(h:a≠115):kP ds true a b=none:=by simp[kP,h]
theorem D9{ds:List fI}{a b:UInt8}(h:a≠114)(h':a≠119):kP ds false a b=none:=by simp[kP,h,h']
theorem Af{st:List fI × Bool}{wk:List UInt8}(h:(xP wk).length≠2):rpStep st wk=none:=by
 unfold rpStep;split
 ·rename_i e;rw[e]at h;exact absurd rfl h
 ·rfl
theorem Yt{wk:List UInt8}(h:wk≠[]):∃n1 x,wk.length=n1+1/\wk[n1]? =some x/\Ie wk=(x==59)/\wk.dropLast.length=n1/\(tx wk).extract 0 n1=tx wk.dropLast:=by
 obtain⟨a,x,rfl⟩:∃a x,wk=a++[x]:=⟨wk.dropLast,wk.getLast h,(List.dropLast_concat_getLast h).symm⟩;refine⟨a.length,x,by simp,by simp,?_,by simp,?_⟩
 ·unfold Ie;rw[List.getLast?_append];rfl
 ·rw[pG];simp
def aaW(w:World)(l:List UInt8)(e:Ending)(w':World):Prop:=
 ∃(p:List fI) (v:Value),e=.returned (.tuple #[v,.bool (bL l).isSome])/\yV w' v p/\p=(bL l).getD []/\Ext w w'
theorem QG{w w':World}{l:List UInt8}(A:Option Addr)(c:Nat)(hx:Ext w w')(h:bL l=none):aaW w l (.returned (.tuple #[.slice A 0 c,.bool false])) w':=
 ⟨[],.slice A 0 c,by rw[h];rfl,yV.nil w' A c,by rw[h];rfl,hx⟩
theorem Kv(l:List UInt8)(w:World)(hl:l.length<=1048576)(hne:l≠[]) :
 Calls Tryz.prog 30 #[.string (tx l)] w (aaW w l):=by
 have HW3:=aa (λW=>EM l W hl);have hwl:(splitL 32 l).length<=1048577:=by have:=pq 32 l;omega
 have HSS:=aa (p9 32 l);have LJ:=aa (λw' A c (hx:Ext w w') (h:bL l=none)=>QG A c hx h);have hw0:0<(splitL 32 l).length:=by
  rcases Nat.eq_zero_or_pos (splitL 32 l).length with h|h
  ·exact absurd (List.length_eq_zero_iff.1 h) (rQ 32 l)
  ·exact h
 obtain⟨z,hz⟩:∃z,tx l=z:=⟨_,rfl⟩;rw[hz]at HW3 ⊢;have HZ:=aa hz;have hz0:(z.toList==[])=false:=by
  rw[<-hz,fA]
  cases l with
  | nil=>exact absurd rfl hne
  | cons a r=>rfl
 have HNE:=aa hne;obtain⟨ws,hws⟩:∃ws,splitL 32 l=ws:=⟨_,rfl⟩;have Ku:=aa hws;rw[hws]at HW3 hwl HSS hw0;clear hz hws hne;go_enter Tryz.func30,Tryz.ntmps30;go_wp2_with fail
 refine(HW3.out _).mono ?_
 rintro e W1 ⟨vw,rfl,YW,b1⟩;have hG0:=(vY.nil w).ext b1;have Wj:=aa hG0;have HB0:Hid (Ext w W1):=((af w).alloc _).trans b1;obtain⟨g,cw,rfl,hcell,htb⟩:∃g cw,vw=.slice (some ⟨g,0,none⟩) ws.length cw/\(∀(i:Nat) (x:List UInt8),ws[i]? =some x->W1.cell? ⟨g,i,none⟩=some (.string (tx x)))/\TB 9 W1 g:=by
  rcases id YW.2 with ⟨rfl,h0⟩|⟨g,cap,cur,rfl,-⟩
  ·omega
  ·refine⟨g,cap,rfl,λi x hx=>?_,TB.dS YW (by simp[Value.ownBlock])⟩;obtain⟨A',c',e,hc⟩:=YW.cell.1;obtain⟨b,off,e',hlt,hcc⟩:=hc (by omega);obtain rfl:=(sQ e).1;obtain⟨rfl,rfl⟩:b=g/\off=0:=by simpa using e'.symm
   have:=hcc i x hx 0 (by omega)
   simpa[encS] using this
 have HCK:Hid (∀V:World,V.heap[g]? =W1.heap[g]?->∀(i:Nat) x,ws[i]? =some x->V.cell? ⟨g,i,none⟩=some (.string (tx x))):=λV hV i x hx=>by rw[<-hcell i x hx];simp only[World.cell?,hV]
 have HTB:Hid (∀V:World,V.heap[g]? =W1.heap[g]?->TB 9 V g):=λV hV=>by obtain⟨cs,fr,h⟩:=htb;exact⟨cs,fr,hV.trans h⟩
 clear YW b1 hG0 hcell htb;go_wp2;go_loopw [4,6,7] (λo f i wr=>Ext w wr/\wr.heap[g]? =W1.heap[g]?/\∃(k:Nat) (ds:List fI) (fr:Bool),k<=ws.length/\i=.int .i64 (k:Int)/\f=.bool fr/\Hid (wX ws k=some (ds,fr))/\Hid (vY w.heap.size wr o ds)) (λ_ _ i _=>ws.length-(intOf i).toNat)
 case atStart=>exact⟨HB0.out,rfl,0,[],true,aT _,rfl,rfl,rfl,Wj.out⟩
 case round=>
  obtain⟨hb,hheap,k,ds,fr,hk,rfl,rfl,TP,HG⟩:=hrel;have hdl:=Yd k hk _ TP.out;simp only at hdl;obtain⟨Ao,co,rfl⟩:=HG.out.slice;by_cases hlt:k<ws.length
  ·obtain⟨wk,hwk⟩:=ah hlt;have ck:=HCK.out wr hheap k wk hwk;have acX:=aX (HSS.out wk (aM hwk)) hl;have UH:Hid (wX ws (k+1)=rpStep (ds,fr) wk):=by show _ = _;rw[yR hwk,TP.out];rfl
   have uL:Hid (rpStep (ds,fr) wk=none->bL l=none):=λh=>aac HNE.out (by rw[Ku.out];exact TP.out) (by rw[Ku.out];exact hwk) h;have hsz:=dR wk;have hki:(k:Int)<(ws.length:Int):=by omega
   have hk0:(0:Int)<=(k:Int):=by omega
   clear hwk;by_cases hwn:wk=[]
   ·subst hwn;have mF:Hid (bL l=none):=uL.out (Af (by decide));obtain⟨zw,Mf⟩:∃y,tx []=y:=⟨_,rfl⟩;rw[Mf]at ck hsz;simp only[iJ]at hsz;clear hheap hdl Mf acX;go_wp2;go_returns;exact LJ.out _ _ _ (hb.alloc _) mF.out
   ·obtain⟨n1,x,hl1,hx,hend,aa4,hex⟩:=Yt hwn;have hil:=lT hx (n1:Int) rfl;obtain⟨q,hq⟩:∃q,wk.length=q:=⟨_,rfl⟩;rw[hq]at hsz hl1 acX;have hpi:IntKind.i64.wrap ((q:Int)-1)=(n1:Int):=by rw[show (q:Int)-1=(n1:Int) by omega];exact dL _ (by omega)
    have hpq:(n1:Int)<(q:Int):=by omega
    have hpl:(n1:Int)<=(q:Int):=by omega
    have hp0:(0:Int)<=(n1:Int):=by omega
    have hq0:(0:Int)<(q:Int):=by omega
    by_cases ZK:x=59
    ·subst ZK;have uy:Hid (Ie wk=true):=by show _ = _;rw[hend];rfl
     have yM:Hid (xP wk=wk.dropLast):=by show _ = _;rw[xP,uy.out];rfl
     have aab:n1=wk.dropLast.length:=aa4.symm;obtain⟨bw,hbw⟩:∃y,wk.dropLast=y:=⟨_,rfl⟩;rw[hbw]at yM hex aab;have ac3:=dR bw;rw[<-aab]at ac3;have Wo:=aa aab;clear aab;obtain⟨zb,hzb⟩:∃y,tx bw=y:=⟨_,rfl⟩;obtain⟨zw,Mf⟩:∃y,tx wk=y:=⟨_,rfl⟩;rw[hzb]at hex ac3;rw[Mf]at hex hsz hil ck;clear hx hend aa4 hbw Mf hwn hl1 hq;by_cases hb2:bw.length=2
     ·match bw,hb2,yM with
      | [ac,bc],hb2,yM=>
        have hq2:((n1:Int) != 2)=false:=by have:n1=2:=Wo.out.trans hb2;rw[this];rfl
        have hi0:=lT (l:=[ac,bc]) (k:=0) rfl 0 rfl;have hi1:=lT (l:=[ac,bc]) (k:=1) rfl 1 rfl;rw[hzb]at hi0 hi1;obtain⟨an,JN⟩:∃y:Int,(ac.toNat:Int)=y:=⟨_,rfl⟩;obtain⟨bn,hbn⟩:∃y:Int,(bc.toNat:Int)=y:=⟨_,rfl⟩;have ha:∀x:UInt8,an=(x.toNat:Int)↔ac=x:=λx=>by rw[<-JN];exact⟨λe=>UInt8.toNat_inj.1 (by omega),λe=>by rw[e]⟩
        rw[JN]at hi0;rw[hbn]at hi1;clear hzb;by_cases h1:bn<48
        ·have mF:Hid (bL l=none):=uL.out (by rw[gH yM.out uy.out,vK (by simp[gU];omega)];rfl);clear hheap hdl ha JN hbn hb2;go_wp2;go_returns;exact LJ.out _ _ _ (hb.alloc _) mF.out
        ·by_cases h2:57<bn
         ·have mF:Hid (bL l=none):=uL.out (by rw[gH yM.out uy.out,vK (by simp[gU];omega)];rfl);clear hheap hdl ha JN hbn hb2;go_wp2;go_returns;exact LJ.out _ _ _ (hb.alloc _) mF.out
         ·have HDG:Hid (gU bc=true):=by show _ = _;simp[gU];omega
          by_cases hd4:(4:Int)<(ds.length:Int)
          ·have mF:Hid (bL l=none):=uL.out (by rw[gH yM.out uy.out,Ew (ds:=ds) (by omega)];rfl);clear hheap hdl ha JN hbn hb2;go_wp2;go_returns;exact LJ.out _ _ _ (hb.alloc _) mF.out
          ·have xA:ds.length<=4:=by omega
           obtain⟨dn,JH⟩:∃d:Nat,bc.toNat=d+48:=⟨bc.toNat-48,by omega⟩;have hw8:IntKind.u8.wrap (bn-48)=(dn:Int):=by rw[show bn-48=(dn:Int) by omega];exact IntWalk.u8_in _ (by omega)
           have hw9:IntKind.i64.wrap (dn:Int)=(dn:Int):=dL _ (by omega);clear hb2 hbn JN
           cases fr with
           | true=>
            by_cases xz:an=115
            ·have EN:ac=115:=(ha 115).1 xz;subst xz EN;clear ha hdl;obtain⟨A7,n7,c7,w7,hrun,O0,GI,Lu⟩:=HG.out.push wr.heap.size rfl hb (av _) (af _) (dn:Int) hb.size (by omega);have jC:Hid (wX ws (k+1)=some (ds++[⟨(dn:Int),[]⟩],true)):=by
              show _ = _;rw[UH.out,gH yM.out uy.out];have hdn:bc.toNat-48=dn:=by omega
              simp[kP,HDG.out,hdn,xA]
             have bH:=aa hrun;have Ra:=aa O0;have Ak:=aa GI;have Rb:=aa ((Lu _ (HTB.out _ hheap)).trans hheap);clear hrun O0 GI Lu hheap JH xA hb;go_wp2_with (at_builtin;refine wpList_append_run rfl rfl rfl rfl bH.out ?_)
             go_roundw;case rel=>exact⟨Ak.out,Rb.out,k+1,_,_,by omega,by go_num,rfl,jC.out,Ra.out⟩
             case measure=>simp[intOf];omega
            ·have EN:ac≠115:=λe=>xz ((ha 115).2 e);have qa:(an==115)=false:=by simp[xz]
             have mF:Hid (bL l=none):=uL.out (by rw[gH yM.out uy.out,BN EN];rfl);clear hheap hdl ha JH xA EN xz;go_wp2;go_returns;exact LJ.out _ _ _ (hb.alloc _) mF.out
           | false=>
            by_cases uM:an=114
            ·have EN:ac=114:=(ha 114).1 uM;subst uM;clear ha;obtain⟨ds0,⟨s,os⟩,rfl⟩:∃a x,ds=a++[x]:=⟨ds.dropLast,ds.getLast (hdl.2.2 rfl),(List.dropLast_concat_getLast (hdl.2.2 rfl)).symm⟩;obtain⟨go,co',sv,hv,hcv,hrow⟩:=HG.out.last rfl;have hol:os.length<=k:=hdl.2.1 ⟨s,os⟩ (by simp);obtain⟨A7,n7,c7,w7,hrun,hc7,hf7,O0,GI,Lu⟩:=HG.out.grow wr.heap.size rfl hv hcv hb (av _) (af _) ⟨1,(dn:Int),0⟩ hb.size (by omega);have jC:Hid (wX ws (k+1)=some (ds0++[⟨s,os++[⟨1,(dn:Int),0⟩]⟩],true)):=by
              show _ = _;rw[UH.out,gH yM.out uy.out];have hdn:bc.toNat-48=dn:=by omega
              simp only[kP,HDG.out,hdn,EN];rw[aj ⟨trivial,xA⟩];simp[mh]
             dsimp only at hrun
             have bH:=aa hrun;have Ra:=aa O0;have Ak:=aa GI;have Rb:=aa ((Lu _ (HTB.out _ hheap)).trans hheap);obtain⟨A5,n5,c5,rfl⟩:=jL hrow;obtain⟨p,hp⟩:∃p,ds0.length=p:=⟨_,rfl⟩;obtain⟨m,hm⟩:∃m,(ds0++[(⟨s,os⟩:fI)]).length=m:=⟨_,rfl⟩;have hmp:m=p+1:=by rw[<-hm,<-hp];simp
             have HMM:=aa hm;rw[hm]at hv hd4;rw[hp]at hcv hc7 hf7 Ra Ak Rb;have hvv:=hv;have LC:IntKind.i64.wrap ((m:Int)-1)=(p:Int):=by rw[show (m:Int)-1=(p:Int) by omega];exact dL _ (by omega)
             have hpm:(p:Int)<(m:Int):=by omega
             have ace:(0:Int)<=(p:Int):=by omega
             have abG:(wr.alloc (.cells #[.int .i64 1,.int .i64 (dn:Int),.int .i64 0] 67)).cell? ⟨go,p*2+1,none⟩=some (.slice A5 n5 c5):=((af wr).alloc _).cell hcv;rw[hm];obtain⟨e1,-,e3⟩:=sQ hvv;subst e1 e3;clear hrun O0 GI Lu hheap JH xA hm hb hv hvv hrow hol hmp hp hdl;go_wp2_with (at_builtin;refine wpList_append_run rfl rfl rfl rfl bH.out ?_)
             go_roundw;case rel=>exact⟨Ak.out,Rb.out,k+1,_,_,by omega,by go_num,rfl,jC.out,by have h7:=Ra.out;rw[HMM.out]at h7;exact h7⟩
             case measure=>simp[intOf];omega
            ·by_cases xS:an=119
             ·have EN:ac=119:=(ha 119).1 xS;subst xS;clear ha uM;obtain⟨ds0,⟨s,os⟩,rfl⟩:∃a x,ds=a++[x]:=⟨ds.dropLast,ds.getLast (hdl.2.2 rfl),(List.dropLast_concat_getLast (hdl.2.2 rfl)).symm⟩;obtain⟨go,co',sv,hv,hcv,hrow⟩:=HG.out.last rfl;have hol:os.length<=k:=hdl.2.1 ⟨s,os⟩ (by simp);obtain⟨A7,n7,c7,w7,hrun,hc7,hf7,O0,GI,Lu⟩:=HG.out.grow wr.heap.size rfl hv hcv hb (av _) (af _) ⟨2,(dn:Int),0⟩ hb.size (by omega);have jC:Hid (wX ws (k+1)=some (ds0++[⟨s,os++[⟨2,(dn:Int),0⟩]⟩],true)):=by
               show _ = _;rw[UH.out,gH yM.out uy.out];have hdn:bc.toNat-48=dn:=by omega
               simp only[kP,HDG.out,hdn,EN];rw[aj ⟨trivial,xA⟩];simp[mh]
              dsimp only at hrun
              have bH:=aa hrun;have Ra:=aa O0;have Ak:=aa GI;have Rb:=aa ((Lu _ (HTB.out _ hheap)).trans hheap);obtain⟨A5,n5,c5,rfl⟩:=jL hrow;obtain⟨p,hp⟩:∃p,ds0.length=p:=⟨_,rfl⟩;obtain⟨m,hm⟩:∃m,(ds0++[(⟨s,os⟩:fI)]).length=m:=⟨_,rfl⟩;have hmp:m=p+1:=by rw[<-hm,<-hp];simp
              have HMM:=aa hm;rw[hm]at hv hd4;rw[hp]at hcv hc7 hf7 Ra Ak Rb;have hvv:=hv;have LC:IntKind.i64.wrap ((m:Int)-1)=(p:Int):=by rw[show (m:Int)-1=(p:Int) by omega];exact dL _ (by omega)
              have hpm:(p:Int)<(m:Int):=by omega
              have ace:(0:Int)<=(p:Int):=by omega
              have abG:(wr.alloc (.cells #[.int .i64 2,.int .i64 (dn:Int),.int .i64 0] 67)).cell? ⟨go,p*2+1,none⟩=some (.slice A5 n5 c5):=((af wr).alloc _).cell hcv;rw[hm];obtain⟨e1,-,e3⟩:=sQ hvv;subst e1 e3;clear hrun O0 GI Lu hheap JH xA hm hb hv hvv hrow hol hmp hp hdl;go_wp2_with (at_builtin;refine wpList_append_run rfl rfl rfl rfl bH.out ?_)
              go_roundw;case rel=>exact⟨Ak.out,Rb.out,k+1,_,_,by omega,by go_num,rfl,jC.out,by have h7:=Ra.out;rw[HMM.out]at h7;exact h7⟩
              case measure=>simp[intOf];omega
             ·have EN:ac≠114:=λe=>uM ((ha 114).2 e);have ha9:ac≠119:=λe=>xS ((ha 119).2 e);have qa:(an==114)=false:=by simp[uM]
              have qb:(an==119)=false:=by simp[xS]
              have mF:Hid (bL l=none):=uL.out (by rw[gH yM.out uy.out,D9 EN ha9];rfl);clear hheap hdl ha JH xA EN ha9 uM xS;go_wp2;go_returns;exact LJ.out _ _ _ (hb.alloc _) mF.out
     ·have hq2:((n1:Int) != 2)=true:=by have:=Wo.out;rw[bne_iff_ne];omega
      have mF:Hid (bL l=none):=uL.out (Af (by rw[yM.out];exact hb2));clear hheap hdl hzb hb2;go_wp2;go_returns;exact LJ.out _ _ _ (hb.alloc _) mF.out
    ·have hx9:((x.toNat:Int)==59)=false:=by
      rw[fU];intro e;have e':(x.toNat:Int)=59:=by simpa using e
      exact ZK (UInt8.toNat_inj.1 (show x.toNat=(59:UInt8).toNat from Int.ofNat_inj.1 e'))
     have uy:Hid (Ie wk=false):=by show _ = _;rw[hend];simpa using ZK
     have yM:Hid (xP wk=wk):=by show _ = _;rw[xP,uy.out];rfl
     obtain⟨bw,hbw⟩:∃y,wk=y:=⟨_,rfl⟩;obtain⟨xn,hxn⟩:∃y:Int,(x.toNat:Int)=y:=⟨_,rfl⟩;rw[hxn]at hil hx9;have yM:Hid (xP wk=bw):=yM.out.trans hbw;have Wo:Hid (q=bw.length):=by show _ = _;rw[<-hq,hbw]
     obtain⟨zb,hzb⟩:∃y,tx bw=y:=⟨_,rfl⟩;rw[show tx wk=zb by rw[hbw,hzb]]at hsz hil ck;clear hx hend aa4 hbw hwn hl1 hq hex ZK hxn;by_cases hb2:bw.length=2
     ·match bw,hb2,yM with
      | [ac,bc],hb2,yM=>
        have hq2:((q:Int) != 2)=false:=by have:q=2:=Wo.out.trans hb2;rw[this];rfl
        have hi0:=lT (l:=[ac,bc]) (k:=0) rfl 0 rfl;have hi1:=lT (l:=[ac,bc]) (k:=1) rfl 1 rfl;rw[hzb]at hi0 hi1;obtain⟨an,JN⟩:∃y:Int,(ac.toNat:Int)=y:=⟨_,rfl⟩;obtain⟨bn,hbn⟩:∃y:Int,(bc.toNat:Int)=y:=⟨_,rfl⟩;have ha:∀x:UInt8,an=(x.toNat:Int)↔ac=x:=λx=>by rw[<-JN];exact⟨λe=>UInt8.toNat_inj.1 (by omega),λe=>by rw[e]⟩
        rw[JN]at hi0;rw[hbn]at hi1;clear hzb;by_cases h1:bn<48
        ·have mF:Hid (bL l=none):=uL.out (by rw[gH yM.out uy.out,vK (by simp[gU];omega)];rfl);clear hheap hdl ha JN hbn hb2;go_wp2;go_returns;exact LJ.out _ _ _ (hb.alloc _) mF.out
        ·by_cases h2:57<bn
         ·have mF:Hid (bL l=none):=uL.out (by rw[gH yM.out uy.out,vK (by simp[gU];omega)];rfl);clear hheap hdl ha JN hbn hb2;go_wp2;go_returns;exact LJ.out _ _ _ (hb.alloc _) mF.out
         ·have HDG:Hid (gU bc=true):=by show _ = _;simp[gU];omega
          by_cases hd4:(4:Int)<(ds.length:Int)
          ·have mF:Hid (bL l=none):=uL.out (by rw[gH yM.out uy.out,Ew (ds:=ds) (by omega)];rfl);clear hheap hdl ha JN hbn hb2;go_wp2;go_returns;exact LJ.out _ _ _ (hb.alloc _) mF.out
          ·have xA:ds.length<=4:=by omega
           obtain⟨dn,JH⟩:∃d:Nat,bc.toNat=d+48:=⟨bc.toNat-48,by omega⟩;have hw8:IntKind.u8.wrap (bn-48)=(dn:Int):=by rw[show bn-48=(dn:Int) by omega];exact IntWalk.u8_in _ (by omega)
           have hw9:IntKind.i64.wrap (dn:Int)=(dn:Int):=dL _ (by omega);clear hb2 hbn JN
           cases fr with
           | true=>
            by_cases xz:an=115
            ·have EN:ac=115:=(ha 115).1 xz;subst xz EN;clear ha hdl;obtain⟨A7,n7,c7,w7,hrun,O0,GI,Lu⟩:=HG.out.push wr.heap.size rfl hb (av _) (af _) (dn:Int) hb.size (by omega);have jC:Hid (wX ws (k+1)=some (ds++[⟨(dn:Int),[]⟩],false)):=by
              show _ = _;rw[UH.out,gH yM.out uy.out];have hdn:bc.toNat-48=dn:=by omega
              simp[kP,HDG.out,hdn,xA]
             have bH:=aa hrun;have Ra:=aa O0;have Ak:=aa GI;have Rb:=aa ((Lu _ (HTB.out _ hheap)).trans hheap);clear hrun O0 GI Lu hheap JH xA hb;go_wp2_with (at_builtin;refine wpList_append_run rfl rfl rfl rfl bH.out ?_)
             go_roundw;case rel=>exact⟨Ak.out,Rb.out,k+1,_,_,by omega,by go_num,rfl,jC.out,Ra.out⟩
             case measure=>simp[intOf];omega
            ·have EN:ac≠115:=λe=>xz ((ha 115).2 e);have qa:(an==115)=false:=by simp[xz]
             have mF:Hid (bL l=none):=uL.out (by rw[gH yM.out uy.out,BN EN];rfl);clear hheap hdl ha JH xA EN xz;go_wp2;go_returns;exact LJ.out _ _ _ (hb.alloc _) mF.out
           | false=>
            by_cases uM:an=114
            ·have EN:ac=114:=(ha 114).1 uM;subst uM;clear ha;obtain⟨ds0,⟨s,os⟩,rfl⟩:∃a x,ds=a++[x]:=⟨ds.dropLast,ds.getLast (hdl.2.2 rfl),(List.dropLast_concat_getLast (hdl.2.2 rfl)).symm⟩;obtain⟨go,co',sv,hv,hcv,hrow⟩:=HG.out.last rfl;have hol:os.length<=k:=hdl.2.1 ⟨s,os⟩ (by simp);obtain⟨A7,n7,c7,w7,hrun,hc7,hf7,O0,GI,Lu⟩:=HG.out.grow wr.heap.size rfl hv hcv hb (av _) (af _) ⟨1,(dn:Int),0⟩ hb.size (by omega);have jC:Hid (wX ws (k+1)=some (ds0++[⟨s,os++[⟨1,(dn:Int),0⟩]⟩],false)):=by
              show _ = _;rw[UH.out,gH yM.out uy.out];have hdn:bc.toNat-48=dn:=by omega
              simp only[kP,HDG.out,hdn,EN];rw[aj ⟨trivial,xA⟩];simp[mh]
             dsimp only at hrun
             have bH:=aa hrun;have Ra:=aa O0;have Ak:=aa GI;have Rb:=aa ((Lu _ (HTB.out _ hheap)).trans hheap);obtain⟨A5,n5,c5,rfl⟩:=jL hrow;obtain⟨p,hp⟩:∃p,ds0.length=p:=⟨_,rfl⟩;obtain⟨m,hm⟩:∃m,(ds0++[(⟨s,os⟩:fI)]).length=m:=⟨_,rfl⟩;have hmp:m=p+1:=by rw[<-hm,<-hp];simp
             have HMM:=aa hm;rw[hm]at hv hd4;rw[hp]at hcv hc7 hf7 Ra Ak Rb;have hvv:=hv;have LC:IntKind.i64.wrap ((m:Int)-1)=(p:Int):=by rw[show (m:Int)-1=(p:Int) by omega];exact dL _ (by omega)
             have hpm:(p:Int)<(m:Int):=by omega
             have ace:(0:Int)<=(p:Int):=by omega
             have abG:(wr.alloc (.cells #[.int .i64 1,.int .i64 (dn:Int),.int .i64 0] 67)).cell? ⟨go,p*2+1,none⟩=some (.slice A5 n5 c5):=((af wr).alloc _).cell hcv;rw[hm];obtain⟨e1,-,e3⟩:=sQ hvv;subst e1 e3;clear hrun O0 GI Lu hheap JH xA hm hb hv hvv hrow hol hmp hp hdl;go_wp2_with (at_builtin;refine wpList_append_run rfl rfl rfl rfl bH.out ?_)
             go_roundw;case rel=>exact⟨Ak.out,Rb.out,k+1,_,_,by omega,by go_num,rfl,jC.out,by have h7:=Ra.out;rw[HMM.out]at h7;exact h7⟩
             case measure=>simp[intOf];omega
            ·by_cases xS:an=119
             ·have EN:ac=119:=(ha 119).1 xS;subst xS;clear ha uM;obtain⟨ds0,⟨s,os⟩,rfl⟩:∃a x,ds=a++[x]:=⟨ds.dropLast,ds.getLast (hdl.2.2 rfl),(List.dropLast_concat_getLast (hdl.2.2 rfl)).symm⟩;obtain⟨go,co',sv,hv,hcv,hrow⟩:=HG.out.last rfl;have hol:os.length<=k:=hdl.2.1 ⟨s,os⟩ (by simp);obtain⟨A7,n7,c7,w7,hrun,hc7,hf7,O0,GI,Lu⟩:=HG.out.grow wr.heap.size rfl hv hcv hb (av _) (af _) ⟨2,(dn:Int),0⟩ hb.size (by omega);have jC:Hid (wX ws (k+1)=some (ds0++[⟨s,os++[⟨2,(dn:Int),0⟩]⟩],false)):=by
               show _ = _;rw[UH.out,gH yM.out uy.out];have hdn:bc.toNat-48=dn:=by omega
               simp only[kP,HDG.out,hdn,EN];rw[aj ⟨trivial,xA⟩];simp[mh]
              dsimp only at hrun
              have bH:=aa hrun;have Ra:=aa O0;have Ak:=aa GI;have Rb:=aa ((Lu _ (HTB.out _ hheap)).trans hheap);obtain⟨A5,n5,c5,rfl⟩:=jL hrow;obtain⟨p,hp⟩:∃p,ds0.length=p:=⟨_,rfl⟩;obtain⟨m,hm⟩:∃m,(ds0++[(⟨s,os⟩:fI)]).length=m:=⟨_,rfl⟩;have hmp:m=p+1:=by rw[<-hm,<-hp];simp
              have HMM:=aa hm;rw[hm]at hv hd4;rw[hp]at hcv hc7 hf7 Ra Ak Rb;have hvv:=hv;have LC:IntKind.i64.wrap ((m:Int)-1)=(p:Int):=by rw[show (m:Int)-1=(p:Int) by omega];exact dL _ (by omega)
              have hpm:(p:Int)<(m:Int):=by omega
              have ace:(0:Int)<=(p:Int):=by omega
              have abG:(wr.alloc (.cells #[.int .i64 2,.int .i64 (dn:Int),.int .i64 0] 67)).cell? ⟨go,p*2+1,none⟩=some (.slice A5 n5 c5):=((af wr).alloc _).cell hcv;rw[hm];obtain⟨e1,-,e3⟩:=sQ hvv;subst e1 e3;clear hrun O0 GI Lu hheap JH xA hm hb hv hvv hrow hol hmp hp hdl;go_wp2_with (at_builtin;refine wpList_append_run rfl rfl rfl rfl bH.out ?_)
              go_roundw;case rel=>exact⟨Ak.out,Rb.out,k+1,_,_,by omega,by go_num,rfl,jC.out,by have h7:=Ra.out;rw[HMM.out]at h7;exact h7⟩
              case measure=>simp[intOf];omega
             ·have EN:ac≠114:=λe=>uM ((ha 114).2 e);have ha9:ac≠119:=λe=>xS ((ha 119).2 e);have qa:(an==114)=false:=by simp[uM]
              have qb:(an==119)=false:=by simp[xS]
              have mF:Hid (bL l=none):=uL.out (by rw[gH yM.out uy.out,D9 EN ha9];rfl);clear hheap hdl ha JH xA EN ha9 uM xS;go_wp2;go_returns;exact LJ.out _ _ _ (hb.alloc _) mF.out
     ·have hq2:((q:Int) != 2)=true:=by have:=Wo.out;rw[bne_iff_ne];omega
      have mF:Hid (bL l=none):=uL.out (Af (by rw[yM.out];exact hb2));clear hheap hdl hzb hb2;go_wp2;go_returns;exact LJ.out _ _ _ (hb.alloc _) mF.out
  ·obtain rfl:k=ws.length:=by omega
   have aaP:Hid (∀p',eu p'=true->jP p'=l->ds=p'):=λp' hp' he=>by
    have:=KJ hp' (λe=>HNE.out (by rw[<-he,e];rfl)) he
    rw[Ku.out,TP.out]at this;exact agB Prod.fst (M5 this)
   have hst:∀d∈ds,d.steps.length<=2097152:=λd hd=>by have:=hdl.2.1 d hd;omega
   have HP:=aa HG.out.pla;have HV:=aa (sP wr HP.out (by omega) hst);have HT:=aa (λW (b:Ext wr W)=>zK W (HP.out.ext b) (by omega) hst);clear hdl hst hheap;by_cases hv:eu ds=true
   ·rw[hv]at HV;have HT2:Hid (∀W,Ext wr W->Calls Tryz.prog 19 #[.slice Ao ds.length co] W λe w'=>e=.returned (.string (tx (jP ds)))/\Ext W w'):=λW b=>by
     have:=HT.out W b
     rw[hv,aj rfl]at this;exact this
    by_cases he:jP ds=l
    ·rw[he,HZ.out]at HT2;have Ff:Hid (bL l=some ds):=kR.2 ⟨hv,he⟩;clear hv he HT;go_wp2_with (first|(go_at_call 52;refine HV.out.mono ?_;rintro e w2 ⟨rfl,b2⟩)|(go_at_call 19;refine(HT2.out _ b2).mono ?_;rintro e w3 ⟨rfl,b3⟩))
     go_returns;exact⟨ds,_,by rw[Ff.out];rfl,HP.out.ext (b2.trans b3),by rw[Ff.out];rfl,hb.trans (b2.trans b3)⟩
    ·have mF:Hid (bL l=none):=mo λp' hp' he'=>he (by rw[aaP.out p' hp' he'];exact he');obtain⟨z2,hz2⟩:∃z2,tx (jP ds)=z2:=⟨_,rfl⟩;have hq:(z2.toList==z.toList)=false:=by rw[<-hz2,<-HZ.out,fA,fA];simpa using he
     rw[hz2]at HT2;clear hv he HT hz2;go_wp2_with (first|(go_at_call 52;refine HV.out.mono ?_;rintro e w2 ⟨rfl,b2⟩)|(go_at_call 19;refine(HT2.out _ b2).mono ?_;rintro e w3 ⟨rfl,b3⟩))
     go_returns;exact LJ.out _ _ _ ((hb.trans (b2.trans b3)).alloc _) mF.out
   ·have hv':eu ds=false:=by simpa using hv
    have mF:Hid (bL l=none):=mo λp' hp' he'=>hv (by rw[aaP.out p' hp' he'];exact hp');rw[hv']at HV;clear hv hv' HT;go_wp2_with (go_at_call 52;refine HV.out.mono ?_;rintro e w2 ⟨rfl,b2⟩)
    go_returns;exact LJ.out _ _ _ ((hb.trans b2).alloc _) mF.out
