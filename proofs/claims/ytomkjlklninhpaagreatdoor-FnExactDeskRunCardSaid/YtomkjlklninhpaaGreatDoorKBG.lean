/- Lemmas. -/
import Derived.Test.YtomkjlklninhpaaGreatDoorKBF
set_option maxHeartbeats 16000000
set_option maxRecDepth 8000
set_option linter.all false
namespace Go.Proofs.YtomkjlklninhpaaGreatDoor
open Go.RowKit
theorem Ym{l w:List UInt8}{k:Nat}{st:List eH × Bool}(hne:l≠[])(hr:uM (aK 32 l) k=some st)(hw:(aK 32 l)[k]? =some w)(h:jA st w=none):aV l=none:=by
 refine kH fun p hp he=>?_;have h1:uM (aK 32 l) (k+1)=none:=by rw[wY hw,hr];exact h
 have hk:=(List.getElem?_eq_some_iff.1 hw).1;have h2:=Zg (Nat.succ_le_of_lt hk) h1 (Nat.le_refl _);rw[Jg hp (fun e=>hne (by rw[<-he,e];rfl)) he]at h2;cases h2
theorem eY{st:List eH × Bool}{wk:List UInt8}{a b:UInt8}{E:Bool}(hb:wD wk=[a,b])(he:Ib wk=E):jA st wk=(jE st.1 st.2 a b).map fun p=>(p,E):=by unfold jA;rw[hb,he]
theorem tZ{ds:List eH}{fr:Bool}{a b:UInt8}(h:fC b=false):jE ds fr a b=none:=by simp[jE,h]
theorem Dy{ds:List eH}{fr:Bool}{a b:UInt8}(h:4<ds.length):jE ds fr a b=none:=by unfold jE;rw[if_neg (fun e=>by have:=e.2;omega)]
theorem zJ{ds:List eH}{a b:UInt8}(h:a≠115):jE ds true a b=none:=by simp[jE,h]
theorem Ct{ds:List eH}{a b:UInt8}(h:a≠114)(h':a≠119):jE ds false a b=none:=by simp[jE,h,h']
theorem yK{st:List eH × Bool}{wk:List UInt8}(h:(wD wk).length≠2):jA st wk=none:=by
 unfold jA;split
 ·rename_i e;rw[e]at h;exact absurd rfl h
 ·rfl
theorem WA{wk:List UInt8}(h:wk≠[]):∃n1 x,wk.length=n1+1/\wk[n1]? =some x/\Ib wk=(x==59)/\wk.dropLast.length=n1/\(tx wk).extract 0 n1=tx wk.dropLast:=by
 obtain⟨a,x,rfl⟩:∃a x,wk=a++[x]:=⟨wk.dropLast,wk.getLast h,(List.dropLast_concat_getLast h).symm⟩;refine⟨a.length,x,by simp,by simp,?_,by simp,?_⟩
 ·unfold Ib;rw[List.getLast?_append];rfl
 ·rw[ny];simp
def ZX(w:World)(l:List UInt8)(e:Ending)(w':World):Prop:=
 ∃(p:List eH) (v:Value),e=.returned (.tuple #[v,.bool (aV l).isSome])/\xZ w' v p/\p=(aV l).getD []/\Ext w w'
theorem P9{w w':World}{l:List UInt8}(A:Option Addr)(c:Nat)(hx:Ext w w')(h:aV l=none):ZX w l (.returned (.tuple #[.slice A 0 c,.bool false])) w':=
 ⟨[],.slice A 0 c,by rw[h];rfl,xZ.nil w' A c,by rw[h];rfl,hx⟩
theorem IA(l:List UInt8)(w:World)(hl:l.length<=1048576)(hne:l≠[]) :
 Calls Tryz.prog 26 #[.string (tx l)] w (ZX w l):=by
 have HW3:=aa (fun W=>CL l W hl);have hwl:(aK 32 l).length<=1048577:=by have:=nH 32 l;omega
 have HSS:=aa (nX 32 l);have JR:=aa (fun w' A c (hx:Ext w w') (h:aV l=none)=>P9 A c hx h);have hw0:0<(aK 32 l).length:=by
  rcases Nat.eq_zero_or_pos (aK 32 l).length with h|h
  ·exact absurd (List.length_eq_zero_iff.1 h) (pV 32 l)
  ·exact h
 obtain⟨z,hz⟩:∃z,tx l=z:=⟨_,rfl⟩;rw[hz]at HW3 ⊢;have HZ:=aa hz;have hz0:(z.toList==[])=false:=by
  rw[<-hz,eD]
  cases l with
  | nil=>exact absurd rfl hne
  | cons a r=>rfl
 have HNE:=aa hne;obtain⟨ws,hws⟩:∃ws,aK 32 l=ws:=⟨_,rfl⟩;have IG:=aa hws;rw[hws]at HW3 hwl HSS hw0;clear hz hws hne;go_enter Tryz.func26,Tryz.ntmps26;go_wp2_with fail
 refine(HW3.out _).mono ?_
 rintro e W1 ⟨vw,rfl,XA,b1⟩;have hG0:=(tK.nil w).ext b1;have UN:=aa hG0;have HB0:Hid (Ext w W1):=((Ext.refl w).alloc _).trans b1;obtain⟨g,cw,rfl,hcell,htb⟩:∃g cw,vw=.slice (some ⟨g,0,none⟩) ws.length cw/\(∀(i:Nat) (x:List UInt8),ws[i]? =some x->W1.cell? ⟨g,i,none⟩=some (.string (tx x)))/\TB 9 W1 g:=by
  rcases id XA.2 with ⟨rfl,h0⟩|⟨g,cap,cur,rfl,-⟩
  ·omega
  ·refine⟨g,cap,rfl,fun i x hx=>?_,TB.dm XA (by simp[Value.ownBlock])⟩;obtain⟨A',c',e,hc⟩:=XA.cell.1;obtain⟨b,off,e',hlt,hcc⟩:=hc (by omega);obtain rfl:=(Value.slice.inj e).1;obtain⟨rfl,rfl⟩:b=g/\off=0:=by simpa using e'.symm
   have:=hcc i x hx 0 (by omega)
   simpa[encS] using this
 have HCK:Hid (∀V:World,V.heap[g]? =W1.heap[g]?->∀(i:Nat) x,ws[i]? =some x->V.cell? ⟨g,i,none⟩=some (.string (tx x))):=fun V hV i x hx=>by rw[<-hcell i x hx];simp only[World.cell?,hV]
 have HTB:Hid (∀V:World,V.heap[g]? =W1.heap[g]?->TB 9 V g):=fun V hV=>by obtain⟨cs,fr,h⟩:=htb;exact⟨cs,fr,hV.trans h⟩
 clear XA b1 hG0 hcell htb;go_wp2;go_loopw [4,6,7] (fun o f i wr=>Ext w wr/\wr.heap[g]? =W1.heap[g]?/\∃(k:Nat) (ds:List eH) (fr:Bool),k<=ws.length/\i=.int .i64 (k:Int)/\f=.bool fr/\Hid (uM ws k=some (ds,fr))/\Hid (tK w.heap.size wr o ds)) (fun _ _ i _=>ws.length-(intOf i).toNat)
 case atStart=>exact⟨HB0.out,rfl,0,[],true,Nat.zero_le _,rfl,rfl,rfl,UN.out⟩
 case round=>
  obtain⟨hb,hheap,k,ds,fr,hk,rfl,rfl,RJ,HG⟩:=hrel;have hdl:=Vh k hk _ RJ.out;simp only at hdl;obtain⟨Ao,co,rfl⟩:=HG.out.slice;by_cases hlt:k<ws.length
  ·obtain⟨wk,hwk⟩:=af hlt;have ck:=HCK.out wr hheap k wk hwk;have ack:=Nat.le_trans (HSS.out wk (List.mem_of_getElem? hwk)) hl;have SN:Hid (uM ws (k+1)=jA (ds,fr) wk):=by show _ = _;rw[wY hwk,RJ.out];rfl
   have rT:Hid (jA (ds,fr) wk=none->aV l=none):=fun h=>Ym HNE.out (by rw[IG.out];exact RJ.out) (by rw[IG.out];exact hwk) h;have hsz:=dH wk;have hki:(k:Int)<(ws.length:Int):=by omega
   have hk0:(0:Int)<=(k:Int):=by omega
   clear hwk;by_cases hwn:wk=[]
   ·subst hwn;have kg:Hid (aV l=none):=rT.out (yK (by decide));obtain⟨zw,Lb⟩:∃y,tx []=y:=⟨_,rfl⟩;rw[Lb]at ck hsz;simp only[List.length_nil]at hsz;clear hheap hdl Lb ack;go_wp2;go_returns;exact JR.out _ _ _ (hb.alloc _) kg.out
   ·obtain⟨n1,x,hl1,hx,hend,abo,hex⟩:=WA hwn;have hil:=jZ hx (n1:Int) rfl;obtain⟨q,hq⟩:∃q,wk.length=q:=⟨_,rfl⟩;rw[hq]at hsz hl1 ack;have hpi:IntKind.i64.wrap ((q:Int)-1)=(n1:Int):=by rw[show (q:Int)-1=(n1:Int) by omega];exact IntWalk.i64_in _ (by omega)
    have hpq:(n1:Int)<(q:Int):=by omega
    have hpl:(n1:Int)<=(q:Int):=by omega
    have hp0:(0:Int)<=(n1:Int):=by omega
    have hq0:(0:Int)<(q:Int):=by omega
    by_cases YY:x=59
    ·subst YY;have qX:Hid (Ib wk=true):=by show _ = _;rw[hend];rfl
     have wL:Hid (wD wk=wk.dropLast):=by show _ = _;rw[wD,qX.out];rfl
     have XR:n1=wk.dropLast.length:=abo.symm;obtain⟨bw,hbw⟩:∃y,wk.dropLast=y:=⟨_,rfl⟩;rw[hbw]at wL hex XR;have acn:=dH bw;rw[<-XR]at acn;have UT:=aa XR;clear XR;obtain⟨zb,hzb⟩:∃y,tx bw=y:=⟨_,rfl⟩;obtain⟨zw,Lb⟩:∃y,tx wk=y:=⟨_,rfl⟩;rw[hzb]at hex acn;rw[Lb]at hex hsz hil ck;clear hx hend abo hbw Lb hwn hl1 hq;by_cases hb2:bw.length=2
     ·match bw,hb2,wL with
      | [ac,bc],hb2,wL=>
        have hq2:((n1:Int) != 2)=false:=by have:n1=2:=UT.out.trans hb2;rw[this];rfl
        have hi0:=jZ (l:=[ac,bc]) (k:=0) rfl 0 rfl;have hi1:=jZ (l:=[ac,bc]) (k:=1) rfl 1 rfl;rw[hzb]at hi0 hi1;obtain⟨an,DV⟩:∃y:Int,(ac.toNat:Int)=y:=⟨_,rfl⟩;obtain⟨bn,hbn⟩:∃y:Int,(bc.toNat:Int)=y:=⟨_,rfl⟩;have ha:∀x:UInt8,an=(x.toNat:Int)↔ac=x:=fun x=>by rw[<-DV];exact⟨fun e=>UInt8.toNat_inj.1 (by omega),fun e=>by rw[e]⟩
        rw[DV]at hi0;rw[hbn]at hi1;clear hzb;by_cases h1:bn<48
        ·have kg:Hid (aV l=none):=rT.out (by rw[eY wL.out qX.out,tZ (by simp[fC];omega)];rfl);clear hheap hdl ha DV hbn hb2;go_wp2;go_returns;exact JR.out _ _ _ (hb.alloc _) kg.out
        ·by_cases h2:57<bn
         ·have kg:Hid (aV l=none):=rT.out (by rw[eY wL.out qX.out,tZ (by simp[fC];omega)];rfl);clear hheap hdl ha DV hbn hb2;go_wp2;go_returns;exact JR.out _ _ _ (hb.alloc _) kg.out
         ·have HDG:Hid (fC bc=true):=by show _ = _;simp[fC];omega
          by_cases hd4:(4:Int)<(ds.length:Int)
          ·have kg:Hid (aV l=none):=rT.out (by rw[eY wL.out qX.out,Dy (ds:=ds) (by omega)];rfl);clear hheap hdl ha DV hbn hb2;go_wp2;go_returns;exact JR.out _ _ _ (hb.alloc _) kg.out
          ·have vY:ds.length<=4:=by omega
           obtain⟨dn,Gv⟩:∃d:Nat,bc.toNat=d+48:=⟨bc.toNat-48,by omega⟩;have hw8:IntKind.u8.wrap (bn-48)=(dn:Int):=by rw[show bn-48=(dn:Int) by omega];exact IntWalk.u8_in _ (by omega)
           have hw9:IntKind.i64.wrap (dn:Int)=(dn:Int):=IntWalk.i64_in _ (by omega);clear hb2 hbn DV
           cases fr with
           | true=>
            by_cases uU:an=115
            ·have Cx:ac=115:=(ha 115).1 uU;subst uU Cx;clear ha hdl;obtain⟨A7,n7,c7,w7,hrun,MU,FY,NN⟩:=HG.out.push wr.heap.size rfl hb (Nat.le_refl _) (Ext.refl _) (dn:Int) hb.size (by omega);have iA:Hid (uM ws (k+1)=some (ds++[⟨(dn:Int),[]⟩],true)):=by
              show _ = _;rw[SN.out,eY wL.out qX.out];have hdn:bc.toNat-48=dn:=by omega
              simp[jE,HDG.out,hdn,vY]
             have aU:=aa hrun;have QM:=aa MU;have Eg:=aa FY;have QE:=aa ((NN _ (HTB.out _ hheap)).trans hheap);clear hrun MU FY NN hheap Gv vY hb;go_wp2_with (at_builtin;refine wpList_append_run rfl rfl rfl rfl aU.out ?_)
             go_roundw;case rel=>exact⟨Eg.out,QE.out,k+1,_,_,by omega,by go_num,rfl,iA.out,QM.out⟩
             case measure=>simp[intOf];omega
            ·have Cx:ac≠115:=fun e=>uU ((ha 115).2 e);have qa:(an==115)=false:=by simp[uU]
             have kg:Hid (aV l=none):=rT.out (by rw[eY wL.out qX.out,zJ Cx];rfl);clear hheap hdl ha Gv vY Cx uU;go_wp2;go_returns;exact JR.out _ _ _ (hb.alloc _) kg.out
           | false=>
            by_cases su:an=114
            ·have Cx:ac=114:=(ha 114).1 su;subst su;clear ha;obtain⟨ds0,⟨s,os⟩,rfl⟩:∃a x,ds=a++[x]:=⟨ds.dropLast,ds.getLast (hdl.2.2 rfl),(List.dropLast_concat_getLast (hdl.2.2 rfl)).symm⟩;obtain⟨go,co',sv,hv,hcv,hrow⟩:=HG.out.last rfl;have hol:os.length<=k:=hdl.2.1 ⟨s,os⟩ (by simp);obtain⟨A7,n7,c7,w7,hrun,hc7,hf7,MU,FY,NN⟩:=HG.out.grow wr.heap.size rfl hv hcv hb (Nat.le_refl _) (Ext.refl _) ⟨1,(dn:Int),0⟩ hb.size (by omega);have iA:Hid (uM ws (k+1)=some (ds0++[⟨s,os++[⟨1,(dn:Int),0⟩]⟩],true)):=by
              show _ = _;rw[SN.out,eY wL.out qX.out];have hdn:bc.toNat-48=dn:=by omega
              simp only[jE,HDG.out,hdn,Cx];rw[if_pos ⟨trivial,vY⟩];simp[kF]
             dsimp only at hrun
             have aU:=aa hrun;have QM:=aa MU;have Eg:=aa FY;have QE:=aa ((NN _ (HTB.out _ hheap)).trans hheap);obtain⟨A5,n5,c5,rfl⟩:=iK hrow;obtain⟨p,hp⟩:∃p,ds0.length=p:=⟨_,rfl⟩;obtain⟨m,hm⟩:∃m,(ds0++[(⟨s,os⟩:eH)]).length=m:=⟨_,rfl⟩;have hmp:m=p+1:=by rw[<-hm,<-hp];simp
             have HMM:=aa hm;rw[hm]at hv hd4;rw[hp]at hcv hc7 hf7 QM Eg QE;have hvv:=hv;have Jf:IntKind.i64.wrap ((m:Int)-1)=(p:Int):=by rw[show (m:Int)-1=(p:Int) by omega];exact IntWalk.i64_in _ (by omega)
             have hpm:(p:Int)<(m:Int):=by omega
             have aaG:(0:Int)<=(p:Int):=by omega
             have abx:(wr.alloc (.cells #[.int .i64 1,.int .i64 (dn:Int),.int .i64 0] 71)).cell? ⟨go,p*2+1,none⟩=some (.slice A5 n5 c5):=((Ext.refl wr).alloc _).cell hcv;rw[hm];obtain⟨e1,-,e3⟩:=Value.slice.inj hvv;subst e1 e3;clear hrun MU FY NN hheap Gv vY hm hb hv hvv hrow hol hmp hp hdl;go_wp2_with (at_builtin;refine wpList_append_run rfl rfl rfl rfl aU.out ?_)
             go_roundw;case rel=>exact⟨Eg.out,QE.out,k+1,_,_,by omega,by go_num,rfl,iA.out,by have h7:=QM.out;rw[HMM.out]at h7;exact h7⟩
             case measure=>simp[intOf];omega
            ·by_cases wG:an=119
             ·have Cx:ac=119:=(ha 119).1 wG;subst wG;clear ha su;obtain⟨ds0,⟨s,os⟩,rfl⟩:∃a x,ds=a++[x]:=⟨ds.dropLast,ds.getLast (hdl.2.2 rfl),(List.dropLast_concat_getLast (hdl.2.2 rfl)).symm⟩;obtain⟨go,co',sv,hv,hcv,hrow⟩:=HG.out.last rfl;have hol:os.length<=k:=hdl.2.1 ⟨s,os⟩ (by simp);obtain⟨A7,n7,c7,w7,hrun,hc7,hf7,MU,FY,NN⟩:=HG.out.grow wr.heap.size rfl hv hcv hb (Nat.le_refl _) (Ext.refl _) ⟨2,(dn:Int),0⟩ hb.size (by omega);have iA:Hid (uM ws (k+1)=some (ds0++[⟨s,os++[⟨2,(dn:Int),0⟩]⟩],true)):=by
               show _ = _;rw[SN.out,eY wL.out qX.out];have hdn:bc.toNat-48=dn:=by omega
               simp only[jE,HDG.out,hdn,Cx];rw[if_pos ⟨trivial,vY⟩];simp[kF]
              dsimp only at hrun
              have aU:=aa hrun;have QM:=aa MU;have Eg:=aa FY;have QE:=aa ((NN _ (HTB.out _ hheap)).trans hheap);obtain⟨A5,n5,c5,rfl⟩:=iK hrow;obtain⟨p,hp⟩:∃p,ds0.length=p:=⟨_,rfl⟩;obtain⟨m,hm⟩:∃m,(ds0++[(⟨s,os⟩:eH)]).length=m:=⟨_,rfl⟩;have hmp:m=p+1:=by rw[<-hm,<-hp];simp
              have HMM:=aa hm;rw[hm]at hv hd4;rw[hp]at hcv hc7 hf7 QM Eg QE;have hvv:=hv;have Jf:IntKind.i64.wrap ((m:Int)-1)=(p:Int):=by rw[show (m:Int)-1=(p:Int) by omega];exact IntWalk.i64_in _ (by omega)
              have hpm:(p:Int)<(m:Int):=by omega
              have aaG:(0:Int)<=(p:Int):=by omega
              have abx:(wr.alloc (.cells #[.int .i64 2,.int .i64 (dn:Int),.int .i64 0] 71)).cell? ⟨go,p*2+1,none⟩=some (.slice A5 n5 c5):=((Ext.refl wr).alloc _).cell hcv;rw[hm];obtain⟨e1,-,e3⟩:=Value.slice.inj hvv;subst e1 e3;clear hrun MU FY NN hheap Gv vY hm hb hv hvv hrow hol hmp hp hdl;go_wp2_with (at_builtin;refine wpList_append_run rfl rfl rfl rfl aU.out ?_)
              go_roundw;case rel=>exact⟨Eg.out,QE.out,k+1,_,_,by omega,by go_num,rfl,iA.out,by have h7:=QM.out;rw[HMM.out]at h7;exact h7⟩
              case measure=>simp[intOf];omega
             ·have Cx:ac≠114:=fun e=>su ((ha 114).2 e);have ha9:ac≠119:=fun e=>wG ((ha 119).2 e);have qa:(an==114)=false:=by simp[su]
              have qb:(an==119)=false:=by simp[wG]
              have kg:Hid (aV l=none):=rT.out (by rw[eY wL.out qX.out,Ct Cx ha9];rfl);clear hheap hdl ha Gv vY Cx ha9 su wG;go_wp2;go_returns;exact JR.out _ _ _ (hb.alloc _) kg.out
     ·have hq2:((n1:Int) != 2)=true:=by have:=UT.out;rw[bne_iff_ne];omega
      have kg:Hid (aV l=none):=rT.out (yK (by rw[wL.out];exact hb2));clear hheap hdl hzb hb2;go_wp2;go_returns;exact JR.out _ _ _ (hb.alloc _) kg.out
    ·have hx9:((x.toNat:Int)==59)=false:=by
      rw[beq_eq_false_iff_ne];intro e;have e':(x.toNat:Int)=59:=by simpa using e
      exact YY (UInt8.toNat_inj.1 (show x.toNat=(59:UInt8).toNat from Int.ofNat_inj.1 e'))
     have qX:Hid (Ib wk=false):=by show _ = _;rw[hend];simpa using YY
     have wL:Hid (wD wk=wk):=by show _ = _;rw[wD,qX.out];rfl
     obtain⟨bw,hbw⟩:∃y,wk=y:=⟨_,rfl⟩;obtain⟨xn,hxn⟩:∃y:Int,(x.toNat:Int)=y:=⟨_,rfl⟩;rw[hxn]at hil hx9;have wL:Hid (wD wk=bw):=wL.out.trans hbw;have UT:Hid (q=bw.length):=by show _ = _;rw[<-hq,hbw]
     obtain⟨zb,hzb⟩:∃y,tx bw=y:=⟨_,rfl⟩;rw[show tx wk=zb by rw[hbw,hzb]]at hsz hil ck;clear hx hend abo hbw hwn hl1 hq hex YY hxn;by_cases hb2:bw.length=2
     ·match bw,hb2,wL with
      | [ac,bc],hb2,wL=>
        have hq2:((q:Int) != 2)=false:=by have:q=2:=UT.out.trans hb2;rw[this];rfl
        have hi0:=jZ (l:=[ac,bc]) (k:=0) rfl 0 rfl;have hi1:=jZ (l:=[ac,bc]) (k:=1) rfl 1 rfl;rw[hzb]at hi0 hi1;obtain⟨an,DV⟩:∃y:Int,(ac.toNat:Int)=y:=⟨_,rfl⟩;obtain⟨bn,hbn⟩:∃y:Int,(bc.toNat:Int)=y:=⟨_,rfl⟩;have ha:∀x:UInt8,an=(x.toNat:Int)↔ac=x:=fun x=>by rw[<-DV];exact⟨fun e=>UInt8.toNat_inj.1 (by omega),fun e=>by rw[e]⟩
        rw[DV]at hi0;rw[hbn]at hi1;clear hzb;by_cases h1:bn<48
        ·have kg:Hid (aV l=none):=rT.out (by rw[eY wL.out qX.out,tZ (by simp[fC];omega)];rfl);clear hheap hdl ha DV hbn hb2;go_wp2;go_returns;exact JR.out _ _ _ (hb.alloc _) kg.out
        ·by_cases h2:57<bn
         ·have kg:Hid (aV l=none):=rT.out (by rw[eY wL.out qX.out,tZ (by simp[fC];omega)];rfl);clear hheap hdl ha DV hbn hb2;go_wp2;go_returns;exact JR.out _ _ _ (hb.alloc _) kg.out
         ·have HDG:Hid (fC bc=true):=by show _ = _;simp[fC];omega
          by_cases hd4:(4:Int)<(ds.length:Int)
          ·have kg:Hid (aV l=none):=rT.out (by rw[eY wL.out qX.out,Dy (ds:=ds) (by omega)];rfl);clear hheap hdl ha DV hbn hb2;go_wp2;go_returns;exact JR.out _ _ _ (hb.alloc _) kg.out
          ·have vY:ds.length<=4:=by omega
           obtain⟨dn,Gv⟩:∃d:Nat,bc.toNat=d+48:=⟨bc.toNat-48,by omega⟩;have hw8:IntKind.u8.wrap (bn-48)=(dn:Int):=by rw[show bn-48=(dn:Int) by omega];exact IntWalk.u8_in _ (by omega)
           have hw9:IntKind.i64.wrap (dn:Int)=(dn:Int):=IntWalk.i64_in _ (by omega);clear hb2 hbn DV
           cases fr with
           | true=>
            by_cases uU:an=115
            ·have Cx:ac=115:=(ha 115).1 uU;subst uU Cx;clear ha hdl;obtain⟨A7,n7,c7,w7,hrun,MU,FY,NN⟩:=HG.out.push wr.heap.size rfl hb (Nat.le_refl _) (Ext.refl _) (dn:Int) hb.size (by omega);have iA:Hid (uM ws (k+1)=some (ds++[⟨(dn:Int),[]⟩],false)):=by
              show _ = _;rw[SN.out,eY wL.out qX.out];have hdn:bc.toNat-48=dn:=by omega
              simp[jE,HDG.out,hdn,vY]
             have aU:=aa hrun;have QM:=aa MU;have Eg:=aa FY;have QE:=aa ((NN _ (HTB.out _ hheap)).trans hheap);clear hrun MU FY NN hheap Gv vY hb;go_wp2_with (at_builtin;refine wpList_append_run rfl rfl rfl rfl aU.out ?_)
             go_roundw;case rel=>exact⟨Eg.out,QE.out,k+1,_,_,by omega,by go_num,rfl,iA.out,QM.out⟩
             case measure=>simp[intOf];omega
            ·have Cx:ac≠115:=fun e=>uU ((ha 115).2 e);have qa:(an==115)=false:=by simp[uU]
             have kg:Hid (aV l=none):=rT.out (by rw[eY wL.out qX.out,zJ Cx];rfl);clear hheap hdl ha Gv vY Cx uU;go_wp2;go_returns;exact JR.out _ _ _ (hb.alloc _) kg.out
           | false=>
            by_cases su:an=114
            ·have Cx:ac=114:=(ha 114).1 su;subst su;clear ha;obtain⟨ds0,⟨s,os⟩,rfl⟩:∃a x,ds=a++[x]:=⟨ds.dropLast,ds.getLast (hdl.2.2 rfl),(List.dropLast_concat_getLast (hdl.2.2 rfl)).symm⟩;obtain⟨go,co',sv,hv,hcv,hrow⟩:=HG.out.last rfl;have hol:os.length<=k:=hdl.2.1 ⟨s,os⟩ (by simp);obtain⟨A7,n7,c7,w7,hrun,hc7,hf7,MU,FY,NN⟩:=HG.out.grow wr.heap.size rfl hv hcv hb (Nat.le_refl _) (Ext.refl _) ⟨1,(dn:Int),0⟩ hb.size (by omega);have iA:Hid (uM ws (k+1)=some (ds0++[⟨s,os++[⟨1,(dn:Int),0⟩]⟩],false)):=by
              show _ = _;rw[SN.out,eY wL.out qX.out];have hdn:bc.toNat-48=dn:=by omega
              simp only[jE,HDG.out,hdn,Cx];rw[if_pos ⟨trivial,vY⟩];simp[kF]
             dsimp only at hrun
             have aU:=aa hrun;have QM:=aa MU;have Eg:=aa FY;have QE:=aa ((NN _ (HTB.out _ hheap)).trans hheap);obtain⟨A5,n5,c5,rfl⟩:=iK hrow;obtain⟨p,hp⟩:∃p,ds0.length=p:=⟨_,rfl⟩;obtain⟨m,hm⟩:∃m,(ds0++[(⟨s,os⟩:eH)]).length=m:=⟨_,rfl⟩;have hmp:m=p+1:=by rw[<-hm,<-hp];simp
             have HMM:=aa hm;rw[hm]at hv hd4;rw[hp]at hcv hc7 hf7 QM Eg QE;have hvv:=hv;have Jf:IntKind.i64.wrap ((m:Int)-1)=(p:Int):=by rw[show (m:Int)-1=(p:Int) by omega];exact IntWalk.i64_in _ (by omega)
             have hpm:(p:Int)<(m:Int):=by omega
             have aaG:(0:Int)<=(p:Int):=by omega
             have abx:(wr.alloc (.cells #[.int .i64 1,.int .i64 (dn:Int),.int .i64 0] 71)).cell? ⟨go,p*2+1,none⟩=some (.slice A5 n5 c5):=((Ext.refl wr).alloc _).cell hcv;rw[hm];obtain⟨e1,-,e3⟩:=Value.slice.inj hvv;subst e1 e3;clear hrun MU FY NN hheap Gv vY hm hb hv hvv hrow hol hmp hp hdl;go_wp2_with (at_builtin;refine wpList_append_run rfl rfl rfl rfl aU.out ?_)
             go_roundw;case rel=>exact⟨Eg.out,QE.out,k+1,_,_,by omega,by go_num,rfl,iA.out,by have h7:=QM.out;rw[HMM.out]at h7;exact h7⟩
             case measure=>simp[intOf];omega
            ·by_cases wG:an=119
             ·have Cx:ac=119:=(ha 119).1 wG;subst wG;clear ha su;obtain⟨ds0,⟨s,os⟩,rfl⟩:∃a x,ds=a++[x]:=⟨ds.dropLast,ds.getLast (hdl.2.2 rfl),(List.dropLast_concat_getLast (hdl.2.2 rfl)).symm⟩;obtain⟨go,co',sv,hv,hcv,hrow⟩:=HG.out.last rfl;have hol:os.length<=k:=hdl.2.1 ⟨s,os⟩ (by simp);obtain⟨A7,n7,c7,w7,hrun,hc7,hf7,MU,FY,NN⟩:=HG.out.grow wr.heap.size rfl hv hcv hb (Nat.le_refl _) (Ext.refl _) ⟨2,(dn:Int),0⟩ hb.size (by omega);have iA:Hid (uM ws (k+1)=some (ds0++[⟨s,os++[⟨2,(dn:Int),0⟩]⟩],false)):=by
               show _ = _;rw[SN.out,eY wL.out qX.out];have hdn:bc.toNat-48=dn:=by omega
               simp only[jE,HDG.out,hdn,Cx];rw[if_pos ⟨trivial,vY⟩];simp[kF]
              dsimp only at hrun
              have aU:=aa hrun;have QM:=aa MU;have Eg:=aa FY;have QE:=aa ((NN _ (HTB.out _ hheap)).trans hheap);obtain⟨A5,n5,c5,rfl⟩:=iK hrow;obtain⟨p,hp⟩:∃p,ds0.length=p:=⟨_,rfl⟩;obtain⟨m,hm⟩:∃m,(ds0++[(⟨s,os⟩:eH)]).length=m:=⟨_,rfl⟩;have hmp:m=p+1:=by rw[<-hm,<-hp];simp
              have HMM:=aa hm;rw[hm]at hv hd4;rw[hp]at hcv hc7 hf7 QM Eg QE;have hvv:=hv;have Jf:IntKind.i64.wrap ((m:Int)-1)=(p:Int):=by rw[show (m:Int)-1=(p:Int) by omega];exact IntWalk.i64_in _ (by omega)
              have hpm:(p:Int)<(m:Int):=by omega
              have aaG:(0:Int)<=(p:Int):=by omega
              have abx:(wr.alloc (.cells #[.int .i64 2,.int .i64 (dn:Int),.int .i64 0] 71)).cell? ⟨go,p*2+1,none⟩=some (.slice A5 n5 c5):=((Ext.refl wr).alloc _).cell hcv;rw[hm];obtain⟨e1,-,e3⟩:=Value.slice.inj hvv;subst e1 e3;clear hrun MU FY NN hheap Gv vY hm hb hv hvv hrow hol hmp hp hdl;go_wp2_with (at_builtin;refine wpList_append_run rfl rfl rfl rfl aU.out ?_)
              go_roundw;case rel=>exact⟨Eg.out,QE.out,k+1,_,_,by omega,by go_num,rfl,iA.out,by have h7:=QM.out;rw[HMM.out]at h7;exact h7⟩
              case measure=>simp[intOf];omega
             ·have Cx:ac≠114:=fun e=>su ((ha 114).2 e);have ha9:ac≠119:=fun e=>wG ((ha 119).2 e);have qa:(an==114)=false:=by simp[su]
              have qb:(an==119)=false:=by simp[wG]
              have kg:Hid (aV l=none):=rT.out (by rw[eY wL.out qX.out,Ct Cx ha9];rfl);clear hheap hdl ha Gv vY Cx ha9 su wG;go_wp2;go_returns;exact JR.out _ _ _ (hb.alloc _) kg.out
     ·have hq2:((q:Int) != 2)=true:=by have:=UT.out;rw[bne_iff_ne];omega
      have kg:Hid (aV l=none):=rT.out (yK (by rw[wL.out];exact hb2));clear hheap hdl hzb hb2;go_wp2;go_returns;exact JR.out _ _ _ (hb.alloc _) kg.out
  ·obtain rfl:k=ws.length:=by omega
   have Nz:Hid (∀p',dQ p'=true->jq p'=l->ds=p'):=fun p' hp' he=>by
    have:=Jg hp' (fun e=>HNE.out (by rw[<-he,e];rfl)) he
    rw[IG.out,RJ.out]at this;exact congrArg Prod.fst (Option.some.inj this)
   have hst:∀d∈ds,d.steps.length<=2097152:=fun d hd=>by have:=hdl.2.1 d hd;omega
   have HP:=aa HG.out.pla;have HV:=aa (qc wr HP.out (by omega) hst);have HT:=aa (fun W (b:Ext wr W)=>I7 W (HP.out.ext b) (by omega) hst);clear hdl hst hheap;by_cases hv:dQ ds=true
   ·rw[hv]at HV;have HT2:Hid (∀W,Ext wr W->Calls Tryz.prog 51 #[.slice Ao ds.length co] W fun e w'=>e=.returned (.string (tx (jq ds)))/\Ext W w'):=fun W b=>by
     have:=HT.out W b
     rw[hv,if_pos rfl]at this;exact this
    by_cases he:jq ds=l
    ·rw[he,HZ.out]at HT2;have Em:Hid (aV l=some ds):=jB.2 ⟨hv,he⟩;clear hv he HT;go_wp2_with (first|(go_at_call 50;refine HV.out.mono ?_;rintro e w2 ⟨rfl,b2⟩)|(go_at_call 51;refine(HT2.out _ b2).mono ?_;rintro e w3 ⟨rfl,b3⟩))
     go_returns;exact⟨ds,_,by rw[Em.out];rfl,HP.out.ext (b2.trans b3),by rw[Em.out];rfl,hb.trans (b2.trans b3)⟩
    ·have kg:Hid (aV l=none):=kH fun p' hp' he'=>he (by rw[Nz.out p' hp' he'];exact he');obtain⟨z2,hz2⟩:∃z2,tx (jq ds)=z2:=⟨_,rfl⟩;have hq:(z2.toList==z.toList)=false:=by rw[<-hz2,<-HZ.out,eD,eD];simpa using he
     rw[hz2]at HT2;clear hv he HT hz2;go_wp2_with (first|(go_at_call 50;refine HV.out.mono ?_;rintro e w2 ⟨rfl,b2⟩)|(go_at_call 51;refine(HT2.out _ b2).mono ?_;rintro e w3 ⟨rfl,b3⟩))
     go_returns;exact JR.out _ _ _ ((hb.trans (b2.trans b3)).alloc _) kg.out
   ·have hv':dQ ds=false:=by simpa using hv
    have kg:Hid (aV l=none):=kH fun p' hp' he'=>hv (by rw[Nz.out p' hp' he'];exact hp');rw[hv']at HV;clear hv hv' HT;go_wp2_with (go_at_call 50;refine HV.out.mono ?_;rintro e w2 ⟨rfl,b2⟩)
    go_returns;exact JR.out _ _ _ ((hb.trans b2).alloc _) kg.out
