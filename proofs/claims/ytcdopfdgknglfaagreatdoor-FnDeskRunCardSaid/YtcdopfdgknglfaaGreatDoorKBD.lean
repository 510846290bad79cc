/- Lemmas. -/
import Derived.Test.YtcdopfdgknglfaaGreatDoorKAT
import Derived.Test.YtcdopfdgknglfaaGreatDoorKAY
import Derived.Test.YtcdopfdgknglfaaGreatDoorKAZ
import Derived.Test.YtcdopfdgknglfaaGreatDoorKBC
set_option maxHeartbeats 16000000
set_option maxRecDepth 8000
set_option linter.all false
namespace Go.Proofs.YtcdopfdgknglfaaGreatDoor
open Go.RowKit
def Ng(n k:Nat):List Nat:=(List.range k).map (· % n)
theorem Vf(n k:Nat):Ng n (k+1)=Ng n k++[k%n]:=by unfold Ng;rw[vU];simp
theorem Wz{n:Nat}(h:n<=4):Ng n (4*n)=eD n:=by rcases (by omega:n=0∨n=1∨n=2∨n=3∨n=4) with rfl|rfl|rfl|rfl|rfl<;>decide
theorem XM(n k:Nat):(Ng n k).length=k:=by simp[Ng]
theorem Ib(l r:List UInt8):(tx l).toList=l/\((l==r)=decide (l=r)):=⟨fA l,by by_cases h:l=r<;>simp[h]⟩
theorem kM{X:Nat->Prop}{base:Nat}{w:World}{v:Value}{rs:List jg}{h:List aG}(H:oV 48 67 base w v rs h)(hX:∀q,X q->q<base):kW X w v h:=by obtain⟨d1,d2⟩:=H.done (by decide);exact kW.MV d1 d2 hX
theorem Bo{base:Nat}{w:World}{v:Value}{rs:List jg}{h:List aG}(H:oV 48 67 base w v rs h):∃A c,v=.slice A h.length c:=by obtain⟨d1,d2⟩:=H.done (by decide);exact iM.slice ⟨rs,d1⟩
theorem fZ{X:Nat->Prop}{w w':World}{v:Value}{a:List UInt8}{r:List aG × List UInt8}{g:List aG}(hr:Hid (r=(g,a)))(H:kW X w' v g)(b:Ext w w'):tV X w r (.returned (.tuple #[v,.string (tx a)])) w':=by rw[hr.out];exact⟨v,rfl,H,b⟩
theorem WT{base:Nat}{w:World}{v:Value}{rs:List jg}{h:List aG}(H:oV 48 67 base w v rs h):iM w v h:=let ⟨d1,_⟩:=H.done (by decide);⟨rs,d1⟩
theorem Zf(n:Nat):bT n≠[]:=by
 unfold bT
 split<;>simp
theorem Qo{sep:List UInt8}:∀{l:List (List UInt8)},l≠[]->(∀x∈l,x≠[])->joinL sep l≠[]
 | [],h,_=>absurd rfl h
 | [x],_,h=>by simpa[joinL] using h x (by simp)
 | x :: y :: l,_,h=>by
   have:=h x (by simp)
   simp[joinL,this]
theorem YM{ns:List Nat}(h:ns≠[]):numsL (ns.map λ(n:Nat)=>(n:Int))≠[]:=by unfold numsL;refine Qo (by simpa using h) (λx hx=>?_);obtain⟨y,_,rfl⟩:=fV.1 hx;exact Zf _
theorem WY{h:List aG}(hn:h≠[]):xm h≠[]:=by unfold xm;refine Qo (by simpa using hn) (λx hx=>?_);obtain⟨t,_,rfl⟩:=fV.1 hx;simp[nk,dB,joinL]
theorem zI{X:Nat->Prop}{v:Value}{h:List aG}(s:List UInt8)(w:World)(hX:∀q,X q->q<w.heap.size)(H:iM w v h)(hlen:h.length<=2097152)(hM:∀t∈h,t.ops.length<=2097152)(hl:s.length<=1048576) :
 Calls Tryz.prog 8 #[v,.string (tx s)] w (tV X w (gY h s)):=by
 obtain⟨A,c,rfl⟩:=H.slice;have HV:=aa (bJ w H hlen hM);have HH:=aa H;have HX:=aa hX
 cases hok:aD h with
 | false=>
   rw[hok]at HV;have HD:Hid (gY h s=([],[])):=au (by rw[hok];decide);obtain⟨z,hz⟩:∃z,tx s=z:=⟨_,rfl⟩;rw[hz];clear H hlen hM hok hX hz;go_enter Tryz.func8,Tryz.ntmps8;go_wp2_with (go_at_call 10;refine HV.out.mono ?_;rintro e w1 ⟨rfl,b1⟩)
   go_returns;exact fZ HD ⟨[],⟨rfl,aL.nil _ _ _ _ _,λi r t hr=>by simp at hr⟩,λa n c e hn=>(by cases e;omega),λi r hr=>by simp at hr⟩ (b1.alloc _)
 | true=>
   rw[hok]at HV;have HD:Hid (gY h s=deskR h s):=aj hok;have HC:=aa (λW (b:Ext w W)=>Em W (H.ext b) hlen hM);have fu:=aa hok;have HS:=aa (λW=>MM s W hl);have hrl:(eH s).length<=1048576:=by have:=Lc s;omega
   have V8:=aa (λW=>Nv (eH s) W hrl);have TP:=aa (λW hne=>Kv (eH s) W hrl hne);have HRN:=aa (λW=>vE (eH s) W hrl);obtain⟨zs,hzs⟩:∃z,tx s=z:=⟨_,rfl⟩;obtain⟨zw,Mf⟩:∃z,tx (fD s)=z:=⟨_,rfl⟩;obtain⟨zr,Tw⟩:∃z,tx (eH s)=z:=⟨_,rfl⟩;rw[hzs,Mf,Tw]at HS;rw[Tw]at V8 TP HRN;rw[hzs];have hst:zs.toList=s:=by rw[<-hzs,fA]
   have hwt:zw.toList=fD s:=by rw[<-Mf,fA]
   have hrt:zr.toList=eH s:=by rw[<-Tw,fA]
   have Br:Hid (∀r,(zs.toList==r)=decide (s=r)):=λr=>by rw[hst];exact(Ib s r).2
   have DI:Hid (∀r,(zw.toList==r)=decide (fD s=r)):=λr=>by rw[hwt];exact(Ib _ r).2
   have Wl:Hid ((zr.toList != []) = !decide (eH s=[])):=by show _ = _;rw[hrt,bne,(Ib _ _).2]
   have Xn:Hid (zr.toList.isEmpty=decide (eH s=[])):=by show _ = _;rw[hrt];cases eH s<;>simp
   have QA:=aa (PW (s:=s));clear H hlen hM hok hX hl hrl hzs Mf Tw hst hwt hrt;go_enter Tryz.func8,Tryz.ntmps8;go_wp2_with (first|(go_at_call 10;refine HV.out.mono ?_;rintro e w1 ⟨rfl,b1⟩)|fail)
   refine(HC.out w1 b1).mono ?_
   rintro e w2 ⟨v2,rs2,rfl,hB2,b2⟩;obtain⟨A2,c2,rfl⟩:=Bo hB2;have HB2:=aa hB2;have HE2:=aa (b1.trans b2);have yS:=aa b1.size;have HS2:=aa b2.size;clear hB2 b1 b2;go_wp2_with fail
   refine(HS.out w2).mono ?_
   rintro e w3 ⟨rfl,b3⟩;have HB3:=aa (HB2.out.ext b3);have tF:=aa (HE2.out.trans b3);have NI:Hid (w1.heap.size<=w3.heap.size):=aX HS2.out b3.size;clear HB2 HE2 HS2 b3 HS;by_cases hp:fD s=Mo/\eH s≠[]
   ·obtain⟨hp1,hp2⟩:=hp;have k1:(zw.toList==[112,117,116])=true:=by rw[DI.out];exact jw hp1
    have k2:(zr.toList != [])=true:=by rw[Wl.out];simp[hp2]
    have k9:zr.toList.isEmpty=false:=by rw[Xn.out];simp[hp2]
    have CF:Hid (gY h s=putR h (eH s)):=HD.out.trans (KQ hp1 hp2);clear hp1 hp2 QA Br DI Wl Xn TP HRN HD;go_wp2_with fail
    refine(V8.out w3).mono ?_
    rintro e w4 ⟨t,ov,rfl,hso,how,hit,hcp,hte,b4⟩;obtain⟨ok,CS⟩:∃ok,(dQ (eH s)).isSome=ok:=⟨_,rfl⟩;have HP:Hid (gY h s=if (ok&&aD (h++[t]))=true then (h++[t],Fe) else (h,DT)):=by rw[<-CS];exact CF.out.trans (Ug h _ t hte)
    have HTL:Hid (ok=true->∀u∈h++[t],u.ops.length<=2097152):=λe u hu=>by
     rcases iR.1 hu with hu|hu
     ·exact aJ fu.out u hu
     ·obtain⟨t1,ht1⟩:=Option.isSome_iff_exists.1 (CS.trans e)
      have:=dF (oJ.1 ht1).1
      rw[pF]at hu;rw[hu,hte t1 ht1];omega
    rw[CS];obtain⟨At,ct,rfl,_⟩:=id hso;have b5:Ext w4 (w4.alloc (.cells #[.int .i64 t.az,.slice At t.ops.length ct,.bool t.done] 48)):=(af _).alloc _;have TA:=aR fu.out;obtain⟨v7,w7,hrun,FJ,GI⟩:=uF (t:=t) (w4.heap.size+1) (by simp) HB3.out (b4.trans b5) (hso.ext b5) (how.ext b5) (hit.ext b5) hcp NI.out (by rw[HB3.out.1];omega);obtain⟨A7,c7,rfl⟩:=Bo FJ;rw[show (h++[t]).length=h.length+1 by simp]at hrun FJ;have bH:=aa hrun;have JK:=aa FJ;have Ak:=aa (GI w tF.out yS.out);have HHV:=aa (λe=>bJ w7 (WT FJ) (by simp;omega) (HTL.out e));clear CS hso how hit hcp hte b4 b5 hrun FJ GI V8 HTL CF
    cases ok with
    | false=>
      go_wp2_with (at_builtin;refine wpList_append_run rfl rfl rfl rfl bH.out ?_)
      refine(HC.out w7 Ak.out).mono ?_
      rintro e w8 ⟨v8,rs8,rfl,hB8,b8⟩;go_wp2;go_returns;exact fZ (a:=DT) HP (kM hB8 (λq hq=>bR (HX.out q hq) Ak.out.size)) (Ak.out.trans b8)
    | true=>
      obtain⟨bv,hbv⟩:∃b,aD (h++[t])=b:=⟨_,rfl⟩;have NW:=aa (HHV.out rfl);rw[hbv]at NW;have U9:Hid (gY h s=if bv=true then (h++[t],Fe) else (h,DT)):=by rw[<-hbv];exact HP.out
      clear hbv HHV HP
      cases bv with
      | false=>
        go_wp2_with (first|(at_builtin;refine wpList_append_run rfl rfl rfl rfl bH.out ?_)|fail)
        refine NW.out.mono ?_;rintro e w8 ⟨rfl,b8⟩;go_wp2_with fail
        refine(HC.out w8 (Ak.out.trans b8)).mono ?_
        rintro e w9 ⟨v9,rs9,rfl,hB9,b9⟩;go_wp2;go_returns;exact fZ (a:=DT) U9 (kM hB9 (λq hq=>bR (HX.out q hq) (Ak.out.trans b8).size)) ((Ak.out.trans b8).trans b9)
      | true=>
        go_wp2_with (first|(at_builtin;refine wpList_append_run rfl rfl rfl rfl bH.out ?_)|fail)
        refine NW.out.mono ?_;rintro e w8 ⟨rfl,b8⟩;go_wp2;go_returns;exact fZ (a:=Fe) U9 (kM (JK.out.ext b8) (λq hq=>bR (HX.out q hq) yS.out)) (Ak.out.trans b8)
   have HNP:Hid ((zw.toList==[112,117,116]&&zr.toList != [])=false):=by
    rw[Wl.out,DI.out];show _=false;by_cases h1:fD s=Mo
    ·have:eH s=[]:=Classical.byContradiction λe=>hp ⟨h1,e⟩
     simp[this]
    ·rw[show decide (fD s=[112,117,116])=false from dU h1];rfl
   have JX:Hid (((zw.toList==[112,117,116])=false)∨((zw.toList==[112,117,116])=true/\(zr.toList != [])=false/\zr.toList.isEmpty=true)):=by
    have:=HNP.out
    cases h1:zw.toList==[112,117,116]
    ·exact .inl rfl
    ·rw[h1]at this;refine .inr ⟨rfl,this,?_⟩;have h2:(zr.toList != [])=false:=this;rw[Wl.out]at h2;rw[Xn.out];simpa using h2
   clear HNP V8
   cases NF:(if fD s=BF then eF (eH s) else none) with
   | some n=>
     have hd:fD s=BF:=Classical.byContradiction λe=>by rw[au e]at NF;cases NF
     rw[aj hd]at NF;have aap:Hid (∀W,Calls Tryz.prog 28 #[.string zr] W λe w'=>e=.returned (.int .i64 (n:Int))/\Ext W w'):=λW=>by
      have:=HRN.out W
      unfold gF at this
      rwa [NF]at this
     have CF:Hid (gY h s=yA h n):=HD.out.trans (Jb hd NF);have k1:(zw.toList==[112,117,116])=false:=by rw[DI.out];exact dU (by rw[hd];decide)
     have k3:(zw.toList==[100,114,111,112])=true:=by rw[DI.out];exact jw hd
     clear hp hd NF QA Br DI Wl Xn TP HRN HD JX;by_cases hn:n<h.length
     ·have HDR:=aa (λW (b:Ext w W)=>LY n W (HH.out.ext b) fu.out hn);have HD3:Hid (gY h s=(om h n,Fe)):=CF.out.trans (aj hn);clear hn;go_wp2_with fail
      refine(aap.out w3).mono ?_
      rintro e w4 ⟨rfl,b4⟩;go_wp2_with fail
      refine(aap.out w4).mono ?_
      rintro e w5 ⟨rfl,b5⟩;have BA:=aa (b4.trans b5);clear b4 b5;go_wp2_with fail
      refine(HDR.out w5 (tF.out.trans BA.out)).mono ?_
      rintro e w6 ⟨v6,rs6,rfl,h6,o6,b6⟩;go_wp2;go_returns;exact fZ (a:=Fe) HD3 (kW.MV h6 o6 (λq hq=>bR (HX.out q hq) (tF.out.trans BA.out).size)) ((tF.out.trans BA.out).trans b6)
     ·have HDR:=aa (λW (b:Ext w W)=>Dj n W (HH.out.ext b) fu.out hn);have HD3:Hid (gY h s=(h,DT)):=CF.out.trans (au hn);clear hn;go_wp2_with fail
      refine(aap.out w3).mono ?_
      rintro e w4 ⟨rfl,b4⟩;go_wp2_with fail
      refine(aap.out w4).mono ?_
      rintro e w5 ⟨rfl,b5⟩;have BA:=aa (b4.trans b5);clear b4 b5;go_wp2_with fail
      refine(HDR.out w5 (tF.out.trans BA.out)).mono ?_
      rintro e w6 ⟨A6,n6,c6,rfl,b6⟩;go_wp2;go_returns;exact fZ (a:=DT) HD3 (kM (HB3.out.ext (BA.out.trans b6)) (λq hq=>bR (HX.out q hq) yS.out)) ((tF.out.trans BA.out).trans b6)
   | none=>
     have HNS:Hid (fD s=BF->eF (eH s)=none):=λe=>by rw[aj e]at NF;exact NF
     clear NF;have Vz:Hid ((zw.toList==[100,114,111,112])=false∨((zw.toList==[100,114,111,112])=true/\∀W,Calls Tryz.prog 28 #[.string zr] W λe w'=>e=.returned (.int .i64 (-1))/\Ext W w')):=by
      by_cases hd:fD s=BF
      ·refine .inr ⟨by rw[DI.out];exact jw hd,λW=>?_⟩
       have:=HRN.out W
       unfold gF at this
       rwa [HNS.out hd]at this
      ·exact .inl (by rw[DI.out];exact dU hd)
     clear HRN;by_cases hr:fD s=Np/\eH s≠[]
     ·obtain⟨hr1,hr2⟩:=hr;have k1:(zw.toList==[112,117,116])=false:=by rw[DI.out];exact dU (by rw[hr1];decide)
      have k3:(zw.toList==[100,114,111,112])=false:=by rw[DI.out];exact dU (by rw[hr1];decide)
      have k4:(zw.toList==[114,117,110])=true:=by rw[DI.out];exact jw hr1
      have k2:(zr.toList != [])=true:=by rw[Wl.out];simp[hr2]
      have k9:zr.toList.isEmpty=false:=by rw[Xn.out];simp[hr2]
      have CF:Hid (gY h s=runD h (eH s)):=HD.out.trans (LA hr1 hr2);have HR2:=aa (λW=>TP.out W hr2);clear hp hr1 hr2 QA Br DI Wl Xn TP HD JX Vz HNS;go_wp2_with fail
      refine(HR2.out w3).mono ?_
      rintro e w4 ⟨p,pv,rfl,hpl,hpe,b4⟩
      cases hrp:bL (eH s) with
      | none=>
        have HD3:Hid (gY h s=(h,DT)):=CF.out.trans (by unfold runD;rw[hrp]);have uW:=aa b4;clear hpl hpe hrp b4;simp only[Option.isSome_none];go_wp2;go_returns;exact fZ (a:=DT) HD3 (kM (HB3.out.ext uW.out) (λq hq=>bR (HX.out q hq) yS.out)) (tF.out.trans uW.out)
      | some p2=>
        have hpk:eu p=true:=by rw[hpe,hrp];exact(kR.1 hrp).1
        have HD3:Hid (gY h s=(BV p,Fe)):=CF.out.trans (by unfold runD;rw[hpe,hrp];rfl);have TR:=jW hpk;have HPK:=aa hpk;have Ju:=aa hpl;obtain⟨Ap,cp,rfl⟩:=hpl.slice;have zh:Hid (Row 3 1 (one jl) w4.heap.size (w4.alloc (.cells #[] 3)) (.slice (some ⟨w4.heap.size,0,none⟩) 0 0) ([]:List Nat)):=dD;have sU:=aa (tF.out.trans b4);have hw:IntKind.i64.wrap (4*(p.length:Int))=4*(p.length:Int):=dL _ (by omega);clear hpl hpe hrp b4 hpk HB3 tF NI CF HR2;simp only[Option.isSome_some];go_wp2;go_loopw [15,16] (λu i wr=>Ext w4 wr/\∃k:Nat,k<=4*p.length/\i=.int .i64 k/\Hid (Row 3 1 (one jl) w4.heap.size wr u (Ng p.length k))) (λ_ i _=>4*p.length-(intOf i).toNat)
        case atStart=>exact⟨(af _).alloc _,0,aT _,rfl,zh.out⟩
        case round=>
         obtain⟨hb,k,hk,rfl,HR⟩:=hrel;obtain⟨A5,c5,rfl,_⟩:=id HR.out.cell.1;by_cases hlt:k<4*p.length
         ·obtain⟨v7,w7,hrun,hP⟩:=Nh wr.heap.size rfl HR.out (af _) (k%p.length) hb.size (by rw[XM];omega);obtain⟨A7,c7,rfl,_⟩:=id hP.1.cell.1;have bH:=aa hrun;have HP:=aa hP;have k9:(k:Int)<4*(p.length:Int):=by omega
          have k8:(0:Int)<(p.length:Int):=by omega
          clear hrun hP;go_wp2_with (at_builtin;refine wpList_append_run rfl rfl rfl rfl bH.out ?_)
          go_roundw;case rel=>exact⟨HP.out.2.1 _ hb (av _),k+1,by omega,by go_num,by rw[Vf];have:=HP.out.1;rw[show (Ng p.length k++[k%p.length]).length=(Ng p.length k).length+1 by simp]at this;exact this⟩
          case measure=>simp[intOf];omega
         ·obtain rfl:k=4*p.length:=by omega
          have Tf:=aa (BX wr (Ju.out.ext hb) HPK.out (by rw[<-Wz TR];exact aaK HR.out.cell.1));have HB2:=aa (sU.out.trans hb);clear HR hb hlt hk;go_wp2_with fail
          refine Tf.out.mono ?_;rintro e w6 ⟨v6,rs6,rfl,h6,o6,o7,b6⟩;go_wp2;go_returns;exact fZ (a:=Fe) HD3 ⟨rs6,h6,J8.own o6 (λq hq=>bR (HX.out q hq) HB2.out.size),λi r hr=>J8.own (o7 i r hr) (λq hq=>bR (HX.out q hq) HB2.out.size)⟩ (HB2.out.trans b6)
     have Qq:Hid (((zw.toList==[114,117,110])=false)∨((zw.toList==[114,117,110])=true/\(zr.toList != [])=false/\zr.toList.isEmpty=true)):=by
      by_cases h1:fD s=Np
      ·have:eH s=[]:=Classical.byContradiction λe=>hr ⟨h1,e⟩
       exact .inr ⟨by rw[DI.out];exact jw h1,by rw[Wl.out];simp[this],by rw[Xn.out];simp[this]⟩
      ·exact .inl (by rw[DI.out];exact dU h1)
     by_cases h1:s=qI
     ·have k1:(zw.toList==[112,117,116])=false:=by rw[DI.out];exact dU (by rw[QA.out.1 h1];decide)
      have k3:(zw.toList==[100,114,111,112])=false:=by rw[DI.out];exact dU (by rw[QA.out.1 h1];decide)
      have k4:(zw.toList==[114,117,110])=false:=by rw[DI.out];exact dU (by rw[QA.out.1 h1];decide)
      have k5:(zs.toList==[108,101,118,101,108])=true:=by rw[Br.out];exact jw h1
      have HBL:=aa (λW (b:Ext w W)=>Hl W (HH.out.ext b) fu.out);have hbd:=Qv h;have CF:Hid (gY h s=(h,mP h)):=by rw[HD.out,h1];exact ES h
      obtain⟨lv,hlv⟩:∃l,tH h=l:=⟨_,rfl⟩;unfold mP at CF;rw[hlv]at HBL CF hbd;clear hlv hp hr h1 QA Br DI Wl Xn TP HD JX Vz HNS Qq;by_cases h0:0<=lv
      ·rw[au (by omega)]at CF;go_wp2_with fail
       refine(HBL.out w3 tF.out).mono ?_
       rintro e w4 ⟨rfl,b4⟩;have uW:=aa b4;clear b4;go_wp2_with fail
       refine(GV lv w4 h0 (by omega)).mono ?_
       rintro e w5 ⟨rfl,b5⟩;go_wp2;go_returns;exact fZ CF (kM (HB3.out.ext (uW.out.trans b5)) (λq hq=>bR (HX.out q hq) yS.out)) ((tF.out.trans uW.out).trans b5)
      ·rw[aj (by omega)]at CF;go_wp2_with fail
       refine(HBL.out w3 tF.out).mono ?_
       rintro e w4 ⟨rfl,b4⟩;have uW:=aa b4;clear b4;go_wp2;go_returns;exact fZ (a:=DT) CF (kM (HB3.out.ext uW.out) (λq hq=>bR (HX.out q hq) yS.out)) (tF.out.trans uW.out)
     by_cases h2:s=nI
     ·have k1:(zw.toList==[112,117,116])=false:=by rw[DI.out];exact dU (by rw[QA.out.2.1 h2];decide)
      have k3:(zw.toList==[100,114,111,112])=false:=by rw[DI.out];exact dU (by rw[QA.out.2.1 h2];decide)
      have k4:(zw.toList==[114,117,110])=false:=by rw[DI.out];exact dU (by rw[QA.out.2.1 h2];decide)
      have k5:(zs.toList==[108,101,118,101,108])=false:=by rw[Br.out];exact dU h1
      have k6:(zs.toList==[115,101,114,105,97,108])=true:=by rw[Br.out];exact jw h2
      have HFS:=aa (λW (b:Ext w W)=>FE W (HH.out.ext b) fu.out);have HFM:=aa (λr (e:fM h=some r)=>xJ e);have TA:=aR fu.out
      have CF:Hid (gY h s=(h,match fM h with
       | none=>DT
       | some ns=>Rm (numsL (ns.map λ(n:Nat)=>(n:Int))))):=by rw[HD.out,h2];exact Cq h
      clear hp hr h1 h2 QA Br DI Wl Xn TP HD JX Vz HNS Qq
      cases hf:fM h with
      | none=>
        rw[hf]at HFS CF;clear hf HFM;replace HFS:Hid (∀W,Ext w W->Calls Tryz.prog 34 #[.slice A h.length c] W λe w'=>∃v,e=.returned (.tuple #[v,.bool false])/\aL 1 (one jl) w' v []/\Ext W w'):=HFS.out;go_wp2_with fail
        refine(HFS.out w3 tF.out).mono ?_
        rintro e w4 ⟨v4,rfl,s4,b4⟩;have uW:=aa b4;clear b4 s4;go_wp2;go_returns;exact fZ (a:=DT) CF (kM (HB3.out.ext uW.out) (λq hq=>bR (HX.out q hq) yS.out)) (tF.out.trans uW.out)
      | some ns=>
        rw[hf]at HFS CF;have Uw:=aa (HFM.out ns hf);replace HFS:Hid (∀W,Ext w W->Calls Tryz.prog 34 #[.slice A h.length c] W λe w'=>∃v,e=.returned (.tuple #[v,.bool true])/\aL 1 (one jl) w' v ns/\Ext W w'):=HFS.out;have HNT:Hid (∀W (u:Value),aL 1 (one jl) W u ns->Calls Tryz.prog 35 #[u] W λe w'=>e=.returned (.string (tx (numsL (ns.map λ(n:Nat)=>(n:Int)))))/\Ext W w'):=λW u hu=>
         Dm W (Qe hu) (by rw[dX];have:=Uw.out.1;omega) (λx hx=>by obtain⟨n,hn,rfl⟩:=fV.1 hx;have:=Uw.out.2 n hn;omega)
        clear hf HFM Uw;by_cases hn0:ns=[]
        ·have HD3:Hid (gY h s=(h,Gu)):=by rw[CF.out,hn0];rfl
         have hz:(ns.length:Int)=0:=by rw[hn0];rfl
         clear hn0 CF;go_wp2_with fail
         refine(HFS.out w3 tF.out).mono ?_
         rintro e w4 ⟨v4,rfl,s4,b4⟩;obtain⟨A4,c4,rfl,_⟩:=s4;have uW:=aa b4;clear b4;go_wp2;go_returns;exact fZ (a:=Gu) HD3 (kM (HB3.out.ext uW.out) (λq hq=>bR (HX.out q hq) yS.out)) (tF.out.trans uW.out)
        ·have HD3:Hid (gY h s=(h,numsL (ns.map λ(n:Nat)=>(n:Int)))):=by rw[CF.out];show (h,Rm _) = _;unfold Rm;rw[au];exact YM hn0
         have hz:((ns.length:Int)==0)=false:=by rw[fU];intro e;exact hn0 (List.length_eq_zero_iff.1 (by omega))
         clear hn0 CF;go_wp2_with fail
         refine(HFS.out w3 tF.out).mono ?_
         rintro e w4 ⟨v4,rfl,s4,b4⟩;obtain⟨A4,c4,rfl,_⟩:=id s4;have uW:=aa b4;have HN4:=aa (HNT.out w4 _ s4);clear b4 s4;go_wp2_with fail
         refine HN4.out.mono ?_;rintro e w5 ⟨rfl,b5⟩;go_wp2;go_returns;exact fZ HD3 (kM (HB3.out.ext (uW.out.trans b5)) (λq hq=>bR (HX.out q hq) yS.out)) ((tF.out.trans uW.out).trans b5)
     by_cases h3:s=wM
     ·have k1:(zw.toList==[112,117,116])=false:=by rw[DI.out];exact dU (by rw[QA.out.2.2 h3];decide)
      have k3:(zw.toList==[100,114,111,112])=false:=by rw[DI.out];exact dU (by rw[QA.out.2.2 h3];decide)
      have k4:(zw.toList==[114,117,110])=false:=by rw[DI.out];exact dU (by rw[QA.out.2.2 h3];decide)
      have k5:(zs.toList==[108,101,118,101,108])=false:=by rw[Br.out];exact dU h1
      have k6:(zs.toList==[115,101,114,105,97,108])=false:=by rw[Br.out];exact dU h2
      have k7:(zs.toList==[116,101,120,116])=true:=by rw[Br.out];exact jw h3
      have HHT:=aa (λW (b:Ext w W)=>Dh W (HH.out.ext b) fu.out);have CF:Hid (gY h s=(h,Rm (xm h))):=by rw[HD.out,h3];exact GZ h
      clear hp hr h1 h2 h3 QA Br DI Wl Xn TP HD JX Vz HNS Qq;by_cases hn0:h=[]
      ·have HD3:Hid (gY h s=(h,Gu)):=by rw[CF.out,hn0];rfl
       have hz:(h.length:Int)=0:=by rw[hn0];rfl
       clear hn0 CF;go_wp2;go_returns;exact fZ (a:=Gu) HD3 (kM (HB3.out.ext (af _)) (λq hq=>bR (HX.out q hq) yS.out)) tF.out
      ·have HD3:Hid (gY h s=(h,xm h)):=by rw[CF.out];show (h,Rm _) = _;unfold Rm;rw[au];exact WY hn0
       have hz:((h.length:Int)==0)=false:=by rw[fU];intro e;exact hn0 (List.length_eq_zero_iff.1 (by omega))
       clear hn0 CF;go_wp2_with fail
       refine(HHT.out w3 tF.out).mono ?_
       rintro e w5 ⟨rfl,b5⟩;go_wp2;go_returns;exact fZ HD3 (kM (HB3.out.ext b5) (λq hq=>bR (HX.out q hq) yS.out)) (tF.out.trans b5)
     have HD3:Hid (gY h s=(h,nC)):=HD.out.trans (su h1 h2 h3 hp hr HNS.out);have k5:(zs.toList==[108,101,118,101,108])=false:=by rw[Br.out];exact dU h1
     have k6:(zs.toList==[115,101,114,105,97,108])=false:=by rw[Br.out];exact dU h2
     have k7:(zs.toList==[116,101,120,116])=false:=by rw[Br.out];exact dU h3
     clear hp hr h1 h2 h3 QA Br DI Wl Xn TP HD HNS;obtain k1|⟨k1,k2,k9⟩:=JX.out<;>obtain k3|⟨k3,HR1⟩:=Vz.out<;>obtain k4|⟨k4,k8,k7e⟩:=Qq.out
     ·clear JX Vz Qq;go_wp2;go_returns;exact fZ (a:=nC) HD3 (kM (HB3.out.ext (af _)) (λq hq=>bR (HX.out q hq) yS.out)) tF.out
     ·clear JX Vz Qq;go_wp2;go_returns;exact fZ (a:=nC) HD3 (kM (HB3.out.ext (af _)) (λq hq=>bR (HX.out q hq) yS.out)) tF.out
     ·clear JX Vz Qq;replace HR1:=aa HR1;go_wp2_with fail
      refine(HR1.out w3).mono ?_
      rintro e w4 ⟨rfl,b4⟩;go_wp2;go_returns;exact fZ (a:=nC) HD3 (kM (HB3.out.ext b4) (λq hq=>bR (HX.out q hq) yS.out)) (tF.out.trans b4)
     ·clear JX Vz Qq;replace HR1:=aa HR1;go_wp2_with fail
      refine(HR1.out w3).mono ?_
      rintro e w4 ⟨rfl,b4⟩;go_wp2;go_returns;exact fZ (a:=nC) HD3 (kM (HB3.out.ext b4) (λq hq=>bR (HX.out q hq) yS.out)) (tF.out.trans b4)
     ·clear JX Vz Qq;go_wp2;go_returns;exact fZ (a:=nC) HD3 (kM (HB3.out.ext (af _)) (λq hq=>bR (HX.out q hq) yS.out)) tF.out
     ·clear JX Vz Qq;go_wp2;go_returns;exact fZ (a:=nC) HD3 (kM (HB3.out.ext (af _)) (λq hq=>bR (HX.out q hq) yS.out)) tF.out
     ·clear JX Vz Qq;replace HR1:=aa HR1;go_wp2_with fail
      refine(HR1.out w3).mono ?_
      rintro e w4 ⟨rfl,b4⟩;go_wp2;go_returns;exact fZ (a:=nC) HD3 (kM (HB3.out.ext b4) (λq hq=>bR (HX.out q hq) yS.out)) (tF.out.trans b4)
     ·clear JX Vz Qq;replace HR1:=aa HR1;go_wp2_with fail
      refine(HR1.out w3).mono ?_
      rintro e w4 ⟨rfl,b4⟩;go_wp2;go_returns;exact fZ (a:=nC) HD3 (kM (HB3.out.ext b4) (λq hq=>bR (HX.out q hq) yS.out)) (tF.out.trans b4)
theorem NB{v u:Value}{h:List aG}{ls:List (List UInt8)}(w:World)(H:iM w v h)(hlen:h.length<=2097152)(hM:∀t∈h,t.ops.length<=2097152)(U:aL 1 encS w u ls)(Kn:ls.length<=2097152)(hl:∀s∈ls,s.length<=1048576) :
 Calls Tryz.prog 15 #[v,u] w λe w'=>∃v' u',e=.returned (.tuple #[v',u'])/\iM w' v' (iw h ls).1/\aL 1 encS w' u' (iw h ls).2/\Ext w w':=by
 obtain⟨A,c,rfl⟩:=H.slice;obtain⟨Au,cu,rfl,hcu⟩:=id U;have HV:=aa (λW (b:Ext w W)=>bJ W (H.ext b) hlen hM);have HU:=aa U;by_cases hgo:aD h=true/\ls.length<=20
 ·obtain⟨hok,h20⟩:=hgo;rw[hok]at HV;have HC:=aa (λW (b:Ext w W)=>Em W (H.ext b) hlen hM);have HD:Hid (iw h ls=eX h ls):=aj ⟨hok,h20⟩;have HL:=aa (λ(X:Nat->Prop) g s W v (hX:∀q,X q->q<W.heap.size) (hg:aD g=true) (H:iM W v g) (hs:s.length<=1048576)=>zI s W hX H (by have:=aR hg;omega) (aJ hg) hs);have Wn:Hid (∀g s,aD g=true->gY g s=deskR g s):=λg s e=>aj e;have HK:=aa (λk (hk:k<=ls.length)=>rO hok ls k hk);have HLL:=aa hl;have aey:(ls.length:Int)<=20:=by omega
  have hR0:Row 9 1 encS w.heap.size (w.alloc (.cells #[] 9)) (.slice (some ⟨w.heap.size,0,none⟩) 0 0) ([]:List (List UInt8)):=dD;have zh:=aa hR0;clear H hlen hM hok U Kn hl hcu hR0;go_enter Tryz.func15,Tryz.ntmps15;go_wp2_with (first|(go_at_call 10;refine(HV.out _ ((af _).alloc _)).mono ?_;rintro e w1 ⟨rfl,b1⟩)|fail)
  have Il:=aa (((af w).alloc (.cells #[] 9)).trans b1);have HR1:=aa (Row.ext zh.out b1);clear b1 zh HV
  refine(HC.out w1 Il.out).mono ?_
  rintro e w2 ⟨v2,rs2,rfl,hB2,b2⟩;have XV:Hid (kW (λq=>(Value.slice (some ⟨w.heap.size,0,none⟩) 0 0).ownBlock=some q) w2 v2 h):=kM hB2 (λq hq=>by
   have:=(jU HR1.out hq).2
   omega)
  have HE2:=aa (Il.out.trans b2);have HR2:=aa (Row.ext HR1.out b2);obtain⟨A2,c2,rfl⟩:=Bo hB2;clear hB2 b2 HC;go_wp2;go_loopw [6,7,8] (λa hv i wr=>Ext w wr/\∃k:Nat,k<=ls.length/\i=.int .i64 (k:Int)/\Hid (kW (λq=>a.ownBlock=some q) wr hv (eX h (ls.take k)).1/\Row 9 1 encS w.heap.size wr a (eX h (ls.take k)).2)) (λ_ _ i _=>ls.length-(intOf i).toNat)
  case atStart=>
   refine⟨HE2.out,0,aT _,rfl,?_⟩;show _/\_;rw[aaD];exact⟨XV.out,HR2.out⟩
  case round=>
   obtain⟨hb,k,hk,rfl,HI⟩:=hrel;obtain⟨g,hg⟩:∃g,(eX h (ls.take k)).1=g:=⟨_,rfl⟩;obtain⟨an,has⟩:∃g,(eX h (ls.take k)).2=g:=⟨_,rfl⟩;have hkk:=HK.out k hk;rw[hg,has]at hkk HI;obtain⟨Ag,cg,rfl⟩:=HI.out.1.slice;obtain⟨Aa,ca,rfl,_⟩:=id HI.out.2.cell.1;by_cases hlt:k<ls.length
   ·obtain⟨s,hs⟩:=ah hlt;obtain⟨_,_,e,hc⟩:=HU.out.ext hb;cases e;obtain⟨b,off,rfl,hbl,hc⟩:=hc (by omega);have c0:=hc k s hs 0 (by omega);simp only[Nat.mul_one,fE,encS]at c0;obtain⟨zs,hzs⟩:∃z,tx s=z:=⟨_,rfl⟩;have HC:=aa (HL.out (λq=>(Value.slice Aa an.length ca).ownBlock=some q) g s wr _ (λq hq=>(jU HI.out.2 hq).2) hkk.1 HI.out.1.his (HLL.out s (aM hs)));rw[Wn.out g s hkk.1]at HC;have HN:=aa (xZ (h:=h) hs);rw[hg,has]at HN;rw[hzs]at c0 HC;have hal:an.length<=20:=by omega
    clear hc hs hzs hkk hg has;go_wp2_with fail
    refine HC.out.mono ?_;rintro e w3 ⟨v3,rfl,h3,b3⟩;obtain⟨zo,TE⟩:∃z,tx (deskR g s).2=z:=⟨_,rfl⟩;have hrow3:=Row.ext HI.out.2 b3;have We:=hb.trans b3;obtain⟨v4,w4,hrun,hp⟩:=jY w3.heap.size rfl kY jG rfl (by omega) hrow3 (af _) (deskR g s).2 (λj=>rfl) #[.string zo] (by rw[<-TE];rfl) We.size (by omega) (by omega);rw[TE];have kf:=jV hrow3 hp We (av _);have HI3:Hid (kW (λq=>v4.ownBlock=some q) w4 v3 (deskR g s).1):=by
     refine(kW.frX h3.more (kf.wide (λq hq=>.inl hq))).mono (λq hq=>?_)
     rcases hp.2.2.2 with e|⟨k',e,hk'⟩
     ·exact .inl (e▸hq)
     ·rw[e]at hq;cases hq;exact .inr hk'
    obtain⟨A7,c7,rfl,_⟩:=id hp.1.cell.1;rw[show (an++[(deskR g s).2]).length=an.length+1 by simp]at hp hrun HI3;obtain⟨A3,c3,rfl⟩:=h3.slice;have bH:=aa hrun;have HP:=aa hp;have HB2:=aa We;clear hrun h3 TE hp kf hrow3 We b3 hb HI;go_wp2_with (at_builtin;refine wpList_append_run rfl rfl rfl rfl bH.out ?_)
    go_roundw;case rel=>
     refine⟨HP.out.2.1 _ HB2.out (av _),k+1,by omega,by go_num,?_⟩;rw[HN.out];exact⟨HI3.out,HP.out.1⟩
    case measure=>simp[intOf];omega
   ·obtain rfl:k=ls.length:=by omega
    rw[bM]at hg has;have HD2:Hid (eX h ls=(g,an)):=by show _ = _;rw[<-hg,<-has]
    have HI2:=aa HI.out;have HB2:=aa hb;clear hkk hg has HI hb;go_wp2;go_returns;rw[HD.out,HD2.out];exact⟨_,_,rfl,HI2.out.1.his,HI2.out.2.cell.1,HB2.out⟩
 ·have HD:Hid (iw h ls=([],[])):=au hgo;have Yq:Hid (∀W (A1 A2:Option Addr),Ext w W->∃v' u',Ending.returned (.tuple #[.slice A1 0 0,.slice A2 0 0])=.returned (.tuple #[v',u'])/\iM W v' (iw h ls).1/\aL 1 encS W u' (iw h ls).2/\Ext w W):=λW A1 A2 b=>by rw[HD.out];exact⟨_,_,rfl,iM.nil _ _ _,aL.nil _ _ _ _ _,b⟩
  cases hok:aD h with
  | false=>
    rw[hok]at HV;clear H hlen hM hok U Kn hl hcu hgo;go_enter Tryz.func15,Tryz.ntmps15;go_wp2_with (go_at_call 10;refine(HV.out _ ((af _).alloc _)).mono ?_;rintro e w1 ⟨rfl,b1⟩)
    go_returns;exact Yq.out _ _ _ ((((af w).alloc _).trans b1).alloc _)
  | true=>
    rw[hok]at HV;have h20:(20:Int)<(ls.length:Int):=by
     have:¬ls.length<=20:=λe=>hgo ⟨hok,e⟩
     omega
    clear H hlen hM hok U Kn hl hcu hgo;go_enter Tryz.func15,Tryz.ntmps15;go_wp2_with (go_at_call 10;refine(HV.out _ ((af _).alloc _)).mono ?_;rintro e w1 ⟨rfl,b1⟩)
    go_returns;exact Yq.out _ _ _ ((((af w).alloc _).trans b1).alloc _)
