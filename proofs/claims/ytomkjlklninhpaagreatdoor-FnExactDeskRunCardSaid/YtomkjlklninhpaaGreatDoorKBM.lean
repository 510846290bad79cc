/- Lemmas. -/
import Derived.Test.YtomkjlklninhpaaGreatDoorKAZ
import Derived.Test.YtomkjlklninhpaaGreatDoorKBG
import Derived.Test.YtomkjlklninhpaaGreatDoorKBK
import Derived.Test.YtomkjlklninhpaaGreatDoorKBL
set_option maxHeartbeats 16000000
set_option maxRecDepth 8000
set_option linter.all false
namespace Go.Proofs.YtomkjlklninhpaaGreatDoor
open Go.RowKit
def KY(n k:Nat):List Nat:=(List.range k).map (· % n)
theorem UC(n k:Nat):KY n (k+1)=KY n k++[k%n]:=by unfold KY;rw[List.range_succ];simp
theorem Vi{n:Nat}(h:n<=4):KY n (4*n)=dF n:=by rcases (by omega:n=0∨n=1∨n=2∨n=3∨n=4) with rfl|rfl|rfl|rfl|rfl<;>decide
theorem WG(n k:Nat):(KY n k).length=k:=by simp[KY]
theorem Gx(l r:List UInt8):(tx l).toList=l/\((l==r)=decide (l=r)):=⟨eD l,by by_cases h:l=r<;>simp[h]⟩
theorem jG{X:Nat->Prop}{base:Nat}{w:World}{v:Value}{rs:List iX}{h:List aA}(H:mW 48 71 base w v rs h)(hX:∀q,X q->q<base):jJ X w v h:=by obtain⟨d1,d2⟩:=H.done (by decide);exact jJ.KH d1 d2 hX
theorem yl{base:Nat}{w:World}{v:Value}{rs:List iX}{h:List aA}(H:mW 48 71 base w v rs h):∃A c,v=.slice A h.length c:=by obtain⟨d1,d2⟩:=H.done (by decide);exact gL.slice ⟨rs,d1⟩
theorem eF{X:Nat->Prop}{w w':World}{v:Value}{a:List UInt8}{r:List aA × List UInt8}{g:List aA}(hr:Hid (r=(g,a)))(H:jJ X w' v g)(b:Ext w w'):qI X w r (.returned (.tuple #[v,.string (tx a)])) w':=by rw[hr.out];exact⟨v,rfl,H,b⟩
theorem VH{base:Nat}{w:World}{v:Value}{rs:List iX}{h:List aA}(H:mW 48 71 base w v rs h):gL w v h:=let ⟨d1,_⟩:=H.done (by decide);⟨rs,d1⟩
theorem Yp(n:Nat):bK n≠[]:=by
 unfold bK
 split<;>simp
theorem N8{sep:List UInt8}:∀{l:List (List UInt8)},l≠[]->(∀x∈l,x≠[])->joinL sep l≠[]
 | [],h,_=>absurd rfl h
 | [x],_,h=>by simpa[joinL] using h x (by simp)
 | x :: y :: l,_,h=>by
   have:=h x (by simp)
   simp[joinL,this]
theorem Wm{ns:List Nat}(h:ns≠[]):numsL (ns.map fun(n:Nat)=>(n:Int))≠[]:=by unfold numsL;refine N8 (by simpa using h) (fun x hx=>?_);obtain⟨y,_,rfl⟩:=List.mem_map.1 hx;exact Yp _
theorem WX{h:List aA}(hn:h≠[]):wm h≠[]:=by unfold wm;refine N8 (by simpa using hn) (fun x hx=>?_);obtain⟨t,_,rfl⟩:=List.mem_map.1 hx;simp[lH,bR,joinL]
theorem xW{X:Nat->Prop}{v:Value}{h:List aA}(s:List UInt8)(w:World)(hX:∀q,X q->q<w.heap.size)(H:gL w v h)(hlen:h.length<=2097152)(hM:∀t∈h,t.ops.length<=2097152)(hl:s.length<=1048576) :
 Calls Tryz.prog 6 #[v,.string (tx s)] w (qI X w (iQ h s)):=by
 obtain⟨A,c,rfl⟩:=H.slice;have HV:=aa (bu w H hlen hM);have HH:=aa H;have HX:=aa hX
 cases hok:aC h with
 | false=>
   rw[hok]at HV;have HD:Hid (iQ h s=([],[])):=if_neg (by rw[hok];decide);obtain⟨z,hz⟩:∃z,tx s=z:=⟨_,rfl⟩;rw[hz];clear H hlen hM hok hX hz;go_enter Tryz.func6,Tryz.ntmps6;go_wp2_with (go_at_call 20;refine HV.out.mono ?_;rintro e w1 ⟨rfl,b1⟩)
   go_returns;exact eF HD ⟨[],⟨rfl,aF.nil _ _ _ _ _,fun i r t hr=>by simp at hr⟩,fun a n c e hn=>(by cases e;omega),fun i r hr=>by simp at hr⟩ (b1.alloc _)
 | true=>
   rw[hok]at HV;have HD:Hid (iQ h s=fZ h s):=if_pos hok;have HC:=aa (fun W (b:Ext w W)=>Dx W (H.ext b) hlen hM);have dO:=aa hok;have HS:=aa (fun W=>LC s W hl);have hrl:(dJ s).length<=1048576:=by have:=JV s;omega
   have UW:=aa (fun W=>K7 (dJ s) W hrl);have RJ:=aa (fun W hne=>IA (dJ s) W hrl hne);have Zy:=aa (fun W=>uf (dJ s) W hrl);obtain⟨zs,hzs⟩:∃z,tx s=z:=⟨_,rfl⟩;obtain⟨zw,Lb⟩:∃z,tx (dR s)=z:=⟨_,rfl⟩;obtain⟨zr,RL⟩:∃z,tx (dJ s)=z:=⟨_,rfl⟩;rw[hzs,Lb,RL]at HS;rw[RL]at UW RJ Zy;rw[hzs];have hst:zs.toList=s:=by rw[<-hzs,eD]
   have hwt:zw.toList=dR s:=by rw[<-Lb,eD]
   have hrt:zr.toList=dJ s:=by rw[<-RL,eD]
   have yV:Hid (∀r,(zs.toList==r)=decide (s=r)):=fun r=>by rw[hst];exact(Gx s r).2
   have Ci:Hid (∀r,(zw.toList==r)=decide (dR s=r)):=fun r=>by rw[hwt];exact(Gx _ r).2
   have UF:Hid ((zr.toList != []) = !decide (dJ s=[])):=by show _ = _;rw[hrt,bne,(Gx _ _).2]
   have V9:Hid (zr.toList.isEmpty=decide (dJ s=[])):=by show _ = _;rw[hrt];cases dJ s<;>simp
   have OZ:=aa (Od (s:=s));clear H hlen hM hok hX hl hrl hzs Lb RL hst hwt hrt;go_enter Tryz.func6,Tryz.ntmps6;go_wp2_with (first|(go_at_call 20;refine HV.out.mono ?_;rintro e w1 ⟨rfl,b1⟩)|fail)
   refine(HC.out w1 b1).mono ?_
   rintro e w2 ⟨v2,rs2,rfl,hB2,b2⟩;obtain⟨A2,c2,rfl⟩:=yl hB2;have HB2:=aa hB2;have HE2:=aa (b1.trans b2);have uJ:=aa b1.size;have HS2:=aa b2.size;clear hB2 b1 b2;go_wp2_with fail
   refine(HS.out w2).mono ?_
   rintro e w3 ⟨rfl,b3⟩;have HB3:=aa (HB2.out.ext b3);have sI:=aa (HE2.out.trans b3);have L6:Hid (w1.heap.size<=w3.heap.size):=Nat.le_trans HS2.out b3.size;clear HB2 HE2 HS2 b3 HS;by_cases hp:dR s=Lp/\dJ s≠[]
   ·obtain⟨hp1,hp2⟩:=hp;have k1:(zw.toList==[112,117,116])=true:=by rw[Ci.out];exact decide_eq_true hp1
    have k2:(zr.toList != [])=true:=by rw[UF.out];simp[hp2]
    have k9:zr.toList.isEmpty=false:=by rw[V9.out];simp[hp2]
    have AX:Hid (iQ h s=Bc h (dJ s)):=HD.out.trans (Jh hp1 hp2);clear hp1 hp2 OZ yV Ci UF V9 RJ Zy HD;go_wp2_with fail
    refine(UW.out w3).mono ?_
    rintro e w4 ⟨t,ov,rfl,hso,how,hit,hcp,hte,b4⟩;obtain⟨ok,BO⟩:∃ok,(dh (dJ s)).isSome=ok:=⟨_,rfl⟩;have HP:Hid (iQ h s=if (ok&&aC (h++[t]))=true then (h++[t],Nl) else (h,Df)):=by rw[<-BO];exact AX.out.trans (Rq h _ t hte)
    have HTL:Hid (ok=true->∀u∈h++[t],u.ops.length<=2097152):=fun e u hu=>by
     rcases List.mem_append.1 hu with hu|hu
     ·exact aD dO.out u hu
     ·obtain⟨t1,ht1⟩:=Option.isSome_iff_exists.1 (BO.trans e)
      have:=bU (mU.1 ht1).1
      rw[List.mem_singleton]at hu;rw[hu,hte t1 ht1];omega
    rw[BO];obtain⟨At,ct,rfl,_⟩:=id hso;have b5:Ext w4 (w4.alloc (.cells #[.int .i64 t.az,.slice At t.ops.length ct,.bool t.done] 48)):=(Ext.refl _).alloc _;have RQ:=aM dO.out;obtain⟨v7,w7,hrun,Zw,FY⟩:=rF (t:=t) (w4.heap.size+1) (by simp) HB3.out (b4.trans b5) (hso.ext b5) (how.ext b5) (hit.ext b5) hcp L6.out (by rw[HB3.out.1];omega);obtain⟨A7,c7,rfl⟩:=yl Zw;rw[show (h++[t]).length=h.length+1 by simp]at hrun Zw;have aU:=aa hrun;have Ec:=aa Zw;have Eg:=aa (FY w sI.out uJ.out);have HHV:=aa (fun e=>bu w7 (VH Zw) (by simp;omega) (HTL.out e));clear BO hso how hit hcp hte b4 b5 hrun Zw FY UW HTL AX
    cases ok with
    | false=>
      go_wp2_with (at_builtin;refine wpList_append_run rfl rfl rfl rfl aU.out ?_)
      refine(HC.out w7 Eg.out).mono ?_
      rintro e w8 ⟨v8,rs8,rfl,hB8,b8⟩;go_wp2;go_returns;exact eF (a:=Df) HP (jG hB8 (fun q hq=>Nat.lt_of_lt_of_le (HX.out q hq) Eg.out.size)) (Eg.out.trans b8)
    | true=>
      obtain⟨bv,hbv⟩:∃b,aC (h++[t])=b:=⟨_,rfl⟩;have Oe:=aa (HHV.out rfl);rw[hbv]at Oe;have YQ:Hid (iQ h s=if bv=true then (h++[t],Nl) else (h,Df)):=by rw[<-hbv];exact HP.out
      clear hbv HHV HP
      cases bv with
      | false=>
        go_wp2_with (first|(at_builtin;refine wpList_append_run rfl rfl rfl rfl aU.out ?_)|fail)
        refine Oe.out.mono ?_;rintro e w8 ⟨rfl,b8⟩;go_wp2_with fail
        refine(HC.out w8 (Eg.out.trans b8)).mono ?_
        rintro e w9 ⟨v9,rs9,rfl,hB9,b9⟩;go_wp2;go_returns;exact eF (a:=Df) YQ (jG hB9 (fun q hq=>Nat.lt_of_lt_of_le (HX.out q hq) (Eg.out.trans b8).size)) ((Eg.out.trans b8).trans b9)
      | true=>
        go_wp2_with (first|(at_builtin;refine wpList_append_run rfl rfl rfl rfl aU.out ?_)|fail)
        refine Oe.out.mono ?_;rintro e w8 ⟨rfl,b8⟩;go_wp2;go_returns;exact eF (a:=Nl) YQ (jG (Ec.out.ext b8) (fun q hq=>Nat.lt_of_lt_of_le (HX.out q hq) uJ.out)) (Eg.out.trans b8)
   have HNP:Hid ((zw.toList==[112,117,116]&&zr.toList != [])=false):=by
    rw[UF.out,Ci.out];show _=false;by_cases h1:dR s=Lp
    ·have:dJ s=[]:=Classical.byContradiction fun e=>hp ⟨h1,e⟩
     simp[this]
    ·rw[show decide (dR s=[112,117,116])=false from decide_eq_false h1];rfl
   have Iy:Hid (((zw.toList==[112,117,116])=false)∨((zw.toList==[112,117,116])=true/\(zr.toList != [])=false/\zr.toList.isEmpty=true)):=by
    have:=HNP.out
    cases h1:zw.toList==[112,117,116]
    ·exact .inl rfl
    ·rw[h1]at this;refine .inr ⟨rfl,this,?_⟩;have h2:(zr.toList != [])=false:=this;rw[UF.out]at h2;rw[V9.out];simpa using h2
   clear HNP UW
   cases L9:(if dR s=zV then dD (dJ s) else none) with
   | some n=>
     have hd:dR s=zV:=Classical.byContradiction fun e=>by rw[if_neg e]at L9;cases L9
     rw[if_pos hd]at L9;have Zm:Hid (∀W,Calls Tryz.prog 24 #[.string zr] W fun e w'=>e=.returned (.int .i64 (n:Int))/\Ext W w'):=fun W=>by
      have:=Zy.out W
      unfold eU at this
      rwa [L9]at this
     have AX:Hid (iQ h s=EJ h n):=HD.out.trans (Gr hd L9);have k1:(zw.toList==[112,117,116])=false:=by rw[Ci.out];exact decide_eq_false (by rw[hd];decide)
     have k3:(zw.toList==[100,114,111,112])=true:=by rw[Ci.out];exact decide_eq_true hd
     clear hp hd L9 OZ yV Ci UF V9 RJ Zy HD Iy;by_cases hn:n<h.length
     ·have HDR:=aa (fun W (b:Ext w W)=>LH n W (HH.out.ext b) dO.out hn);have HD3:Hid (iQ h s=(mg h n,Nl)):=AX.out.trans (if_pos hn);clear hn;go_wp2_with fail
      refine(Zm.out w3).mono ?_
      rintro e w4 ⟨rfl,b4⟩;go_wp2_with fail
      refine(Zm.out w4).mono ?_
      rintro e w5 ⟨rfl,b5⟩;have Ea:=aa (b4.trans b5);clear b4 b5;go_wp2_with fail
      refine(HDR.out w5 (sI.out.trans Ea.out)).mono ?_
      rintro e w6 ⟨v6,rs6,rfl,h6,o6,b6⟩;go_wp2;go_returns;exact eF (a:=Nl) HD3 (jJ.KH h6 o6 (fun q hq=>Nat.lt_of_lt_of_le (HX.out q hq) (sI.out.trans Ea.out).size)) ((sI.out.trans Ea.out).trans b6)
     ·have HDR:=aa (fun W (b:Ext w W)=>Bt n W (HH.out.ext b) dO.out hn);have HD3:Hid (iQ h s=(h,Df)):=AX.out.trans (if_neg hn);clear hn;go_wp2_with fail
      refine(Zm.out w3).mono ?_
      rintro e w4 ⟨rfl,b4⟩;go_wp2_with fail
      refine(Zm.out w4).mono ?_
      rintro e w5 ⟨rfl,b5⟩;have Ea:=aa (b4.trans b5);clear b4 b5;go_wp2_with fail
      refine(HDR.out w5 (sI.out.trans Ea.out)).mono ?_
      rintro e w6 ⟨A6,n6,c6,rfl,b6⟩;go_wp2;go_returns;exact eF (a:=Df) HD3 (jG (HB3.out.ext (Ea.out.trans b6)) (fun q hq=>Nat.lt_of_lt_of_le (HX.out q hq) uJ.out)) ((sI.out.trans Ea.out).trans b6)
   | none=>
     have HNS:Hid (dR s=zV->dD (dJ s)=none):=fun e=>by rw[if_pos e]at L9;exact L9
     clear L9;have Ui:Hid ((zw.toList==[100,114,111,112])=false∨((zw.toList==[100,114,111,112])=true/\∀W,Calls Tryz.prog 24 #[.string zr] W fun e w'=>e=.returned (.int .i64 (-1))/\Ext W w')):=by
      by_cases hd:dR s=zV
      ·refine .inr ⟨by rw[Ci.out];exact decide_eq_true hd,fun W=>?_⟩
       have:=Zy.out W
       unfold eU at this
       rwa [HNS.out hd]at this
      ·exact .inl (by rw[Ci.out];exact decide_eq_false hd)
     clear Zy;by_cases hr:dR s=LQ/\dJ s≠[]
     ·obtain⟨hr1,hr2⟩:=hr;have k1:(zw.toList==[112,117,116])=false:=by rw[Ci.out];exact decide_eq_false (by rw[hr1];decide)
      have k3:(zw.toList==[100,114,111,112])=false:=by rw[Ci.out];exact decide_eq_false (by rw[hr1];decide)
      have k4:(zw.toList==[114,117,110])=true:=by rw[Ci.out];exact decide_eq_true hr1
      have k2:(zr.toList != [])=true:=by rw[UF.out];simp[hr2]
      have k9:zr.toList.isEmpty=false:=by rw[V9.out];simp[hr2]
      have AX:Hid (iQ h s=Fb h (dJ s)):=HD.out.trans (JQ hr1 hr2);have HR2:=aa (fun W=>RJ.out W hr2);clear hp hr1 hr2 OZ yV Ci UF V9 RJ HD Iy Ui HNS;go_wp2_with fail
      refine(HR2.out w3).mono ?_
      rintro e w4 ⟨p,pv,rfl,hpl,hpe,b4⟩
      cases hrp:aV (dJ s) with
      | none=>
        have HD3:Hid (iQ h s=(h,Df)):=AX.out.trans (by unfold Fb;rw[hrp]);have sH:=aa b4;clear hpl hpe hrp b4;simp only[Option.isSome_none];go_wp2;go_returns;exact eF (a:=Df) HD3 (jG (HB3.out.ext sH.out) (fun q hq=>Nat.lt_of_lt_of_le (HX.out q hq) uJ.out)) (sI.out.trans sH.out)
      | some p2=>
        have hpk:dQ p=true:=by rw[hpe,hrp];exact(jB.1 hrp).1
        have HD3:Hid (iQ h s=(AY p,Nl)):=AX.out.trans (by unfold Fb;rw[hpe,hrp];rfl);have R6:=jF hpk;have HPK:=aa hpk;have FO:=aa hpl;obtain⟨Ap,cp,rfl⟩:=hpl.slice;have xw:Hid (Row 3 1 (one gT) w4.heap.size (w4.alloc (.cells #[] 3)) (.slice (some ⟨w4.heap.size,0,none⟩) 0 0) ([]:List Nat)):=bT;have wV:=aa (sI.out.trans b4);have hw:IntKind.i64.wrap (4*(p.length:Int))=4*(p.length:Int):=IntWalk.i64_in _ (by omega);clear hpl hpe hrp b4 hpk HB3 sI L6 AX HR2;simp only[Option.isSome_some];go_wp2;go_loopw [15,16] (fun u i wr=>Ext w4 wr/\∃k:Nat,k<=4*p.length/\i=.int .i64 k/\Hid (Row 3 1 (one gT) w4.heap.size wr u (KY p.length k))) (fun _ i _=>4*p.length-(intOf i).toNat)
        case atStart=>exact⟨(Ext.refl _).alloc _,0,Nat.zero_le _,rfl,xw.out⟩
        case round=>
         obtain⟨hb,k,hk,rfl,HR⟩:=hrel;obtain⟨A5,c5,rfl,_⟩:=id HR.out.cell.1;by_cases hlt:k<4*p.length
         ·obtain⟨v7,w7,hrun,hP⟩:=LJ wr.heap.size rfl HR.out (Ext.refl _) (k%p.length) hb.size (by rw[WG];omega);obtain⟨A7,c7,rfl,_⟩:=id hP.1.cell.1;have aU:=aa hrun;have HP:=aa hP;have k9:(k:Int)<4*(p.length:Int):=by omega
          have k8:(0:Int)<(p.length:Int):=by omega
          clear hrun hP;go_wp2_with (at_builtin;refine wpList_append_run rfl rfl rfl rfl aU.out ?_)
          go_roundw;case rel=>exact⟨HP.out.2.1 _ hb (Nat.le_refl _),k+1,by omega,by go_num,by rw[UC];have:=HP.out.1;rw[show (KY p.length k++[k%p.length]).length=(KY p.length k).length+1 by simp]at this;exact this⟩
          case measure=>simp[intOf];omega
         ·obtain rfl:k=4*p.length:=by omega
          have Rk:=aa (Ai wr (FO.out.ext hb) HPK.out (by rw[<-Vi R6];exact Zx HR.out.cell.1));have HB2:=aa (wV.out.trans hb);clear HR hb hlt hk;go_wp2_with fail
          refine Rk.out.mono ?_;rintro e w6 ⟨v6,rs6,rfl,h6,o6,o7,b6⟩;go_wp2;go_returns;exact eF (a:=Nl) HD3 ⟨rs6,h6,Iq.own o6 (fun q hq=>Nat.lt_of_lt_of_le (HX.out q hq) HB2.out.size),fun i r hr=>Iq.own (o7 i r hr) (fun q hq=>Nat.lt_of_lt_of_le (HX.out q hq) HB2.out.size)⟩ (HB2.out.trans b6)
     have MK:Hid (((zw.toList==[114,117,110])=false)∨((zw.toList==[114,117,110])=true/\(zr.toList != [])=false/\zr.toList.isEmpty=true)):=by
      by_cases h1:dR s=LQ
      ·have:dJ s=[]:=Classical.byContradiction fun e=>hr ⟨h1,e⟩
       exact .inr ⟨by rw[Ci.out];exact decide_eq_true h1,by rw[UF.out];simp[this],by rw[V9.out];simp[this]⟩
      ·exact .inl (by rw[Ci.out];exact decide_eq_false h1)
     by_cases h1:s=oJ
     ·have k1:(zw.toList==[112,117,116])=false:=by rw[Ci.out];exact decide_eq_false (by rw[OZ.out.1 h1];decide)
      have k3:(zw.toList==[100,114,111,112])=false:=by rw[Ci.out];exact decide_eq_false (by rw[OZ.out.1 h1];decide)
      have k4:(zw.toList==[114,117,110])=false:=by rw[Ci.out];exact decide_eq_false (by rw[OZ.out.1 h1];decide)
      have k5:(zs.toList==[108,101,118,101,108])=true:=by rw[yV.out];exact decide_eq_true h1
      have HBL:=aa (fun W (b:Ext w W)=>Gu W (HH.out.ext b) dO.out);have hbd:=M6 h;have AX:Hid (iQ h s=(h,nR h)):=by rw[HD.out,h1];exact Dq h
      obtain⟨lv,hlv⟩:∃l,qP h=l:=⟨_,rfl⟩;unfold nR at AX;rw[hlv]at HBL AX hbd;clear hlv hp hr h1 OZ yV Ci UF V9 RJ HD Iy Ui HNS MK;by_cases h0:0<=lv
      ·rw[if_neg (by omega)]at AX;go_wp2_with fail
       refine(HBL.out w3 sI.out).mono ?_
       rintro e w4 ⟨rfl,b4⟩;have sH:=aa b4;clear b4;go_wp2_with fail
       refine(EN lv w4 h0 (by omega)).mono ?_
       rintro e w5 ⟨rfl,b5⟩;go_wp2;go_returns;exact eF AX (jG (HB3.out.ext (sH.out.trans b5)) (fun q hq=>Nat.lt_of_lt_of_le (HX.out q hq) uJ.out)) ((sI.out.trans sH.out).trans b5)
      ·rw[if_pos (by omega)]at AX;go_wp2_with fail
       refine(HBL.out w3 sI.out).mono ?_
       rintro e w4 ⟨rfl,b4⟩;have sH:=aa b4;clear b4;go_wp2;go_returns;exact eF (a:=Df) AX (jG (HB3.out.ext sH.out) (fun q hq=>Nat.lt_of_lt_of_le (HX.out q hq) uJ.out)) (sI.out.trans sH.out)
     by_cases h2:s=lQ
     ·have k1:(zw.toList==[112,117,116])=false:=by rw[Ci.out];exact decide_eq_false (by rw[OZ.out.2.1 h2];decide)
      have k3:(zw.toList==[100,114,111,112])=false:=by rw[Ci.out];exact decide_eq_false (by rw[OZ.out.2.1 h2];decide)
      have k4:(zw.toList==[114,117,110])=false:=by rw[Ci.out];exact decide_eq_false (by rw[OZ.out.2.1 h2];decide)
      have k5:(zs.toList==[108,101,118,101,108])=false:=by rw[yV.out];exact decide_eq_false h1
      have k6:(zs.toList==[115,101,114,105,97,108])=true:=by rw[yV.out];exact decide_eq_true h2
      have XI:=aa (fun W (b:Ext w W)=>DW W (HH.out.ext b) dO.out);have HFM:=aa (fun r (e:dW h=some r)=>vQ e);have RQ:=aM dO.out
      have AX:Hid (iQ h s=(h,match dW h with
       | none=>Df
       | some ns=>Uu (numsL (ns.map fun(n:Nat)=>(n:Int))))):=by rw[HD.out,h2];exact AU h
      clear hp hr h1 h2 OZ yV Ci UF V9 RJ HD Iy Ui HNS MK
      cases hf:dW h with
      | none=>
        rw[hf]at XI AX;clear hf HFM;replace XI:Hid (∀W,Ext w W->Calls Tryz.prog 30 #[.slice A h.length c] W fun e w'=>∃v,e=.returned (.tuple #[v,.bool false])/\aF 1 (one gT) w' v []/\Ext W w'):=XI.out;go_wp2_with fail
        refine(XI.out w3 sI.out).mono ?_
        rintro e w4 ⟨v4,rfl,s4,b4⟩;have sH:=aa b4;clear b4 s4;go_wp2;go_returns;exact eF (a:=Df) AX (jG (HB3.out.ext sH.out) (fun q hq=>Nat.lt_of_lt_of_le (HX.out q hq) uJ.out)) (sI.out.trans sH.out)
      | some ns=>
        rw[hf]at XI AX;have Su:=aa (HFM.out ns hf);replace XI:Hid (∀W,Ext w W->Calls Tryz.prog 30 #[.slice A h.length c] W fun e w'=>∃v,e=.returned (.tuple #[v,.bool true])/\aF 1 (one gT) w' v ns/\Ext W w'):=XI.out;have HNT:Hid (∀W (u:Value),aF 1 (one gT) W u ns->Calls Tryz.prog 31 #[u] W fun e w'=>e=.returned (.string (tx (numsL (ns.map fun(n:Nat)=>(n:Int)))))/\Ext W w'):=fun W u hu=>
         Bv W (Mv hu) (by rw[List.length_map];have:=Su.out.1;omega) (fun x hx=>by obtain⟨n,hn,rfl⟩:=List.mem_map.1 hx;have:=Su.out.2 n hn;omega)
        clear hf HFM Su;by_cases hn0:ns=[]
        ·have HD3:Hid (iQ h s=(h,Fu)):=by rw[AX.out,hn0];rfl
         have hz:(ns.length:Int)=0:=by rw[hn0];rfl
         clear hn0 AX;go_wp2_with fail
         refine(XI.out w3 sI.out).mono ?_
         rintro e w4 ⟨v4,rfl,s4,b4⟩;obtain⟨A4,c4,rfl,_⟩:=s4;have sH:=aa b4;clear b4;go_wp2;go_returns;exact eF (a:=Fu) HD3 (jG (HB3.out.ext sH.out) (fun q hq=>Nat.lt_of_lt_of_le (HX.out q hq) uJ.out)) (sI.out.trans sH.out)
        ·have HD3:Hid (iQ h s=(h,numsL (ns.map fun(n:Nat)=>(n:Int)))):=by rw[AX.out];show (h,Uu _) = _;unfold Uu;rw[if_neg];exact Wm hn0
         have hz:((ns.length:Int)==0)=false:=by rw[beq_eq_false_iff_ne];intro e;exact hn0 (List.length_eq_zero_iff.1 (by omega))
         clear hn0 AX;go_wp2_with fail
         refine(XI.out w3 sI.out).mono ?_
         rintro e w4 ⟨v4,rfl,s4,b4⟩;obtain⟨A4,c4,rfl,_⟩:=id s4;have sH:=aa b4;have HN4:=aa (HNT.out w4 _ s4);clear b4 s4;go_wp2_with fail
         refine HN4.out.mono ?_;rintro e w5 ⟨rfl,b5⟩;go_wp2;go_returns;exact eF HD3 (jG (HB3.out.ext (sH.out.trans b5)) (fun q hq=>Nat.lt_of_lt_of_le (HX.out q hq) uJ.out)) ((sI.out.trans sH.out).trans b5)
     by_cases h3:s=uF
     ·have k1:(zw.toList==[112,117,116])=false:=by rw[Ci.out];exact decide_eq_false (by rw[OZ.out.2.2 h3];decide)
      have k3:(zw.toList==[100,114,111,112])=false:=by rw[Ci.out];exact decide_eq_false (by rw[OZ.out.2.2 h3];decide)
      have k4:(zw.toList==[114,117,110])=false:=by rw[Ci.out];exact decide_eq_false (by rw[OZ.out.2.2 h3];decide)
      have k5:(zs.toList==[108,101,118,101,108])=false:=by rw[yV.out];exact decide_eq_false h1
      have k6:(zs.toList==[115,101,114,105,97,108])=false:=by rw[yV.out];exact decide_eq_false h2
      have k7:(zs.toList==[116,101,120,116])=true:=by rw[yV.out];exact decide_eq_true h3
      have HHT:=aa (fun W (b:Ext w W)=>Bq W (HH.out.ext b) dO.out);have AX:Hid (iQ h s=(h,Uu (wm h))):=by rw[HD.out,h3];exact G5 h
      clear hp hr h1 h2 h3 OZ yV Ci UF V9 RJ HD Iy Ui HNS MK;by_cases hn0:h=[]
      ·have HD3:Hid (iQ h s=(h,Fu)):=by rw[AX.out,hn0];rfl
       have hz:(h.length:Int)=0:=by rw[hn0];rfl
       clear hn0 AX;go_wp2;go_returns;exact eF (a:=Fu) HD3 (jG (HB3.out.ext (Ext.refl _)) (fun q hq=>Nat.lt_of_lt_of_le (HX.out q hq) uJ.out)) sI.out
      ·have HD3:Hid (iQ h s=(h,wm h)):=by rw[AX.out];show (h,Uu _) = _;unfold Uu;rw[if_neg];exact WX hn0
       have hz:((h.length:Int)==0)=false:=by rw[beq_eq_false_iff_ne];intro e;exact hn0 (List.length_eq_zero_iff.1 (by omega))
       clear hn0 AX;go_wp2_with fail
       refine(HHT.out w3 sI.out).mono ?_
       rintro e w5 ⟨rfl,b5⟩;go_wp2;go_returns;exact eF HD3 (jG (HB3.out.ext b5) (fun q hq=>Nat.lt_of_lt_of_le (HX.out q hq) uJ.out)) (sI.out.trans b5)
     have HD3:Hid (iQ h s=(h,qg)):=HD.out.trans (uy h1 h2 h3 hp hr HNS.out);have k5:(zs.toList==[108,101,118,101,108])=false:=by rw[yV.out];exact decide_eq_false h1
     have k6:(zs.toList==[115,101,114,105,97,108])=false:=by rw[yV.out];exact decide_eq_false h2
     have k7:(zs.toList==[116,101,120,116])=false:=by rw[yV.out];exact decide_eq_false h3
     clear hp hr h1 h2 h3 OZ yV Ci UF V9 RJ HD HNS;obtain k1|⟨k1,k2,k9⟩:=Iy.out<;>obtain k3|⟨k3,HR1⟩:=Ui.out<;>obtain k4|⟨k4,k8,k7e⟩:=MK.out
     ·clear Iy Ui MK;go_wp2;go_returns;exact eF (a:=qg) HD3 (jG (HB3.out.ext (Ext.refl _)) (fun q hq=>Nat.lt_of_lt_of_le (HX.out q hq) uJ.out)) sI.out
     ·clear Iy Ui MK;go_wp2;go_returns;exact eF (a:=qg) HD3 (jG (HB3.out.ext (Ext.refl _)) (fun q hq=>Nat.lt_of_lt_of_le (HX.out q hq) uJ.out)) sI.out
     ·clear Iy Ui MK;replace HR1:=aa HR1;go_wp2_with fail
      refine(HR1.out w3).mono ?_
      rintro e w4 ⟨rfl,b4⟩;go_wp2;go_returns;exact eF (a:=qg) HD3 (jG (HB3.out.ext b4) (fun q hq=>Nat.lt_of_lt_of_le (HX.out q hq) uJ.out)) (sI.out.trans b4)
     ·clear Iy Ui MK;replace HR1:=aa HR1;go_wp2_with fail
      refine(HR1.out w3).mono ?_
      rintro e w4 ⟨rfl,b4⟩;go_wp2;go_returns;exact eF (a:=qg) HD3 (jG (HB3.out.ext b4) (fun q hq=>Nat.lt_of_lt_of_le (HX.out q hq) uJ.out)) (sI.out.trans b4)
     ·clear Iy Ui MK;go_wp2;go_returns;exact eF (a:=qg) HD3 (jG (HB3.out.ext (Ext.refl _)) (fun q hq=>Nat.lt_of_lt_of_le (HX.out q hq) uJ.out)) sI.out
     ·clear Iy Ui MK;go_wp2;go_returns;exact eF (a:=qg) HD3 (jG (HB3.out.ext (Ext.refl _)) (fun q hq=>Nat.lt_of_lt_of_le (HX.out q hq) uJ.out)) sI.out
     ·clear Iy Ui MK;replace HR1:=aa HR1;go_wp2_with fail
      refine(HR1.out w3).mono ?_
      rintro e w4 ⟨rfl,b4⟩;go_wp2;go_returns;exact eF (a:=qg) HD3 (jG (HB3.out.ext b4) (fun q hq=>Nat.lt_of_lt_of_le (HX.out q hq) uJ.out)) (sI.out.trans b4)
     ·clear Iy Ui MK;replace HR1:=aa HR1;go_wp2_with fail
      refine(HR1.out w3).mono ?_
      rintro e w4 ⟨rfl,b4⟩;go_wp2;go_returns;exact eF (a:=qg) HD3 (jG (HB3.out.ext b4) (fun q hq=>Nat.lt_of_lt_of_le (HX.out q hq) uJ.out)) (sI.out.trans b4)
