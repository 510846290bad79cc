/- Lemmas. -/
import Derived.Test.YtomkjlklninhpaaGreatDoorKBF
set_option maxHeartbeats 16000000
set_option maxRecDepth 8000
set_option linter.all false
namespace Go.Proofs.YtomkjlklninhpaaGreatDoor
open Go.RowKit
def QV(l:List UInt8):Option Value:=if l=uF then some (.func (.func 69) #[] #[]) else if l=lQ then some (.func (.func 68) #[] #[]) else if l=oJ then some (.func (.func 67) #[] #[]) else none
def Ml(l:List UInt8):Option Value:=if l=LQ then some (.func (.func 71) #[] #[]) else if l=Lp then some (.func (.func 70) #[] #[]) else none
theorem XW(w:World):∃o1 o2 o3,
 (Instr.mapUpdate 100 (.map (some w.heap.size)) (.string ⟨#[108,101,118,101,108]⟩) (.func (.func 67) #[] #[])).run Tryz.prog (w.alloc (.map #[] 0))=.ok () (aS (w.alloc (.map #[] 0)) w.heap.size o1) /\
 (Instr.mapUpdate 100 (.map (some w.heap.size)) (.string ⟨#[115,101,114,105,97,108]⟩) (.func (.func 68) #[] #[])).run Tryz.prog (aS (w.alloc (.map #[] 0)) w.heap.size o1)=.ok () (aS (aS (w.alloc (.map #[] 0)) w.heap.size o1) w.heap.size o2) /\
 (Instr.mapUpdate 100 (.map (some w.heap.size)) (.string ⟨#[116,101,120,116]⟩) (.func (.func 69) #[] #[])).run Tryz.prog (aS (aS (w.alloc (.map #[] 0)) w.heap.size o1) w.heap.size o2)=.ok () (aS (aS (aS (w.alloc (.map #[] 0)) w.heap.size o1) w.heap.size o2) w.heap.size o3) /\
 j4 (aS (aS (aS (w.alloc (.map #[] 0)) w.heap.size o1) w.heap.size o2) w.heap.size o3) w.heap.size Ep QV/\Ext w (aS (aS (aS (w.alloc (.map #[] 0)) w.heap.size o1) w.heap.size o2) w.heap.size o3):=by
 obtain⟨o1,h1,g1,_⟩:=fG (P:=Tryz.prog) Tryz.underlying100 (jX Tryz.underlying9) (j4.made w Ep) oJ (.func (.func 67) #[] #[]);obtain⟨o2,h2,g2,_⟩:=fG (P:=Tryz.prog) Tryz.underlying100 (jX Tryz.underlying9) g1 lQ (.func (.func 68) #[] #[]);obtain⟨o3,h3,g3,_⟩:=fG (P:=Tryz.prog) Tryz.underlying100 (jX Tryz.underlying9) g2 uF (.func (.func 69) #[] #[]);exact⟨o1,o2,o3,h1,h2,h3,g3.congr (fun k=>by unfold QV;rfl),((((Ext.refl _).alloc _).aS (Nat.le_refl _) _).aS (Nat.le_refl _) _).aS (Nat.le_refl _) _⟩
theorem YE(w:World):∃o1 o2,
 (Instr.mapUpdate 102 (.map (some w.heap.size)) (.string ⟨#[112,117,116]⟩) (.func (.func 70) #[] #[])).run Tryz.prog (w.alloc (.map #[] 0))=.ok () (aS (w.alloc (.map #[] 0)) w.heap.size o1) /\
 (Instr.mapUpdate 102 (.map (some w.heap.size)) (.string ⟨#[114,117,110]⟩) (.func (.func 71) #[] #[])).run Tryz.prog (aS (w.alloc (.map #[] 0)) w.heap.size o1)=.ok () (aS (aS (w.alloc (.map #[] 0)) w.heap.size o1) w.heap.size o2) /\
 j4 (aS (aS (w.alloc (.map #[] 0)) w.heap.size o1) w.heap.size o2) w.heap.size Ep Ml/\Ext w (aS (aS (w.alloc (.map #[] 0)) w.heap.size o1) w.heap.size o2):=by
 obtain⟨o1,h1,g1,_⟩:=fG (P:=Tryz.prog) Tryz.underlying102 (jX Tryz.underlying9) (j4.made w Ep) Lp (.func (.func 70) #[] #[]);obtain⟨o2,h2,g2,_⟩:=fG (P:=Tryz.prog) Tryz.underlying102 (jX Tryz.underlying9) g1 LQ (.func (.func 71) #[] #[]);exact⟨o1,o2,h1,h2,g2.congr (fun k=>by unfold Ml;rfl),(((Ext.refl _).alloc _).aS (Nat.le_refl _) _).aS (Nat.le_refl _) _⟩
theorem Yo:∃z,∀W,(zeroValue 64).run Tryz.prog W=.ok z W:=⟨.nilFunc,fun W=>by kernel_rfl⟩
theorem YD:∃z,∀W,(zeroValue 26).run Tryz.prog W=.ok z W:=⟨.nilFunc,fun W=>by kernel_rfl⟩
theorem YM(s:List UInt8)(w:World)(hE:Env w)(hs:s.length<=1048576):Calls Tryz.prog 72 #[.string (tx s),.string ⟨#[32]⟩] w fun e w'=>∃b,e=.returned (.tuple #[.string (tx (dR s)),.string (tx (dJ s)),.bool b])/\Ext w w':=by
 obtain⟨m,hm⟩:=hE.max
 refine(Tryz.strings_Cut (tx s) (tx [32]) m w (by rw[dH];omega) hm).mono ?_
 rintro e w' ⟨rfl,n,rfl⟩;obtain⟨h1,h2⟩:=X5 s;have e1:Lib.cut (tx s).data.toList (tx [32]).data.toList=Lib.cut s [32]:=rfl;refine⟨_,by rw[e1,h1,h2];rfl,⟨rfl,rfl,rfl,Nat.le_refl _,fun _ _=>rfl⟩⟩
theorem WE{X:Nat->Prop}{v:Value}{h:List aA}(n:Nat)(w:World)(hX:∀q,X q->q<w.heap.size)(H:jJ X w v h)(hok:aC h=true) :
 Calls Tryz.prog 74 #[v,.int .i64 (n:Int)] w fun e w'=>∃v',e=.returned (.tuple #[v',.bool (decide (n<h.length))])/\jJ X w' v' (if n<h.length then mg h n else [])/\Ext w w':=by
 by_cases hn:n<h.length
 ·refine(Lj n w H.his hok hn (by have:=aM hok;omega) (aD hok)).mono ?_
  rintro e w' ⟨v',rs,rfl,hr,ho,b⟩;exact⟨v',by rw[decide_eq_true hn],by rw[if_pos hn];exact jJ.KH hr ho hX,b⟩
 ·refine(Bw (n:Int) w H.his hok (by omega) (by have:=aM hok;omega) (aD hok)).mono ?_
  rintro e w' ⟨rfl,b⟩;exact⟨_,by rw[decide_eq_false hn],by rw[if_neg hn];exact⟨[],⟨rfl,aF.nil _ _ _ _ _,fun i r t hr=>by simp at hr⟩,fun a n c e=>(by cases e),fun i r hr=>by simp at hr⟩,b⟩
theorem U6{h:List aA}(hok:aC h=true)(n:Nat):EJ h n=if (decide (n<h.length)&&aC (if n<h.length then mg h n else []))=true then ((if n<h.length then mg h n else []),Nl) else (h,Df):=by
 unfold EJ;by_cases hn:n<h.length
 ·simp[hn,EX hok n]
 ·simp[hn]
theorem Nr{X:Nat->Prop}{v:Value}{h:List aA}(s:List UInt8)(w:World)(hX:∀q,X q->q<w.heap.size)(H:jJ X w v h)(hok:aC h=true)(hE:Env w)(hl:s.length<=1048576) :
 Calls Tryz.prog 35 #[v,.string (tx s)] w (qI X w (fZ h s)):=by
 obtain⟨A,c,rfl⟩:=H.slice;obtain⟨o1,o2,o3,u1,u2,u3,gA,eA⟩:=XW w;obtain⟨zA,hzA⟩:=Yo;obtain⟨zB,hzB⟩:=YD;have hlA:=l8 (P:=Tryz.prog) Tryz.underlying100 (jX Tryz.underlying9) hzA gA s;unfold Ep at hlA;obtain⟨W3,hW3⟩:∃W3,aS (aS (aS (w.alloc (.map #[] 0)) w.heap.size o1) w.heap.size o2) w.heap.size o3=W3:=⟨_,rfl⟩;rw[hW3]at u3 hlA eA;have HH:=aa (H.ext eA);have dO:=aa hok;have HE:=aa (hE.ext eA);have HA:=aa eA;have Vt:Hid (∀q,X q->q<W3.heap.size):=fun q hq=>Nat.lt_of_lt_of_le (hX q hq) eA.size;have hmk:=@run_makeMap Tryz.prog;obtain⟨z,hz⟩:∃z,tx s=z:=⟨_,rfl⟩;rw[hz]at hlA;have HZ:=aa hz;rw[hz];clear H hok hE gA eA hW3 hzA hz hX;by_cases hs1:s=oJ
 ·subst hs1;rw[show QV oJ=some (.func (.func 67) #[] #[]) by rfl]at hlA;simp only[Option.getD_some,Option.isSome_some]at hlA;rw[show fZ h oJ = _ from Dq h];have HT:=aa (I5 W3 HH.out.his dO.out);go_enter Tryz.func35,Tryz.ntmps35;go_wp2_with fail
  refine HT.out.mono ?_;rintro e w' ⟨rfl,b⟩;go_wp2;go_returns;exact⟨_,rfl,HH.out.ext b,HA.out.trans b⟩
 by_cases hs2:s=lQ
 ·subst hs2;rw[show QV lQ=some (.func (.func 68) #[] #[]) by rfl]at hlA;simp only[Option.getD_some,Option.isSome_some]at hlA;rw[show fZ h lQ = _ from AU h];have HT:=aa (FD W3 HH.out.his dO.out);go_enter Tryz.func35,Tryz.ntmps35;go_wp2_with fail
  refine HT.out.mono ?_;rintro e w' ⟨rfl,b⟩;go_wp2;go_returns;exact⟨_,rfl,HH.out.ext b,HA.out.trans b⟩
 by_cases hs3:s=uF
 ·subst hs3;rw[show QV uF=some (.func (.func 69) #[] #[]) by rfl]at hlA;simp only[Option.getD_some,Option.isSome_some]at hlA;rw[show fZ h uF = _ from G5 h];have HT:=aa (KG W3 HH.out.his dO.out);go_enter Tryz.func35,Tryz.ntmps35;go_wp2_with fail
  refine HT.out.mono ?_;rintro e w' ⟨rfl,b⟩;go_wp2;go_returns;exact⟨_,rfl,HH.out.ext b,HA.out.trans b⟩
 have hno:QV s=none:=by unfold QV;rw[if_neg (by assumption),if_neg (by assumption),if_neg (by assumption)]
 rw[hno]at hlA;simp only[Option.getD_none,Option.isSome_none]at hlA;have HS:=aa (And.intro hs1 (And.intro hs2 hs3));obtain⟨p1,p2,v1,v2,gB,eB⟩:=YE W3;obtain⟨W5,hW5⟩:∃W5,aS (aS (W3.alloc (.map #[] 0)) W3.heap.size p1) W3.heap.size p2=W5:=⟨_,rfl⟩;rw[hW5]at v2 gB eB;have HC:=aa (YM s W5 (HE.out.ext eB) hl);rw[HZ.out]at HC;have Xw:=aa gB;have Ea:=aa eB;clear hno hs1 hs2 hs3 gB eB hW5;go_enter Tryz.func35,Tryz.ntmps35;go_wp2_with fail
 refine HC.out.mono ?_;rintro e W6 ⟨b,rfl,b6⟩;have Ca:Hid (Ext W3 W6):=Ea.out.trans b6;have hlB:=l8 (P:=Tryz.prog) Tryz.underlying102 (jX Tryz.underlying9) hzB (Xw.out.ext b6) (dR s);unfold Ep at hlB;have hrl:=JV s;have HRL:Hid ((dJ s).length<=1048576):=by show _<=_;omega
 have Bd:=aa (fun W=>Ei (dJ s) W);have IK:=aa (fun hne=>Yw (dJ s) W6 (fun q hq=>Nat.lt_of_lt_of_le (Vt.out q hq) Ca.out.size) (HH.out.ext Ca.out) dO.out (HE.out.ext Ca.out) HRL.out hne);have GR:=aa (fun hne=>YL (dJ s) W6 (fun q hq=>Nat.lt_of_lt_of_le (Vt.out q hq) Ca.out.size) (HH.out.ext Ca.out) dO.out (HE.out.ext Ca.out) HRL.out hne);clear HC hrl hzB b6 hlA u1 u2 u3 v1 v2 hmk;obtain⟨zw,Lb⟩:∃z,tx (dR s)=z:=⟨_,rfl⟩;obtain⟨zr,RL⟩:∃z,tx (dJ s)=z:=⟨_,rfl⟩;rw[Lb]at hlB;rw[RL]at Bd IK GR;rw[Lb,RL];have hrt:zr.toList=dJ s:=by rw[<-RL,eD]
 have hwt:zw.toList=dR s:=by rw[<-Lb,eD]
 by_cases hr:dJ s=[]
 ·have hq0:(zr.toList != [])=false:=by rw[hrt,hr];rfl
  have hq1:zr.toList.isEmpty=true:=by rw[hrt,hr];rfl
  have HD:Hid (fZ h s=(h,qg)):=uy HS.out.1 HS.out.2.1 HS.out.2.2 (fun e=>e.2 hr) (fun e=>e.2 hr) (fun _=>by rw[hr];rfl);rw[hr,show dD []=none from rfl]at Bd;simp only[Option.getD_none,Option.isSome_none]at Bd;obtain⟨fv,hfv⟩:∃x,(Ml (dR s)).getD zB=x:=⟨_,rfl⟩;obtain⟨bb,hbb⟩:∃x,(Ml (dR s)).isSome=x:=⟨_,rfl⟩;rw[hfv,hbb]at hlB;clear hfv hbb hr hrt hwt RL Lb;cases bb<;>(
   go_wp2_with fail
   refine(Bd.out _).mono ?_
   rintro e W7 ⟨rfl,b7⟩;go_wp2;go_returns;rw[HD.out];exact⟨_,rfl,(HH.out.ext Ca.out).ext b7,(HA.out.trans Ca.out).trans b7⟩)
 ·have hq0:(zr.toList != [])=true:=by rw[hrt];simpa using hr
  have hq1:zr.toList.isEmpty=false:=by rw[hrt];simpa using hr
  by_cases hw:dR s=Lp
  ·rw[show Ml (dR s)=some (.func (.func 70) #[] #[]) by rw[hw];rfl]at hlB;simp only[Option.getD_some,Option.isSome_some]at hlB;have HD:=aa (Jh (h:=h) hw hr);have HP:=aa (IK.out hr);clear hr hrt hwt RL Lb hw IK GR Bd;go_wp2_with fail
   refine HP.out.mono ?_;rintro e W7 ⟨vv,rfl,hh,b7⟩;go_wp2;go_returns;rw[HD.out];exact⟨_,rfl,hh,(HA.out.trans Ca.out).trans b7⟩
  by_cases hw2:dR s=LQ
  ·rw[show Ml (dR s)=some (.func (.func 71) #[] #[]) by rw[hw2];rfl]at hlB;simp only[Option.getD_some,Option.isSome_some]at hlB;have HD:=aa (JQ (h:=h) hw2 hr);have HP:=aa (GR.out hr);clear hr hrt hwt RL Lb hw hw2 IK GR Bd;go_wp2_with fail
   refine HP.out.mono ?_;rintro e W7 ⟨vv,rfl,hh,b7⟩;go_wp2;go_returns;rw[HD.out];exact⟨_,rfl,hh,(HA.out.trans Ca.out).trans b7⟩
  rw[show Ml (dR s)=none by unfold Ml;rw[if_neg hw2,if_neg hw]]at hlB;simp only[Option.getD_none,Option.isSome_none]at hlB
  cases L9:dD (dJ s) with
  | none=>
    have HD:Hid (fZ h s=(h,qg)):=uy HS.out.1 HS.out.2.1 HS.out.2.2 (fun e=>hw e.1) (fun e=>hw2 e.1) (fun _=>L9);rw[L9]at Bd;simp only[Option.getD_none,Option.isSome_none]at Bd;clear hr hrt hwt RL Lb hw hw2 IK GR L9;go_wp2_with fail
    refine(Bd.out _).mono ?_
    rintro e W7 ⟨rfl,b7⟩;go_wp2;go_returns;rw[HD.out];exact⟨_,rfl,(HH.out.ext Ca.out).ext b7,(HA.out.trans Ca.out).trans b7⟩
  | some n=>
    have hn:=(pK L9).1;rw[L9]at Bd;simp only[Option.getD_some,Option.isSome_some]at Bd;by_cases hd:dR s=zV
    ·have hq2:(zw.toList==[100,114,111,112])=true:=by rw[hwt,hd];rfl
     have HD:Hid (fZ h s=if (decide (n<h.length)&&aC (if n<h.length then mg h n else []))=true then ((if n<h.length then mg h n else []),Nl) else (h,Df)):=by rw[Gr hd L9];exact U6 dO.out n
     have HG:Hid (aC (if n<h.length then mg h n else [])=true):=by
      show _ = _;split
      ·exact EX dO.out n
      ·rfl
     clear hr hrt hwt RL Lb hw hw2 hd IK GR L9;go_wp2_with fail
     refine(Bd.out _).mono ?_
     rintro e W7 ⟨rfl,b7⟩;have Ec:Hid (Ext W3 W7):=Ca.out.trans b7;have HDR:=aa (WE n W7 (fun q hq=>Nat.lt_of_lt_of_le (Vt.out q hq) Ec.out.size) (HH.out.ext Ec.out) dO.out);obtain⟨g,hg⟩:∃g,(if n<h.length then mg h n else [])=g:=⟨_,rfl⟩;obtain⟨ok,hok⟩:∃ok,decide (n<h.length)=ok:=⟨_,rfl⟩;rw[hg,hok]at HDR HD;rw[hg]at HG;clear hg hok b7;go_wp2_with fail
     refine HDR.out.mono ?_;rintro e W8 ⟨v',rfl,hh,b8⟩;obtain⟨A8,c8,rfl⟩:=hh.slice;have HY:=aa (Km ok W8 ((HH.out.ext Ec.out).ext b8) hh (by have:=aM HG.out;omega) (fun _=>aD HG.out));have UM:Hid (Ext W3 W8):=Ec.out.trans b8;rw[<-HD.out]at HY;clear hh b8 HDR;go_wp2_with fail
     refine HY.out.mono ?_;rintro e W9 ⟨vv,rfl,hh,b9⟩;go_wp2;go_returns;exact⟨_,rfl,hh,(HA.out.trans UM.out).trans b9⟩
    ·have hq2:(zw.toList==[100,114,111,112])=false:=by rw[hwt,beq_eq_false_iff_ne];exact hd
     have HD:Hid (fZ h s=(h,qg)):=uy HS.out.1 HS.out.2.1 HS.out.2.2 (fun e=>hw e.1) (fun e=>hw2 e.1) (fun e=>absurd e hd);clear hr hrt hwt RL Lb hw hw2 hd IK GR L9;go_wp2_with fail
     refine(Bd.out _).mono ?_
     rintro e W7 ⟨rfl,b7⟩;go_wp2;go_returns;rw[HD.out];exact⟨_,rfl,(HH.out.ext Ca.out).ext b7,(HA.out.trans Ca.out).trans b7⟩
noncomputable def iQ (h:List aA) (s:List UInt8):List aA × List UInt8:=if aC h=true then fZ h s else ([],[])
