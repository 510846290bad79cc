/- Lemmas. -/
import Derived.Test.YtcdopfdgknglfaaGreatDoorKAQ
set_option maxHeartbeats 16000000
set_option maxRecDepth 8000
set_option linter.all false
namespace Go.Proofs.YtcdopfdgknglfaaGreatDoor
open Go.RowKit
def lZ(h:List aG)(os:List (List Int))(k:Nat):List Edge:=(List.range k).flatMap λ(key:Nat)=>pV h (key:Int) (os.getD key []) ((os.getD key []).length-1)
theorem BI(h:List aG)(os:List (List Int))(k:Nat):lZ h os (k+1)=lZ h os k++pV h (k:Int) (os.getD k []) ((os.getD k []).length-1):=by unfold lZ;rw[vU,lq];simp
theorem Ol(h:List aG)(key:Int)(order:List Int)(m:Nat){x y:Int}(hx:order[m]? =some x)(hy:order[m+1]? =some y):pV h key order (m+1)=pV h key order m++[⟨aI h key x,aI h key y,1⟩]:=by unfold pV;rw[vU,rR];simp[List.getD,hx,hy]
theorem Iy(h:List aG)(key:Int)(order:List Int)(m:Nat):(pV h key order m).length=m:=by simp[pV]
theorem xR{h:List aG}{os:List (List Int)}(hl:∀k:Nat,(os.getD k []).length<=6):∀k,(lZ h os k).length<=k*6
 | 0=>by simp[lZ]
 | k+1=>by
   have:=xR (h:=h) hl k
   have h2:=hl k;rw[BI,dw,Iy,Nat.succ_mul];omega
def nA(h:List aG)(os:List (List Int))(k:Nat):List Edge:=((List.range k).filter λn=>(h[n]?.map (·.done)).getD false).flatMap λn=>(mH (opsOf h n)).flatMap (Eg h os n)
def pI(h:List aG)(os:List (List Int))(n:Nat)(l:List aV)(j:Nat):List Edge:=(l.take j).flatMap (Eg h os n)
theorem Ey{h:List aG}{os:List (List Int)}{k:Nat}{t:aG}(ht:h[k]? =some t):nA h os (k+1)=nA h os k++if t.done=true then pI h os k (mH t.ops) (mH t.ops).length else []:=by unfold nA pI;rw[vU,rF,lq,bM];congr 1;rw[sN,ht];cases hd:t.done<;>simp[hd,opsOf,ht]
theorem D7{h:List aG}{os:List (List Int)}{n j:Nat}{l:List aV}{o:aV}(ho:l[j]? =some o):pI h os n l (j+1)=pI h os n l j++(tQ h n o++l6 h os n o):=by unfold pI;rw[ak ho,lq];simp[Eg]
theorem VI(h:List aG)(os:List (List Int))(n:Nat)(o:aV):(Eg h os n o).length<=2:=by
 unfold Eg tQ l6;rw[dw]
 split<;>split<;>simp
theorem Bi(h:List aG)(os:List (List Int))(n:Nat)(l:List aV):∀j,(pI h os n l j).length<=2*j
 | 0=>by simp[pI]
 | j+1=>by
   have ih:=Bi h os n l j
   cases ho:l[j]? with
   | none=>unfold pI at ih ⊢;rw[List.take_add_one,ho];simp only[Option.toList_none,jh];omega
   | some o=>
     have h2:=VI h os n o;rw[D7 ho,dw];unfold Eg at h2;omega
theorem z8{h:List aG}{os:List (List Int)}(hok:aD h=true):∀k,(nA h os k).length<=12*k
 | 0=>by simp[nA]
 | k+1=>by
   have ih:=z8 (os:=os) hok k
   cases ht:h[k]? with
   | none=>
     have e:nA h os (k+1)=nA h os k:=by unfold nA;rw[vU,rF,lq,sN,ht];simp
     rw[e];omega
   | some t=>
     rw[Ey ht,dw];have h6:=dF (dH hok (aM ht));have hf:=Ce t.ops;have h2:=Bi h os k (mH t.ops) (mH t.ops).length;split
     ·omega
     ·simp;omega
theorem Jw(h:List aG)(os:List (List Int)):Rt h os=lZ h os 3++nA h os h.length:=rfl
theorem abL{t:aG}(h:dG t=true){o:aV}(ho:o∈mH t.ops):iY o=true:=by obtain⟨j,hj,_⟩:=Gc.1 ho;exact gD h (aM hj)
def ade(w:World)(h:List aG)(os:List (List Int))(e:Ending)(w':World):Prop:=∃v ds,e=.returned v/\Row 200 3 aZ w.heap.size w' v ds/\(∀x,x∈ds↔x∈dN h os)/\ds.length<=144/\Ext w w'
theorem Ma{v u:Value}{h:List aG}{os:List (List Int)}(w:World)(H:iM w v h)(hok:aD h=true)(hu:I2 w u os)(ho:lu h os) :
 Calls Tryz.prog 155 #[v,u] w (ade w h os):=by
 obtain⟨A,c,rfl⟩:=H.slice;obtain⟨Au,cu,rfl,_⟩:=Ls.slice hu;have HH:=aa H;have HU:=aa hu;have fu:=aa hok;have YV:=aa ho;have hlen:=aR hok;have hol:os.length=3:=ho.1;have HO:=aa ho.2;have hst:=fT (T:=101) (by decide);have adA:=aa (λW (b:Ext w W)=>uX W (H.ext b) hok (hu.ext hst b) ho);have h6:∀k:Nat,(os.getD k []).length<=6:=λk=>by
  rw[List.getD]
  cases e:os[k]? with
  | none=>simp
  | some order=>simp only[Option.getD_some];rw[(ho.2 k order e).length_eq];have:=je h (k:Int);omega
 have Ws:=aa h6;clear H hok hu ho h6;rw[hol]at HU adA ⊢;have HOL:=aa hol;clear hol;obtain⟨bo,oo,rfl,NM,hco⟩:=Ls.cells HU.out (by rw[HOL.out];omega);have HCO:=aa hco;clear hco;go_enter Tryz.func155,Tryz.ntmps155;go_wp2_with fail
 refine(adA.out _ ((af _).alloc _)).mono ?_
 rintro e w1 ⟨rfl,b1⟩;have zh:Hid (Row 200 3 aZ w.heap.size w1 (.slice (some ⟨w.heap.size,0,none⟩) 0 0) (lZ h os 0)):=Row.ext dD b1;have HB1:Hid (Ext w w1):=((af w).alloc _).trans b1;clear b1;go_wp2;go_loopw [5,6] (λo i wr=>Ext w wr/\∃k:Nat,k<=3/\i=.int .i64 (k:Int)/\Hid (Row 200 3 aZ w.heap.size wr o (lZ h os k))) (λ_ i _=>3-(intOf i).toNat)
 case atStart=>exact⟨HB1.out,0,by omega,rfl,zh.out⟩
 case round=>
  obtain⟨hb,k,hk,rfl,HI⟩:=hrel;by_cases hlt:k<3
  ·obtain⟨order,hor⟩:=ah (show k<os.length by rw[HOL.out];omega);obtain⟨uo,Od,hP⟩:=HCO.out k order hor;obtain⟨Ao,co,rfl,_⟩:=ou.slice hP;have abU:os.getD k []=order:=by simp[List.getD,hor]
   have h6:=Ws.out k;rw[abU]at h6;have QB:=aa (BI h os k);rw[abU]at QB;have HCL:=aa (xR (h:=h) Ws.out k);have HUO:=aa Od;have Py:=aa hP;have HB:=aa hb;have hki:(k:Int)<3:=by omega
   have aeR:(k:Int)<=2:=by omega
   have hd3:decide ((k:Int)<=2)=true:=jw (by omega);have hk0:(0:Int)<=(k:Int):=by omega
   have HJ0:=aa (HI.out.app0 (zs:=pV h (k:Int) order 0) (by simp[pV]));clear hor Od hP abU hb HI;go_wp2;go_loopw [5,7] (λo i wr=>Ext w wr/\∃j:Nat,j<=order.length-1/\i=.int .i64 (j:Int)/\Hid (Row 200 3 aZ w.heap.size wr o (lZ h os k++pV h (k:Int) order j))) (λ_ i _=>order.length-1-(intOf i).toNat)
   case atStart=>exact⟨HB.out,0,by omega,rfl,HJ0.out⟩
   case round=>
    obtain⟨hb,j,hj,rfl,HJ⟩:=hrel;have c0:=hb.cell HUO.out;have hwj:IntKind.i64.wrap ((j:Int)+1)=(j:Int)+1:=dL _ (by omega);by_cases hjt:j+1<order.length
    ·obtain⟨b3,o3,rfl,hb3,hc3⟩:=ou.cells Py.out (by omega);obtain⟨x,hx⟩:=ah (show j<order.length by omega);obtain⟨y,hy⟩:=ah hjt;have k1:=hc3 j x hx;have k2:=hc3 (j+1) y hy;simp only[encI]at k1 k2;have d1:=hb.cell k1;have d2:=hb.cell k2;have HCJ:=aa (Ol h (k:Int) order j hx hy);have hcl:=Iy h (k:Int) order j;have adq:=HCL.out;have HW1:=aa (λV (b:Ext w V)=>iH (k:Int) x V (HH.out.ext b) (by omega) (aJ fu.out));have HW2:=aa (λV (b:Ext w V)=>iH (k:Int) y V (HH.out.ext b) (by omega) (aJ fu.out));obtain⟨z1,hz1⟩:∃z,aI h (k:Int) x=z:=⟨_,rfl⟩;obtain⟨z2,hz2⟩:∃z,aI h (k:Int) y=z:=⟨_,rfl⟩;rw[hz1]at HCJ HW1;rw[hz2]at HCJ HW2;have hJ:=HJ.out;obtain⟨cur,kJ⟩:∃cur,cur=lZ h os k++pV h (k:Int) order j:=⟨_,rfl⟩;have aeG:cur.length<=2097152:=by rw[kJ,dw];omega
     rw[<-kJ]at hJ;have HCU:=aa kJ;obtain⟨v5,w5,tC,Cv⟩:=yw (w:=wr.drew) wr.heap.size rfl hJ (af _).drew ⟨z1,z2,1⟩ hb.size (by omega);have HP5:=aa Cv;have e5:=Cv.2.1 w hb (av _);have e0:=e5.cell HUO.out;have e1:=e5.cell k1;have e2:=e5.cell k2;have L6:=aa e5;obtain⟨A4,c4,rfl,_⟩:=id hJ.cell.1;have Ca:Hid ((Builtin.append_ #[172,172] 172 #[.slice A4 cur.length c4,.slice (some ⟨wr.heap.size,0,none⟩) 1 1]).run Tryz.prog (wr.alloc (.cells #[.int .i64 z1,.int .i64 z2,.int .i64 1] 200)).drew=.ok v5 w5):=tC;have aex:bo<wr.heap.size:=bR NM hb.size;have afA:b3<wr.heap.size:=bR hb3 hb.size;have i1:(j:Int)<(order.length:Int):=by omega
     have i2:(0:Int)<=(j:Int):=by omega
     have i3:(j:Int)+1<(order.length:Int):=by omega
     have i4:(0:Int)<=(j:Int)+1:=by omega
     clear hc3 hx hy tC Cv hz1 hz2 k1 k2 e5 hcl adq hJ kJ HJ;go_wp2;go_region_held3 (λW=>W.cell? ⟨bo,oo+k,none⟩=some (.slice (some ⟨b3,o3,none⟩) order.length co)/\W.cell? ⟨b3,o3+j,none⟩=some (.int .i64 x)/\W.cell? ⟨b3,o3+(j+1),none⟩=some (.int .i64 y)) (go_keep) ((first|(go_at_call 69;refine(HW1.out _ hb.drew).mono ?_;clear HW1;rintro e w8 ⟨rfl,rfl⟩)|(go_at_call 69;refine(HW2.out _ hb.drew).mono ?_;rintro e w8 ⟨rfl,rfl⟩)|(refine aP (by rfl) (by rfl) (by rfl) (by rfl) Ca.out ?_)))
     all_goals (
      clear c0 d1 d2 e0 e1 e2 aex afA;go_wp2;go_roundw;case rel=>exact⟨L6.out,j+1,by omega,by go_num,by rw[HCJ.out,<-jM,<-HCU.out];exact HP5.out.1⟩
      case measure=>simp[intOf];omega)
    ·obtain rfl:j=order.length-1:=by omega
     have hji:¬(((order.length-1:Nat):Int)+1<(order.length:Int)):=by omega
     have HF:=aa HJ.out;clear HJ;go_wp2;go_roundw;case rel=>exact⟨hb,k+1,by omega,by go_num,by rw[QB.out];exact HF.out⟩
     case measure=>simp[intOf];omega
  ·obtain rfl:k=3:=by omega
   rw[show ((3:Nat):Int)=3 from rfl];have HB:=aa hb;have HK0:=aa (HI.out.app0 (zs:=nA h os 0) (by simp[nA]));have HC3:=aa (xR (h:=h) Ws.out 3);clear hlt hk hb HI;go_wp2;go_loopw [5,8] (λo i wr=>Ext w wr/\∃k:Nat,k<=h.length/\i=.int .i64 (k:Int)/\Hid (Row 200 3 aZ w.heap.size wr o (lZ h os 3++nA h os k))) (λ_ i _=>h.length-(intOf i).toNat)
   case atStart=>exact⟨HB.out,0,by omega,rfl,HK0.out⟩
   case round=>
    obtain⟨hb,k,hk,rfl,HI⟩:=hrel;by_cases hlt:k<h.length
    ·obtain⟨b,off,rfl,hbl,hc⟩:=HH.out.head (by omega);obtain⟨t,ht⟩:=ah hlt;obtain⟨ov,c0,c1,c2,hs⟩:=hc k t ht;have htk:=dH fu.out (aM ht);have jC:=aa (Ey (os:=os) ht);have HKL:=aa (z8 (os:=os) fu.out k);have QE:=aa (λV (b:Ext w V)=>wN t ov V (hs.ext b) htk);unfold o9 at QE;have QC:=aa c2;have HHC:=aa (λn t' (h':h[n]? =some t')=>(let ⟨_,_,_,q,_⟩:=hc n t' h';q:w.cell? ⟨b,off+n*3+2,none⟩=some (.bool t'.done)));have R8:=aa htk;have hki:(k:Int)<(h.length:Int):=by omega
     have hfl:=Ce t.ops;have agb:=dF htk;obtain⟨A4,c4,rfl,_⟩:=id hs;replace c0:=hb.cell c0;replace c1:=hb.cell c1;replace c2:=hb.cell c2;have HB:=aa hb;clear hc ht hs htk hb;go_wp2_with fail
     refine(QE.out _ HB.out).mono ?_
     rintro e w2 ⟨v2,rfl,r2,b2⟩;obtain⟨A2,c2',rfl,_⟩:=id r2.cell.1;have sV:=aa (HB.out.trans b2);have HR2:=aa (r2.low HB.out.size);have HI2:=aa (Row.ext HI.out b2);have d2:=sV.out.cell QC.out;clear r2 b2 c0 c1 c2 HI
     cases hd:t.done with
     | false=>
       rw[hd]at jC QC d2;clear hd;go_wp2;go_loopw [5,10] (λo i wr=>Ext w2 wr/\i=.int .i64 0/\Hid (Row 200 3 aZ w.heap.size wr o (lZ h os 3++nA h os k))) (λ_ _ _=>0)
       case atStart=>exact⟨af _,rfl,HI2.out⟩
       case round=>
        obtain⟨hv,rfl,HIV⟩:=hrel;have d3:=hv.cell d2
        cases hz:decide ((0:Int)<((mH t.ops).length:Int)) with
        | true=>
          have hz':(0:Int)<((mH t.ops).length:Int):=by simpa using hz
          clear hz;go_wp2;go_roundw;case rel=>exact⟨sV.out.trans hv,k+1,by omega,by go_num,by show Row _ _ _ _ _ _ _;rw[jC.out];simpa using HIV.out⟩
          case measure=>simp[intOf];omega
        | false=>
          have hz':¬((0:Int)<((mH t.ops).length:Int)):=by simpa using hz
          clear hz;go_wp2;go_roundw;case rel=>exact⟨sV.out.trans hv,k+1,by omega,by go_num,by show Row _ _ _ _ _ _ _;rw[jC.out];simpa using HIV.out⟩
          case measure=>simp[intOf];omega
     | true=>
       rw[hd]at jC QC;clear hd d2;have HJ0:=aa (HI2.out.app0 (zs:=pI h os k (mH t.ops) 0) (by simp[pI]));go_wp2;go_loopw [5,10] (λo i wr=>Ext w wr/\∃j:Nat,j<=(mH t.ops).length/\i=.int .i64 (j:Int)/\Hid (Row 200 3 aZ w.heap.size wr o (lZ h os 3++nA h os k++pI h os k (mH t.ops) j))/\Hid (Row 67 3 encOpr w.heap.size wr (.slice A2 (mH t.ops).length c2') (mH t.ops))) (λ_ i _=>(mH t.ops).length-(intOf i).toNat)
       case atStart=>exact⟨sV.out,0,aT _,rfl,HJ0.out,HR2.out⟩
       case round=>
        obtain⟨hv,j,hj,rfl,HK,HRR⟩:=hrel;have q2:=hv.cell QC.out;by_cases hjt:j<(mH t.ops).length
        ·obtain⟨A',c',hA',hcc⟩:=HRR.out.cell.1;injection hA' with e1 e2 e3;subst e1 e3;clear e2;obtain⟨b',off',rfl,ru,hcc⟩:=hcc (by omega);obtain⟨o,hoj⟩:=ah hjt;have yZ:=abL R8.out (aM hoj);have hkey:=jE yZ;obtain⟨kn,hkn⟩:=dZ hkey.1;have af2:kn<3:=by omega
         have q0:wr.cell? ⟨b',off'+j*3+1,none⟩=some (.int .i64 (kn:Int)):=hkn▸hcc j o hoj 1 (by omega);have q1:wr.cell? ⟨b',off'+j*3+2,none⟩=some (.int .i64 o.value):=hcc j o hoj 2 (by omega);have acM:=aa (D7 (h:=h) (os:=os) (n:=k) hoj);obtain⟨cur,kJ⟩:∃cur,cur=lZ h os 3++nA h os k++pI h os k (mH t.ops) j:=⟨_,rfl⟩;have V5:Hid (lZ h os 3++nA h os k++pI h os k (mH t.ops) (j+1)=(cur++tQ h k o)++l6 h os k o):=by show _ = _;rw[acM.out,kJ];simp only[jM]
         have hKc:=HK.out;rw[<-kJ]at hKc;have HKC:=aa hKc;obtain⟨order,hor⟩:=ah (show kn<os.length by rw[HOL.out];omega);obtain⟨uo,Od,hP⟩:=HCO.out kn order hor;obtain⟨Ao,co,rfl,_⟩:=ou.slice hP;have HUO:=aa Od;have Py:=aa hP;have WQ:Hid (os.getD kn []=order):=by show _ = _;simp[List.getD,hor]
         have HO6:Hid (order.length<=2097152):=by have:=Ws.out kn;rw[WQ.out]at this;show _<=_;omega
         have EZ:=aa hkn;have HO:=aa hoj;have hji:(j:Int)<((mH t.ops).length:Int):=by omega
         have hj0:(0:Int)<=(j:Int):=by omega
         have hkl:=HKL.out;have hjl:=Bi h os k (mH t.ops) j;have aeT:=HC3.out;have aeG:cur.length<=2000:=by rw[kJ];simp only[dw];omega
         have af3:(0:Int)<=(kn:Int):=by omega
         have agw:(kn:Int)<3:=by omega
         have HW1:=aa (λV (b:Ext w V)=>iH (kn:Int) o.value V (HH.out.ext b) (by omega) (aJ fu.out));have aad:=gK (h:=h) (kn:Int) o.value;have abp:tQ h k o=if 0<=aI h (kn:Int) o.value/\isDone h (aI h (kn:Int) o.value)=true/\aI h (kn:Int) o.value≠(k:Int) then [⟨aI h (kn:Int) o.value,(k:Int),2⟩] else []:=by rw[<-hkn];rfl
         obtain⟨z1,hz1⟩:∃z,aI h (kn:Int) o.value=z:=⟨_,rfl⟩;rw[hz1]at HW1 aad abp;have aag:=aa abp;have HV:=aa hv;clear hcc hoj yZ hkey hkn hor Od hP hz1 abp acM kJ hKc HK hkl hjl aeT;go_wp2;go_region_held3 (λV=>V.cell? ⟨b',off'+j*3+1,none⟩=some (.int .i64 (kn:Int))/\V.cell? ⟨b',off'+j*3+2,none⟩=some (.int .i64 o.value)) (exact⟨by assumption,by assumption⟩) ((first|(go_at_call 69;refine(HW1.out _ HV.out.drew).mono ?_;rintro e w8 ⟨rfl,rfl⟩)))
         obtain⟨A5,c5,rfl,_⟩:=id HKC.out.cell.1;have Kc:=aa HV.out.drew;have Zz:=aa (Row.ext HKC.out (af wr).drew);have OC:=aa (Row.ext HRR.out (af wr).drew);generalize hwd:wr.drew=wd at Kc Zz OC ⊢;clear hwd q0 q1 q2;have hcase:z1<0∨(0<=z1/\isDone h z1=false)∨(0<=z1/\isDone h z1=true/\z1=(k:Int))∨(0<=z1/\isDone h z1=true/\z1≠(k:Int)):=by
          rcases Int.lt_or_le z1 0 with h0|h0
          ·exact .inl h0
          ·cases hd:isDone h z1 with
           | false=>exact .inr (.inl ⟨h0,rfl⟩)
           | true=>by_cases e:z1=(k:Int);exact .inr (.inr (.inl ⟨h0,rfl,e⟩));exact .inr (.inr (.inr ⟨h0,rfl,e⟩))
         rcases hcase with h0|⟨h0,h1⟩|⟨h0,h1,h2⟩|⟨h0,h1,h2⟩
         ·have YC:Hid (tQ h k o=[]):=by show _ = _;rw[aag.out,au (λe=>absurd e.1 (by omega))]
          have Jn:Hid (cur++tQ h k o=cur):=by show _ = _;rw[YC.out,jh]
          have hz0:¬(0<=z1):=by omega
          clear h0;have kc:=(Kc.out).cell QC.out;obtain⟨A9,c9,e9,sI⟩:=id (OC.out).cell.1;injection e9 with e1 e2 e3;subst e1 e3;clear e2;obtain⟨b9,Z7,e9,abq,sI⟩:=sI (by omega);injection e9 with e9;injection e9 with e1 e2;subst e1 e2;have q0:wd.cell? ⟨b',off'+j*3+1,none⟩=some (.int .i64 (kn:Int)):=EZ.out▸sI j o HO.out 1 (by omega);have q1:wd.cell? ⟨b',off'+j*3+2,none⟩=some (.int .i64 o.value):=sI j o HO.out 2 (by omega);have q2:wd.cell? ⟨bo,oo+kn,none⟩=some (.slice Ao order.length co):=(Kc.out).cell HUO.out;have RG:=aa (λV (b:Ext wd V)=>vZ o.value V ((Py.out.ext ((Kc.out).trans b)).1) HO6.out);have HW8:=aa (λV (b:Ext wd V) x=>iH (kn:Int) x V (HH.out.ext ((Kc.out).trans b)) (by omega) (aJ fu.out));have HRW:=aa (Zz.out);have HEX:=aa (Kc.out);have JM:=aa (OC.out);clear sI;go_wp2;go_region_held3 (λV=>V.cell? ⟨b',off'+j*3+1,none⟩=some (.int .i64 (kn:Int))/\V.cell? ⟨b',off'+j*3+2,none⟩=some (.int .i64 o.value)/\V.cell? ⟨bo,oo+kn,none⟩=some (.slice Ao order.length co)) (exact⟨by assumption,by assumption,by assumption⟩) ((first|(go_at_call 186;refine(RG.out _ (af _).drew).mono ?_;rintro e w8 ⟨rfl,rfl⟩)))
          have p0:wd.drew.cell? ⟨b',off'+j*3+1,none⟩=some (.int .i64 (kn:Int)):=q0;have Ir:=aa (show Ext wd wd.drew from (af _).drew);have rV:=aa (HEX.out.trans Ir.out);have sO:=aa (Row.ext HRW.out Ir.out);have wF:=aa (Row.ext JM.out Ir.out);generalize We:wd.drew=we at Ir rV sO wF p0 ⊢;clear We q0 q1 q2;obtain⟨nx,hnx⟩:∃nx,nu order o.value=nx:=⟨_,rfl⟩;have sZ:Hid (l6 h os k o=if 0<=nx/\aI h (kn:Int) nx≠(k:Int) then [⟨(k:Int),aI h (kn:Int) nx,3⟩] else []):=by show _ = _;rw[<-hnx,<-EZ.out];unfold l6;rw[show os.getD o.key.toNat []=order by rw[EZ.out,qM];exact WQ.out]
          rw[hnx];clear hnx;obtain⟨z2,hz2⟩:∃z,aI h (kn:Int) nx=z:=⟨_,rfl⟩;have RF:=aa (HW8.out we Ir.out nx);rw[hz2]at sZ RF;clear hz2;by_cases hn0:0<=nx
          ·by_cases qO:z2=(k:Int)
           ·have hbz:(z2 != (k:Int))=false:=by simp[qO]
            have sG:Hid (l6 h os k o=[]):=by show _ = _;rw[sZ.out,au (λe=>e.2 qO)]
            clear qO;go_wp2_with (go_at_call 69;refine RF.out.mono ?_;rintro e w8 ⟨rfl,rfl⟩)
            go_roundw;case rel=>exact⟨rV.out,j+1,by omega,by go_num,by rw[V5.out,Jn.out,sG.out,jh];exact sO.out,wF.out⟩
            case measure=>simp[intOf];omega
           ·have hbz:(z2 != (k:Int))=true:=by simp[qO]
            have sG:Hid (l6 h os k o=[⟨(k:Int),z2,3⟩]):=by show _ = _;rw[sZ.out,aj ⟨hn0,qO⟩]
            obtain⟨v5,w5,tC,Cv⟩:=yw we.heap.size rfl sO.out (af _) ⟨(k:Int),z2,3⟩ rV.out.size (by omega);have HP5:=aa Cv;have L6:=aa (Cv.2.1 w rV.out (av _));have SV:=aa (wF.out.pushed sO.out (by decide) Cv);have Ca:=aa tC;clear qO tC Cv;go_wp2_with (first|(go_at_call 69;refine RF.out.mono ?_;rintro e w8 ⟨rfl,rfl⟩)|(at_builtin;refine wpList_append_run rfl rfl rfl rfl Ca.out ?_))
            go_roundw;case rel=>exact⟨L6.out,j+1,by omega,by go_num,by rw[V5.out,Jn.out,sG.out];exact HP5.out.1,SV.out⟩
            case measure=>simp[intOf];omega
          ·have sG:Hid (l6 h os k o=[]):=by show _ = _;rw[sZ.out,au (λe=>hn0 e.1)]
           go_wp2;go_roundw;case rel=>exact⟨rV.out,j+1,by omega,by go_num,by rw[V5.out,Jn.out,sG.out,jh];exact sO.out,wF.out⟩
           case measure=>simp[intOf];omega
         ·obtain⟨zn,rfl⟩:=dZ h0;obtain⟨t1,ht1⟩:=ah (show zn<h.length by omega);have hdn:isDone h (zn:Int)=t1.done:=uE ht1;rw[hdn]at h1;have p1:=Kc.out.cell (HHC.out zn t1 ht1);rw[h1]at p1;have hzh:(zn:Int)<(h.length:Int):=by omega
          have YC:Hid (tQ h k o=[]):=by show _ = _;rw[aag.out,au (λe=>by rw[hdn,h1]at e;exact absurd e.2.1 (by decide))]
          have Jn:Hid (cur++tQ h k o=cur):=by show _ = _;rw[YC.out,jh]
          clear ht1 hdn h1;have kc:=(Kc.out).cell QC.out;obtain⟨A9,c9,e9,sI⟩:=id (OC.out).cell.1;injection e9 with e1 e2 e3;subst e1 e3;clear e2;obtain⟨b9,Z7,e9,abq,sI⟩:=sI (by omega);injection e9 with e9;injection e9 with e1 e2;subst e1 e2;have q0:wd.cell? ⟨b',off'+j*3+1,none⟩=some (.int .i64 (kn:Int)):=EZ.out▸sI j o HO.out 1 (by omega);have q1:wd.cell? ⟨b',off'+j*3+2,none⟩=some (.int .i64 o.value):=sI j o HO.out 2 (by omega);have q2:wd.cell? ⟨bo,oo+kn,none⟩=some (.slice Ao order.length co):=(Kc.out).cell HUO.out;have RG:=aa (λV (b:Ext wd V)=>vZ o.value V ((Py.out.ext ((Kc.out).trans b)).1) HO6.out);have HW8:=aa (λV (b:Ext wd V) x=>iH (kn:Int) x V (HH.out.ext ((Kc.out).trans b)) (by omega) (aJ fu.out));have HRW:=aa (Zz.out);have HEX:=aa (Kc.out);have JM:=aa (OC.out);clear sI;go_wp2;go_region_held3 (λV=>V.cell? ⟨b',off'+j*3+1,none⟩=some (.int .i64 (kn:Int))/\V.cell? ⟨b',off'+j*3+2,none⟩=some (.int .i64 o.value)/\V.cell? ⟨bo,oo+kn,none⟩=some (.slice Ao order.length co)) (exact⟨by assumption,by assumption,by assumption⟩) ((first|(go_at_call 186;refine(RG.out _ (af _).drew).mono ?_;rintro e w8 ⟨rfl,rfl⟩)))
          have p0:wd.drew.cell? ⟨b',off'+j*3+1,none⟩=some (.int .i64 (kn:Int)):=q0;have Ir:=aa (show Ext wd wd.drew from (af _).drew);have rV:=aa (HEX.out.trans Ir.out);have sO:=aa (Row.ext HRW.out Ir.out);have wF:=aa (Row.ext JM.out Ir.out);generalize We:wd.drew=we at Ir rV sO wF p0 ⊢;clear We q0 q1 q2;obtain⟨nx,hnx⟩:∃nx,nu order o.value=nx:=⟨_,rfl⟩;have sZ:Hid (l6 h os k o=if 0<=nx/\aI h (kn:Int) nx≠(k:Int) then [⟨(k:Int),aI h (kn:Int) nx,3⟩] else []):=by show _ = _;rw[<-hnx,<-EZ.out];unfold l6;rw[show os.getD o.key.toNat []=order by rw[EZ.out,qM];exact WQ.out]
          rw[hnx];clear hnx;obtain⟨z2,hz2⟩:∃z,aI h (kn:Int) nx=z:=⟨_,rfl⟩;have RF:=aa (HW8.out we Ir.out nx);rw[hz2]at sZ RF;clear hz2;by_cases hn0:0<=nx
          ·by_cases qO:z2=(k:Int)
           ·have hbz:(z2 != (k:Int))=false:=by simp[qO]
            have sG:Hid (l6 h os k o=[]):=by show _ = _;rw[sZ.out,au (λe=>e.2 qO)]
            clear qO;go_wp2_with (go_at_call 69;refine RF.out.mono ?_;rintro e w8 ⟨rfl,rfl⟩)
            go_roundw;case rel=>exact⟨rV.out,j+1,by omega,by go_num,by rw[V5.out,Jn.out,sG.out,jh];exact sO.out,wF.out⟩
            case measure=>simp[intOf];omega
           ·have hbz:(z2 != (k:Int))=true:=by simp[qO]
            have sG:Hid (l6 h os k o=[⟨(k:Int),z2,3⟩]):=by show _ = _;rw[sZ.out,aj ⟨hn0,qO⟩]
            obtain⟨v5,w5,tC,Cv⟩:=yw we.heap.size rfl sO.out (af _) ⟨(k:Int),z2,3⟩ rV.out.size (by omega);have HP5:=aa Cv;have L6:=aa (Cv.2.1 w rV.out (av _));have SV:=aa (wF.out.pushed sO.out (by decide) Cv);have Ca:=aa tC;clear qO tC Cv;go_wp2_with (first|(go_at_call 69;refine RF.out.mono ?_;rintro e w8 ⟨rfl,rfl⟩)|(at_builtin;refine wpList_append_run rfl rfl rfl rfl Ca.out ?_))
            go_roundw;case rel=>exact⟨L6.out,j+1,by omega,by go_num,by rw[V5.out,Jn.out,sG.out];exact HP5.out.1,SV.out⟩
            case measure=>simp[intOf];omega
          ·have sG:Hid (l6 h os k o=[]):=by show _ = _;rw[sZ.out,au (λe=>hn0 e.1)]
           go_wp2;go_roundw;case rel=>exact⟨rV.out,j+1,by omega,by go_num,by rw[V5.out,Jn.out,sG.out,jh];exact sO.out,wF.out⟩
           case measure=>simp[intOf];omega
         ·obtain⟨zn,rfl⟩:=dZ h0;obtain⟨t1,ht1⟩:=ah (show zn<h.length by omega);have hdn:isDone h (zn:Int)=t1.done:=uE ht1;rw[hdn]at h1;have p1:=Kc.out.cell (HHC.out zn t1 ht1);rw[h1]at p1;have hzh:(zn:Int)<(h.length:Int):=by omega
          have YC:Hid (tQ h k o=[]):=by show _ = _;rw[aag.out,au (λe=>e.2.2 h2)]
          have Jn:Hid (cur++tQ h k o=cur):=by show _ = _;rw[YC.out,jh]
          have qO:((zn:Int) != (k:Int))=false:=by simp[h2]
          clear ht1 hdn h1 h2;have kc:=(Kc.out).cell QC.out;obtain⟨A9,c9,e9,sI⟩:=id (OC.out).cell.1;injection e9 with e1 e2 e3;subst e1 e3;clear e2;obtain⟨b9,Z7,e9,abq,sI⟩:=sI (by omega);injection e9 with e9;injection e9 with e1 e2;subst e1 e2;have q0:wd.cell? ⟨b',off'+j*3+1,none⟩=some (.int .i64 (kn:Int)):=EZ.out▸sI j o HO.out 1 (by omega);have q1:wd.cell? ⟨b',off'+j*3+2,none⟩=some (.int .i64 o.value):=sI j o HO.out 2 (by omega);have q2:wd.cell? ⟨bo,oo+kn,none⟩=some (.slice Ao order.length co):=(Kc.out).cell HUO.out;have RG:=aa (λV (b:Ext wd V)=>vZ o.value V ((Py.out.ext ((Kc.out).trans b)).1) HO6.out);have HW8:=aa (λV (b:Ext wd V) x=>iH (kn:Int) x V (HH.out.ext ((Kc.out).trans b)) (by omega) (aJ fu.out));have HRW:=aa (Zz.out);have HEX:=aa (Kc.out);have JM:=aa (OC.out);clear sI;go_wp2;go_region_held3 (λV=>V.cell? ⟨b',off'+j*3+1,none⟩=some (.int .i64 (kn:Int))/\V.cell? ⟨b',off'+j*3+2,none⟩=some (.int .i64 o.value)/\V.cell? ⟨bo,oo+kn,none⟩=some (.slice Ao order.length co)) (exact⟨by assumption,by assumption,by assumption⟩) ((first|(go_at_call 186;refine(RG.out _ (af _).drew).mono ?_;rintro e w8 ⟨rfl,rfl⟩)))
          have p0:wd.drew.cell? ⟨b',off'+j*3+1,none⟩=some (.int .i64 (kn:Int)):=q0;have Ir:=aa (show Ext wd wd.drew from (af _).drew);have rV:=aa (HEX.out.trans Ir.out);have sO:=aa (Row.ext HRW.out Ir.out);have wF:=aa (Row.ext JM.out Ir.out);generalize We:wd.drew=we at Ir rV sO wF p0 ⊢;clear We q0 q1 q2;obtain⟨nx,hnx⟩:∃nx,nu order o.value=nx:=⟨_,rfl⟩;have sZ:Hid (l6 h os k o=if 0<=nx/\aI h (kn:Int) nx≠(k:Int) then [⟨(k:Int),aI h (kn:Int) nx,3⟩] else []):=by show _ = _;rw[<-hnx,<-EZ.out];unfold l6;rw[show os.getD o.key.toNat []=order by rw[EZ.out,qM];exact WQ.out]
          rw[hnx];clear hnx;obtain⟨z2,hz2⟩:∃z,aI h (kn:Int) nx=z:=⟨_,rfl⟩;have RF:=aa (HW8.out we Ir.out nx);rw[hz2]at sZ RF;clear hz2;by_cases hn0:0<=nx
          ·by_cases qO:z2=(k:Int)
           ·have hbz:(z2 != (k:Int))=false:=by simp[qO]
            have sG:Hid (l6 h os k o=[]):=by show _ = _;rw[sZ.out,au (λe=>e.2 qO)]
            clear qO;go_wp2_with (go_at_call 69;refine RF.out.mono ?_;rintro e w8 ⟨rfl,rfl⟩)
            go_roundw;case rel=>exact⟨rV.out,j+1,by omega,by go_num,by rw[V5.out,Jn.out,sG.out,jh];exact sO.out,wF.out⟩
            case measure=>simp[intOf];omega
           ·have hbz:(z2 != (k:Int))=true:=by simp[qO]
            have sG:Hid (l6 h os k o=[⟨(k:Int),z2,3⟩]):=by show _ = _;rw[sZ.out,aj ⟨hn0,qO⟩]
            obtain⟨v5,w5,tC,Cv⟩:=yw we.heap.size rfl sO.out (af _) ⟨(k:Int),z2,3⟩ rV.out.size (by omega);have HP5:=aa Cv;have L6:=aa (Cv.2.1 w rV.out (av _));have SV:=aa (wF.out.pushed sO.out (by decide) Cv);have Ca:=aa tC;clear qO tC Cv;go_wp2_with (first|(go_at_call 69;refine RF.out.mono ?_;rintro e w8 ⟨rfl,rfl⟩)|(at_builtin;refine wpList_append_run rfl rfl rfl rfl Ca.out ?_))
            go_roundw;case rel=>exact⟨L6.out,j+1,by omega,by go_num,by rw[V5.out,Jn.out,sG.out];exact HP5.out.1,SV.out⟩
            case measure=>simp[intOf];omega
          ·have sG:Hid (l6 h os k o=[]):=by show _ = _;rw[sZ.out,au (λe=>hn0 e.1)]
           go_wp2;go_roundw;case rel=>exact⟨rV.out,j+1,by omega,by go_num,by rw[V5.out,Jn.out,sG.out,jh];exact sO.out,wF.out⟩
           case measure=>simp[intOf];omega
         ·obtain⟨zn,rfl⟩:=dZ h0;obtain⟨t1,ht1⟩:=ah (show zn<h.length by omega);have hdn:isDone h (zn:Int)=t1.done:=uE ht1;rw[hdn]at h1;have p1:=Kc.out.cell (HHC.out zn t1 ht1);rw[h1]at p1;have hzh:(zn:Int)<(h.length:Int):=by omega
          have YC:Hid (tQ h k o=[⟨(zn:Int),(k:Int),2⟩]):=by show _ = _;rw[aag.out,aj ⟨h0,by rw[hdn,h1],h2⟩]
          have qO:((zn:Int) != (k:Int))=true:=by simp[h2]
          clear ht1 hdn h1 h2;obtain⟨v4,w4,aaI,hP4⟩:=yw wd.heap.size rfl Zz.out (af _) ⟨(zn:Int),(k:Int),2⟩ Kc.out.size (by omega);obtain⟨aaf,Te⟩:∃aaf,cur++[⟨(zn:Int),(k:Int),2⟩]=aaf:=⟨_,rfl⟩;have Jn:Hid (cur++tQ h k o=aaf):=by show _ = _;rw[YC.out,Te]
          have af0:aaf.length<=2001:=by rw[<-Te];simp;omega
          rw[Te]at hP4;clear Te;have HP4:=aa hP4;have sU:=aa (hP4.2.1 w Kc.out (av _));have aeb:=aa (OC.out.pushed Zz.out (by decide) hP4);have adE:=aa aaI;clear aaI hP4;go_wp2_with (at_builtin;refine wpList_append_run rfl rfl rfl rfl adE.out ?_)
          have kc:=(sU.out).cell QC.out;obtain⟨A9,c9,e9,sI⟩:=id (aeb.out).cell.1;injection e9 with e1 e2 e3;subst e1 e3;clear e2;obtain⟨b9,Z7,e9,abq,sI⟩:=sI (by omega);injection e9 with e9;injection e9 with e1 e2;subst e1 e2;have q0:w4.cell? ⟨b',off'+j*3+1,none⟩=some (.int .i64 (kn:Int)):=EZ.out▸sI j o HO.out 1 (by omega);have q1:w4.cell? ⟨b',off'+j*3+2,none⟩=some (.int .i64 o.value):=sI j o HO.out 2 (by omega);have q2:w4.cell? ⟨bo,oo+kn,none⟩=some (.slice Ao order.length co):=(sU.out).cell HUO.out;have RG:=aa (λV (b:Ext w4 V)=>vZ o.value V ((Py.out.ext ((sU.out).trans b)).1) HO6.out);have HW8:=aa (λV (b:Ext w4 V) x=>iH (kn:Int) x V (HH.out.ext ((sU.out).trans b)) (by omega) (aJ fu.out));have HRW:=aa (HP4.out.1);have HEX:=aa (sU.out);have JM:=aa (aeb.out);clear sI;go_wp2;go_region_held3 (λV=>V.cell? ⟨b',off'+j*3+1,none⟩=some (.int .i64 (kn:Int))/\V.cell? ⟨b',off'+j*3+2,none⟩=some (.int .i64 o.value)/\V.cell? ⟨bo,oo+kn,none⟩=some (.slice Ao order.length co)) (exact⟨by assumption,by assumption,by assumption⟩) ((first|(go_at_call 186;refine(RG.out _ (af _).drew).mono ?_;rintro e w8 ⟨rfl,rfl⟩)))
          have p0:w4.drew.cell? ⟨b',off'+j*3+1,none⟩=some (.int .i64 (kn:Int)):=q0;have Ir:=aa (show Ext w4 w4.drew from (af _).drew);have rV:=aa (HEX.out.trans Ir.out);have sO:=aa (Row.ext HRW.out Ir.out);have wF:=aa (Row.ext JM.out Ir.out);generalize We:w4.drew=we at Ir rV sO wF p0 ⊢;clear We q0 q1 q2;obtain⟨nx,hnx⟩:∃nx,nu order o.value=nx:=⟨_,rfl⟩;have sZ:Hid (l6 h os k o=if 0<=nx/\aI h (kn:Int) nx≠(k:Int) then [⟨(k:Int),aI h (kn:Int) nx,3⟩] else []):=by show _ = _;rw[<-hnx,<-EZ.out];unfold l6;rw[show os.getD o.key.toNat []=order by rw[EZ.out,qM];exact WQ.out]
          rw[hnx];clear hnx;obtain⟨z2,hz2⟩:∃z,aI h (kn:Int) nx=z:=⟨_,rfl⟩;have RF:=aa (HW8.out we Ir.out nx);rw[hz2]at sZ RF;clear hz2;by_cases hn0:0<=nx
          ·by_cases qO:z2=(k:Int)
           ·have hbz:(z2 != (k:Int))=false:=by simp[qO]
            have sG:Hid (l6 h os k o=[]):=by show _ = _;rw[sZ.out,au (λe=>e.2 qO)]
            clear qO;go_wp2_with (go_at_call 69;refine RF.out.mono ?_;rintro e w8 ⟨rfl,rfl⟩)
            go_roundw;case rel=>exact⟨rV.out,j+1,by omega,by go_num,by rw[V5.out,Jn.out,sG.out,jh];exact sO.out,wF.out⟩
            case measure=>simp[intOf];omega
           ·have hbz:(z2 != (k:Int))=true:=by simp[qO]
            have sG:Hid (l6 h os k o=[⟨(k:Int),z2,3⟩]):=by show _ = _;rw[sZ.out,aj ⟨hn0,qO⟩]
            obtain⟨v5,w5,tC,Cv⟩:=yw we.heap.size rfl sO.out (af _) ⟨(k:Int),z2,3⟩ rV.out.size (by omega);have HP5:=aa Cv;have L6:=aa (Cv.2.1 w rV.out (av _));have SV:=aa (wF.out.pushed sO.out (by decide) Cv);have Ca:=aa tC;clear qO tC Cv;go_wp2_with (first|(go_at_call 69;refine RF.out.mono ?_;rintro e w8 ⟨rfl,rfl⟩)|(at_builtin;refine wpList_append_run rfl rfl rfl rfl Ca.out ?_))
            go_roundw;case rel=>exact⟨L6.out,j+1,by omega,by go_num,by rw[V5.out,Jn.out,sG.out];exact HP5.out.1,SV.out⟩
            case measure=>simp[intOf];omega
          ·have sG:Hid (l6 h os k o=[]):=by show _ = _;rw[sZ.out,au (λe=>hn0 e.1)]
           go_wp2;go_roundw;case rel=>exact⟨rV.out,j+1,by omega,by go_num,by rw[V5.out,Jn.out,sG.out,jh];exact sO.out,wF.out⟩
           case measure=>simp[intOf];omega
        ·obtain rfl:j=(mH t.ops).length:=by omega
         have HF:=aa HK.out;clear HK;go_wp2;go_roundw;case rel=>exact⟨hv,k+1,by omega,by go_num,by rw[jC.out];simp only[if_true];rw[<-jM];exact HF.out⟩
         case measure=>simp[intOf];omega
    ·obtain rfl:k=h.length:=by omega
     have hr:=HI.out;rw[<-Jw]at hr;have HR9:=aa hr;have heq:=Zq fu.out YV.out;have hed:∀e∈Rt h os,edgeOk 6 e:=λe he=>by rw[heq]at he;exact JD hlen (xD he)
     have afX:Hid (∀x,x∈KL (Rt h os)↔x∈dN h os):=λx=>by rw[Uk hed,heq]
     have hrl:(Rt h os).length<=2097152:=by have a:=HC3.out;have b:=z8 (os:=os) fu.out h.length;rw[Jw,dw];omega
     have HS:=aa (MQ wr HR9.out.cell.1 hrl);obtain⟨A5,c5,rfl,_⟩:=id hr.cell.1;clear hr HI heq hed hrl;go_wp2_with fail
     refine HS.out.mono ?_;rintro e w6 ⟨v6,rfl,r6,b6⟩;have HR6:=aa r6;obtain⟨A6,c6,rfl,_⟩:=id r6.cell.1;clear r6;go_wp2;go_returns;refine⟨_,_,rfl,HR6.out.low hb.size,afX.out,?_,hb.trans b6⟩
     have:=G5 (Rt h os) 144
     rwa [IK]at this
