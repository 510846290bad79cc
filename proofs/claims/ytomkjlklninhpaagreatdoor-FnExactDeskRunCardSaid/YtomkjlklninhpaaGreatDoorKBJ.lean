/- Lemmas. -/
import Derived.Test.YtomkjlklninhpaaGreatDoorKBH
set_option maxHeartbeats 16000000
set_option maxRecDepth 8000
set_option linter.all false
namespace Go.Proofs.YtomkjlklninhpaaGreatDoor
open Go.RowKit
def jY(h:List aA)(os:List (List Int))(k:Nat):List Edge:=(List.range k).flatMap fun(key:Nat)=>nT h (key:Int) (os.getD key []) ((os.getD key []).length-1)
theorem zN(h:List aA)(os:List (List Int))(k:Nat):jY h os (k+1)=jY h os k++nT h (k:Int) (os.getD k []) ((os.getD k []).length-1):=by unfold jY;rw[List.range_succ,List.flatMap_append];simp
theorem NY(h:List aA)(key:Int)(order:List Int)(m:Nat){x y:Int}(hx:order[m]? =some x)(hy:order[m+1]? =some y):nT h key order (m+1)=nT h key order m++[⟨aB h key x,aB h key y,1⟩]:=by unfold nT;rw[List.range_succ,List.map_append];simp[List.getD,hx,hy]
theorem Ht(h:List aA)(key:Int)(order:List Int)(m:Nat):(nT h key order m).length=m:=by simp[nT]
theorem vL{h:List aA}{os:List (List Int)}(hl:∀k:Nat,(os.getD k []).length<=6):∀k,(jY h os k).length<=k*6
 | 0=>by simp[jY]
 | k+1=>by
   have:=vL (h:=h) hl k
   have h2:=hl k;rw[zN,List.length_append,Ht,Nat.succ_mul];omega
def lJ(h:List aA)(os:List (List Int))(k:Nat):List Edge:=((List.range k).filter fun n=>(h[n]?.map (·.done)).getD false).flatMap fun n=>(kS (opsOf h n)).flatMap (Dj h os n)
def nE(h:List aA)(os:List (List Int))(n:Nat)(l:List aQ)(j:Nat):List Edge:=(l.take j).flatMap (Dj h os n)
theorem Dk{h:List aA}{os:List (List Int)}{k:Nat}{t:aA}(ht:h[k]? =some t):lJ h os (k+1)=lJ h os k++if t.done=true then nE h os k (kS t.ops) (kS t.ops).length else []:=by unfold lJ nE;rw[List.range_succ,List.filter_append,List.flatMap_append,List.take_length];congr 1;rw[List.filter_cons,ht];cases hd:t.done<;>simp[hd,opsOf,ht]
theorem Dz{h:List aA}{os:List (List Int)}{n j:Nat}{l:List aQ}{o:aQ}(ho:l[j]? =some o):nE h os n l (j+1)=nE h os n l j++(qK h n o++kD h os n o):=by unfold nE;rw[ah ho,List.flatMap_append];simp[Dj]
theorem Tk(h:List aA)(os:List (List Int))(n:Nat)(o:aQ):(Dj h os n o).length<=2:=by
 unfold Dj qK kD;rw[List.length_append]
 split<;>split<;>simp
theorem yP(h:List aA)(os:List (List Int))(n:Nat)(l:List aQ):∀j,(nE h os n l j).length<=2*j
 | 0=>by simp[nE]
 | j+1=>by
   have ih:=yP h os n l j
   cases ho:l[j]? with
   | none=>unfold nE at ih ⊢;rw[List.take_add_one,ho];simp only[Option.toList_none,List.append_nil];omega
   | some o=>
     have h2:=Tk h os n o;rw[Dz ho,List.length_append];unfold Dj at h2;omega
theorem x8{h:List aA}{os:List (List Int)}(hok:aC h=true):∀k,(lJ h os k).length<=12*k
 | 0=>by simp[lJ]
 | k+1=>by
   have ih:=x8 (os:=os) hok k
   cases ht:h[k]? with
   | none=>
     have e:lJ h os (k+1)=lJ h os k:=by unfold lJ;rw[List.range_succ,List.filter_append,List.flatMap_append,List.filter_cons,ht];simp
     rw[e];omega
   | some t=>
     rw[Dk ht,List.length_append];have h6:=bU (bY hok (List.mem_of_getElem? ht));have hf:=AA t.ops;have h2:=yP h os k (kS t.ops) (kS t.ops).length;split
     ·omega
     ·simp;omega
theorem Hz(h:List aA)(os:List (List Int)):Px h os=jY h os 3++lJ h os h.length:=rfl
theorem abe{t:aA}(h:bX t=true){o:aQ}(ho:o∈kS t.ops):gH o=true:=by obtain⟨j,hj,_⟩:=Ex.1 ho;exact eT h (List.mem_of_getElem? hj)
def acw(w:World)(h:List aA)(os:List (List Int))(e:Ending)(w':World):Prop:=∃v ds,e=.returned v/\Row 177 3 aR w.heap.size w' v ds/\(∀x,x∈ds↔x∈bZ h os)/\ds.length<=144/\Ext w w'
theorem KR{v u:Value}{h:List aA}{os:List (List Int)}(w:World)(H:gL w v h)(hok:aC h=true)(hu:I2 w u os)(ho:jQ h os) :
 Calls Tryz.prog 111 #[v,u] w (acw w h os):=by
 obtain⟨A,c,rfl⟩:=H.slice;obtain⟨Au,cu,rfl,_⟩:=Ls.slice hu;have HH:=aa H;have HU:=aa hu;have dO:=aa hok;have HOR:=aa ho;have hlen:=aM hok;have hol:os.length=3:=ho.1;have HO:=aa ho.2;have hst:=dZ (T:=83) (by decide);have ac7:=aa (fun W (b:Ext w W)=>rZ W (H.ext b) hok (hu.ext hst b) ho);have h6:∀k:Nat,(os.getD k []).length<=6:=fun k=>by
  rw[List.getD]
  cases e:os[k]? with
  | none=>simp
  | some order=>simp only[Option.getD_some];rw[(ho.2 k order e).length_eq];have:=gJ h (k:Int);omega
 have UK:=aa h6;clear H hok hu ho h6;rw[hol]at HU ac7 ⊢;have HOL:=aa hol;clear hol;obtain⟨bo,oo,rfl,LY,hco⟩:=Ls.cells HU.out (by rw[HOL.out];omega);have HCO:=aa hco;clear hco;go_enter Tryz.func111,Tryz.ntmps111;go_wp2_with fail
 refine(ac7.out _ ((Ext.refl _).alloc _)).mono ?_
 rintro e w1 ⟨rfl,b1⟩;have xw:Hid (Row 177 3 aR w.heap.size w1 (.slice (some ⟨w.heap.size,0,none⟩) 0 0) (jY h os 0)):=Row.ext bT b1;have HB1:Hid (Ext w w1):=((Ext.refl w).alloc _).trans b1;clear b1;go_wp2;go_loopw [5,6] (fun o i wr=>Ext w wr/\∃k:Nat,k<=3/\i=.int .i64 (k:Int)/\Hid (Row 177 3 aR w.heap.size wr o (jY h os k))) (fun _ i _=>3-(intOf i).toNat)
 case atStart=>exact⟨HB1.out,0,by omega,rfl,xw.out⟩
 case round=>
  obtain⟨hb,k,hk,rfl,HI⟩:=hrel;by_cases hlt:k<3
  ·obtain⟨order,hor⟩:=af (show k<os.length by rw[HOL.out];omega);obtain⟨uo,Mx,hP⟩:=HCO.out k order hor;obtain⟨Ao,co,rfl,_⟩:=mo.slice hP;have abk:os.getD k []=order:=by simp[List.getD,hor]
   have h6:=UK.out k;rw[abk]at h6;have O5:=aa (zN h os k);rw[abk]at O5;have HCL:=aa (vL (h:=h) UK.out k);have HUO:=aa Mx;have Nc:=aa hP;have HB:=aa hb;have hki:(k:Int)<3:=by omega
   have adT:(k:Int)<=2:=by omega
   have hd3:decide ((k:Int)<=2)=true:=decide_eq_true (by omega);have hk0:(0:Int)<=(k:Int):=by omega
   have HJ0:=aa (HI.out.app0 (zs:=nT h (k:Int) order 0) (by simp[nT]));clear hor Mx hP abk hb HI;go_wp2;go_loopw [5,7] (fun o i wr=>Ext w wr/\∃j:Nat,j<=order.length-1/\i=.int .i64 (j:Int)/\Hid (Row 177 3 aR w.heap.size wr o (jY h os k++nT h (k:Int) order j))) (fun _ i _=>order.length-1-(intOf i).toNat)
   case atStart=>exact⟨HB.out,0,by omega,rfl,HJ0.out⟩
   case round=>
    obtain⟨hb,j,hj,rfl,HJ⟩:=hrel;have c0:=hb.cell HUO.out;have hwj:IntKind.i64.wrap ((j:Int)+1)=(j:Int)+1:=IntWalk.i64_in _ (by omega);by_cases hjt:j+1<order.length
    ·obtain⟨b3,o3,rfl,hb3,hc3⟩:=mo.cells Nc.out (by omega);obtain⟨x,hx⟩:=af (show j<order.length by omega);obtain⟨y,hy⟩:=af hjt;have k1:=hc3 j x hx;have k2:=hc3 (j+1) y hy;simp only[encI]at k1 k2;have d1:=hb.cell k1;have d2:=hb.cell k2;have HCJ:=aa (NY h (k:Int) order j hx hy);have hcl:=Ht h (k:Int) order j;have ab1:=HCL.out;have HW1:=aa (fun V (b:Ext w V)=>fV (k:Int) x V (HH.out.ext b) (by omega) (aD dO.out));have HW2:=aa (fun V (b:Ext w V)=>fV (k:Int) y V (HH.out.ext b) (by omega) (aD dO.out));obtain⟨z1,hz1⟩:∃z,aB h (k:Int) x=z:=⟨_,rfl⟩;obtain⟨z2,hz2⟩:∃z,aB h (k:Int) y=z:=⟨_,rfl⟩;rw[hz1]at HCJ HW1;rw[hz2]at HCJ HW2;have hJ:=HJ.out;obtain⟨cur,jo⟩:∃cur,cur=jY h os k++nT h (k:Int) order j:=⟨_,rfl⟩;have aeS:cur.length<=2097152:=by rw[jo,List.length_append];omega
     rw[<-jo]at hJ;have HCU:=aa jo;obtain⟨v5,w5,qC,zZ⟩:=vg (w:=wr.drew) wr.heap.size rfl hJ (Ext.refl _).drew ⟨z1,z2,1⟩ hb.size (by omega);have XT:=aa zZ;have e5:=zZ.2.1 w hb (Nat.le_refl _);have e0:=e5.cell HUO.out;have e1:=e5.cell k1;have e2:=e5.cell k2;have Yd:=aa e5;obtain⟨A4,c4,rfl,_⟩:=id hJ.cell.1;have zD:Hid ((Builtin.append_ #[132,132] 132 #[.slice A4 cur.length c4,.slice (some ⟨wr.heap.size,0,none⟩) 1 1]).run Tryz.prog (wr.alloc (.cells #[.int .i64 z1,.int .i64 z2,.int .i64 1] 177)).drew=.ok v5 w5):=qC;have aeM:bo<wr.heap.size:=Nat.lt_of_lt_of_le LY hb.size;have afn:b3<wr.heap.size:=Nat.lt_of_lt_of_le hb3 hb.size;have i1:(j:Int)<(order.length:Int):=by omega
     have i2:(0:Int)<=(j:Int):=by omega
     have i3:(j:Int)+1<(order.length:Int):=by omega
     have i4:(0:Int)<=(j:Int)+1:=by omega
     clear hc3 hx hy qC zZ hz1 hz2 k1 k2 e5 hcl ab1 hJ jo HJ;go_wp2;go_region_held3 (fun W=>W.cell? ⟨bo,oo+k,none⟩=some (.slice (some ⟨b3,o3,none⟩) order.length co)/\W.cell? ⟨b3,o3+j,none⟩=some (.int .i64 x)/\W.cell? ⟨b3,o3+(j+1),none⟩=some (.int .i64 y)) (go_keep) ((first|(go_at_call 49;refine(HW1.out _ hb.drew).mono ?_;clear HW1;rintro e w8 ⟨rfl,rfl⟩)|(go_at_call 49;refine(HW2.out _ hb.drew).mono ?_;rintro e w8 ⟨rfl,rfl⟩)|(refine aJ (by rfl) (by rfl) (by rfl) (by rfl) zD.out ?_)))
     all_goals (
      clear c0 d1 d2 e0 e1 e2 aeM afn;go_wp2;go_roundw;case rel=>exact⟨Yd.out,j+1,by omega,by go_num,by rw[HCJ.out,<-List.append_assoc,<-HCU.out];exact XT.out.1⟩
      case measure=>simp[intOf];omega)
    ·obtain rfl:j=order.length-1:=by omega
     have hji:¬(((order.length-1:Nat):Int)+1<(order.length:Int)):=by omega
     have HF:=aa HJ.out;clear HJ;go_wp2;go_roundw;case rel=>exact⟨hb,k+1,by omega,by go_num,by rw[O5.out];exact HF.out⟩
     case measure=>simp[intOf];omega
  ·obtain rfl:k=3:=by omega
   rw[show ((3:Nat):Int)=3 from rfl];have HB:=aa hb;have HK0:=aa (HI.out.app0 (zs:=lJ h os 0) (by simp[lJ]));have HC3:=aa (vL (h:=h) UK.out 3);clear hlt hk hb HI;go_wp2;go_loopw [5,8] (fun o i wr=>Ext w wr/\∃k:Nat,k<=h.length/\i=.int .i64 (k:Int)/\Hid (Row 177 3 aR w.heap.size wr o (jY h os 3++lJ h os k))) (fun _ i _=>h.length-(intOf i).toNat)
   case atStart=>exact⟨HB.out,0,by omega,rfl,HK0.out⟩
   case round=>
    obtain⟨hb,k,hk,rfl,HI⟩:=hrel;by_cases hlt:k<h.length
    ·obtain⟨b,off,rfl,hbl,hc⟩:=HH.out.head (by omega);obtain⟨t,ht⟩:=af hlt;obtain⟨ov,c0,c1,c2,hs⟩:=hc k t ht;have htk:=bY dO.out (List.mem_of_getElem? ht);have iA:=aa (Dk (os:=os) ht);have HKL:=aa (x8 (os:=os) dO.out k);have Ma:=aa (fun V (b:Ext w V)=>uG t ov V (hs.ext b) htk);unfold ng at Ma;have O0:=aa c2;have HHC:=aa (fun n t' (h':h[n]? =some t')=>(let ⟨_,_,_,q,_⟩:=hc n t' h';q:w.cell? ⟨b,off+n*3+2,none⟩=some (.bool t'.done)));have O8:=aa htk;have hki:(k:Int)<(h.length:Int):=by omega
     have hfl:=AA t.ops;have afE:=bU htk;obtain⟨A4,c4,rfl,_⟩:=id hs;replace c0:=hb.cell c0;replace c1:=hb.cell c1;replace c2:=hb.cell c2;have HB:=aa hb;clear hc ht hs htk hb;go_wp2_with fail
     refine(Ma.out _ HB.out).mono ?_
     rintro e w2 ⟨v2,rfl,r2,b2⟩;obtain⟨A2,c2',rfl,_⟩:=id r2.cell.1;have uP:=aa (HB.out.trans b2);have HR2:=aa (r2.low HB.out.size);have HI2:=aa (Row.ext HI.out b2);have d2:=uP.out.cell O0.out;clear r2 b2 c0 c1 c2 HI
     cases hd:t.done with
     | false=>
       rw[hd]at iA O0 d2;clear hd;go_wp2;go_loopw [5,10] (fun o i wr=>Ext w2 wr/\i=.int .i64 0/\Hid (Row 177 3 aR w.heap.size wr o (jY h os 3++lJ h os k))) (fun _ _ _=>0)
       case atStart=>exact⟨Ext.refl _,rfl,HI2.out⟩
       case round=>
        obtain⟨hv,rfl,HIV⟩:=hrel;have d3:=hv.cell d2
        cases hz:decide ((0:Int)<((kS t.ops).length:Int)) with
        | true=>
          have hz':(0:Int)<((kS t.ops).length:Int):=by simpa using hz
          clear hz;go_wp2;go_roundw;case rel=>exact⟨uP.out.trans hv,k+1,by omega,by go_num,by show Row _ _ _ _ _ _ _;rw[iA.out];simpa using HIV.out⟩
          case measure=>simp[intOf];omega
        | false=>
          have hz':¬((0:Int)<((kS t.ops).length:Int)):=by simpa using hz
          clear hz;go_wp2;go_roundw;case rel=>exact⟨uP.out.trans hv,k+1,by omega,by go_num,by show Row _ _ _ _ _ _ _;rw[iA.out];simpa using HIV.out⟩
          case measure=>simp[intOf];omega
     | true=>
       rw[hd]at iA O0;clear hd d2;have HJ0:=aa (HI2.out.app0 (zs:=nE h os k (kS t.ops) 0) (by simp[nE]));go_wp2;go_loopw [5,10] (fun o i wr=>Ext w wr/\∃j:Nat,j<=(kS t.ops).length/\i=.int .i64 (j:Int)/\Hid (Row 177 3 aR w.heap.size wr o (jY h os 3++lJ h os k++nE h os k (kS t.ops) j))/\Hid (Row 71 3 aj w.heap.size wr (.slice A2 (kS t.ops).length c2') (kS t.ops))) (fun _ i _=>(kS t.ops).length-(intOf i).toNat)
       case atStart=>exact⟨uP.out,0,Nat.zero_le _,rfl,HJ0.out,HR2.out⟩
       case round=>
        obtain⟨hv,j,hj,rfl,HK,HRR⟩:=hrel;have q2:=hv.cell O0.out;by_cases hjt:j<(kS t.ops).length
        ·obtain⟨A',c',hA',hcc⟩:=HRR.out.cell.1;injection hA' with e1 e2 e3;subst e1 e3;clear e2;obtain⟨b',off',rfl,pg,hcc⟩:=hcc (by omega);obtain⟨o,hoj⟩:=af hjt;have xx:=abe O8.out (List.mem_of_getElem? hoj);have hkey:=iB xx;obtain⟨kn,hkn⟩:=Int.eq_ofNat_of_zero_le hkey.1;have afW:kn<3:=by omega
         have q0:wr.cell? ⟨b',off'+j*3+1,none⟩=some (.int .i64 (kn:Int)):=hkn▸hcc j o hoj 1 (by omega);have q1:wr.cell? ⟨b',off'+j*3+2,none⟩=some (.int .i64 o.value):=hcc j o hoj 2 (by omega);have acs:=aa (Dz (h:=h) (os:=os) (n:=k) hoj);obtain⟨cur,jo⟩:∃cur,cur=jY h os 3++lJ h os k++nE h os k (kS t.ops) j:=⟨_,rfl⟩;have UH:Hid (jY h os 3++lJ h os k++nE h os k (kS t.ops) (j+1)=(cur++qK h k o)++kD h os k o):=by show _ = _;rw[acs.out,jo];simp only[List.append_assoc]
         have hKc:=HK.out;rw[<-jo]at hKc;have HKC:=aa hKc;obtain⟨order,hor⟩:=af (show kn<os.length by rw[HOL.out];omega);obtain⟨uo,Mx,hP⟩:=HCO.out kn order hor;obtain⟨Ao,co,rfl,_⟩:=mo.slice hP;have HUO:=aa Mx;have Nc:=aa hP;have V5:Hid (os.getD kn []=order):=by show _ = _;simp[List.getD,hor]
         have HO6:Hid (order.length<=2097152):=by have:=UK.out kn;rw[V5.out]at this;show _<=_;omega
         have El:=aa hkn;have HO:=aa hoj;have hji:(j:Int)<((kS t.ops).length:Int):=by omega
         have hj0:(0:Int)<=(j:Int):=by omega
         have hkl:=HKL.out;have hjl:=yP h os k (kS t.ops) j;have aeK:=HC3.out;have aeS:cur.length<=2000:=by rw[jo];simp only[List.length_append];omega
         have afw:(0:Int)<=(kn:Int):=by omega
         have afO:(kn:Int)<3:=by omega
         have HW1:=aa (fun V (b:Ext w V)=>fV (kn:Int) o.value V (HH.out.ext b) (by omega) (aD dO.out));have adx:=fo (h:=h) (kn:Int) o.value;have aaO:qK h k o=if 0<=aB h (kn:Int) o.value/\isDone h (aB h (kn:Int) o.value)=true/\aB h (kn:Int) o.value≠(k:Int) then [⟨aB h (kn:Int) o.value,(k:Int),2⟩] else []:=by rw[<-hkn];rfl
         obtain⟨z1,hz1⟩:∃z,aB h (kn:Int) o.value=z:=⟨_,rfl⟩;rw[hz1]at HW1 adx aaO;have XN:=aa aaO;have HV:=aa hv;clear hcc hoj xx hkey hkn hor Mx hP hz1 aaO acs jo hKc HK hkl hjl aeK;go_wp2;go_region_held3 (fun V=>V.cell? ⟨b',off'+j*3+1,none⟩=some (.int .i64 (kn:Int))/\V.cell? ⟨b',off'+j*3+2,none⟩=some (.int .i64 o.value)) (exact⟨by assumption,by assumption⟩) ((first|(go_at_call 49;refine(HW1.out _ HV.out.drew).mono ?_;rintro e w8 ⟨rfl,rfl⟩)))
         obtain⟨A5,c5,rfl,_⟩:=id HKC.out.cell.1;have Jd:=aa HV.out.drew;have Zn:=aa (Row.ext HKC.out (Ext.refl wr).drew);have Mf:=aa (Row.ext HRR.out (Ext.refl wr).drew);generalize hwd:wr.drew=wd at Jd Zn Mf ⊢;clear hwd q0 q1 q2;have hcase:z1<0∨(0<=z1/\isDone h z1=false)∨(0<=z1/\isDone h z1=true/\z1=(k:Int))∨(0<=z1/\isDone h z1=true/\z1≠(k:Int)):=by
          rcases Int.lt_or_le z1 0 with h0|h0
          ·exact .inl h0
          ·cases hd:isDone h z1 with
           | false=>exact .inr (.inl ⟨h0,rfl⟩)
           | true=>by_cases e:z1=(k:Int);exact .inr (.inr (.inl ⟨h0,rfl,e⟩));exact .inr (.inr (.inr ⟨h0,rfl,e⟩))
         rcases hcase with h0|⟨h0,h1⟩|⟨h0,h1,h2⟩|⟨h0,h1,h2⟩
         ·have VR:Hid (qK h k o=[]):=by show _ = _;rw[XN.out,if_neg (fun e=>absurd e.1 (by omega))]
          have Cr:Hid (cur++qK h k o=cur):=by show _ = _;rw[VR.out,List.append_nil]
          have hz0:¬(0<=z1):=by omega
          clear h0;have kc:=(Jd.out).cell O0.out;obtain⟨A9,c9,e9,qx⟩:=id (Mf.out).cell.1;injection e9 with e1 e2 e3;subst e1 e3;clear e2;obtain⟨b9,Y1,e9,abj,qx⟩:=qx (by omega);injection e9 with e9;injection e9 with e1 e2;subst e1 e2;have q0:wd.cell? ⟨b',off'+j*3+1,none⟩=some (.int .i64 (kn:Int)):=El.out▸qx j o HO.out 1 (by omega);have q1:wd.cell? ⟨b',off'+j*3+2,none⟩=some (.int .i64 o.value):=qx j o HO.out 2 (by omega);have q2:wd.cell? ⟨bo,oo+kn,none⟩=some (.slice Ao order.length co):=(Jd.out).cell HUO.out;have Pj:=aa (fun V (b:Ext wd V)=>sS o.value V ((Nc.out.ext ((Jd.out).trans b)).1) HO6.out);have HW8:=aa (fun V (b:Ext wd V) x=>fV (kn:Int) x V (HH.out.ext ((Jd.out).trans b)) (by omega) (aD dO.out));have HRW:=aa (Zn.out);have VG:=aa (Jd.out);have Ig:=aa (Mf.out);clear qx;go_wp2;go_region_held3 (fun V=>V.cell? ⟨b',off'+j*3+1,none⟩=some (.int .i64 (kn:Int))/\V.cell? ⟨b',off'+j*3+2,none⟩=some (.int .i64 o.value)/\V.cell? ⟨bo,oo+kn,none⟩=some (.slice Ao order.length co)) (exact⟨by assumption,by assumption,by assumption⟩) ((first|(go_at_call 153;refine(Pj.out _ (Ext.refl _).drew).mono ?_;rintro e w8 ⟨rfl,rfl⟩)))
          have p0:wd.drew.cell? ⟨b',off'+j*3+1,none⟩=some (.int .i64 (kn:Int)):=q0;have Gh:=aa (show Ext wd wd.drew from (Ext.refl _).drew);have qw:=aa (VG.out.trans Gh.out);have pW:=aa (Row.ext HRW.out Gh.out);have uk:=aa (Row.ext Ig.out Gh.out);generalize UO:wd.drew=we at Gh qw pW uk p0 ⊢;clear UO q0 q1 q2;obtain⟨nx,hnx⟩:∃nx,lF order o.value=nx:=⟨_,rfl⟩;have qz:Hid (kD h os k o=if 0<=nx/\aB h (kn:Int) nx≠(k:Int) then [⟨(k:Int),aB h (kn:Int) nx,3⟩] else []):=by show _ = _;rw[<-hnx,<-El.out];unfold kD;rw[show os.getD o.key.toNat []=order by rw[El.out,Int.toNat_natCast];exact V5.out]
          rw[hnx];clear hnx;obtain⟨z2,hz2⟩:∃z,aB h (kn:Int) nx=z:=⟨_,rfl⟩;have L8:=aa (HW8.out we Gh.out nx);rw[hz2]at qz L8;clear hz2;by_cases hn0:0<=nx
          ·by_cases oN:z2=(k:Int)
           ·have hbz:(z2 != (k:Int))=false:=by simp[oN]
            have p8:Hid (kD h os k o=[]):=by show _ = _;rw[qz.out,if_neg (fun e=>e.2 oN)]
            clear oN;go_wp2_with (go_at_call 49;refine L8.out.mono ?_;rintro e w8 ⟨rfl,rfl⟩)
            go_roundw;case rel=>exact⟨qw.out,j+1,by omega,by go_num,by rw[UH.out,Cr.out,p8.out,List.append_nil];exact pW.out,uk.out⟩
            case measure=>simp[intOf];omega
           ·have hbz:(z2 != (k:Int))=true:=by simp[oN]
            have p8:Hid (kD h os k o=[⟨(k:Int),z2,3⟩]):=by show _ = _;rw[qz.out,if_pos ⟨hn0,oN⟩]
            obtain⟨v5,w5,qC,zZ⟩:=vg we.heap.size rfl pW.out (Ext.refl _) ⟨(k:Int),z2,3⟩ qw.out.size (by omega);have XT:=aa zZ;have Yd:=aa (zZ.2.1 w qw.out (Nat.le_refl _));have Qq:=aa (uk.out.pushed pW.out (by decide) zZ);have zD:=aa qC;clear oN qC zZ;go_wp2_with (first|(go_at_call 49;refine L8.out.mono ?_;rintro e w8 ⟨rfl,rfl⟩)|(at_builtin;refine wpList_append_run rfl rfl rfl rfl zD.out ?_))
            go_roundw;case rel=>exact⟨Yd.out,j+1,by omega,by go_num,by rw[UH.out,Cr.out,p8.out];exact XT.out.1,Qq.out⟩
            case measure=>simp[intOf];omega
          ·have p8:Hid (kD h os k o=[]):=by show _ = _;rw[qz.out,if_neg (fun e=>hn0 e.1)]
           go_wp2;go_roundw;case rel=>exact⟨qw.out,j+1,by omega,by go_num,by rw[UH.out,Cr.out,p8.out,List.append_nil];exact pW.out,uk.out⟩
           case measure=>simp[intOf];omega
         ·obtain⟨zn,rfl⟩:=Int.eq_ofNat_of_zero_le h0;obtain⟨t1,ht1⟩:=af (show zn<h.length by omega);have hdn:isDone h (zn:Int)=t1.done:=rW ht1;rw[hdn]at h1;have p1:=Jd.out.cell (HHC.out zn t1 ht1);rw[h1]at p1;have hzh:(zn:Int)<(h.length:Int):=by omega
          have VR:Hid (qK h k o=[]):=by show _ = _;rw[XN.out,if_neg (fun e=>by rw[hdn,h1]at e;exact absurd e.2.1 (by decide))]
          have Cr:Hid (cur++qK h k o=cur):=by show _ = _;rw[VR.out,List.append_nil]
          clear ht1 hdn h1;have kc:=(Jd.out).cell O0.out;obtain⟨A9,c9,e9,qx⟩:=id (Mf.out).cell.1;injection e9 with e1 e2 e3;subst e1 e3;clear e2;obtain⟨b9,Y1,e9,abj,qx⟩:=qx (by omega);injection e9 with e9;injection e9 with e1 e2;subst e1 e2;have q0:wd.cell? ⟨b',off'+j*3+1,none⟩=some (.int .i64 (kn:Int)):=El.out▸qx j o HO.out 1 (by omega);have q1:wd.cell? ⟨b',off'+j*3+2,none⟩=some (.int .i64 o.value):=qx j o HO.out 2 (by omega);have q2:wd.cell? ⟨bo,oo+kn,none⟩=some (.slice Ao order.length co):=(Jd.out).cell HUO.out;have Pj:=aa (fun V (b:Ext wd V)=>sS o.value V ((Nc.out.ext ((Jd.out).trans b)).1) HO6.out);have HW8:=aa (fun V (b:Ext wd V) x=>fV (kn:Int) x V (HH.out.ext ((Jd.out).trans b)) (by omega) (aD dO.out));have HRW:=aa (Zn.out);have VG:=aa (Jd.out);have Ig:=aa (Mf.out);clear qx;go_wp2;go_region_held3 (fun V=>V.cell? ⟨b',off'+j*3+1,none⟩=some (.int .i64 (kn:Int))/\V.cell? ⟨b',off'+j*3+2,none⟩=some (.int .i64 o.value)/\V.cell? ⟨bo,oo+kn,none⟩=some (.slice Ao order.length co)) (exact⟨by assumption,by assumption,by assumption⟩) ((first|(go_at_call 153;refine(Pj.out _ (Ext.refl _).drew).mono ?_;rintro e w8 ⟨rfl,rfl⟩)))
          have p0:wd.drew.cell? ⟨b',off'+j*3+1,none⟩=some (.int .i64 (kn:Int)):=q0;have Gh:=aa (show Ext wd wd.drew from (Ext.refl _).drew);have qw:=aa (VG.out.trans Gh.out);have pW:=aa (Row.ext HRW.out Gh.out);have uk:=aa (Row.ext Ig.out Gh.out);generalize UO:wd.drew=we at Gh qw pW uk p0 ⊢;clear UO q0 q1 q2;obtain⟨nx,hnx⟩:∃nx,lF order o.value=nx:=⟨_,rfl⟩;have qz:Hid (kD h os k o=if 0<=nx/\aB h (kn:Int) nx≠(k:Int) then [⟨(k:Int),aB h (kn:Int) nx,3⟩] else []):=by show _ = _;rw[<-hnx,<-El.out];unfold kD;rw[show os.getD o.key.toNat []=order by rw[El.out,Int.toNat_natCast];exact V5.out]
          rw[hnx];clear hnx;obtain⟨z2,hz2⟩:∃z,aB h (kn:Int) nx=z:=⟨_,rfl⟩;have L8:=aa (HW8.out we Gh.out nx);rw[hz2]at qz L8;clear hz2;by_cases hn0:0<=nx
          ·by_cases oN:z2=(k:Int)
           ·have hbz:(z2 != (k:Int))=false:=by simp[oN]
            have p8:Hid (kD h os k o=[]):=by show _ = _;rw[qz.out,if_neg (fun e=>e.2 oN)]
            clear oN;go_wp2_with (go_at_call 49;refine L8.out.mono ?_;rintro e w8 ⟨rfl,rfl⟩)
            go_roundw;case rel=>exact⟨qw.out,j+1,by omega,by go_num,by rw[UH.out,Cr.out,p8.out,List.append_nil];exact pW.out,uk.out⟩
            case measure=>simp[intOf];omega
           ·have hbz:(z2 != (k:Int))=true:=by simp[oN]
            have p8:Hid (kD h os k o=[⟨(k:Int),z2,3⟩]):=by show _ = _;rw[qz.out,if_pos ⟨hn0,oN⟩]
            obtain⟨v5,w5,qC,zZ⟩:=vg we.heap.size rfl pW.out (Ext.refl _) ⟨(k:Int),z2,3⟩ qw.out.size (by omega);have XT:=aa zZ;have Yd:=aa (zZ.2.1 w qw.out (Nat.le_refl _));have Qq:=aa (uk.out.pushed pW.out (by decide) zZ);have zD:=aa qC;clear oN qC zZ;go_wp2_with (first|(go_at_call 49;refine L8.out.mono ?_;rintro e w8 ⟨rfl,rfl⟩)|(at_builtin;refine wpList_append_run rfl rfl rfl rfl zD.out ?_))
            go_roundw;case rel=>exact⟨Yd.out,j+1,by omega,by go_num,by rw[UH.out,Cr.out,p8.out];exact XT.out.1,Qq.out⟩
            case measure=>simp[intOf];omega
          ·have p8:Hid (kD h os k o=[]):=by show _ = _;rw[qz.out,if_neg (fun e=>hn0 e.1)]
           go_wp2;go_roundw;case rel=>exact⟨qw.out,j+1,by omega,by go_num,by rw[UH.out,Cr.out,p8.out,List.append_nil];exact pW.out,uk.out⟩
           case measure=>simp[intOf];omega
         ·obtain⟨zn,rfl⟩:=Int.eq_ofNat_of_zero_le h0;obtain⟨t1,ht1⟩:=af (show zn<h.length by omega);have hdn:isDone h (zn:Int)=t1.done:=rW ht1;rw[hdn]at h1;have p1:=Jd.out.cell (HHC.out zn t1 ht1);rw[h1]at p1;have hzh:(zn:Int)<(h.length:Int):=by omega
          have VR:Hid (qK h k o=[]):=by show _ = _;rw[XN.out,if_neg (fun e=>e.2.2 h2)]
          have Cr:Hid (cur++qK h k o=cur):=by show _ = _;rw[VR.out,List.append_nil]
          have oN:((zn:Int) != (k:Int))=false:=by simp[h2]
          clear ht1 hdn h1 h2;have kc:=(Jd.out).cell O0.out;obtain⟨A9,c9,e9,qx⟩:=id (Mf.out).cell.1;injection e9 with e1 e2 e3;subst e1 e3;clear e2;obtain⟨b9,Y1,e9,abj,qx⟩:=qx (by omega);injection e9 with e9;injection e9 with e1 e2;subst e1 e2;have q0:wd.cell? ⟨b',off'+j*3+1,none⟩=some (.int .i64 (kn:Int)):=El.out▸qx j o HO.out 1 (by omega);have q1:wd.cell? ⟨b',off'+j*3+2,none⟩=some (.int .i64 o.value):=qx j o HO.out 2 (by omega);have q2:wd.cell? ⟨bo,oo+kn,none⟩=some (.slice Ao order.length co):=(Jd.out).cell HUO.out;have Pj:=aa (fun V (b:Ext wd V)=>sS o.value V ((Nc.out.ext ((Jd.out).trans b)).1) HO6.out);have HW8:=aa (fun V (b:Ext wd V) x=>fV (kn:Int) x V (HH.out.ext ((Jd.out).trans b)) (by omega) (aD dO.out));have HRW:=aa (Zn.out);have VG:=aa (Jd.out);have Ig:=aa (Mf.out);clear qx;go_wp2;go_region_held3 (fun V=>V.cell? ⟨b',off'+j*3+1,none⟩=some (.int .i64 (kn:Int))/\V.cell? ⟨b',off'+j*3+2,none⟩=some (.int .i64 o.value)/\V.cell? ⟨bo,oo+kn,none⟩=some (.slice Ao order.length co)) (exact⟨by assumption,by assumption,by assumption⟩) ((first|(go_at_call 153;refine(Pj.out _ (Ext.refl _).drew).mono ?_;rintro e w8 ⟨rfl,rfl⟩)))
          have p0:wd.drew.cell? ⟨b',off'+j*3+1,none⟩=some (.int .i64 (kn:Int)):=q0;have Gh:=aa (show Ext wd wd.drew from (Ext.refl _).drew);have qw:=aa (VG.out.trans Gh.out);have pW:=aa (Row.ext HRW.out Gh.out);have uk:=aa (Row.ext Ig.out Gh.out);generalize UO:wd.drew=we at Gh qw pW uk p0 ⊢;clear UO q0 q1 q2;obtain⟨nx,hnx⟩:∃nx,lF order o.value=nx:=⟨_,rfl⟩;have qz:Hid (kD h os k o=if 0<=nx/\aB h (kn:Int) nx≠(k:Int) then [⟨(k:Int),aB h (kn:Int) nx,3⟩] else []):=by show _ = _;rw[<-hnx,<-El.out];unfold kD;rw[show os.getD o.key.toNat []=order by rw[El.out,Int.toNat_natCast];exact V5.out]
          rw[hnx];clear hnx;obtain⟨z2,hz2⟩:∃z,aB h (kn:Int) nx=z:=⟨_,rfl⟩;have L8:=aa (HW8.out we Gh.out nx);rw[hz2]at qz L8;clear hz2;by_cases hn0:0<=nx
          ·by_cases oN:z2=(k:Int)
           ·have hbz:(z2 != (k:Int))=false:=by simp[oN]
            have p8:Hid (kD h os k o=[]):=by show _ = _;rw[qz.out,if_neg (fun e=>e.2 oN)]
            clear oN;go_wp2_with (go_at_call 49;refine L8.out.mono ?_;rintro e w8 ⟨rfl,rfl⟩)
            go_roundw;case rel=>exact⟨qw.out,j+1,by omega,by go_num,by rw[UH.out,Cr.out,p8.out,List.append_nil];exact pW.out,uk.out⟩
            case measure=>simp[intOf];omega
           ·have hbz:(z2 != (k:Int))=true:=by simp[oN]
            have p8:Hid (kD h os k o=[⟨(k:Int),z2,3⟩]):=by show _ = _;rw[qz.out,if_pos ⟨hn0,oN⟩]
            obtain⟨v5,w5,qC,zZ⟩:=vg we.heap.size rfl pW.out (Ext.refl _) ⟨(k:Int),z2,3⟩ qw.out.size (by omega);have XT:=aa zZ;have Yd:=aa (zZ.2.1 w qw.out (Nat.le_refl _));have Qq:=aa (uk.out.pushed pW.out (by decide) zZ);have zD:=aa qC;clear oN qC zZ;go_wp2_with (first|(go_at_call 49;refine L8.out.mono ?_;rintro e w8 ⟨rfl,rfl⟩)|(at_builtin;refine wpList_append_run rfl rfl rfl rfl zD.out ?_))
            go_roundw;case rel=>exact⟨Yd.out,j+1,by omega,by go_num,by rw[UH.out,Cr.out,p8.out];exact XT.out.1,Qq.out⟩
            case measure=>simp[intOf];omega
          ·have p8:Hid (kD h os k o=[]):=by show _ = _;rw[qz.out,if_neg (fun e=>hn0 e.1)]
           go_wp2;go_roundw;case rel=>exact⟨qw.out,j+1,by omega,by go_num,by rw[UH.out,Cr.out,p8.out,List.append_nil];exact pW.out,uk.out⟩
           case measure=>simp[intOf];omega
         ·obtain⟨zn,rfl⟩:=Int.eq_ofNat_of_zero_le h0;obtain⟨t1,ht1⟩:=af (show zn<h.length by omega);have hdn:isDone h (zn:Int)=t1.done:=rW ht1;rw[hdn]at h1;have p1:=Jd.out.cell (HHC.out zn t1 ht1);rw[h1]at p1;have hzh:(zn:Int)<(h.length:Int):=by omega
          have VR:Hid (qK h k o=[⟨(zn:Int),(k:Int),2⟩]):=by show _ = _;rw[XN.out,if_pos ⟨h0,by rw[hdn,h1],h2⟩]
          have oN:((zn:Int) != (k:Int))=true:=by simp[h2]
          clear ht1 hdn h1 h2;obtain⟨v4,w4,ZW,hP4⟩:=vg wd.heap.size rfl Zn.out (Ext.refl _) ⟨(zn:Int),(k:Int),2⟩ Jd.out.size (by omega);obtain⟨YZ,Rp⟩:∃YZ,cur++[⟨(zn:Int),(k:Int),2⟩]=YZ:=⟨_,rfl⟩;have Cr:Hid (cur++qK h k o=YZ):=by show _ = _;rw[VR.out,Rp]
          have afq:YZ.length<=2001:=by rw[<-Rp];simp;omega
          rw[Rp]at hP4;clear Rp;have HP4:=aa hP4;have wV:=aa (hP4.2.1 w Jd.out (Nat.le_refl _));have acY:=aa (Mf.out.pushed Zn.out (by decide) hP4);have adF:=aa ZW;clear ZW hP4;go_wp2_with (at_builtin;refine wpList_append_run rfl rfl rfl rfl adF.out ?_)
          have kc:=(wV.out).cell O0.out;obtain⟨A9,c9,e9,qx⟩:=id (acY.out).cell.1;injection e9 with e1 e2 e3;subst e1 e3;clear e2;obtain⟨b9,Y1,e9,abj,qx⟩:=qx (by omega);injection e9 with e9;injection e9 with e1 e2;subst e1 e2;have q0:w4.cell? ⟨b',off'+j*3+1,none⟩=some (.int .i64 (kn:Int)):=El.out▸qx j o HO.out 1 (by omega);have q1:w4.cell? ⟨b',off'+j*3+2,none⟩=some (.int .i64 o.value):=qx j o HO.out 2 (by omega);have q2:w4.cell? ⟨bo,oo+kn,none⟩=some (.slice Ao order.length co):=(wV.out).cell HUO.out;have Pj:=aa (fun V (b:Ext w4 V)=>sS o.value V ((Nc.out.ext ((wV.out).trans b)).1) HO6.out);have HW8:=aa (fun V (b:Ext w4 V) x=>fV (kn:Int) x V (HH.out.ext ((wV.out).trans b)) (by omega) (aD dO.out));have HRW:=aa (HP4.out.1);have VG:=aa (wV.out);have Ig:=aa (acY.out);clear qx;go_wp2;go_region_held3 (fun V=>V.cell? ⟨b',off'+j*3+1,none⟩=some (.int .i64 (kn:Int))/\V.cell? ⟨b',off'+j*3+2,none⟩=some (.int .i64 o.value)/\V.cell? ⟨bo,oo+kn,none⟩=some (.slice Ao order.length co)) (exact⟨by assumption,by assumption,by assumption⟩) ((first|(go_at_call 153;refine(Pj.out _ (Ext.refl _).drew).mono ?_;rintro e w8 ⟨rfl,rfl⟩)))
          have p0:w4.drew.cell? ⟨b',off'+j*3+1,none⟩=some (.int .i64 (kn:Int)):=q0;have Gh:=aa (show Ext w4 w4.drew from (Ext.refl _).drew);have qw:=aa (VG.out.trans Gh.out);have pW:=aa (Row.ext HRW.out Gh.out);have uk:=aa (Row.ext Ig.out Gh.out);generalize UO:w4.drew=we at Gh qw pW uk p0 ⊢;clear UO q0 q1 q2;obtain⟨nx,hnx⟩:∃nx,lF order o.value=nx:=⟨_,rfl⟩;have qz:Hid (kD h os k o=if 0<=nx/\aB h (kn:Int) nx≠(k:Int) then [⟨(k:Int),aB h (kn:Int) nx,3⟩] else []):=by show _ = _;rw[<-hnx,<-El.out];unfold kD;rw[show os.getD o.key.toNat []=order by rw[El.out,Int.toNat_natCast];exact V5.out]
          rw[hnx];clear hnx;obtain⟨z2,hz2⟩:∃z,aB h (kn:Int) nx=z:=⟨_,rfl⟩;have L8:=aa (HW8.out we Gh.out nx);rw[hz2]at qz L8;clear hz2;by_cases hn0:0<=nx
          ·by_cases oN:z2=(k:Int)
           ·have hbz:(z2 != (k:Int))=false:=by simp[oN]
            have p8:Hid (kD h os k o=[]):=by show _ = _;rw[qz.out,if_neg (fun e=>e.2 oN)]
            clear oN;go_wp2_with (go_at_call 49;refine L8.out.mono ?_;rintro e w8 ⟨rfl,rfl⟩)
            go_roundw;case rel=>exact⟨qw.out,j+1,by omega,by go_num,by rw[UH.out,Cr.out,p8.out,List.append_nil];exact pW.out,uk.out⟩
            case measure=>simp[intOf];omega
           ·have hbz:(z2 != (k:Int))=true:=by simp[oN]
            have p8:Hid (kD h os k o=[⟨(k:Int),z2,3⟩]):=by show _ = _;rw[qz.out,if_pos ⟨hn0,oN⟩]
            obtain⟨v5,w5,qC,zZ⟩:=vg we.heap.size rfl pW.out (Ext.refl _) ⟨(k:Int),z2,3⟩ qw.out.size (by omega);have XT:=aa zZ;have Yd:=aa (zZ.2.1 w qw.out (Nat.le_refl _));have Qq:=aa (uk.out.pushed pW.out (by decide) zZ);have zD:=aa qC;clear oN qC zZ;go_wp2_with (first|(go_at_call 49;refine L8.out.mono ?_;rintro e w8 ⟨rfl,rfl⟩)|(at_builtin;refine wpList_append_run rfl rfl rfl rfl zD.out ?_))
            go_roundw;case rel=>exact⟨Yd.out,j+1,by omega,by go_num,by rw[UH.out,Cr.out,p8.out];exact XT.out.1,Qq.out⟩
            case measure=>simp[intOf];omega
          ·have p8:Hid (kD h os k o=[]):=by show _ = _;rw[qz.out,if_neg (fun e=>hn0 e.1)]
           go_wp2;go_roundw;case rel=>exact⟨qw.out,j+1,by omega,by go_num,by rw[UH.out,Cr.out,p8.out,List.append_nil];exact pW.out,uk.out⟩
           case measure=>simp[intOf];omega
        ·obtain rfl:j=(kS t.ops).length:=by omega
         have HF:=aa HK.out;clear HK;go_wp2;go_roundw;case rel=>exact⟨hv,k+1,by omega,by go_num,by rw[iA.out];simp only[if_true];rw[<-List.append_assoc];exact HF.out⟩
         case measure=>simp[intOf];omega
    ·obtain rfl:k=h.length:=by omega
     have hr:=HI.out;rw[<-Hz]at hr;have HR9:=aa hr;have heq:=X6 dO.out HOR.out;have hed:∀e∈Px h os,edgeOk 6 e:=fun e he=>by rw[heq]at he;exact EW hlen (vG he)
     have aep:Hid (∀x,x∈JI (Px h os)↔x∈bZ h os):=fun x=>by rw[Tg hed,heq]
     have hrl:(Px h os).length<=2097152:=by have a:=HC3.out;have b:=x8 (os:=os) dO.out h.length;rw[Hz,List.length_append];omega
     have HS:=aa (KU wr HR9.out.cell.1 hrl);obtain⟨A5,c5,rfl,_⟩:=id hr.cell.1;clear hr HI heq hed hrl;go_wp2_with fail
     refine HS.out.mono ?_;rintro e w6 ⟨v6,rfl,r6,b6⟩;have ZT:=aa r6;obtain⟨A6,c6,rfl,_⟩:=id r6.cell.1;clear r6;go_wp2;go_returns;refine⟨_,_,rfl,ZT.out.low hb.size,aep.out,?_,hb.trans b6⟩
     have:=FR (Px h os) 144
     rwa [GA]at this
