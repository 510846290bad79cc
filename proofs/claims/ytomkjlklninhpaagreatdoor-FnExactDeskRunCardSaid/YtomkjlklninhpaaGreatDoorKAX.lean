/- Lemmas. -/
import Derived.Test.YtomkjlklninhpaaGreatDoorKAW
set_option maxHeartbeats 16000000
set_option maxRecDepth 8000
set_option linter.all false
namespace Go.Proofs.YtomkjlklninhpaaGreatDoor
open Go.RowKit
def eG(h:List aA)(os:List (List Int))(k:Nat):List Edge:=(List.range k).flatMap fun(key:Nat)=>chainTo h (key:Int) (os.getD key []) ((os.getD key []).length-1)
theorem xX(h:List aA)(os:List (List Int))(k:Nat):eG h os (k+1)=eG h os k++chainTo h (k:Int) (os.getD k []) ((os.getD k []).length-1):=by unfold eG;rw[List.range_succ,List.flatMap_append];simp
theorem KA(h:List aA)(key:Int)(order:List Int)(m:Nat){x y:Int}(hx:order[m]? =some x)(hy:order[m+1]? =some y):chainTo h key order (m+1)=chainTo h key order m++jd h (aB h key x) (aB h key y) 1:=by unfold chainTo;rw[List.range_succ,List.flatMap_append];simp[List.getD,hx,hy]
theorem CJ(h:List aA)(key:Int)(order:List Int):∀m,(chainTo h key order m).length<=m:=fun m=>by
 induction m with
 | zero=>simp[chainTo]
 | succ m ih=>
   unfold chainTo at ih ⊢;rw[List.range_succ,List.flatMap_append,List.length_append]
   have:=sZ h (aB h key (order.getD m 0)) (aB h key (order.getD (m+1) 0)) 1
   simp only[List.flatMap_cons,List.flatMap_nil,List.append_nil];omega
theorem o9{h:List aA}{os:List (List Int)}(hl:∀k:Nat,(os.getD k []).length<=6):∀k,(eG h os k).length<=k*6:=fun k=>by
 induction k with
 | zero=>simp[eG]
 | succ k ih=>
   rw[xX,List.length_append]
   have:=CJ h (k:Int) (os.getD k []) ((os.getD k []).length-1)
   have:=hl k
   omega
def iG(h:List aA)(os:List (List Int))(m:Nat):List Edge:=((aH h).take m).flatMap fun n=>(kS (opsOf h n)).flatMap (iO h os n)
theorem Af{h:List aA}{os:List (List Int)}{m n:Nat}(hn:(aH h)[m]? =some n):iG h os (m+1)=iG h os m++jr h os n (kS (opsOf h n)) (kS (opsOf h n)).length:=by unfold iG jr;rw[ah hn,List.flatMap_append,List.take_length];simp
theorem zT{h:List aA}{os:List (List Int)}{n j:Nat}{l:List aQ}{o:aQ}(ho:l[j]? =some o):jr h os n l (j+1)=jr h os n l j++iO h os n o:=by unfold jr;rw[ah ho,List.flatMap_append];simp
theorem Pq(h:List aA)(os:List (List Int))(n:Nat)(o:aQ):(lZ h os n o).length<=1:=by
 unfold lZ;split
 ·simp
 ·split
  ·exact sZ _ _ _ _
  ·simp
theorem IV(h:List aA)(os:List (List Int))(n:Nat)(o:aQ):(iO h os n o).length<=2:=by unfold iO;rw[List.length_append];have h1:=sZ h (aB h o.key o.value) n 2;have h2:=Pq h os n o;omega
theorem Cz(h:List aA)(os:List (List Int))(n:Nat)(l:List aQ)(j:Nat):(jr h os n l j).length<=j*2:=by
 induction j with
 | zero=>simp[jr]
 | succ j ih=>
   by_cases hj:j<l.length
   ·obtain⟨o,ho⟩:=af hj;rw[zT ho,List.length_append]
    have:=IV h os n o
    omega
   ·unfold jr at ih ⊢;rw[List.take_of_length_le (by omega)]at ih ⊢;omega
theorem raw_eq(h:List aA)(os:List (List Int)):bZ h os=eG h os 3++iG h os (aH h).length:=by unfold bZ eG iG;rw[List.take_length]
theorem jw{n:Nat}{w w':World}(h:Below n w w'){p:Addr}{v:Value}(hp:p.block<n)(hc:w.cell? p=some v):w'.cell? p=some v:=(h.cell hp).trans hc
theorem LB.ext{B base:Nat}{W W':World}{es:List Edge}(h:LB B base W es)(hb:Ext W W'):LB B base W' es:=by obtain⟨v,h1,h2⟩:=h;exact⟨v,(Below.block hb B h1.lt).trans h1,h2.ext hb⟩
theorem Row.VQ{α:Type}{e:TypeId}{m:Nat}{enc:α->Nat->Value}{b0:Nat}{w w':World}{v:Value}{xs:List α}(h:Row e m enc b0 w v xs)(hk:jH w w')(h1:e≠177)(h2:e≠132):Row e m enc b0 w' v xs:=
 h.same fun k hk'=>by
  rcases h.2 with ⟨rfl,_⟩|⟨g,cap,cur,rfl,hb,hg,_⟩
  ·simp[Value.ownBlock]at hk'
  ·simp[Value.ownBlock]at hk';subst hk';exact hk.2 _ _ _ _ hg h1 h2
theorem aF.VQ{α:Type}{T:TypeId}{m:Nat}{enc:α->Nat->Value}{w w':World}{v:Value}{xs:List α}(h:aF m enc w v xs)(hi:iY T w v)(hk:jH w w')(h1:T≠177)(h2:T≠132):aF m enc w' v xs:=by obtain⟨A,c,rfl,hc⟩:=h;refine⟨A,c,rfl,fun hn=>?_⟩;obtain⟨b,off,rfl,hlt,hc⟩:=hc hn;obtain⟨cs,fr,hg⟩:=hi _ _ _ rfl hn;have hb:=hk.2 b cs T fr hg h1 h2;exact⟨b,off,rfl,Nat.lt_of_lt_of_le hlt hk.1,fun i x hx j hj=>by rw[<-hc i x hx j hj];simp only[World.cell?,hb]⟩
theorem om.aa8{h:List aA}{B base:Nat}{w2 W W':World}{es:List Edge}{f t k:Int}(hp:om h B base W es f t k (.returned (.tuple #[])) W')(hb:Ext w2 W)(hs:w2.heap.size=base):Ext w2 W':=by show Below _ _ _;rw[hs];exact Below.trans (by have:Below w2.heap.size w2 W:=hb;rwa [hs]at this) hp.2.2.1
theorem Et{w w':World}(h:Ext w w'){k:Nat}{o:Obj}(hg:w.heap[k]? =some o):w'.heap[k]? =some o:=(Below.block h k (Array.getElem?_eq_some_iff.1 hg).1).trans hg
theorem Br{w w':World}{k:Nat}{cs:Array Value}{T:TypeId}(hk:jH w w')(hg:w.heap[k]? =some (.cells cs T (0,0)))(h1:T≠177)(h2:T≠132):w'.heap[k]? =some (.cells cs T (0,0)):=(hk.2 k cs T _ hg h1 h2).trans hg
theorem zM{w:World}{k i:Nat}{cs:Array Value}{T:TypeId}{v:Value}(hg:w.heap[k]? =some (.cells cs T (0,0)))(hv:cs[i]? =some v):w.cell? ⟨k,i,none⟩=some v:=by simp[World.cell?,hg,hv]
theorem AA(ops:List aQ):(kS ops).length<=ops.length:=zu ops ops.length
theorem vZ{h:List aA}{os:List (List Int)}{L:Nat}(hl:∀n,(opsOf h n).length<=L)(m:Nat):(iG h os m).length<=m*(L*2):=by
 induction m with
 | zero=>simp[iG]
 | succ m ih=>
   by_cases hm:m<(aH h).length
   ·obtain⟨n,hn⟩:=af hm;rw[Af hn,List.length_append,Nat.succ_mul];have h1:=Cz h os n (kS (opsOf h n)) (kS (opsOf h n)).length;have h2:=AA (opsOf h n);have h3:=hl n;omega
   ·unfold iG at ih ⊢;rw[List.take_of_length_le (by omega)]at ih ⊢;rw[Nat.succ_mul];omega
theorem Zh{h:List aA}{os:List (List Int)}(hok:aC h=true)(h6:∀k:Nat,(os.getD k []).length<=6):(bZ h os).length<=2097152:=by
 rw[raw_eq,List.length_append];have h1:=o9 (h:=h) h6 3;have h2:=vZ (h:=h) (os:=os) (L:=1000) (fun n=>by
  unfold opsOf
  cases hn:h[n]? with
  | none=>simp
  | some t=>have:=bU (bY hok (List.mem_of_getElem? hn));simp;omega) (aH h).length
 have h3:=jU h;have h4:=aM hok;omega
theorem EK(A:Option Addr)(c:Nat)(w:World)(hc:c<=9223372036854775807) :
 Calls Tryz.prog 201 #[.slice A 0 c] w fun e w'=>e=.returned (.slice A 0 0)/\Ext w w':=by
 go_enter Tryz.func201,Tryz.ntmps201;go_wp2_with fail
 refine(rV _ _ _ _).mono ?_
 rintro e w1 ⟨rfl,b1⟩;go_wp2_with fail
 refine(uD _ _ _).mono ?_
 rintro e w2 ⟨rfl,rfl⟩;go_wp2_with fail
 refine(qU _ _ _ _ ⟨Nat.zero_le _,hc⟩).mono ?_
 rintro e w3 ⟨rfl,rfl⟩;go_wp2;go_returns;exact⟨rfl,b1⟩
theorem Lx{v u:Value}{h:List aA}{os:List (List Int)}(w:World)(H:gL w v h)(hok:aC h=true)(hu:I2 w u os)(ho:jQ h os) :
 Calls Tryz.prog 166 #[v,u] w fun e w'=>∃u' ds,e=.returned u'/\zK (bZ h os) ds/\aF 3 aR w' u' ds/\Ext w w':=by
 obtain⟨A,c,rfl⟩:=H.slice;obtain⟨Au,cu,rfl,_⟩:=Ls.slice hu;have dO:=aa hok;have HOO:=aa ho;have hlen:=aM hok;have hdl:=jU h;have hol:os.length=3:=ho.1;have h6:∀k:Nat,(os.getD k []).length<=6:=fun k=>by
  cases hk:os[k]? with
  | none=>simp[List.getD,hk]
  | some o=>simp only[List.getD,hk,Option.getD_some];rw[(ho.2 k o hk).length_eq];have:=gJ h (k:Int);omega
 have H6:=aa h6;have b0:Ext w (w.alloc (.cells #[.slice A h.length c] 24)):=(Ext.refl _).alloc _;have HH:=aa (H.ext b0);have HU:=aa (Ls.ext hu (T':=83) (dZ (by decide)) b0);have HB0:=aa b0;have cb:(w.alloc (.cells #[.slice A h.length c] 24)).cell? ⟨w.heap.size,0,none⟩=some (.slice A h.length c):=av rfl;have hbh:w.heap.size<(w.alloc (.cells #[.slice A h.length c] 24)).heap.size:=by simp
 obtain⟨w0,hw0⟩:∃w0,w.alloc (.cells #[.slice A h.length c] 24)=w0:=⟨_,rfl⟩;rw[hw0]at HH HU HB0 cb hbh;obtain⟨bh,aeu⟩:∃bh,w.heap.size=bh:=⟨_,rfl⟩;rw[aeu]at cb hbh;clear H hu ho hok h6 b0;rw[hol]at HU ⊢;go_enter Tryz.func166,Tryz.ntmps166;go_wp2_with fail
 refine(rP _ HH.out dO.out HU.out HOO.out).mono ?_
 rintro e w2 ⟨rfl,b2⟩;have CB:=b2.cell cb;have HBH:=Nat.lt_of_lt_of_le hbh b2.size;have Xc:=aa (HH.out.ext b2);have HU2:=aa (Ls.ext HU.out (T':=83) (dZ (by decide)) b2);have HB2:=aa (HB0.out.trans b2);clear b2 cb hbh HH HU HB0;go_wp2;have hsz:(w2.alloc (.cells #[] 177)).heap.size=w2.heap.size+1:=by simp
 have hL0:LB (w2.heap.size+1) w2.heap.size ((w2.alloc (.cells #[] 177)).alloc (.cells #[.slice (some ⟨w2.heap.size,0,none⟩) 0 0] 132)) (eG h os 0):=by
  refine⟨_,?_,(bT).ext ((Ext.refl _).alloc _)⟩
  have:=Boxed.new (w2.alloc (.cells #[] 177)) 132 (.slice (some ⟨w2.heap.size,0,none⟩) 0 0)
  rw[hsz]at this;exact this
 have HL0:=aa hL0;have hE0:Hid (Ext w2 ((w2.alloc (.cells #[] 177)).alloc (.cells #[.slice (some ⟨w2.heap.size,0,none⟩) 0 0] 132))):=((Ext.refl _).alloc _).alloc _;have hwr:=fun(key value:Int) (w':World) (hb:Ext w2 w')=>rA key value w' (Xc.out.ext hb) dO.out;have HWR:=aa hwr;clear hL0 hsz hwr;obtain⟨base,hbs⟩:∃base,w2.heap.size=base:=⟨_,rfl⟩;have G8:=aa hbs;rw[hbs]at HL0 HBH hE0 ⊢;clear hbs;go_loopw [25] (fun i wr=>Ext w2 wr/\∃k:Nat,k<=3/\i=.int .i64 k/\Hid (LB (base+1) base wr (eG h os k))) (fun i _=>3-(intOf i).toNat)
 case atStart=>exact⟨hE0.out,0,by omega,rfl,HL0.out⟩
 case round=>
  obtain⟨hb,k,hk,rfl,HI⟩:=hrel;by_cases hlt:k<3
  ·have hlt3:(k:Int)<3:=by omega
   obtain⟨bo,oo,rfl,_,hc⟩:=Ls.cells HU2.out (by omega);obtain⟨order,hor⟩:=af (show k<os.length by omega);obtain⟨uo,Mx,hP⟩:=hc k order hor;replace Mx:=hb.cell Mx;obtain⟨Ao,co,rfl,_⟩:=mo.slice hP;have HP:=aa hP;have hod:os.getD k []=order:=by simp[List.getD,hor]
   have hcl:=o9 (h:=h) H6.out k;have h6o:=H6.out k;rw[hod]at h6o;have hnx:=xX h os k;rw[hod]at hnx;have iA:=aa hnx;have HI0:Hid (LB (base+1) base wr (eG h os k++chainTo h (k:Int) order 0)):=by
    show LB _ _ _ _
    simpa[chainTo] using HI.out
   have hb':=hb;obtain⟨wo,rfl⟩:∃wo:World,wo=wr:=⟨_,rfl⟩;clear hc hP hor hod hnx hb HI;go_wp2;go_loopw [9] (fun i wr=>Ext w2 wr/\∃m:Nat,m<=order.length-1/\i=.int .i64 ((m:Int)+1)/\Hid (LB (base+1) base wr (eG h os k++chainTo h (k:Int) order m))) (fun i _=>order.length-(intOf i).toNat)
   case atStart=>exact⟨hb',0,by omega,rfl,HI0.out⟩
   case round=>
    obtain⟨hb,m,hm,rfl,HJ⟩:=hrel;by_cases hmt:m+1<order.length
    ·obtain⟨x,hx⟩:=af (show m<order.length by omega);obtain⟨y,hy⟩:=af hmt;obtain⟨b3,o3,rfl,hb3,hc3⟩:=mo.cells HP.out (by omega);have acR:b3<base:=by have:=G8.out;omega
     have hbd:=hb.drew;have c0:wr.drew.cell? ⟨bh,0,none⟩=some (.slice A h.length c):=hb.cell CB;have c1:wr.drew.cell? ⟨b3,o3+m,none⟩=some (.int .i64 x):=hb.cell (hc3 m x hx);have c2:wr.drew.cell? ⟨b3,o3+(m+1),none⟩=some (.int .i64 y):=hb.cell (hc3 (m+1) y hy);have O5:=aa (KA h (k:Int) order m hx hy);have ab1:=CJ h (k:Int) order m;have hwx:=fo (h:=h) (k:Int) x;have hwy:=fo (h:=h) (k:Int) y;have HWX:=aa (HWR.out (k:Int) x);have HWY:=aa (HWR.out (k:Int) y);obtain⟨zx,hzx⟩:∃z,aB h (k:Int) x=z:=⟨_,rfl⟩;obtain⟨zy,SE⟩:∃z,aB h (k:Int) y=z:=⟨_,rfl⟩;rw[hzx]at hwx O5 HWX;rw[SE]at hwy O5 HWY;have i1:(0:Int)<=(m:Int)+1:=by omega
     have i2:(m:Int)+1<(order.length:Int):=by omega
     have i3:(0:Int)<=(m:Int):=by omega
     have i4:(m:Int)<(order.length:Int):=by omega
     have w1':IntKind.i64.wrap ((m:Int)+1-1)=(m:Int):=by rw[Int.add_sub_cancel];exact IntWalk.i64_in _ (by omega)
     have w2':IntKind.i64.wrap (m:Int)=(m:Int):=IntWalk.i64_in _ (by omega);obtain⟨es,hes⟩:∃es,es=eG h os k++chainTo h (k:Int) order m:=⟨_,rfl⟩;have hel:es.length<=1000:=by rw[hes,List.length_append];omega
     have hJ:=HJ.out;rw[<-hes]at hJ;have HJ1:Hid (LB (base+1) base wr.drew es):=hJ.ext ((Ext.refl _).drew);have yV:=aa hes;have hbw:base<=wr.heap.size:=by rw[<-G8.out];exact hb.size
     clear hc3 hx hy hzx SE HJ hJ hes;go_wp2
     go_region_held3 (fun W=>W.cell? ⟨bh,0,none⟩=some (.slice A h.length c)/\W.cell? ⟨b3,o3+m,none⟩=some (.int .i64 x)/\W.cell? ⟨b3,o3+(m+1),none⟩=some (.int .i64 y)) (exact⟨by assumption,by assumption,by assumption⟩) ((first
      | (go_at_call 197;refine(HWY.out wA bA').mono ?_;rintro e wB ⟨rfl,bB⟩;have bB':=bA'.trans bB;have cB0:=bB.cell cA0;have cB1:=bB.cell cA1;have cB2:=bB.cell cA2;have HJB:=aa (HJA.out.ext bB);have ads:=Nat.le_trans hszA bB.size)
      | (go_at_call 197;refine(HWX.out _ hbd).mono ?_;rintro e wA ⟨rfl,bA⟩;have bA':=hbd.trans bA;have cA0:=bA.cell c0;have cA1:=bA.cell c1;have cA2:=bA.cell c2;have HJA:=aa (HJ1.out.ext bA);have hszA:=Nat.le_trans (show base<=wr.drew.heap.size from hbw) bA.size)
      | (go_at_call 196;refine(sN zx zy 1 wB cB0 (Xc.out.ext bB') HJB.out ads (Nat.le_succ _) hel hlen hwx.2 hwy.2).mono ?_;rintro e wP hPP;obtain⟨rfl,hP1,hP2,hP3⟩:=hPP;have cP0:=jw hP2 (p:=⟨bh,0,none⟩) HBH cB0;have cP1:=jw hP2 (p:=⟨b3,o3+m,none⟩) acR cB1;have cP2:=jw hP2 (p:=⟨b3,o3+(m+1),none⟩) acR cB2)))
     have KO:Hid (Ext w2 wP):=by show Below _ _ _;rw[G8.out];exact Below.trans (by have:Below w2.heap.size w2 wB:=bB';rwa [G8.out]at this) hP2
     have Zc:Hid (LB (base+1) base wP (eG h os k++chainTo h (k:Int) order (m+1))):=by show LB _ _ _ _;rw[O5.out,<-List.append_assoc,<-yV.out];exact hP1
     clear hP1 hP2 hP3 cP0 cP1 cP2 bA bA' cA0 cA1 cA2 HJA hszA bB bB' cB0 cB1 cB2 HJB ads c0 c1 c2 hbd;go_wp2;go_roundw;case rel=>exact⟨KO.out,m+1,by omega,by go_num,Zc.out⟩
     case measure=>simp[intOf];omega
    ·obtain rfl:m=order.length-1:=by omega
     have hj:=HJ.out;rw[<-iA.out]at hj;have HJ':=aa hj;have hnl:¬(((order.length-1:Nat):Int)+1<(order.length:Int)):=by omega
     clear hj HJ;go_wp2;go_roundw;case rel=>exact⟨hb,k+1,by omega,by go_num,HJ'.out⟩
     case measure=>simp[intOf];omega
  ·obtain rfl:k=3:=by omega
   have c0:wr.cell? ⟨bh,0,none⟩=some (.slice A h.length c):=hb.cell CB;go_wp2_with fail
   refine(rJ _ (Xc.out.ext hb) (by omega)).mono ?_
   rintro e w3 ⟨vd,rfl,rd,b3⟩;have RD:=aa rd;obtain⟨Ad,cd,rfl,_⟩:=id rd.cell.1;have HI3:Hid (LB (base+1) base w3 (eG h os 3++iG h os 0)):=by
    show LB _ _ _ _
    simpa[iG] using HI.out.ext b3
   have HB3:=aa (hb.trans b3);rw[show ((3:Nat):Int)=3 from rfl];clear rd b3 c0 hb HI;go_wp2;go_loopw [57] (fun i wr=>Ext w2 wr/\Hid (jH w3 wr)/\∃m:Nat,m<=(aH h).length/\i=.int .i64 m/\Hid (LB (base+1) base wr (eG h os 3++iG h os m))) (fun i _=>(aH h).length-(intOf i).toNat)
   case atStart=>exact⟨HB3.out,jH.refl _,0,by omega,rfl,HI3.out⟩
   case round=>
    obtain⟨hb,HK,m,hm,rfl,HJ⟩:=hrel;by_cases hmt:m<(aH h).length
    ·obtain⟨n,hn⟩:=af hmt;obtain⟨hnl,hnd⟩:=nK (List.mem_of_getElem? hn);obtain⟨-,bd,Uy,rfl,hbd,hcd⟩:=Er (RD.out.VQ HK.out (by decide) (by decide)) (by omega);have cn:=hcd m n hn;obtain⟨b,off,rfl,hbl,hc⟩:=Xc.out.head (by omega);obtain⟨t,ht⟩:=af hnl;obtain⟨ov,c0,c1,c2,hs⟩:=hc n t ht;replace c0:=hb.cell c0;replace c1:=hb.cell c1;replace c2:=hb.cell c2;have cb:=hb.cell CB;have hto:=bY dO.out (List.mem_of_getElem? ht);have hol:=bU hto;have Uf:=aa hto;have HS:=aa hs;have hnx:=Af (os:=os) hn;rw[dw ht]at hnx;have iA:=aa hnx;clear hn hnd hc ht hs hto hcd hnx;go_wp2_with fail
     refine(Bl t.az t.done _ (HS.out.ext hb) (by omega)).mono ?_
     rintro e w4 ⟨A4,rfl,hs4,ht4,b4⟩;have Ay:=aa (And.intro hs4 ht4);have sH:=aa (hb.trans b4);have HK4:=aa (HK.out.trans (jH.aT b4));have HJ4:Hid (LB (base+1) base w4 (eG h os 3++iG h os m++jr h os n (kS t.ops) 0)):=by
      show LB _ _ _ _
      simpa[jr] using HJ.out.ext b4
     clear hs4 ht4 b4 hb HK HJ c0 c1 c2 cb;obtain⟨wo,rfl⟩:∃wo:World,wo=wr:=⟨_,rfl⟩;have hfl:=AA t.ops;go_wp2;go_loopw [67] (fun i wr=>Ext w2 wr/\Hid (jH w4 wr)/\∃j:Nat,j<=(kS t.ops).length/\i=.int .i64 j/\Hid (LB (base+1) base wr (eG h os 3++iG h os m++jr h os n (kS t.ops) j))) (fun i _=>(kS t.ops).length-(intOf i).toNat)
     case atStart=>exact⟨sH.out,jH.refl _,0,by omega,rfl,HJ4.out⟩
     case round=>
      obtain⟨hb,HK,j,hj,rfl,HL⟩:=hrel;by_cases hjt:j<(kS t.ops).length
      ·obtain⟨o,ho⟩:=af hjt;obtain⟨A5,c5,e5,hcc⟩:=Ay.out.1.VQ Ay.out.2 HK.out (by decide) (by decide);injection e5 with e1 e2 e3;subst e1;clear e2 e3;obtain⟨b',off',rfl,pg,hcc⟩:=hcc (by omega);have xx:gH o=true:=by obtain⟨i,hi,_⟩:=Ex.1 (List.mem_of_getElem? ho);exact eT Uf.out (List.mem_of_getElem? hi)
       have Z8:=iB xx;have d0:wr.cell? ⟨b',off'+j*3,none⟩=some (.int .i64 o.kind):=hcc j o ho 0 (by omega);have d1:wr.cell? ⟨b',off'+j*3+1,none⟩=some (.int .i64 o.key):=hcc j o ho 1 (by omega);have d2:wr.cell? ⟨b',off'+j*3+2,none⟩=some (.int .i64 o.value):=hcc j o ho 2 (by omega);have UG:=aa (zT (h:=h) (os:=os) (n:=n) ho);have hg0:(wr.alloc (.cells #[.int .i64 o.kind,.int .i64 o.key,.int .i64 o.value] 71)).heap[wr.heap.size]? =some (.cells #[.int .i64 o.kind,.int .i64 o.key,.int .i64 o.value] 71 (0,0)):=World.alloc_heap_new wr _;have hEa:Ext wr (wr.alloc (.cells #[.int .i64 o.kind,.int .i64 o.key,.int .i64 o.value] 71)):=(Ext.refl _).alloc _;have hba:=hb.trans hEa;have ca:=hba.cell CB;have hwz:=fo (h:=h) o.key o.value;have HW:=aa (HWR.out o.key o.value _ hba);obtain⟨z,hz⟩:∃z,aB h o.key o.value=z:=⟨_,rfl⟩;rw[hz]at hwz HW;have HZ:=aa hz;have PE:(n:Int)<(h.length:Int):=by omega
       have HKa:=aa (HK.out.trans (jH.aT hEa));obtain⟨es,hes⟩:∃es,es=eG h os 3++iG h os m++jr h os n (kS t.ops) j:=⟨_,rfl⟩;have hel:es.length<=999:=by
        have q1:=o9 (h:=h) H6.out 3;have q2:=vZ (h:=h) (os:=os) (L:=6) (fun n=>by
         unfold opsOf
         cases hn:h[n]? with
         | none=>simp
         | some t=>have:=bU (bY dO.out (List.mem_of_getElem? hn));simpa using this) m
        have q3:=Cz h os n (kS t.ops) j;have q4:=AA t.ops;rw[hes,List.length_append,List.length_append];omega
       have hL1:=HL.out.ext hEa;rw[<-hes]at hL1;have Zc:=aa hL1;have yV:=aa hes;have hbw:base<=wr.heap.size:=by rw[<-G8.out];exact hb.size
       have UN:=aa hg0;clear hcc ho xx hz hL1 hes HL HK hg0;go_wp2_with fail
       refine HW.out.mono ?_;rintro e wB ⟨rfl,bB⟩;have hbB:=hba.trans bB;have cB:=hbB.cell CB;go_wp2_with fail
       refine(sN z n 2 wB cB (Xc.out.ext hbB) (Zc.out.ext bB) (Nat.le_trans hbw (hEa.trans bB).size) (Nat.le_succ _) (by omega) hlen hwz.2 PE).mono ?_
       rintro e wP hPP;obtain⟨rfl,hP1,hP2,hP3⟩:=id hPP;obtain⟨kk,hkk⟩:=Int.eq_ofNat_of_zero_le Z8.1;have HKK:=aa hkk;have hk3:kk<os.length:=by omega
       obtain⟨order,hor⟩:=af hk3;obtain⟨bo,oo,rfl,_,hco⟩:=Ls.cells HU2.out (by omega);obtain⟨uo,Mx,hPo⟩:=hco kk order hor;obtain⟨Ao,co,rfl,_⟩:=mo.slice hPo;have HOR:=aa hPo;have LX:Hid (o.key.toNat=kk):=by show _ = _;omega
       have HOD:Hid (os.getD kk []=order):=by show _ = _;simp[List.getD,hor]
       have h6o:order.length<=6:=by rw[<-HOD.out];exact H6.out kk
       have hbP:=hPP.aa8 hbB G8.out;have cuP:=hbP.cell Mx;have cbW:=jw hP2 (p:=⟨bh,0,none⟩) HBH cB;have GB:wB.heap[wr.heap.size]? =some (.cells #[.int .i64 o.kind,.int .i64 o.key,.int .i64 o.value] 71 (0,0)):=Et bB UN.out;have GW:=Br hP3 GB (by decide) (by decide);have kW1:wP.cell? ⟨wr.heap.size,1,none⟩=some (.int .i64 (kk:Int)):=zM GW (by rw[hkk];rfl);have kW2:wP.cell? ⟨wr.heap.size,2,none⟩=some (.int .i64 o.value):=zM GW rfl;have Vy:Hid (jH w4 wP):=HKa.out.trans ((jH.aT bB).trans hP3);have LBW:=aa hP1;have acg:(es++jd h z n 2).length<=1000:=by have:=sZ h z n 2;rw[List.length_append];omega
       have hbW:=hbP;have i1:(kk:Int)<3:=by omega
       have afR:(kk:Int)<((3:Nat):Int):=by omega
       clear hP1 hP2 hP3 hPP bB hbB cB GB hPo hco hor hkk hba ca hEa;by_cases hv0:o.value=0
       ·have hvz:(o.value != 0)=false:=by simp[hv0]
        have Zu:Hid (kE order o.value=some 0):=by show _ = _;simp[kE,hv0]
        clear hv0;by_cases Pk:0<order.length
        ·obtain⟨y,hy⟩:=af Pk;obtain⟨bz,oz,rfl,hbz,hcz⟩:=mo.cells HOR.out (by omega);have aaW:bz<base:=by have:=G8.out;omega
         have c0:wP.drew.cell? ⟨bh,0,none⟩=some (.slice (some ⟨b,off,none⟩) h.length c):=cbW;have c1:wP.drew.cell? ⟨wr.heap.size,1,none⟩=some (.int .i64 (kk:Int)):=kW1;have c2:wP.drew.cell? ⟨bz,oz,none⟩=some (.int .i64 y):=hbW.cell (by have:=hcz (0) y hy;simpa[encI] using this);have qz:Hid (lZ h os n o=jd h n (aB h (kk:Int) y) 3):=by
          show _ = _;unfold lZ;rw[LX.out,HOD.out,Zu.out];have hgd:order.getD (0) 0=y:=by simp[List.getD,hy]
          simp only[if_pos Pk,hgd,HKK.out]
         have hwy:=fo (h:=h) (kk:Int) y;have hbd:=hbW.drew;have HWY:=aa (HWR.out (kk:Int) y _ hbd);obtain⟨zy,SE⟩:∃z,aB h (kk:Int) y=z:=⟨_,rfl⟩;rw[SE]at hwy HWY qz;have HLd:=aa (LBW.out.ext (Ext.refl wP).drew);have aaj:base<=wP.heap.size:=by rw[<-G8.out];exact hbW.size
         have i4:(0:Int)<(order.length:Int):=by omega
         clear hcz hy SE;go_wp2
         go_region_held3 (fun V=>V.cell? ⟨bh,0,none⟩=some (.slice (some ⟨b,off,none⟩) h.length c)/\V.cell? ⟨wr.heap.size,1,none⟩=some (.int .i64 (kk:Int))/\V.cell? ⟨bz,oz,none⟩=some (.int .i64 y)) (exact⟨by assumption,by assumption,by assumption⟩) ((first
          | (go_at_call 197;refine HWY.out.mono ?_;rintro e wC ⟨rfl,bC⟩;have hbC:=hbd.trans bC;have cC0:=bC.cell c0;have cC1:=bC.cell c1;have cC2:=bC.cell c2;have HLC:=aa (HLd.out.ext bC);have Xn:=Nat.le_trans (show base<=wP.drew.heap.size from aaj) bC.size)
          | (go_at_call 196;refine(sN n zy 3 wC cC0 (Xc.out.ext hbC) HLC.out Xn (Nat.le_succ _) acg hlen PE hwy.2).mono ?_;rintro e wQ hQQ;obtain⟨rfl,hQ1,hQ2,hQ3⟩:=id hQQ;have cQ0:=jw hQ2 (p:=⟨bh,0,none⟩) HBH cC0;have cQ2:=jw hQ2 (p:=⟨bz,oz,none⟩) aaW cC2;have gQ:=Br hQ3 (Et bC (GW:wP.drew.heap[wr.heap.size]? = _)) (by decide) (by decide);have cQ1:wQ.cell? ⟨wr.heap.size,1,none⟩=some (.int .i64 (kk:Int)):=zM gQ (by rw[HKK.out];rfl))))
         have Wo:=aa (hQQ.aa8 hbC G8.out);have HK9:Hid (jH w4 wQ):=Vy.out.trans ((jH.aT ((Ext.refl wP).drew.trans bC)).trans hQ3);have UJ:Hid (LB (base+1) base wQ (eG h os 3++iG h os m++jr h os n (kS t.ops) (j+1))):=by show LB _ _ _ _;rw[UG.out,iO,qz.out,<-List.append_assoc,<-List.append_assoc,<-yV.out,HZ.out];exact hQ1
         clear hQQ hQ1 hQ2 hQ3 cQ0 cQ1 cQ2 gQ hbC cC0 cC1 cC2 HLC Xn bC;go_wp2;go_roundw;case rel=>exact⟨Wo.out,HK9,j+1,hjt,by go_num,UJ.out⟩
         case measure=>simp[intOf];omega
        ·have qz:Hid (lZ h os n o=[]):=by show _ = _;unfold lZ;rw[LX.out,HOD.out,Zu.out];simp[Pk]
         have i4:¬((0:Int)<(order.length:Int)):=by omega
         have UJ:Hid (LB (base+1) base wP (eG h os 3++iG h os m++jr h os n (kS t.ops) (j+1))):=by show LB _ _ _ _;rw[UG.out,iO,qz.out,List.append_nil,<-List.append_assoc,<-yV.out,HZ.out];exact LBW.out
         go_wp2;go_roundw;case rel=>exact⟨hbW,Vy,j+1,hjt,by go_num,UJ.out⟩
         case measure=>simp[intOf];omega
       ·have hvz:(o.value != 0)=true:=by simpa using hv0
        cases hfi:order.findIdx? (·==o.value) with
        | none=>
          have hix:idxOf order o.value=-1:=by simp[idxOf,hfi]
          have qz:Hid (lZ h os n o=[]):=by show _ = _;unfold lZ;rw[LX.out,HOD.out,show kE order o.value=none by simp[kE,hv0,hfi]]
          have UJ:Hid (LB (base+1) base wP (eG h os 3++iG h os m++jr h os n (kS t.ops) (j+1))):=by show LB _ _ _ _;rw[UG.out,iO,qz.out,List.append_nil,<-List.append_assoc,<-yV.out,HZ.out];exact LBW.out
          clear hv0 hfi;go_wp2_with fail
          refine(qY o.value _ (mo.ext HOR.out hbP).1 (by omega)).mono ?_
          rw[hix];rintro e wI ⟨rfl,bI⟩;go_wp2;go_roundw;case rel=>exact⟨hbP.trans bI,Vy.out.trans (jH.aT bI),j+1,hjt,by go_num,UJ.out.ext bI⟩
          case measure=>simp[intOf];omega
        | some i=>
          have hix:idxOf order o.value=(i:Int):=by simp[idxOf,hfi]
          have Zu:Hid (kE order o.value=some (i+1)):=by show _ = _;simp[kE,hv0,hfi]
          have hil:i<order.length:=by
           have:=List.findIdx?_eq_some_iff_getElem.1 hfi
           exact this.1
          clear hv0 hfi;go_wp2_with fail
          refine(qY o.value _ (mo.ext HOR.out hbP).1 (by omega)).mono ?_
          rw[hix];rintro e wI ⟨rfl,bI⟩;replace hbW:=hbP.trans bI;replace cbW:=bI.cell cbW;replace kW1:=bI.cell kW1;replace GW:=Et bI GW;have hkw:=Vy.out.trans (jH.aT bI);replace Vy:=aa hkw;have Jf:=LBW.out.ext bI;replace LBW:=aa Jf;have hi0:¬((i:Int)<0):=by omega
          clear hkw Jf cuP kW2 hbP;by_cases Pk:(i+1)<order.length
          ·obtain⟨y,hy⟩:=af Pk;obtain⟨bz,oz,rfl,hbz,hcz⟩:=mo.cells HOR.out (by omega);have aaW:bz<base:=by have:=G8.out;omega
           have c0:wI.drew.cell? ⟨bh,0,none⟩=some (.slice (some ⟨b,off,none⟩) h.length c):=cbW;have c1:wI.drew.cell? ⟨wr.heap.size,1,none⟩=some (.int .i64 (kk:Int)):=kW1;have c2:wI.drew.cell? ⟨bz,oz+(i+1),none⟩=some (.int .i64 y):=hbW.cell (by have:=hcz ((i+1)) y hy;simpa[encI] using this);have qz:Hid (lZ h os n o=jd h n (aB h (kk:Int) y) 3):=by
            show _ = _;unfold lZ;rw[LX.out,HOD.out,Zu.out];have hgd:order.getD (i+1) 0=y:=by simp[List.getD,hy]
            simp only[if_pos Pk,hgd,HKK.out]
           have hwy:=fo (h:=h) (kk:Int) y;have hbd:=hbW.drew;have HWY:=aa (HWR.out (kk:Int) y _ hbd);obtain⟨zy,SE⟩:∃z,aB h (kk:Int) y=z:=⟨_,rfl⟩;rw[SE]at hwy HWY qz;have HLd:=aa (LBW.out.ext (Ext.refl wI).drew);have aaj:base<=wI.heap.size:=by rw[<-G8.out];exact hbW.size
           have i4:(i:Int)+1<(order.length:Int):=by omega
           have i5:(0:Int)<=(i:Int)+1:=by omega
           clear hcz hy SE;go_wp2
           go_region_held3 (fun V=>V.cell? ⟨bh,0,none⟩=some (.slice (some ⟨b,off,none⟩) h.length c)/\V.cell? ⟨wr.heap.size,1,none⟩=some (.int .i64 (kk:Int))/\V.cell? ⟨bz,oz+(i+1),none⟩=some (.int .i64 y)) (exact⟨by assumption,by assumption,by assumption⟩) ((first
            | (go_at_call 197;refine HWY.out.mono ?_;rintro e wC ⟨rfl,bC⟩;have hbC:=hbd.trans bC;have cC0:=bC.cell c0;have cC1:=bC.cell c1;have cC2:=bC.cell c2;have HLC:=aa (HLd.out.ext bC);have Xn:=Nat.le_trans (show base<=wI.drew.heap.size from aaj) bC.size)
            | (go_at_call 196;refine(sN n zy 3 wC cC0 (Xc.out.ext hbC) HLC.out Xn (Nat.le_succ _) acg hlen PE hwy.2).mono ?_;rintro e wQ hQQ;obtain⟨rfl,hQ1,hQ2,hQ3⟩:=id hQQ;have cQ0:=jw hQ2 (p:=⟨bh,0,none⟩) HBH cC0;have cQ2:=jw hQ2 (p:=⟨bz,oz+(i+1),none⟩) aaW cC2;have gQ:=Br hQ3 (Et bC (GW:wI.drew.heap[wr.heap.size]? = _)) (by decide) (by decide);have cQ1:wQ.cell? ⟨wr.heap.size,1,none⟩=some (.int .i64 (kk:Int)):=zM gQ (by rw[HKK.out];rfl))))
           have Wo:=aa (hQQ.aa8 hbC G8.out);have HK9:Hid (jH w4 wQ):=Vy.out.trans ((jH.aT ((Ext.refl wI).drew.trans bC)).trans hQ3);have UJ:Hid (LB (base+1) base wQ (eG h os 3++iG h os m++jr h os n (kS t.ops) (j+1))):=by show LB _ _ _ _;rw[UG.out,iO,qz.out,<-List.append_assoc,<-List.append_assoc,<-yV.out,HZ.out];exact hQ1
           clear hQQ hQ1 hQ2 hQ3 cQ0 cQ1 cQ2 gQ hbC cC0 cC1 cC2 HLC Xn bC;go_wp2;go_roundw;case rel=>exact⟨Wo.out,HK9,j+1,hjt,by go_num,UJ.out⟩
           case measure=>simp[intOf];omega
          ·have qz:Hid (lZ h os n o=[]):=by show _ = _;unfold lZ;rw[LX.out,HOD.out,Zu.out];simp[Pk]
           have i4:¬((i:Int)+1<(order.length:Int)):=by omega
           have UJ:Hid (LB (base+1) base wI (eG h os 3++iG h os m++jr h os n (kS t.ops) (j+1))):=by show LB _ _ _ _;rw[UG.out,iO,qz.out,List.append_nil,<-List.append_assoc,<-yV.out,HZ.out];exact LBW.out
           go_wp2;go_roundw;case rel=>exact⟨hbW,Vy,j+1,hjt,by go_num,UJ.out⟩
           case measure=>simp[intOf];omega
      ·obtain rfl:j=(kS t.ops).length:=by omega
       go_wp2;go_roundw;case rel=>exact⟨hb,HK4.out.trans HK.out,m+1,by omega,by go_num,by rw[iA.out,<-List.append_assoc];exact HL.out⟩
       case measure=>simp[intOf];omega
    ·obtain rfl:m=(aH h).length:=by omega
     obtain⟨lv,hO,hR⟩:=HJ.out;have cl:=hO.cell;rw[<-raw_eq]at hR;have hrl:=Zh (os:=os) dO.out H6.out;obtain⟨es,hes⟩:∃es,bZ h os=es:=⟨_,rfl⟩;rw[hes]at hR hrl;have yV:=aa hes;clear hes;have hcap:=hR.cap;have hown:=hR.cell.2;have hsl:=hR.cell.1;have HB:=aa (HB2.out.trans hb);rcases hR.2 with ⟨rfl,h0⟩|⟨g,cap,cur,rfl,hbg,hg,_⟩
     ·obtain⟨A9,c9,e9,_⟩:=id hsl;injection e9 with e1 e2 e3;have hnil:es=[]:=List.eq_nil_of_length_eq_zero e2.symm;have HN:=aa hnil;clear hR hO hsl hown hcap hnil e1 e2 e3 HJ;go_wp2_with fail
      refine(EK _ _ _ (by omega)).mono ?_
      rintro e w9 ⟨rfl,b9⟩;go_wp2;go_returns;exact⟨_,[],rfl,by rw[yV.out,HN.out];exact⟨fun _=>Iff.rfl,Nat.le_refl _⟩,⟨_,_,rfl,fun h=>by simp at h⟩,HB.out.trans b9⟩
     ·have hgl:=(Array.getElem?_eq_some_iff.1 hg).1;have hcp:=hcap _ _ _ rfl;have HSL:=aa hsl;have HOW:=aa hown;clear hR hO hsl hown hcap hg HJ;go_wp2_with fail
      refine(Lu _ HSL.out HOW.out hgl hrl hcp).mono ?_
      rintro e w9 ⟨q,ds,rfl,hd,hs9,ho9⟩;have HD:=aa hd;have HS9:=aa hs9;have Wo:Hid (Ext w w9):=Ext.only HB.out ho9 HOW.out (by have:=G8.out;have:=HB2.out.size;omega);clear hd hs9 ho9;go_wp2;go_returns;exact⟨_,ds,rfl,by rw[yV.out];exact HD.out,HS9.out,Wo.out⟩
