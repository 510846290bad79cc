/- Lemmas. -/
import Derived.Test.YtcdopfdgknglfaaGreatDoorCAJ
set_option maxHeartbeats 16000000
set_option maxRecDepth 8000
set_option linter.all false
namespace Go.Proofs.YtcdopfdgknglfaaGreatDoor
open Go.RowKit
def dw(h:List aF)(os:List (List Int))(k:Nat):List Edge:=(List.range k).flatMap λ(key:Nat)=>chainTo h (key:Int) (os.getD key []) ((os.getD key []).length-1)
theorem sK(h:List aF)(os:List (List Int))(k:Nat):dw h os (k+1)=dw h os k++chainTo h (k:Int) (os.getD k []) ((os.getD k []).length-1):=by unfold dw;rw[kD,kI];simp
theorem Db(h:List aF)(key:Int)(order:List Int)(m:Nat){x y:Int}(hx:order[m]? =some x)(hy:order[m+1]? =some y):chainTo h key order (m+1)=chainTo h key order m++gU h (aQ h key x) (aQ h key y) 1:=by unfold chainTo;rw[kD,kI];simp[List.getD,hx,hy]
theorem xg(h:List aF)(key:Int)(order:List Int):∀m,(chainTo h key order m).length<=m:=λm=>by
 induction m with
 | zero=>simp[chainTo]
 | succ m ih=>
   unfold chainTo at ih ⊢;rw[kD,kI,bN]
   have:=qb h (aQ h key (order.getD m 0)) (aQ h key (order.getD (m+1) 0)) 1
   simp only[qI,List.flatMap_nil,oP];omega
theorem mM{h:List aF}{os:List (List Int)}(hl:∀k:Nat,(os.getD k []).length<=6):∀k,(dw h os k).length<=k*6:=λk=>by
 induction k with
 | zero=>simp[dw]
 | succ k ih=>
   rw[sK,bN]
   have:=xg h (k:Int) (os.getD k []) ((os.getD k []).length-1)
   have:=hl k
   omega
def fB(h:List aF)(os:List (List Int))(m:Nat):List Edge:=((aB h).take m).flatMap λn=>(uD (opsOf h n)).flatMap (fJ h os n)
theorem uW{h:List aF}{os:List (List Int)}{m n:Nat}(hn:(aB h)[m]? =some n):fB h os (m+1)=fB h os m++gF h os n (uD (opsOf h n)) (uD (opsOf h n)).length:=by unfold fB gF;rw[aj hn,kI,bY];simp
theorem uI{h:List aF}{os:List (List Int)}{n j:Nat}{l:List aJ}{o:aJ}(ho:l[j]? =some o):gF h os n l (j+1)=gF h os n l j++fJ h os n o:=by unfold gF;rw[aj ho,kI];simp
theorem GN(h:List aF)(os:List (List Int))(n:Nat)(o:aJ):(overOf h os n o).length<=1:=by
 unfold overOf;split
 ·simp
 ·split
  ·exact qb _ _ _ _
  ·simp
theorem BM(h:List aF)(os:List (List Int))(n:Nat)(o:aJ):(fJ h os n o).length<=2:=by unfold fJ;rw[bN];have h1:=qb h (aQ h o.key o.value) n 2;have h2:=GN h os n o;omega
theorem xw(h:List aF)(os:List (List Int))(n:Nat)(l:List aJ)(j:Nat):(gF h os n l j).length<=j*2:=by
 induction j with
 | zero=>simp[gF]
 | succ j ih=>
   by_cases hj:j<l.length
   ·obtain⟨o,ho⟩:=au hj;rw[uI ho,bN]
    have:=BM h os n o
    omega
   ·unfold gF at ih ⊢;rw[jZ (by omega)]at ih ⊢;omega
theorem raw_eq(h:List aF)(os:List (List Int)):aX h os=dw h os 3++fB h os (aB h).length:=by unfold aX dw fB;rw[bY]
theorem gI{n:Nat}{w w':World}(h:Below n w w'){p:Addr}{v:Value}(hp:p.block<n)(hc:w.cell? p=some v):w'.cell? p=some v:=(h.cell hp).trans hc
theorem LB.ext{B base:Nat}{W W':World}{es:List Edge}(h:LB B base W es)(hb:Ext W W'):LB B base W' es:=by obtain⟨v,h1,h2⟩:=h;exact⟨v,(Below.block hb B h1.lt).trans h1,h2.ext hb⟩
theorem Row.MH{α:Type}{e:TypeId}{m:Nat}{enc:α->Nat->Value}{b0:Nat}{w w':World}{v:Value}{xs:List α}(h:Row e m enc b0 w v xs)(hk:iq w w')(h1:e≠200)(h2:e≠172):Row e m enc b0 w' v xs:=
 h.same λk hk'=>by
  rcases h.2 with ⟨rfl,_⟩|⟨g,cap,cur,rfl,hb,hg,_⟩
  ·simp[Value.ownBlock]at hk'
  ·simp[Value.ownBlock]at hk';subst hk';exact hk.2 _ _ _ _ hg h1 h2
theorem aI.MH{α:Type}{T:TypeId}{m:Nat}{enc:α->Nat->Value}{w w':World}{v:Value}{xs:List α}(h:aI m enc w v xs)(hi:fT T w v)(hk:iq w w')(h1:T≠200)(h2:T≠172):aI m enc w' v xs:=by obtain⟨A,c,rfl,hc⟩:=h;refine⟨A,c,rfl,λhn=>?_⟩;obtain⟨b,off,rfl,hlt,hc⟩:=hc hn;obtain⟨cs,fr,hg⟩:=hi _ _ _ rfl hn;have hb:=hk.2 b cs T fr hg h1 h2;exact⟨b,off,rfl,dJ hlt hk.1,λi x hx j hj=>by rw[<-hc i x hx j hj];simp only[World.cell?,hb]⟩
theorem lS.QY{h:List aF}{B base:Nat}{w2 W W':World}{es:List Edge}{f t k:Int}(hp:lS h B base W es f t k (.returned (.tuple #[])) W')(hb:Ext w2 W)(hs:w2.heap.size=base):Ext w2 W':=by show Below _ _ _;rw[hs];exact Below.trans (by have:Below w2.heap.size w2 W:=hb;rwa [hs]at this) hp.2.2.1
theorem yt{w w':World}(h:Ext w w'){k:Nat}{o:Obj}(hg:w.heap[k]? =some o):w'.heap[k]? =some o:=(Below.block h k (dB.1 hg).1).trans hg
theorem vY{w w':World}{k:Nat}{cs:Array Value}{T:TypeId}(hk:iq w w')(hg:w.heap[k]? =some (.cells cs T (0,0)))(h1:T≠200)(h2:T≠172):w'.heap[k]? =some (.cells cs T (0,0)):=(hk.2 k cs T _ hg h1 h2).trans hg
theorem vo{w:World}{k i:Nat}{cs:Array Value}{T:TypeId}{v:Value}(hg:w.heap[k]? =some (.cells cs T (0,0)))(hv:cs[i]? =some v):w.cell? ⟨k,i,none⟩=some v:=by simp[World.cell?,hg,hv]
theorem D5(ops:List aJ):(uD ops).length<=ops.length:=EW ops ops.length
theorem rM{h:List aF}{os:List (List Int)}{L:Nat}(hl:∀n,(opsOf h n).length<=L)(m:Nat):(fB h os m).length<=m*(L*2):=by
 induction m with
 | zero=>simp[fB]
 | succ m ih=>
   by_cases hm:m<(aB h).length
   ·obtain⟨n,hn⟩:=au hm;rw[uW hn,bN,Nat.succ_mul];have h1:=xw h os n (uD (opsOf h n)) (uD (opsOf h n)).length;have h2:=D5 (opsOf h n);have h3:=hl n;omega
   ·unfold fB at ih ⊢;rw[jZ (by omega)]at ih ⊢;rw[Nat.succ_mul];omega
theorem OZ{h:List aF}{os:List (List Int)}(hok:aH h=true)(h6:∀k:Nat,(os.getD k []).length<=6):(aX h os).length<=2097152:=by
 rw[raw_eq,bN];have h1:=mM (h:=h) h6 3;have h2:=rM (h:=h) (os:=os) (L:=1000) (λn=>by
  unfold opsOf
  cases hn:h[n]? with
  | none=>simp
  | some t=>have:=eY (dW hok (aN hn));simp;omega) (aB h).length
 have h3:=jA h;have h4:=aT hok;omega
theorem z8(A:Option Addr)(c:Nat)(w:World)(hc:c<=9223372036854775807) :
 Calls Tryz.prog 208 #[.slice A 0 c] w λe w'=>e=.returned (.slice A 0 0)/\Ext w w':=by
 go_enter Tryz.func208,Tryz.ntmps208;go_wp2_with fail
 refine(oZ _ _ _ _).mono ?_
 rintro e w1 ⟨rfl,b1⟩;go_wp2_with fail
 refine(qB _ _ _).mono ?_
 rintro e w2 ⟨rfl,rfl⟩;go_wp2_with fail
 refine(oC _ _ _ _ ⟨bR _,hc⟩).mono ?_
 rintro e w3 ⟨rfl,rfl⟩;go_wp2;go_returns;exact⟨rfl,b1⟩
theorem Du{v u:Value}{h:List aF}{os:List (List Int)}(w:World)(H:lV w v h)(hok:aH h=true)(hu:I2 w u os)(ho:rE h os) :
 Calls Tryz.prog 170 #[v,u] w λe w'=>∃u' ds,e=.returned u'/\uL (aX h os) ds/\aI 3 bL w' u' ds/\Ext w w':=by
 obtain⟨A,c,rfl⟩:=H.slice;obtain⟨Au,cu,rfl,_⟩:=Ls.slice hu;have jh:=aa hok;have HOO:=aa ho;have hlen:=aT hok;have hdl:=jA h;have hol:os.length=3:=ho.1;have h6:∀k:Nat,(os.getD k []).length<=6:=λk=>by
  cases hk:os[k]? with
  | none=>simp[List.getD,hk]
  | some o=>simp only[List.getD,hk,Option.getD_some];rw[(ho.2 k o hk).length_eq];have:=jd h (k:Int);omega
 have H6:=aa h6;have b0:Ext w (w.alloc (.cells #[.slice A h.length c] 23)):=(af _).alloc _;have HH:=aa (H.ext b0);have HU:=aa (Ls.ext hu (T':=101) (gH (by decide)) b0);have HB0:=aa b0;have cb:(w.alloc (.cells #[.slice A h.length c] 23)).cell? ⟨w.heap.size,0,none⟩=some (.slice A h.length c):=az rfl;have Rz:w.heap.size<(w.alloc (.cells #[.slice A h.length c] 23)).heap.size:=by simp
 obtain⟨w0,hw0⟩:∃w0,w.alloc (.cells #[.slice A h.length c] 23)=w0:=⟨_,rfl⟩;rw[hw0]at HH HU HB0 cb Rz;obtain⟨bh,V4⟩:∃bh,w.heap.size=bh:=⟨_,rfl⟩;rw[V4]at cb Rz;clear H hu ho hok h6 b0;rw[hol]at HU ⊢;go_enter Tryz.func170,Tryz.ntmps170;go_wp2_with fail
 refine(o7 _ HH.out jh.out HU.out HOO.out).mono ?_
 rintro e w2 ⟨rfl,b2⟩;have CB:=b2.cell cb;have TE:=dJ Rz b2.size;have Qy:=aa (HH.out.ext b2);have Zz:=aa (Ls.ext HU.out (T':=101) (gH (by decide)) b2);have HB2:=aa (HB0.out.trans b2);clear b2 cb Rz HH HU HB0;go_wp2;have hsz:(w2.alloc (.cells #[] 200)).heap.size=w2.heap.size+1:=by simp
 have hL0:LB (w2.heap.size+1) w2.heap.size ((w2.alloc (.cells #[] 200)).alloc (.cells #[.slice (some ⟨w2.heap.size,0,none⟩) 0 0] 172)) (dw h os 0):=by
  refine⟨_,?_,(nk).ext ((af _).alloc _)⟩
  have:=Boxed.new (w2.alloc (.cells #[] 200)) 172 (.slice (some ⟨w2.heap.size,0,none⟩) 0 0)
  rw[hsz]at this;exact this
 have QX:=aa hL0;have hE0:Hid (Ext w2 ((w2.alloc (.cells #[] 200)).alloc (.cells #[.slice (some ⟨w2.heap.size,0,none⟩) 0 0] 172))):=((af _).alloc _).alloc _;have hwr:=λ(key value:Int) (w':World) (hb:Ext w2 w')=>oG key value w' (Qy.out.ext hb) jh.out;have TV:=aa hwr;clear hL0 hsz hwr;obtain⟨base,hbs⟩:∃base,w2.heap.size=base:=⟨_,rfl⟩;have GJ:=aa hbs;rw[hbs]at QX TE hE0 ⊢;clear hbs;go_loopw [25] (λi wr=>Ext w2 wr/\∃k:Nat,k<=3/\i=.int .i64 k/\Hid (LB (base+1) base wr (dw h os k))) (λi _=>3-(intOf i).toNat)
 case atStart=>exact⟨hE0.out,0,by omega,rfl,QX.out⟩
 case round=>
  obtain⟨hb,k,hk,rfl,HI⟩:=hrel;by_cases hlt:k<3
  ·have hlt3:(k:Int)<3:=by omega
   obtain⟨bo,oo,rfl,_,hc⟩:=Ls.cells Zz.out (by omega);obtain⟨order,hor⟩:=au (show k<os.length by omega);obtain⟨uo,Qx,hP⟩:=hc k order hor;replace Qx:=hb.cell Qx;obtain⟨Ao,co,rfl,_⟩:=nR.slice hP;have HP:=aa hP;have hod:os.getD k []=order:=by simp[List.getD,hor]
   have hcl:=mM (h:=h) H6.out k;have h6o:=H6.out k;rw[hod]at h6o;have hnx:=sK h os k;rw[hod]at hnx;have lZ:=aa hnx;have HI0:Hid (LB (base+1) base wr (dw h os k++chainTo h (k:Int) order 0)):=by
    show LB _ _ _ _
    simpa[chainTo] using HI.out
   have hb':=hb;obtain⟨wo,rfl⟩:∃wo:World,wo=wr:=⟨_,rfl⟩;clear hc hP hor hod hnx hb HI;go_wp2;go_loopw [9] (λi wr=>Ext w2 wr/\∃m:Nat,m<=order.length-1/\i=.int .i64 ((m:Int)+1)/\Hid (LB (base+1) base wr (dw h os k++chainTo h (k:Int) order m))) (λi _=>order.length-(intOf i).toNat)
   case atStart=>exact⟨hb',0,by omega,rfl,HI0.out⟩
   case round=>
    obtain⟨hb,m,hm,rfl,HJ⟩:=hrel;by_cases hmt:m+1<order.length
    ·obtain⟨x,hx⟩:=au (show m<order.length by omega);obtain⟨y,hy⟩:=au hmt;obtain⟨b3,o3,rfl,hb3,hc3⟩:=nR.cells HP.out (by omega);have Uk:b3<base:=by have:=GJ.out;omega
     have hbd:=hb.drew;have c0:wr.drew.cell? ⟨bh,0,none⟩=some (.slice A h.length c):=hb.cell CB;have c1:wr.drew.cell? ⟨b3,o3+m,none⟩=some (.int .i64 x):=hb.cell (hc3 m x hx);have c2:wr.drew.cell? ⟨b3,o3+(m+1),none⟩=some (.int .i64 y):=hb.cell (hc3 (m+1) y hy);have NN:=aa (Db h (k:Int) order m hx hy);have aag:=xg h (k:Int) order m;have hwx:=eU (h:=h) (k:Int) x;have Pw:=eU (h:=h) (k:Int) y;have Z8:=aa (TV.out (k:Int) x);have Pt:=aa (TV.out (k:Int) y);obtain⟨zx,hzx⟩:∃z,aQ h (k:Int) x=z:=⟨_,rfl⟩;obtain⟨zy,KZ⟩:∃z,aQ h (k:Int) y=z:=⟨_,rfl⟩;rw[hzx]at hwx NN Z8;rw[KZ]at Pw NN Pt;have i1:(0:Int)<=(m:Int)+1:=by omega
     have i2:(m:Int)+1<(order.length:Int):=by omega
     have i3:(0:Int)<=(m:Int):=by omega
     have i4:(m:Int)<(order.length:Int):=by omega
     have w1':IntKind.i64.wrap ((m:Int)+1-1)=(m:Int):=by rw[Int.add_sub_cancel];exact jI _ (by omega)
     have w2':IntKind.i64.wrap (m:Int)=(m:Int):=jI _ (by omega);obtain⟨es,hes⟩:∃es,es=dw h os k++chainTo h (k:Int) order m:=⟨_,rfl⟩;have hel:es.length<=1000:=by rw[hes,bN];omega
     have hJ:=HJ.out;rw[<-hes]at hJ;have HJ1:Hid (LB (base+1) base wr.drew es):=hJ.ext ((af _).drew);have J8:=aa hes;have hbw:base<=wr.heap.size:=by rw[<-GJ.out];exact hb.size
     clear hc3 hx hy hzx KZ HJ hJ hes;go_wp2
     go_region_held3 (λW=>W.cell? ⟨bh,0,none⟩=some (.slice A h.length c)/\W.cell? ⟨b3,o3+m,none⟩=some (.int .i64 x)/\W.cell? ⟨b3,o3+(m+1),none⟩=some (.int .i64 y)) (exact⟨by assumption,by assumption,by assumption⟩) ((first
      | (go_at_call 204;refine(Pt.out wA Yj).mono ?_;rintro e wB ⟨rfl,bB⟩;have Xa:=Yj.trans bB;have cB0:=bB.cell cA0;have cB1:=bB.cell Zw;have cB2:=bB.cell cA2;have HJB:=aa (HJA.out.ext bB);have SH:=aR hszA bB.size)
      | (go_at_call 204;refine(Z8.out _ hbd).mono ?_;rintro e wA ⟨rfl,bA⟩;have Yj:=hbd.trans bA;have cA0:=bA.cell c0;have Zw:=bA.cell c1;have cA2:=bA.cell c2;have HJA:=aa (HJ1.out.ext bA);have hszA:=aR (show base<=wr.drew.heap.size from hbw) bA.size)
      | (go_at_call 203;refine(pW zx zy 1 wB cB0 (Qy.out.ext Xa) HJB.out SH (oq _) hel hlen hwx.2 Pw.2).mono ?_;rintro e wP UZ;obtain⟨rfl,hP1,hP2,hP3⟩:=UZ;have cP0:=gI hP2 (p:=⟨bh,0,none⟩) TE cB0;have cP1:=gI hP2 (p:=⟨b3,o3+m,none⟩) Uk cB1;have cP2:=gI hP2 (p:=⟨b3,o3+(m+1),none⟩) Uk cB2)))
     have Xp:Hid (Ext w2 wP):=by show Below _ _ _;rw[GJ.out];exact Below.trans (by have:Below w2.heap.size w2 wB:=Xa;rwa [GJ.out]at this) hP2
     have Tm:Hid (LB (base+1) base wP (dw h os k++chainTo h (k:Int) order (m+1))):=by show LB _ _ _ _;rw[NN.out,<-jN,<-J8.out];exact hP1
     clear hP1 hP2 hP3 cP0 cP1 cP2 bA Yj cA0 Zw cA2 HJA hszA bB Xa cB0 cB1 cB2 HJB SH c0 c1 c2 hbd;go_wp2;go_roundw;case rel=>exact⟨Xp.out,m+1,by omega,by go_num,Tm.out⟩
     case measure=>simp[intOf];omega
    ·obtain rfl:m=order.length-1:=by omega
     have hj:=HJ.out;rw[<-lZ.out]at hj;have Xt:=aa hj;have hnl:¬(((order.length-1:Nat):Int)+1<(order.length:Int)):=by omega
     clear hj HJ;go_wp2;go_roundw;case rel=>exact⟨hb,k+1,by omega,by go_num,Xt.out⟩
     case measure=>simp[intOf];omega
  ·obtain rfl:k=3:=by omega
   have c0:wr.cell? ⟨bh,0,none⟩=some (.slice A h.length c):=hb.cell CB;go_wp2_with fail
   refine(pg _ (Qy.out.ext hb) (by omega)).mono ?_
   rintro e w3 ⟨vd,rfl,rd,b3⟩;have RD:=aa rd;obtain⟨Ad,cd,rfl,_⟩:=id rd.cell.1;have HI3:Hid (LB (base+1) base w3 (dw h os 3++fB h os 0)):=by
    show LB _ _ _ _
    simpa[fB] using HI.out.ext b3
   have HB3:=aa (hb.trans b3);rw[show ((3:Nat):Int)=3 from rfl];clear rd b3 c0 hb HI;go_wp2;go_loopw [57] (λi wr=>Ext w2 wr/\Hid (iq w3 wr)/\∃m:Nat,m<=(aB h).length/\i=.int .i64 m/\Hid (LB (base+1) base wr (dw h os 3++fB h os m))) (λi _=>(aB h).length-(intOf i).toNat)
   case atStart=>exact⟨HB3.out,iq.refl _,0,by omega,rfl,HI3.out⟩
   case round=>
    obtain⟨hb,HK,m,hm,rfl,HJ⟩:=hrel;by_cases hmt:m<(aB h).length
    ·obtain⟨n,hn⟩:=au hmt;obtain⟨hnl,hnd⟩:=nE (aN hn);obtain⟨-,bd,Kl,rfl,hbd,hcd⟩:=xY (RD.out.MH HK.out (by decide) (by decide)) (by omega);have cn:=hcd m n hn;obtain⟨b,off,rfl,hbl,hc⟩:=Qy.out.head (by omega);obtain⟨t,ht⟩:=au hnl;obtain⟨ov,c0,c1,c2,hs⟩:=hc n t ht;replace c0:=hb.cell c0;replace c1:=hb.cell c1;replace c2:=hb.cell c2;have cb:=hb.cell CB;have hto:=dW jh.out (aN ht);have hol:=eY hto;have UF:=aa hto;have HS:=aa hs;have hnx:=uW (os:=os) hn;rw[dM ht]at hnx;have lZ:=aa hnx;clear hn hnd hc ht hs hto hcd hnx;go_wp2_with fail
     refine(vU t.aD t.done _ (HS.out.ext hb) (by omega)).mono ?_
     rintro e w4 ⟨A4,rfl,hs4,ht4,b4⟩;have GM:=aa (aL hs4 ht4);have Jt:=aa (hb.trans b4);have VR:=aa (HK.out.trans (iq.aO b4));have Uz:Hid (LB (base+1) base w4 (dw h os 3++fB h os m++gF h os n (uD t.ops) 0)):=by
      show LB _ _ _ _
      simpa[gF] using HJ.out.ext b4
     clear hs4 ht4 b4 hb HK HJ c0 c1 c2 cb;obtain⟨wo,rfl⟩:∃wo:World,wo=wr:=⟨_,rfl⟩;have hfl:=D5 t.ops;go_wp2;go_loopw [67] (λi wr=>Ext w2 wr/\Hid (iq w4 wr)/\∃j:Nat,j<=(uD t.ops).length/\i=.int .i64 j/\Hid (LB (base+1) base wr (dw h os 3++fB h os m++gF h os n (uD t.ops) j))) (λi _=>(uD t.ops).length-(intOf i).toNat)
     case atStart=>exact⟨Jt.out,iq.refl _,0,by omega,rfl,Uz.out⟩
     case round=>
      obtain⟨hb,HK,j,hj,rfl,HL⟩:=hrel;by_cases hjt:j<(uD t.ops).length
      ·obtain⟨o,ho⟩:=au hjt;obtain⟨A5,c5,e5,hcc⟩:=GM.out.1.MH GM.out.2 HK.out (by decide) (by decide);injection e5 with e1 e2 e3;subst e1;clear e2 e3;obtain⟨b',off',rfl,DF,hcc⟩:=hcc (by omega);have M7:jm o=true:=by obtain⟨i,hi,_⟩:=JL.1 (aN ho);exact jc UF.out (aN hi)
       have Vl:=jr M7;have d0:wr.cell? ⟨b',off'+j*3,none⟩=some (.int .i64 o.kind):=hcc j o ho 0 (by omega);have d1:wr.cell? ⟨b',off'+j*3+1,none⟩=some (.int .i64 o.key):=hcc j o ho 1 (by omega);have d2:wr.cell? ⟨b',off'+j*3+2,none⟩=some (.int .i64 o.value):=hcc j o ho 2 (by omega);have SQ:=aa (uI (h:=h) (os:=os) (n:=n) ho);have hg0:(wr.alloc (.cells #[.int .i64 o.kind,.int .i64 o.key,.int .i64 o.value] 67)).heap[wr.heap.size]? =some (.cells #[.int .i64 o.kind,.int .i64 o.key,.int .i64 o.value] 67 (0,0)):=World.alloc_heap_new wr _;have hEa:Ext wr (wr.alloc (.cells #[.int .i64 o.kind,.int .i64 o.key,.int .i64 o.value] 67)):=(af _).alloc _;have hba:=hb.trans hEa;have ca:=hba.cell CB;have hwz:=eU (h:=h) o.key o.value;have HW:=aa (TV.out o.key o.value _ hba);obtain⟨z,hz⟩:∃z,aQ h o.key o.value=z:=⟨_,rfl⟩;rw[hz]at hwz HW;have HZ:=aa hz;have Hf:(n:Int)<(h.length:Int):=by omega
       have HKa:=aa (HK.out.trans (iq.aO hEa));obtain⟨es,hes⟩:∃es,es=dw h os 3++fB h os m++gF h os n (uD t.ops) j:=⟨_,rfl⟩;have hel:es.length<=999:=by
        have q1:=mM (h:=h) H6.out 3;have q2:=rM (h:=h) (os:=os) (L:=6) (λn=>by
         unfold opsOf
         cases hn:h[n]? with
         | none=>simp
         | some t=>have:=eY (dW jh.out (aN hn));simpa using this) m
        have q3:=xw h os n (uD t.ops) j;have q4:=D5 t.ops;rw[hes,bN,bN];omega
       have hL1:=HL.out.ext hEa;rw[<-hes]at hL1;have Tm:=aa hL1;have J8:=aa hes;have hbw:base<=wr.heap.size:=by rw[<-GJ.out];exact hb.size
       have Sg:=aa hg0;clear hcc ho M7 hz hL1 hes HL HK hg0;go_wp2_with fail
       refine HW.out.mono ?_;rintro e wB ⟨rfl,bB⟩;have Vb:=hba.trans bB;have cB:=Vb.cell CB;go_wp2_with fail
       refine(pW z n 2 wB cB (Qy.out.ext Vb) (Tm.out.ext bB) (aR hbw (hEa.trans bB).size) (oq _) (by omega) hlen hwz.2 Hf).mono ?_
       rintro e wP UZ;obtain⟨rfl,hP1,hP2,hP3⟩:=id UZ;obtain⟨kk,hkk⟩:=iH Vl.1;have HKK:=aa hkk;have hk3:kk<os.length:=by omega
       obtain⟨order,hor⟩:=au hk3;obtain⟨bo,oo,rfl,_,hco⟩:=Ls.cells Zz.out (by omega);obtain⟨uo,Qx,Yu⟩:=hco kk order hor;obtain⟨Ao,co,rfl,_⟩:=nR.slice Yu;have VG:=aa Yu;have Ik:Hid (o.key.toNat=kk):=by show _ = _;omega
       have RV:Hid (os.getD kk []=order):=by show _ = _;simp[List.getD,hor]
       have h6o:order.length<=6:=by rw[<-RV.out];exact H6.out kk
       have Qr:=UZ.QY Vb GJ.out;have cuP:=Qr.cell Qx;have Ve:=gI hP2 (p:=⟨bh,0,none⟩) TE cB;have GB:wB.heap[wr.heap.size]? =some (.cells #[.int .i64 o.kind,.int .i64 o.key,.int .i64 o.value] 67 (0,0)):=yt bB Sg.out;have GW:=vY hP3 GB (by decide) (by decide);have VD:wP.cell? ⟨wr.heap.size,1,none⟩=some (.int .i64 (kk:Int)):=vo GW (by rw[hkk];rfl);have kW2:wP.cell? ⟨wr.heap.size,2,none⟩=some (.int .i64 o.value):=vo GW rfl;have Nv:Hid (iq w4 wP):=HKa.out.trans ((iq.aO bB).trans hP3);have QB:=aa hP1;have UK:(es++gU h z n 2).length<=1000:=by have:=qb h z n 2;rw[bN];omega
       have hbW:=Qr;have i1:(kk:Int)<3:=by omega
       have aao:(kk:Int)<((3:Nat):Int):=by omega
       clear hP1 hP2 hP3 UZ bB Vb cB GB Yu hco hor hkk hba ca hEa;by_cases hv0:o.value=0
       ·have hvz:(o.value != 0)=false:=by simp[hv0]
        have Oj:Hid (kE order o.value=some 0):=by show _ = _;simp[kE,hv0]
        clear hv0;by_cases Hz:0<order.length
        ·obtain⟨y,hy⟩:=au Hz;obtain⟨bz,oz,rfl,hbz,hcz⟩:=nR.cells VG.out (by omega);have QC:bz<base:=by have:=GJ.out;omega
         have c0:wP.drew.cell? ⟨bh,0,none⟩=some (.slice (some ⟨b,off,none⟩) h.length c):=Ve;have c1:wP.drew.cell? ⟨wr.heap.size,1,none⟩=some (.int .i64 (kk:Int)):=VD;have c2:wP.drew.cell? ⟨bz,oz,none⟩=some (.int .i64 y):=hbW.cell (by have:=hcz (0) y hy;simpa[encI] using this);have Gb:Hid (overOf h os n o=gU h n (aQ h (kk:Int) y) 3):=by
          show _ = _;unfold overOf;rw[Ik.out,RV.out,Oj.out];have hgd:order.getD (0) 0=y:=by simp[List.getD,hy]
          simp only[ah Hz,hgd,HKK.out]
         have Pw:=eU (h:=h) (kk:Int) y;have hbd:=hbW.drew;have Pt:=aa (TV.out (kk:Int) y _ hbd);obtain⟨zy,KZ⟩:∃z,aQ h (kk:Int) y=z:=⟨_,rfl⟩;rw[KZ]at Pw Pt Gb;have Xq:=aa (QB.out.ext (af wP).drew);have Qs:base<=wP.heap.size:=by rw[<-GJ.out];exact hbW.size
         have i4:(0:Int)<(order.length:Int):=by omega
         clear hcz hy KZ;go_wp2
         go_region_held3 (λV=>V.cell? ⟨bh,0,none⟩=some (.slice (some ⟨b,off,none⟩) h.length c)/\V.cell? ⟨wr.heap.size,1,none⟩=some (.int .i64 (kk:Int))/\V.cell? ⟨bz,oz,none⟩=some (.int .i64 y)) (exact⟨by assumption,by assumption,by assumption⟩) ((first
          | (go_at_call 204;refine Pt.out.mono ?_;rintro e wC ⟨rfl,bC⟩;have hbC:=hbd.trans bC;have QL:=bC.cell c0;have YR:=bC.cell c1;have U5:=bC.cell c2;have SN:=aa (Xq.out.ext bC);have NG:=aR (show base<=wP.drew.heap.size from Qs) bC.size)
          | (go_at_call 203;refine(pW n zy 3 wC QL (Qy.out.ext hbC) SN.out NG (oq _) UK hlen Hf Pw.2).mono ?_;rintro e wQ Rs;obtain⟨rfl,Tp,Rl,Ro⟩:=id Rs;have Y5:=gI Rl (p:=⟨bh,0,none⟩) TE QL;have Yw:=gI Rl (p:=⟨bz,oz,none⟩) QC U5;have gQ:=vY Ro (yt bC (GW:wP.drew.heap[wr.heap.size]? = _)) (by decide) (by decide);have Wy:wQ.cell? ⟨wr.heap.size,1,none⟩=some (.int .i64 (kk:Int)):=vo gQ (by rw[HKK.out];rfl))))
         have K7:=aa (Rs.QY hbC GJ.out);have Qe:Hid (iq w4 wQ):=Nv.out.trans ((iq.aO ((af wP).drew.trans bC)).trans Ro);have OC:Hid (LB (base+1) base wQ (dw h os 3++fB h os m++gF h os n (uD t.ops) (j+1))):=by show LB _ _ _ _;rw[SQ.out,fJ,Gb.out,<-jN,<-jN,<-J8.out,HZ.out];exact Tp
         clear Rs Tp Rl Ro Y5 Wy Yw gQ hbC QL YR U5 SN NG bC;go_wp2;go_roundw;case rel=>exact⟨K7.out,Qe,j+1,hjt,by go_num,OC.out⟩
         case measure=>simp[intOf];omega
        ·have Gb:Hid (overOf h os n o=[]):=by show _ = _;unfold overOf;rw[Ik.out,RV.out,Oj.out];simp[Hz]
         have i4:¬((0:Int)<(order.length:Int)):=by omega
         have OC:Hid (LB (base+1) base wP (dw h os 3++fB h os m++gF h os n (uD t.ops) (j+1))):=by show LB _ _ _ _;rw[SQ.out,fJ,Gb.out,oP,<-jN,<-J8.out,HZ.out];exact QB.out
         go_wp2;go_roundw;case rel=>exact⟨hbW,Nv,j+1,hjt,by go_num,OC.out⟩
         case measure=>simp[intOf];omega
       ·have hvz:(o.value != 0)=true:=by simpa using hv0
        cases hfi:order.findIdx? (·==o.value) with
        | none=>
          have hix:idxOf order o.value=-1:=by simp[idxOf,hfi]
          have Gb:Hid (overOf h os n o=[]):=by show _ = _;unfold overOf;rw[Ik.out,RV.out,show kE order o.value=none by simp[kE,hv0,hfi]]
          have OC:Hid (LB (base+1) base wP (dw h os 3++fB h os m++gF h os n (uD t.ops) (j+1))):=by show LB _ _ _ _;rw[SQ.out,fJ,Gb.out,oP,<-jN,<-J8.out,HZ.out];exact QB.out
          clear hv0 hfi;go_wp2_with fail
          refine(ou o.value _ (nR.ext VG.out Qr).1 (by omega)).mono ?_
          rw[hix];rintro e wI ⟨rfl,bI⟩;go_wp2;go_roundw;case rel=>exact⟨Qr.trans bI,Nv.out.trans (iq.aO bI),j+1,hjt,by go_num,OC.out.ext bI⟩
          case measure=>simp[intOf];omega
        | some i=>
          have hix:idxOf order o.value=(i:Int):=by simp[idxOf,hfi]
          have Oj:Hid (kE order o.value=some (i+1)):=by show _ = _;simp[kE,hv0,hfi]
          have hil:i<order.length:=by
           have:=List.findIdx?_eq_some_iff_getElem.1 hfi
           exact this.1
          clear hv0 hfi;go_wp2_with fail
          refine(ou o.value _ (nR.ext VG.out Qr).1 (by omega)).mono ?_
          rw[hix];rintro e wI ⟨rfl,bI⟩;replace hbW:=Qr.trans bI;replace Ve:=bI.cell Ve;replace VD:=bI.cell VD;replace GW:=yt bI GW;have ZL:=Nv.out.trans (iq.aO bI);replace Nv:=aa ZL;have Cn:=QB.out.ext bI;replace QB:=aa Cn;have hi0:¬((i:Int)<0):=by omega
          clear ZL Cn cuP kW2 Qr;by_cases Hz:(i+1)<order.length
          ·obtain⟨y,hy⟩:=au Hz;obtain⟨bz,oz,rfl,hbz,hcz⟩:=nR.cells VG.out (by omega);have QC:bz<base:=by have:=GJ.out;omega
           have c0:wI.drew.cell? ⟨bh,0,none⟩=some (.slice (some ⟨b,off,none⟩) h.length c):=Ve;have c1:wI.drew.cell? ⟨wr.heap.size,1,none⟩=some (.int .i64 (kk:Int)):=VD;have c2:wI.drew.cell? ⟨bz,oz+(i+1),none⟩=some (.int .i64 y):=hbW.cell (by have:=hcz ((i+1)) y hy;simpa[encI] using this);have Gb:Hid (overOf h os n o=gU h n (aQ h (kk:Int) y) 3):=by
            show _ = _;unfold overOf;rw[Ik.out,RV.out,Oj.out];have hgd:order.getD (i+1) 0=y:=by simp[List.getD,hy]
            simp only[ah Hz,hgd,HKK.out]
           have Pw:=eU (h:=h) (kk:Int) y;have hbd:=hbW.drew;have Pt:=aa (TV.out (kk:Int) y _ hbd);obtain⟨zy,KZ⟩:∃z,aQ h (kk:Int) y=z:=⟨_,rfl⟩;rw[KZ]at Pw Pt Gb;have Xq:=aa (QB.out.ext (af wI).drew);have Qs:base<=wI.heap.size:=by rw[<-GJ.out];exact hbW.size
           have i4:(i:Int)+1<(order.length:Int):=by omega
           have i5:(0:Int)<=(i:Int)+1:=by omega
           clear hcz hy KZ;go_wp2
           go_region_held3 (λV=>V.cell? ⟨bh,0,none⟩=some (.slice (some ⟨b,off,none⟩) h.length c)/\V.cell? ⟨wr.heap.size,1,none⟩=some (.int .i64 (kk:Int))/\V.cell? ⟨bz,oz+(i+1),none⟩=some (.int .i64 y)) (exact⟨by assumption,by assumption,by assumption⟩) ((first
            | (go_at_call 204;refine Pt.out.mono ?_;rintro e wC ⟨rfl,bC⟩;have hbC:=hbd.trans bC;have QL:=bC.cell c0;have YR:=bC.cell c1;have U5:=bC.cell c2;have SN:=aa (Xq.out.ext bC);have NG:=aR (show base<=wI.drew.heap.size from Qs) bC.size)
            | (go_at_call 203;refine(pW n zy 3 wC QL (Qy.out.ext hbC) SN.out NG (oq _) UK hlen Hf Pw.2).mono ?_;rintro e wQ Rs;obtain⟨rfl,Tp,Rl,Ro⟩:=id Rs;have Y5:=gI Rl (p:=⟨bh,0,none⟩) TE QL;have Yw:=gI Rl (p:=⟨bz,oz+(i+1),none⟩) QC U5;have gQ:=vY Ro (yt bC (GW:wI.drew.heap[wr.heap.size]? = _)) (by decide) (by decide);have Wy:wQ.cell? ⟨wr.heap.size,1,none⟩=some (.int .i64 (kk:Int)):=vo gQ (by rw[HKK.out];rfl))))
           have K7:=aa (Rs.QY hbC GJ.out);have Qe:Hid (iq w4 wQ):=Nv.out.trans ((iq.aO ((af wI).drew.trans bC)).trans Ro);have OC:Hid (LB (base+1) base wQ (dw h os 3++fB h os m++gF h os n (uD t.ops) (j+1))):=by show LB _ _ _ _;rw[SQ.out,fJ,Gb.out,<-jN,<-jN,<-J8.out,HZ.out];exact Tp
           clear Rs Tp Rl Ro Y5 Wy Yw gQ hbC QL YR U5 SN NG bC;go_wp2;go_roundw;case rel=>exact⟨K7.out,Qe,j+1,hjt,by go_num,OC.out⟩
           case measure=>simp[intOf];omega
          ·have Gb:Hid (overOf h os n o=[]):=by show _ = _;unfold overOf;rw[Ik.out,RV.out,Oj.out];simp[Hz]
           have i4:¬((i:Int)+1<(order.length:Int)):=by omega
           have OC:Hid (LB (base+1) base wI (dw h os 3++fB h os m++gF h os n (uD t.ops) (j+1))):=by show LB _ _ _ _;rw[SQ.out,fJ,Gb.out,oP,<-jN,<-J8.out,HZ.out];exact QB.out
           go_wp2;go_roundw;case rel=>exact⟨hbW,Nv,j+1,hjt,by go_num,OC.out⟩
           case measure=>simp[intOf];omega
      ·obtain rfl:j=(uD t.ops).length:=by omega
       go_wp2;go_roundw;case rel=>exact⟨hb,VR.out.trans HK.out,m+1,by omega,by go_num,by rw[lZ.out,<-jN];exact HL.out⟩
       case measure=>simp[intOf];omega
    ·obtain rfl:m=(aB h).length:=by omega
     obtain⟨lv,hO,hR⟩:=HJ.out;have cl:=hO.cell;rw[<-raw_eq]at hR;have hrl:=OZ (os:=os) jh.out H6.out;obtain⟨es,hes⟩:∃es,aX h os=es:=⟨_,rfl⟩;rw[hes]at hR hrl;have J8:=aa hes;clear hes;have hcap:=hR.cap;have hown:=hR.cell.2;have hsl:=hR.cell.1;have HB:=aa (HB2.out.trans hb);rcases hR.2 with ⟨rfl,h0⟩|⟨g,cap,cur,rfl,hbg,hg,_⟩
     ·obtain⟨A9,c9,e9,_⟩:=id hsl;injection e9 with e1 e2 e3;have hnil:es=[]:=kZ e2.symm;have HN:=aa hnil;clear hR hO hsl hown hcap hnil e1 e2 e3 HJ;go_wp2_with fail
      refine(z8 _ _ _ (by omega)).mono ?_
      rintro e w9 ⟨rfl,b9⟩;go_wp2;go_returns;exact⟨_,[],rfl,by rw[J8.out,HN.out];exact⟨λ_=>Iff.rfl,ay _⟩,⟨_,_,rfl,λh=>by simp at h⟩,HB.out.trans b9⟩
     ·have hgl:=(dB.1 hg).1;have hcp:=hcap _ _ _ rfl;have HSL:=aa hsl;have HOW:=aa hown;clear hR hO hsl hown hcap hg HJ;go_wp2_with fail
      refine(DU _ HSL.out HOW.out hgl hrl hcp).mono ?_
      rintro e w9 ⟨q,ds,rfl,hd,hs9,ho9⟩;have HD:=aa hd;have HS9:=aa hs9;have K7:Hid (Ext w w9):=Ext.only HB.out ho9 HOW.out (by have:=GJ.out;have:=HB2.out.size;omega);clear hd hs9 ho9;go_wp2;go_returns;exact⟨_,ds,rfl,by rw[J8.out];exact HD.out,HS9.out,K7.out⟩
