/- Lemmas. -/
import Derived.Test.YtcdopfdgknglfaaGreatDoorKAG
import Derived.Test.YtcdopfdgknglfaaGreatDoorKAH
import Derived.Deep.DeepCutAuto
set_option maxHeartbeats 16000000
set_option maxRecDepth 8000
set_option linter.all false
namespace Go.Proofs.YtcdopfdgknglfaaGreatDoor
open Go.RowKit
theorem GV(x:Int)(w:World)(h0:0<=x)(h1:x<=4) :
 Calls Tryz.prog 33 #[.int .i64 x] w λe w'=>e=.returned (.string (tx (levL x.toNat)))/\Ext w w':=by
 have hx:x=0∨x=1∨x=2∨x=3∨x=4:=by omega
 clear h0 h1;rcases hx with rfl|rfl|rfl|rfl|rfl<;>(
  go_enter Tryz.func33,Tryz.ntmps33;go_wp2_with (go_at_call 68;refine(fQ _ _ _ _).mono ?_;rintro e w' ⟨rfl,rfl⟩)
  go_returns;exact⟨rfl,(af _).alloc _⟩)
theorem sD{l:List (List UInt8)}{k:Nat}{x:List UInt8}(hx:l[k]? =some x)(sep:List UInt8):joinL sep (l.take (k+1))=(if 0<k then joinL sep (l.take k)++sep else joinL sep (l.take k))++x:=by
 by_cases hk:0<k
 ·rw[aj hk,GN hk hx]
 ·obtain rfl:k=0:=by omega
  rw[au (by omega),Eu hx];rfl
theorem pK(sep:List UInt8)(M:Nat){ws:List (List UInt8)}(h:∀w∈ws,w.length<=M)(k:Nat):(joinL sep (ws.take k)).length<=ws.length*(M+sep.length):=
 aX (qd sep M _ (λw hw=>h w (oI hw))) (Nat.mul_le_mul_right _ (by rw[eY];omega))
theorem Dm{v:Value}{xs:List Int}(w:World)(h:oZ encI w v xs)(hlen:xs.length<=1000)(hx:∀x∈xs,0<=x/\x<100) :
 Calls Tryz.prog 35 #[v] w λe w'=>e=.returned (.string (tx (numsL xs)))/\Ext w w':=by
 obtain⟨A,c,rfl,hc⟩:=id h;have HC:=aa hc;have HX:=aa hx;have HN:Hid (numsL xs=joinL [32] ((xs.map λx=>bT x.toNat).take xs.length)):=by show _ = _;rw[jX (by simp)];rfl
 have HL:Hid (∀k,(joinL [32] ((xs.map λx=>bT x.toNat).take k)).length<=3000):=λk=>by
  have:=pK [32] 2 (ws:=xs.map λx=>bT x.toNat) (λw hw=>by obtain⟨x,_,rfl⟩:=fV.1 hw;exact kE _) k
  simp only[dX,oN]at this;omega
 clear h hc hx;go_enter Tryz.func35,Tryz.ntmps35;go_wp2;go_loopw [3,4] (λo i wr=>Ext w wr/\∃k:Nat,k<=xs.length/\i=.int .i64 (k:Int)/\o=.string (tx (joinL [32] ((xs.map λx=>bT x.toNat).take k)))) (λ_ i _=>xs.length-(intOf i).toNat)
 case atStart=>exact⟨af _,0,aT _,rfl,rfl⟩
 case round=>
  obtain⟨hb,k,hk,rfl,rfl⟩:=hrel;by_cases hlt:k<xs.length
  ·obtain⟨x,hxk⟩:=ah hlt;obtain⟨b,off,rfl,hbl,hcc⟩:=HC.out (by omega);have c0:=hb.cell (hcc k x hxk);simp only[encI]at c0;have hxr:=HX.out x (aM hxk);have hin:lH x 0 1000=true:=cK.2 (by omega);have hwk:(xs.map λx=>bT x.toNat)[k]? =some (bT x.toNat):=by rw[jT,hxk];rfl
   have hst:=sD hwk [32];have hl3:=HL.out k;have h2:=kE x.toNat;have HNB:=aa (λW=>gL x W hxr.1 hxr.2);obtain⟨o,ho⟩:∃o,joinL [32] ((xs.map λx=>bT x.toNat).take k)=o:=⟨_,rfl⟩;obtain⟨nl,hnl⟩:∃o,bT x.toNat=o:=⟨_,rfl⟩;rw[ho,hnl]at hst;rw[ho]at hl3 ⊢;rw[hnl]at h2 HNB;clear hwk hcc hxk hxr ho hnl;by_cases h0:0<k
   ·rw[aj h0]at hst;have HST:=aa hst;have a1:∀W,(Op.stringOp .add (tx o) ⟨#[32]⟩).run Tryz.prog W = _:=bX o [32] (by simp;omega);have a2:=bX (o++[32]) nl (by simp;omega);have hk0:(0:Int)<(k:Int):=by omega
    clear hst h0 hl3 h2;go_wp2_with (first|(go_at_call 68;refine(fQ _ _ _ _).mono ?_;rintro e w' ⟨rfl,rfl⟩)|(go_at_call 53;refine(HNB.out _).mono ?_;rintro e w' ⟨rfl,b1⟩))
    go_roundw;case rel=>exact⟨hb.trans b1,k+1,by omega,by go_num,by rw[HST.out,jM];rfl⟩
    case measure=>simp[intOf];omega
   ·rw[au h0]at hst;have HST:=aa hst;have a2:=bX o nl (by omega);have hk0:¬((0:Int)<(k:Int)):=by omega
    clear hst h0 hl3 h2;go_wp2_with (first|(go_at_call 68;refine(fQ _ _ _ _).mono ?_;rintro e w' ⟨rfl,rfl⟩)|(go_at_call 53;refine(HNB.out _).mono ?_;rintro e w' ⟨rfl,b1⟩))
    go_roundw;case rel=>exact⟨hb.trans b1,k+1,by omega,by go_num,by rw[HST.out]⟩
    case measure=>simp[intOf];omega
  ·obtain rfl:k=xs.length:=by omega
   obtain⟨o,ho⟩:∃o,joinL [32] ((xs.map λx=>bT x.toNat).take xs.length)=o:=⟨_,rfl⟩;rw[ho]at HN ⊢;clear ho;go_wp2;go_returns;exact⟨by rw[HN.out];rfl,hb⟩
theorem L9(t:aG)(ov:Value)(w:World)(h:aL 3 encOpr w ov t.ops)(hlen:t.ops.length<=2097152) :
 Calls Tryz.prog 79 #[o9 t ov] w λe w'=>e=.returned (.string (tx (jd t)))/\Ext w w':=by
 obtain⟨s,ops,d⟩:=t;simp only at h hlen;have HV:=aa (λW (b:Ext w W)=>nE ⟨s,ops,d⟩ ov W (h.ext b) hlen);obtain⟨A,c,rfl,hc⟩:=id h;unfold o9 at HV ⊢;simp only at HV ⊢
 cases hok:dG ⟨s,ops,d⟩ with
 | false=>
   rw[hok]at HV;have ht:Hid (jd ⟨s,ops,d⟩=[]):=by show _ = _;rw[jd,hok];rfl
   clear h hlen hc hok;go_enter Tryz.func79,Tryz.ntmps79;go_wp2_with (go_at_call 38;refine(HV.out _ ((af _).alloc _)).mono ?_;rintro e w1 ⟨rfl,b1⟩)
   go_returns;exact⟨by rw[ht.out];rfl,((af _).alloc _).trans b1⟩
 | true=>
   rw[hok]at HV;have hs:=kS hok;simp only at hs;have ho6:=dF hok;simp only at ho6;have HC:=aa hc;have HNB:=aa (λW=>gL s W hs.1 (by omega));have HW:Hid (dB ⟨s,ops,d⟩=[115,kX s.toNat] :: (if d then [111,107] else [111,102,102]) :: ops.map uQ):=rfl;have HT:Hid (jd ⟨s,ops,d⟩=joinL [32] (dB ⟨s,ops,d⟩)):=by show _ = _;rw[jd,hok];rfl
   have hn:bT s.toNat=[kX s.toNat]:=by unfold bT;rw[aj (by omega)]
   rw[hn]at HNB;have fu:=aa hok;clear h hlen hc hok hn hs;go_enter Tryz.func79,Tryz.ntmps79;go_wp2_with fail
   refine(HV.out _ ((af _).alloc _)).mono ?_
   rintro e w1 ⟨rfl,b1⟩;have T0:w1.cell? ⟨w.heap.size,0,none⟩=some (.int .i64 s):=b1.cell (aF rfl);have T1:w1.cell? ⟨w.heap.size,1,none⟩=some (.slice A ops.length c):=b1.cell (aF rfl);have T2:w1.cell? ⟨w.heap.size,2,none⟩=some (.bool d):=b1.cell (aF rfl);have HT1:=aa (aB T1 (((af w).alloc _).trans b1));have a1:∀W,(Op.stringOp .add ⟨#[115]⟩ (tx [kX s.toNat])).run Tryz.prog W=.ok (.string (tx [115,kX s.toNat])) W:=bX [115] [kX s.toNat] (by simp);have a2:∀W,(Op.stringOp .add (tx [115,kX s.toNat]) ⟨#[32,111,102,102]⟩).run Tryz.prog W=.ok (.string (tx [115,kX s.toNat,32,111,102,102])) W:=bX [115,kX s.toNat] [32,111,102,102] (by simp);have a3:∀W,(Op.stringOp .add (tx [115,kX s.toNat]) ⟨#[32,111,107]⟩).run Tryz.prog W=.ok (.string (tx [115,kX s.toNat,32,111,107])) W:=bX [115,kX s.toNat] [32,111,107] (by simp);obtain⟨z1,hz1⟩:∃z,tx [115,kX s.toNat]=z:=⟨_,rfl⟩;obtain⟨z0,hz0⟩:∃z,tx [kX s.toNat]=z:=⟨_,rfl⟩;rw[hz1,hz0]at a1;rw[hz1]at a2 a3;rw[hz0]at HNB;obtain⟨z2,hz2⟩:∃z,tx [115,kX s.toNat,32,111,102,102]=z:=⟨_,rfl⟩;obtain⟨z3,hz3⟩:∃z,tx [115,kX s.toNat,32,111,107]=z:=⟨_,rfl⟩;rw[hz2]at a2;rw[hz3]at a3;have HZ:=aa (aB hz2 hz3);clear hz0 hz1 hz2 hz3 b1;go_wp2_with fail
   refine(HNB.out _).mono ?_
   rintro e w2 ⟨rfl,b2⟩;have HB2:=aa b2;have T0:=b2.cell T0;have T1:=b2.cell T1;have T2:=b2.cell T2;clear b2
   cases d with
   | false=>
     have h0:joinL [32] ((dB ⟨s,ops,false⟩).take 2)=[115,kX s.toNat,32,111,102,102]:=rfl;go_wp2_with fail
     go_loopw [3,4] (λo i wr=>Ext w1 wr/\∃k:Nat,k<=ops.length/\i=.int .i64 (k:Int)/\o=.string (tx (joinL [32] ((dB ⟨s,ops,false⟩).take (2+k))))) (λ_ i _=>ops.length-(intOf i).toNat)
     case atStart=>exact⟨HB2.out,0,aT _,rfl,by rw[fE,h0];exact(agB Value.string HZ.out.1).symm⟩
     case round=>
      obtain⟨hb,k,hk,rfl,rfl⟩:=hrel;have T1:=hb.cell HT1.out.1;by_cases hlt:k<ops.length
      ·obtain⟨o,ho⟩:=ah hlt;obtain⟨b,off,rfl,hbl,hcc⟩:=HC.out (by omega);have hw:=HT1.out.2.trans hb;have c0:=hw.cell (hcc k o ho 0 (by omega));have c1:=hw.cell (hcc k o ho 1 (by omega));have c2:=hw.cell (hcc k o ho 2 (by omega));simp only[encOpr,fE]at c0 c1 c2;have hwk:(dB ⟨s,ops,false⟩)[2+k]? =some (uQ o):=by rw[show 2+k=k+1+1 by omega,HW.out,List.getElem?_cons_succ,List.getElem?_cons_succ,jT,ho];rfl
       have hst:=sD hwk [32];rw[aj (by omega)]at hst;have Xm:iY o=true:=gD fu.out (aM ho);have Pj:=aa (λW=>Eh o W);have hot:iZ o=uQ o:=by rw[iZ,aj Xm]
       rw[hot]at Pj;have hj:(joinL [32] ((dB ⟨s,ops,false⟩).take (2+k))).length<=800:=by
        have:=pK [32] 5 (ws:=dB ⟨s,ops,false⟩) (λx hx=>by
         rw[HW.out]at hx;rcases mM.1 hx with rfl|hx
         ·simp
         rcases mM.1 hx with rfl|hx
         ·split<;>simp
         obtain⟨o',ho',rfl⟩:=fV.1 hx;exact vR o') (2+k)
        rw[HW.out]at this;simp only[eO,dX,iJ]at this;rw[HW.out];omega
       have hol:=vR o;obtain⟨out,hout⟩:∃x,joinL [32] ((dB ⟨s,ops,false⟩).take (2+k))=x:=⟨_,rfl⟩;obtain⟨ol,RZ⟩:∃x,uQ o=x:=⟨_,rfl⟩;rw[hout,RZ]at hst;rw[hout]at hj ⊢;rw[RZ]at hol Pj;have HST:=aa hst;have s1:∀W,(Op.stringOp .add (tx out) ⟨#[32]⟩).run Tryz.prog W=.ok (.string (tx (out++[32]))) W:=bX out [32] (by simp;omega);have s2:=bX (out++[32]) ol (by simp;omega);obtain⟨y1,hy1⟩:∃z,tx (out++[32])=z:=⟨_,rfl⟩;obtain⟨y2,hy2⟩:∃z,tx (out++[32]++ol)=z:=⟨_,rfl⟩;rw[hy1]at s1 s2;rw[hy2]at s2;have HY:=aa hy2;obtain⟨kd,ky,vl⟩:=o;simp only[iG]at Pj;simp only at c0 c1 c2;clear hwk hst Xm hot hj hol hout RZ hcc ho hy1 hy2 hw T0 T2 h0;go_wp2_with fail
       refine(Pj.out _).mono ?_
       rintro e w4 ⟨rfl,b4⟩;go_wp2_with fail
       go_roundw;case rel=>exact⟨hb.trans b4,k+1,by omega,by go_num,by rw[show 2+(k+1)=2+k+1 by omega,HST.out,<-HY.out]⟩
       case measure=>simp[intOf];omega
      ·obtain rfl:k=ops.length:=by omega
       obtain⟨out,hout⟩:∃x,joinL [32] ((dB ⟨s,ops,false⟩).take (2+ops.length))=x:=⟨_,rfl⟩;have HO:Hid (jd ⟨s,ops,false⟩=out):=by show _ = _;rw[HT.out,<-hout,jX];rw[HW.out];simp;omega
       rw[hout];clear hout T0 T2 h0;go_wp2;go_returns;exact⟨by rw[HO.out];rfl,HT1.out.2.trans hb⟩
   | true=>
     have h0:joinL [32] ((dB ⟨s,ops,true⟩).take 2)=[115,kX s.toNat,32,111,107]:=rfl;go_wp2_with fail
     refine(HNB.out _).mono ?_
     rintro e w3 ⟨rfl,b3⟩;have T0:=b3.cell T0;have T1:=b3.cell T1;have T2:=b3.cell T2;replace HB2:Hid (Ext w1 w3):=HB2.out.trans b3;clear b3;go_wp2_with fail
     go_loopw [3,4] (λo i wr=>Ext w1 wr/\∃k:Nat,k<=ops.length/\i=.int .i64 (k:Int)/\o=.string (tx (joinL [32] ((dB ⟨s,ops,true⟩).take (2+k))))) (λ_ i _=>ops.length-(intOf i).toNat)
     case atStart=>exact⟨HB2.out,0,aT _,rfl,by rw[fE,h0];exact(agB Value.string HZ.out.2).symm⟩
     case round=>
      obtain⟨hb,k,hk,rfl,rfl⟩:=hrel;have T1:=hb.cell HT1.out.1;by_cases hlt:k<ops.length
      ·obtain⟨o,ho⟩:=ah hlt;obtain⟨b,off,rfl,hbl,hcc⟩:=HC.out (by omega);have hw:=HT1.out.2.trans hb;have c0:=hw.cell (hcc k o ho 0 (by omega));have c1:=hw.cell (hcc k o ho 1 (by omega));have c2:=hw.cell (hcc k o ho 2 (by omega));simp only[encOpr,fE]at c0 c1 c2;have hwk:(dB ⟨s,ops,true⟩)[2+k]? =some (uQ o):=by rw[show 2+k=k+1+1 by omega,HW.out,List.getElem?_cons_succ,List.getElem?_cons_succ,jT,ho];rfl
       have hst:=sD hwk [32];rw[aj (by omega)]at hst;have Xm:iY o=true:=gD fu.out (aM ho);have Pj:=aa (λW=>Eh o W);have hot:iZ o=uQ o:=by rw[iZ,aj Xm]
       rw[hot]at Pj;have hj:(joinL [32] ((dB ⟨s,ops,true⟩).take (2+k))).length<=800:=by
        have:=pK [32] 5 (ws:=dB ⟨s,ops,true⟩) (λx hx=>by
         rw[HW.out]at hx;rcases mM.1 hx with rfl|hx
         ·simp
         rcases mM.1 hx with rfl|hx
         ·split<;>simp
         obtain⟨o',ho',rfl⟩:=fV.1 hx;exact vR o') (2+k)
        rw[HW.out]at this;simp only[eO,dX,iJ]at this;rw[HW.out];omega
       have hol:=vR o;obtain⟨out,hout⟩:∃x,joinL [32] ((dB ⟨s,ops,true⟩).take (2+k))=x:=⟨_,rfl⟩;obtain⟨ol,RZ⟩:∃x,uQ o=x:=⟨_,rfl⟩;rw[hout,RZ]at hst;rw[hout]at hj ⊢;rw[RZ]at hol Pj;have HST:=aa hst;have s1:∀W,(Op.stringOp .add (tx out) ⟨#[32]⟩).run Tryz.prog W=.ok (.string (tx (out++[32]))) W:=bX out [32] (by simp;omega);have s2:=bX (out++[32]) ol (by simp;omega);obtain⟨y1,hy1⟩:∃z,tx (out++[32])=z:=⟨_,rfl⟩;obtain⟨y2,hy2⟩:∃z,tx (out++[32]++ol)=z:=⟨_,rfl⟩;rw[hy1]at s1 s2;rw[hy2]at s2;have HY:=aa hy2;obtain⟨kd,ky,vl⟩:=o;simp only[iG]at Pj;simp only at c0 c1 c2;clear hwk hst Xm hot hj hol hout RZ hcc ho hy1 hy2 hw T0 T2 h0;go_wp2_with fail
       refine(Pj.out _).mono ?_
       rintro e w4 ⟨rfl,b4⟩;go_wp2_with fail
       go_roundw;case rel=>exact⟨hb.trans b4,k+1,by omega,by go_num,by rw[show 2+(k+1)=2+k+1 by omega,HST.out,<-HY.out]⟩
       case measure=>simp[intOf];omega
      ·obtain rfl:k=ops.length:=by omega
       obtain⟨out,hout⟩:∃x,joinL [32] ((dB ⟨s,ops,true⟩).take (2+ops.length))=x:=⟨_,rfl⟩;have HO:Hid (jd ⟨s,ops,true⟩=out):=by show _ = _;rw[HT.out,<-hout,jX];rw[HW.out];simp;omega
       rw[hout];clear hout T0 T2 h0;go_wp2;go_returns;exact⟨by rw[HO.out];rfl,HT1.out.2.trans hb⟩
theorem LH{t:aG}(h:dG t=true):(nk t).length<=48:=by
 have h6:=dF h
 have:=qd [32] 5 (dB t) (λx hx=>by
  unfold dB at hx;rcases mM.1 hx with rfl|hx
  ·simp
  rcases mM.1 hx with rfl|hx
  ·split<;>simp
  obtain⟨o',_,rfl⟩:=fV.1 hx;exact vR o')
 simp only[dB,eO,dX,iJ]at this;unfold nk;simp only[dB];omega
theorem Dh{v:Value}{h:List aG}(w:World)(H:iM w v h)(hok:aD h=true) :
 Calls Tryz.prog 36 #[v] w λe w'=>e=.returned (.string (tx (xm h)))/\Ext w w':=by
 obtain⟨A,c,rfl⟩:=H.slice;have hl:h.length<=6:=aR hok;have HH:=aa H;have HV:=aa (λW (b:Ext w W)=>bJ W (H.ext b) (by omega) (aJ hok));rw[hok]at HV;have HT:=aa (λt (ht:t∈h)=>dH hok ht);have HN:Hid (xm h=joinL [59,32] ((h.map nk).take h.length)):=by show _ = _;rw[jX (by simp)];rfl
 clear H hok;go_enter Tryz.func36,Tryz.ntmps36;go_wp2;go_loopw [3,4] (λo i wr=>Ext w wr/\∃k:Nat,k<=h.length/\i=.int .i64 (k:Int)/\o=.string (tx (joinL [59,32] ((h.map nk).take k)))) (λ_ i _=>h.length-(intOf i).toNat)
 case atStart=>exact⟨af _,0,aT _,rfl,rfl⟩
 case round=>
  obtain⟨hb,k,hk,rfl,rfl⟩:=hrel;by_cases hlt:k<h.length
  ·obtain⟨b',off',rfl,ru,hcc⟩:=(HH.out.ext hb).head (by omega);obtain⟨t,ht⟩:=ah hlt;obtain⟨ov,c0,c1,c2,hs⟩:=hcc k t ht;obtain⟨A4,c4,rfl,_⟩:=id hs;have htk:=HT.out t (aM ht);have hol:=dF htk;have htt:jd t=nk t:=by rw[jd,aj htk]
   have hwk:(h.map nk)[k]? =some (nk t):=by rw[jT,ht];rfl
   have hst:=sD hwk [59,32];have hl3:=pK [59,32] 48 (ws:=h.map nk) (λx hx=>by obtain⟨t',ht',rfl⟩:=fV.1 hx;exact LH (HT.out t' ht')) k;simp only[dX,eO,iJ]at hl3;have h2:=LH htk;have HS:=aa (λW (b:Ext wr W)=>L9 t _ W (hs.ext b) (by omega));rw[htt]at HS;unfold o9 at HS;obtain⟨o,ho⟩:∃o,joinL [59,32] ((h.map nk).take k)=o:=⟨_,rfl⟩;obtain⟨nl,hnl⟩:∃o,nk t=o:=⟨_,rfl⟩;rw[ho,hnl]at hst;rw[ho]at hl3 ⊢;rw[hnl]at h2 HS;have HST:=aa hst;clear hwk hcc ht htk htt ho hnl hs hst;by_cases h0:0<k
   ·have FD:Hid (joinL [59,32] ((h.map nk).take (k+1))=o++[59,32]++nl):=by rw[HST.out,aj h0];rfl
    have a1:∀W,(Op.stringOp .add (tx o) ⟨#[59,32]⟩).run Tryz.prog W=.ok (.string (tx (o++[59,32]))) W:=bX o [59,32] (by simp;omega);have a2:=bX (o++[59,32]) nl (by simp;omega);obtain⟨y1,hy1⟩:∃z,tx (o++[59,32])=z:=⟨_,rfl⟩;obtain⟨y2,hy2⟩:∃z,tx (o++[59,32]++nl)=z:=⟨_,rfl⟩;rw[hy1]at a1 a2;rw[hy2]at a2;have HY:=aa hy2;have hk0:(0:Int)<(k:Int):=by omega
    clear h0 hl3 h2 hy1 hy2;go_wp2_with fail
    refine(HV.out _ hb).mono ?_
    rintro e w2 ⟨rfl,b2⟩;have c0:=b2.cell c0;have c1:=b2.cell c1;have c2:=b2.cell c2;go_wp2_with fail
    refine(HS.out _ b2).mono ?_
    rintro e w3 ⟨rfl,b3⟩;go_wp2_with fail
    go_roundw;case rel=>exact⟨(hb.trans b2).trans b3,k+1,by omega,by go_num,by rw[FD.out,<-HY.out]⟩
    case measure=>simp[intOf];omega
   ·have FD:Hid (joinL [59,32] ((h.map nk).take (k+1))=o++nl):=by rw[HST.out,au h0];rfl
    have a2:=bX o nl (by omega);have hk0:¬((0:Int)<(k:Int)):=by omega
    clear h0 hl3 h2;go_wp2_with fail
    refine(HV.out _ hb).mono ?_
    rintro e w2 ⟨rfl,b2⟩;have c0:=b2.cell c0;have c1:=b2.cell c1;have c2:=b2.cell c2;go_wp2_with fail
    refine(HS.out _ b2).mono ?_
    rintro e w3 ⟨rfl,b3⟩;go_wp2_with fail
    go_roundw;case rel=>exact⟨(hb.trans b2).trans b3,k+1,by omega,by go_num,by rw[FD.out]⟩
    case measure=>simp[intOf];omega
  ·obtain rfl:k=h.length:=by omega
   obtain⟨o,ho⟩:∃o,joinL [59,32] ((h.map nk).take h.length)=o:=⟨_,rfl⟩;rw[ho]at HN ⊢;clear ho;go_wp2;go_returns;exact⟨by rw[HN.out];rfl,hb⟩
theorem TK:∀{l:List UInt8} {k:Nat},(∀c∈l.take k,c≠32)->l[k]? =some 32->fD l=l.take k/\eH l=l.drop (k+1)
 | [],k,_,h=>by simp at h
 | c :: l,0,_,h=>by simp at h;subst h;exact⟨by simp[fD],by simp[eH]⟩
 | c :: l,k+1,hn,h=>by have hc:c≠32:=hn c (by simp);obtain⟨h1,h2⟩:=TK (l:=l) (k:=k) (λx hx=>hn x (by simp[hx])) (by simpa using h);unfold fD eH at *;simp[hc];exact⟨h1,by simpa using h2⟩
theorem LF:∀{l:List UInt8},(∀c∈l,c≠32)->fD l=l/\eH l=[]
 | [],_=>⟨rfl,rfl⟩
 | c :: l,hn=>by have hc:c≠32:=hn c (by simp);obtain⟨h1,h2⟩:=LF (l:=l) (λx hx=>hn x (by simp[hx]));unfold fD eH at *;simp[hc];exact⟨h1,by simpa using h2⟩
theorem MM(l:List UInt8)(w:World)(hl:l.length<=1048576) :
 Calls Tryz.prog 26 #[.string (tx l)] w λe w'=>e=.returned (.tuple #[.string (tx (fD l)),.string (tx (eH l))])/\Ext w w':=by
 have HI:=aa (λ(k:Nat) (x:UInt8) (hx:l[k]? =some x)=>lT hx (k:Int) rfl);have HE:=aa (λi j=>pG l i j);have hsz:=dR l;obtain⟨z,hz⟩:∃z,tx l=z:=⟨_,rfl⟩;have HZ:=aa hz;rw[hz]at hsz HI HE ⊢;clear hz;go_enter Tryz.func26,Tryz.ntmps26;go_wp2;go_loopw [4] (λi wr=>Ext w wr/\∃k:Nat,k<=l.length/\i=.int .i64 (k:Int)/\Hid (∀c∈l.take k,c≠32)) (λi _=>l.length-(intOf i).toNat)
 case atStart=>exact⟨af _,0,aT _,rfl,by intro c hc;simp at hc⟩
 case round=>
  obtain⟨hb,k,hk,rfl,HC⟩:=hrel;by_cases hlt:k<l.length
  ·obtain⟨x,hx⟩:=ah hlt;have hi0:=HI.out k x hx;have hki:(k:Int)<(l.length:Int):=by omega
   have hk0:(0:Int)<=(k:Int):=by omega
   by_cases h32:x=32
   ·subst h32;obtain⟨q1,q2⟩:=TK HC.out hx;have e1:z.extract 0 k=tx (fD l):=by rw[HE.out,q1];rfl
    have e2:z.extract (k+1) z.size=tx (eH l):=by rw[HE.out,q2,hsz,bM]
    rw[hsz]at e2;have hwk:IntKind.i64.wrap ((k:Int)+1)=(k:Int)+1:=dL _ (by have:=(bG.1 hx).1;omega);clear hx q1 q2;go_wp2;refine aU (by kernel_rfl) (by kernel_rfl) ?_;repeat (go_big_quiet_step (fail))
    refine j5 ?_;intro w3 hb3;go_wp2;go_returns;exact⟨rfl,hb.trans hb3⟩
   ·have hx32:((x.toNat:Int)==32)=false:=by
     rw[fU];intro e;have e':(x.toNat:Int)=32:=by simpa using e
     exact h32 (UInt8.toNat_inj.1 (show x.toNat=(32:UInt8).toNat from Int.ofNat_inj.1 e'))
    have HX:=aa (aB hx h32);clear hx h32;go_wp2;go_roundw;case rel=>exact⟨hb,k+1,by omega,by go_num,by
     intro c hc;rw[ak HX.out.1]at hc;rcases iR.1 hc with hc|hc
     ·exact HC.out c hc
     ·rw[pF]at hc;exact hc▸HX.out.2⟩
    case measure=>simp[intOf];omega
  ·obtain rfl:k=l.length:=by omega
   have hw:=LF (l:=l) (by have:=HC.out;rwa [bM]at this);have HW:=aa hw;clear hw;go_wp2;go_returns;exact⟨by rw[HW.out.1,HW.out.2,HZ.out];rfl,hb⟩
def gF(l:List UInt8):Int:=match eF l with
 | some n=>(n:Int)
 | none=>-1
theorem Li{l:List UInt8}(h1:1<=l.length)(h2:l.length<=2)(hd:∀c∈l,gU c=true):numOf l<100/\(gF l=if bT (numOf l)=l then (numOf l:Int) else -1):=by
 match l,h1,h2 with
 | [a],_,_=>
   have ha:=hd a (by simp);have hs:eF [a]=some (numOf [a]):=by rw[AO,aj ha];simp[numOf]
   obtain⟨h3,h4⟩:=rG hs;exact⟨h3,by rw[gF,hs,aj h4]⟩
 | [a,b],_,_=>
   have ha:=hd a (by simp);have hb:=hd b (by simp);have hn:numOf [a,b]=10*(a.toNat-48)+(b.toNat-48):=by simp[numOf]
   by_cases h0:a=48
   ·have hs:eF [a,b]=none:=by rw[wH,au (λe=>e.1 h0)]
    subst h0;have hb':=hb;simp only[gU,dh,rU]at hb';have hlt:numOf [48,b]<10:=by rw[hn];have:(48:UInt8).toNat=48:=rfl;omega
    refine⟨by omega,?_⟩;rw[gF,hs,au (λe=>?_)]
    have:=agB List.length e
    unfold bT at this;rw[aj hlt]at this;simp at this
   ·have hs:eF [a,b]=some (numOf [a,b]):=by rw[wH,aj ⟨h0,ha,hb⟩,hn]
    obtain⟨h3,h4⟩:=rG hs;exact⟨h3,by rw[gF,hs,aj h4]⟩
theorem LG{l:List UInt8}{c:UInt8}(hc:c∈l)(hd:gU c=false):gF l=-1:=by
 unfold gF eF
 have:nH l=false:=by unfold nH;rw[Bool.and_eq_false_iff];exact .inr (by rw[List.all_eq_false];exact⟨c,hc,by simp[hd]⟩)
 rw[this];rfl
theorem Iw{l:List UInt8}(h:l.length=0∨3<=l.length):gF l=-1:=by unfold gF;rw[xY h]
theorem SI{l:List UInt8}{k:Nat}{x:UInt8}(hx:l[k]? =some x):numOf (l.take (k+1))=10*numOf (l.take k)+(x.toNat-48):=by unfold numOf;rw[ak hx,nL];rfl
theorem OH{l:List UInt8}(h2:l.length<=2)(hd:∀c∈l,gU c=true):numOf l<100:=by
 rcases Nat.eq_zero_or_pos l.length with h|h
 ·rw[mZ h];decide
 ·exact(Li h h2 hd).1
theorem vE(l:List UInt8)(w:World)(hl:l.length<=1048576) :
 Calls Tryz.prog 28 #[.string (tx l)] w λe w'=>e=.returned (.int .i64 (gF l))/\Ext w w':=by
 have HI:=aa (λ(k:Nat) (x:UInt8) (hx:l[k]? =some x)=>lT hx (k:Int) rfl);have hsz:=dR l;have HZE:Hid (∀r:List UInt8,((tx r).toList==(tx l).toList)=decide (r=l)):=λr=>by rw[fA,fA];by_cases e:r=l<;>simp[e]
 obtain⟨z,hz⟩:∃z,tx l=z:=⟨_,rfl⟩;rw[hz]at hsz HI HZE ⊢;have hz0:(z.toList==[])=decide (l.length=0):=by rw[<-hz,fA];cases l<;>simp
 clear hz;go_enter Tryz.func28,Tryz.ntmps28;go_wp2;go_loopw [3,4] (λn i wr=>Ext w wr/\∃k:Nat,k<=l.length/\k<=2/\i=.int .i64 (k:Int)/\n=.int .i64 ((numOf (l.take k):Nat):Int)/\Hid (∀c∈l.take k,gU c=true)) (λ_ i _=>l.length-(intOf i).toNat)
 case atStart=>exact⟨af _,0,aT _,by omega,rfl,rfl,by intro c hc;simp at hc⟩
 case round=>
  obtain⟨hb,k,hk,hk2,rfl,rfl,HC⟩:=hrel;have hsm:numOf (l.take k)<100:=OH (by rw[eY];omega) HC.out;by_cases hlt:k<l.length
  ·obtain⟨x,hx⟩:=ah hlt;have hi0:=HI.out k x hx;have hki:(k:Int)<(l.length:Int):=by omega
   have hk0:(0:Int)<=(k:Int):=by omega
   have HX:=aa hx;have HN:=aa (SI hx);obtain⟨m,hm⟩:∃m,numOf (l.take k)=m:=⟨_,rfl⟩;rw[hm]at hsm HN ⊢;by_cases h1:x.toNat<48
   ·have HB:Hid (gF l=-1):=LG (aM hx) (by simp[gU];omega);have h1':((x.toNat:Int))<48:=by omega
    clear hx h1 hm;go_wp2;go_returns;exact⟨bU HB.out.symm,hb⟩
   ·have h1':¬(((x.toNat:Int))<48):=by omega
    by_cases h2:57<x.toNat
    ·have HB:Hid (gF l=-1):=LG (aM hx) (by simp[gU];omega);have h2':(57:Int)<(x.toNat:Int):=by omega
     clear hx h1 hm h2;go_wp2;go_returns;exact⟨bU HB.out.symm,hb⟩
    ·have h2':¬((57:Int)<(x.toNat:Int)):=by omega
     by_cases h3:k=2
     ·have HB:Hid (gF l=-1):=Iw (.inr (by omega));have h3':(1:Int)<(k:Int):=by omega
      clear hx h1 hm h2 h3;go_wp2;go_returns;exact⟨bU HB.out.symm,hb⟩
     ·have h3':¬((1:Int)<(k:Int)):=by omega
      have HD:Hid (gU x=true):=by show _ = _;simp[gU];omega
      obtain⟨d,hd⟩:∃d:Nat,x.toNat=d+48:=⟨x.toNat-48,by omega⟩;have aga:d<10:=by omega
      have vT:Hid (numOf (l.take (k+1))=10*m+d):=by show _ = _;rw[HN.out];omega
      have hw1:IntKind.u8.wrap ((x.toNat:Int)-48)=(d:Int):=by rw[show (x.toNat:Int)-48=(d:Int) by omega];exact IntWalk.u8_in _ (by omega)
      obtain⟨xn,hxn⟩:∃xn:Int,(x.toNat:Int)=xn:=⟨_,rfl⟩;rw[hxn]at hi0 h1' h2' hw1;have hw2:IntKind.i64.wrap (d:Int)=(d:Int):=dL _ (by omega);have hw3:IntKind.i64.wrap (10*(m:Int))=10*(m:Int):=dL _ (by omega);have hw4:IntKind.i64.wrap (10*(m:Int)+(d:Int))=10*(m:Int)+(d:Int):=dL _ (by omega);have aeI:k+1<=2:=by omega
      clear hx h1 hm h2 hd h3 hxn HN;go_wp2;go_roundw;case rel=>exact⟨hb,k+1,by omega,aeI,by go_num,by rw[vT.out];simp,λc hc=>by
       rw[ak HX.out]at hc;rcases iR.1 hc with hc|hc
       ·exact HC.out c hc
       ·rw[pF]at hc;exact hc▸HD.out⟩
      case measure=>simp[intOf];omega
  ·obtain rfl:k=l.length:=by omega
   rw[bM]at hsm HC ⊢;by_cases hl0:l.length=0
   ·have HB:Hid (gF l=-1):=Iw (.inl hl0);have hz1:(z.toList==[])=true:=by rw[hz0];simp[hl0]
    clear hz0 hl0;go_wp2;go_returns;exact⟨bU HB.out.symm,hb⟩
   ·have hz1:(z.toList==[])=false:=by rw[hz0];simp[hl0]
    have HE:=aa (Li (by omega) hk2 HC.out).2;have HNN:=aa (λW=>gL (numOf l:Int) W (by omega) (by omega));rw[qM]at HNN;have hzn:=HZE.out (bT (numOf l));obtain⟨y,hy⟩:∃y,tx (bT (numOf l))=y:=⟨_,rfl⟩;rw[hy]at hzn HNN;obtain⟨m,hm⟩:∃m,numOf l=m:=⟨_,rfl⟩;rw[hm]at HE HNN hzn ⊢;by_cases he:bT m=l
    ·have HB:Hid (gF l=(m:Int)):=by show _ = _;rw[HE.out,aj he]
     rw[jw he]at hzn;clear hz0 hl0 hy hm he;go_wp2_with fail
     refine(HNN.out _).mono ?_
     rintro e w3 ⟨rfl,b3⟩;go_wp2;go_returns;exact⟨bU HB.out.symm,hb.trans b3⟩
    ·have HB:Hid (gF l=-1):=by show _ = _;rw[HE.out,au he]
     rw[dU he]at hzn;clear hz0 hl0 hy hm he;go_wp2_with fail
     refine(HNN.out _).mono ?_
     rintro e w3 ⟨rfl,b3⟩;go_wp2;go_returns;exact⟨bU HB.out.symm,hb.trans b3⟩
theorem LP{n:Nat}(h:n<100):gF (bT n)=n:=by unfold gF;rw[Jo h]
theorem Bh{l:List UInt8}(h:0<=gF l):eF l=some (gF l).toNat:=by
 unfold gF at h ⊢
 cases e:eF l with
 | none=>rw[e]at h;exact absurd h (by decide)
 | some n=>simp
theorem FU{a b c d:UInt8}{r:List UInt8}{o:aV}(hk:iY o=true):uQ o=a :: b :: c :: d :: r↔c=61/\(a=114∨a=119)/\o=⟨if a=119 then 2 else 1,gF [b],gF (d :: r)⟩:=by
 have k1:=jE hk;have k2:=lS hk;have hnk:bT o.key.toNat=[kX o.key.toNat]:=by unfold bT;rw[aj (by omega)]
 constructor
 ·intro e;unfold uQ at e;injection e with e1 e;injection e with e2 e;injection e with e3 e4;have h1:gF [b]=o.key:=by rw[<-e2,<-hnk,LP (by omega)];omega
  have h2:gF (d :: r)=o.value:=by rw[<-e4,LP (by omega)];omega
  refine⟨e3.symm,?_,aV.ext' ?_ h1.symm h2.symm⟩
  ·rw[<-e1];exact(Gw o).symm
  ·rw[<-e1];unfold bN jQ;rcases p8 hk with q|q<;>rw[q]<;>simp
 ·rintro⟨rfl,ha,ho⟩;have hkey:gF [b]=o.key:=by rw[ho]
  have hval:gF (d :: r)=o.value:=by rw[ho]
  have h1:=rG (Bh (l:=[b]) (by omega));have h2:=rG (Bh (l:=d :: r) (by omega));rw[hkey,hnk]at h1;rw[hval]at h2;unfold uQ;rw[h2.2];have h3:kX o.key.toNat=b:=by have:=h1.2;injection this
  rw[h3];have hkind:o.kind=if a=119 then 2 else 1:=by rw[ho]
  unfold bN jQ;rcases ha with rfl|rfl
  ·rw[hkind];rfl
  ·rw[hkind];rfl
theorem Rf{a b c d:UInt8}{r:List UInt8}(hc:c=61/\(a=114∨a=119)):(iY ⟨if a=119 then 2 else 1,gF [b],gF (d :: r)⟩=true->iy (a :: b :: c :: d :: r)=some ⟨if a=119 then 2 else 1,gF [b],gF (d :: r)⟩) /\
 (iY ⟨if a=119 then 2 else 1,gF [b],gF (d :: r)⟩=false->iy (a :: b :: c :: d :: r)=none):=by
 constructor
 ·intro h;exact lI.2 ⟨h,(FU h).2 ⟨hc.1,hc.2,rfl⟩⟩
 ·intro h;refine xe (λo hk e=>?_)
  have:=((FU hk).1 e).2.2
  rw[this,h]at hk;cases hk
theorem Rq{a b c d:UInt8}{r:List UInt8}(hc:¬(c=61/\(a=114∨a=119))):iy (a :: b :: c :: d :: r)=none:=
 xe (λo hk e=>hc ⟨((FU hk).1 e).1,((FU hk).1 e).2.1⟩)
def og(w:World)(q:Nat)(a b c:Int):Prop:=w.cell? ⟨q,0,none⟩=some (.int .i64 a)/\w.cell? ⟨q,1,none⟩=some (.int .i64 b)/\w.cell? ⟨q,2,none⟩=some (.int .i64 c)/\∀j,w.frozen? ⟨q,j,none⟩=false
theorem rH(w:World)(a b c:Int)(T:TypeId){q:Nat}(hq:w.heap.size=q):og (w.alloc (.cells #[.int .i64 a,.int .i64 b,.int .i64 c] T)) q a b c:=⟨iU hq rfl,iU hq rfl,iU hq rfl,λj=>jf j hq⟩
theorem og.ext{w w':World}{q:Nat}{a b c:Int}(h:og w q a b c)(e:Ext w w'):og w' q a b c:=
 have hq:q<w.heap.size:=by
  rcases eP q w.heap.size with h'|h'
  ·exact h'
  ·have:=h.1
   simp[World.cell?,DR h']at this
 ⟨e.cell h.1,e.cell h.2.1,e.cell h.2.2.1,λj=>(e.frozen (p:=⟨q,j,none⟩) hq).trans (h.2.2.2 j)⟩
theorem og.other{w:World}{q p:Nat}{a b c:Int}(h:og w q a b c)(hp:p≠q)(j:Nat)(u:Value):og (w.setCell ⟨p,j,none⟩ u) q a b c:=
 have n:∀i,(⟨p,j,none⟩:Addr)≠⟨q,i,none⟩:=λi e=>by injection e with e;exact hp e
 ⟨(aC (n 0) u).trans h.1,(aC (n 1) u).trans h.2.1,(aC (n 2) u).trans h.2.2.1,λi=>by rw[World.frozen?_setCell];exact h.2.2.2 i⟩
theorem og.kind{w:World}{q:Nat}{a b c:Int}(h:og w q a b c)(x:Int):og (w.setCell ⟨q,0,none⟩ (.int .i64 x)) q x b c:=
 ⟨fJ h.1 _,(aC (by simp) _).trans h.2.1,(aC (by simp) _).trans h.2.2.1,λi=>by rw[World.frozen?_setCell];exact h.2.2.2 i⟩
theorem og.all{w:World}{q:Nat}{a b c:Int}(h:og w q a b c)(x y z:Int):og (((w.setCell ⟨q,0,none⟩ (.int .i64 x)).setCell ⟨q,1,none⟩ (.int .i64 y)).setCell ⟨q,2,none⟩ (.int .i64 z)) q x y z:=
 let ⟨h0,h1,h2⟩:=eT (.int .i64 x) (.int .i64 y) (.int .i64 z) h.1 h.2.1 h.2.2.1
 ⟨h0,h1,h2,λi=>by rw[World.frozen?_setCell,World.frozen?_setCell,World.frozen?_setCell];exact h.2.2.2 i⟩
theorem Dz{u w:World}{q:Nat}(h:Ext u w)(hq:u.heap.size<=q)(x y z:Value):Ext u (((w.setCell ⟨q,0,none⟩ x).setCell ⟨q,1,none⟩ y).setCell ⟨q,2,none⟩ z):=
 ((h.setCell (p:=⟨q,0,none⟩) hq x).setCell (p:=⟨q,1,none⟩) hq y).setCell (p:=⟨q,2,none⟩) hq z
theorem K5{w W:World}{q:Nat}{T:TypeId}(x y z:Int)(hx:Ext (w.alloc (.cells #[.int .i64 0,.int .i64 0,.int .i64 0] T)) W)(hq:w.heap.size<q)(h:og W q 0 0 0) :
 ∃p,Value.pointer (some ⟨q,0,none⟩)=.pointer (some ⟨p,0,none⟩)/\w.heap.size<p/\og (((W.setCell ⟨q,0,none⟩ (.int .i64 x)).setCell ⟨q,1,none⟩ (.int .i64 y)).setCell ⟨q,2,none⟩ (.int .i64 z)) p x y z /\
  og (((W.setCell ⟨q,0,none⟩ (.int .i64 x)).setCell ⟨q,1,none⟩ (.int .i64 y)).setCell ⟨q,2,none⟩ (.int .i64 z)) w.heap.size 0 0 0/\Ext w (((W.setCell ⟨q,0,none⟩ (.int .i64 x)).setCell ⟨q,1,none⟩ (.int .i64 y)).setCell ⟨q,2,none⟩ (.int .i64 z)):=
 have n:q≠w.heap.size:=by omega
 ⟨q,rfl,hq,h.all x y z,((((rH w 0 0 0 T rfl).ext hx).other n 0 _).other n 1 _).other n 2 _,Dz (((af w).alloc _).trans hx) (aai hq) _ _ _⟩
def aak(r:Option aV):Value:=.tuple #[iG (r.getD ⟨0,0,0⟩),.bool r.isSome]
theorem P7(l:List UInt8)(w:World)(hl:l.length<=1048576) :
 Calls Tryz.prog 66 #[.string (tx l)] w λe w'=>e=.returned (aak (iy l))/\Ext w w':=by
 have T0:(w.alloc (.cells #[.int .i64 0,.int .i64 0,.int .i64 0] 67)).cell? ⟨w.heap.size,0,none⟩=some (.int .i64 0):=aF rfl;have T1:(w.alloc (.cells #[.int .i64 0,.int .i64 0,.int .i64 0] 67)).cell? ⟨w.heap.size,1,none⟩=some (.int .i64 0):=aF rfl;have T2:(w.alloc (.cells #[.int .i64 0,.int .i64 0,.int .i64 0] 67)).cell? ⟨w.heap.size,2,none⟩=some (.int .i64 0):=aF rfl;by_cases h4:l.length<4
 ·have mF:Hid (iy l=none):=BO h4;have hs:decide (((tx l).size:Int)<4)=true:=by rw[dR];simp;omega
  clear h4;generalize tx l=z at *;go_enter Tryz.func66,Tryz.ntmps66;go_wp2;go_returns;exact⟨by rw[mF.out];rfl,(af _).alloc _⟩
 ·match l,hl,h4 with
  | [],_,h4=>exact absurd (by simp) h4
  | [_],_,h4=>exact absurd (by simp) h4
  | [_,_],_,h4=>exact absurd (by simp) h4
  | [_,_,_],_,h4=>exact absurd (by simp) h4
  | a :: b :: c :: d :: r,hl,_=>
    have hs:((tx (a :: b :: c :: d :: r)).size:Int)<4↔False:=by rw[dR];simp;omega
    have hs3:(3:Int)<=((tx (a :: b :: c :: d :: r)).size:Int):=by rw[dR];simp;omega
    have hs2:(2:Int)<=((tx (a :: b :: c :: d :: r)).size:Int):=by rw[dR];simp;omega
    have hi0:=lT (l:=a :: b :: c :: d :: r) (k:=0) rfl 0 rfl;have hi2:=lT (l:=a :: b :: c :: d :: r) (k:=2) rfl 2 rfl;have hx3:=Nr (a :: b :: c :: d :: r) 3;rw[show (a :: b :: c :: d :: r).drop 3=d :: r from rfl]at hx3;have hx1:(tx (a :: b :: c :: d :: r)).extract 1 2=tx [b]:=pG _ 1 2;have Qq:=aa (λW=>vE [b] W (by simp));have JM:=aa (λW=>vE (d :: r) W (by simp at hl ⊢;omega));have YQ:=aa (λhc=>Rf (a:=a) (b:=b) (c:=c) (d:=d) (r:=r) hc);have HBAD:=aa (λhc=>Rq (a:=a) (b:=b) (c:=c) (d:=d) (r:=r) hc);have hca:∀(x y:UInt8),(((x.toNat:Int))=((y.toNat:Nat):Int))↔x=y:=λx y=>by rw[<-UInt8.toNat_inj];omega
    have c61:((c.toNat:Int)=61)↔c=61:=hca c 61;have WX:((a.toNat:Int)=114)↔a=114:=hca a 114;have a119:((a.toNat:Int)=119)↔a=119:=hca a 119;obtain⟨l0,hl0⟩:∃l0,a :: b :: c :: d :: r=l0:=⟨_,rfl⟩;rw[hl0]at hs hs2 hs3 hi0 hi2 hx3 hx1 YQ HBAD ⊢;obtain⟨y1b,hy1⟩:∃y,tx [b]=y:=⟨_,rfl⟩;obtain⟨y2d,hy2⟩:∃y,tx (d :: r)=y:=⟨_,rfl⟩;rw[hy1]at hx1 Qq;rw[hy2]at hx3 JM;obtain⟨kb,hkb⟩:∃y,gF [b]=y:=⟨_,rfl⟩;obtain⟨vd,hvd⟩:∃y,gF (d :: r)=y:=⟨_,rfl⟩;rw[hkb]at Qq YQ;rw[hvd]at JM YQ;obtain⟨z,hz⟩:∃y,tx l0=y:=⟨_,rfl⟩;rw[hz]at hs hs2 hs3 hi0 hi2 hx3 hx1 ⊢;obtain⟨an,JN⟩:∃y:Int,(a.toNat:Int)=y:=⟨_,rfl⟩;obtain⟨cn,hcn⟩:∃y:Int,(c.toNat:Int)=y:=⟨_,rfl⟩;rw[JN]at hi0 WX a119;rw[hcn]at hi2 c61;clear hca hl hl0 hy1 hy2 hkb hvd hz JN hcn;by_cases hgood:cn=61/\(an=114∨an=119)
    ·obtain⟨kd,hkd⟩:∃kd:Int,(if a=119 then 2 else 1)=kd:=⟨_,rfl⟩;have U7:Hid ((iY ⟨kd,kb,vd⟩=true->iy l0=some ⟨kd,kb,vd⟩)/\(iY ⟨kd,kb,vd⟩=false->iy l0=none)):=by
      have:=YQ.out ⟨c61.1 hgood.1,hgood.2.imp WX.1 a119.1⟩
      rwa [hkd]at this
     have Zz:Hid ((an=119->kd=2)/\(¬an=119->kd=1)):=⟨λe=>by rw[<-hkd,aj (a119.1 e)],λe=>by rw[<-hkd,au (λe'=>e (a119.2 e'))]⟩;have sZ:=aa (λW=>rz ⟨kd,kb,vd⟩ W);simp only[iG]at sZ;have q1:(cn != 61)=false:=by simp[hgood.1]
     have HG:=aa hgood.2;clear WX a119 c61 hgood hkd T0 T1 T2 YQ HBAD;go_enter Tryz.func66,Tryz.ntmps66;go_upto_region 1 with fail
     go_cut [22] (λs wx=>s=.bool false/\wx=w.alloc (.cells #[.int .i64 0,.int .i64 0,.int .i64 0] 67))
     case first=>
      rcases HG.out with h|h
      ·subst h;go_wp2;go_meet;case rel=>exact⟨rfl,rfl⟩
      ·subst h;go_wp2;go_meet;case rel=>exact⟨rfl,rfl⟩
     case rest=>
      obtain⟨rfl,rfl⟩:=hcut;go_upto_region 3 with fail
      go_cut [4] (λs wx=>∃p,s=.pointer (some ⟨p,0,none⟩)/\w.heap.size<p/\og wx p 1 kb vd/\og wx w.heap.size 0 0 0/\Ext w wx)
      case first=>
       refine wp_region_held_drew (S:=λ_=>True) (by kernel_rfl) trivial (λhHeld=>?_);simp only[List.size_toArray,eO,iJ,ig,Nat.reduceAdd];refine fG 0 (.string z) rfl (iK ⟨by kernel_rfl,λV s1=>by go_simp⟩) trivial ?_;try go_frame
       refine fG 1 (.string y1b) rfl (iK ⟨by kernel_rfl,λV s1=>by go_simp⟩) trivial ?_;try go_frame
       refine fG 3 (.string z) rfl (iK ⟨by kernel_rfl,λV s1=>by go_simp⟩) trivial ?_;try go_frame
       refine fG 4 (.string y2d) rfl (iK ⟨by kernel_rfl,λV s1=>by go_simp⟩) trivial ?_;try go_frame
       refine aO (rs:=[2,7]) (by kernel_rfl) (by simp) ?_;refine aY rfl (λK hK=>?_) (aY rfl (λK hK=>?_) bu)
       ·go_simp
        refine(Qq.out _).mono ?_
        rintro e w2 ⟨rfl,b2⟩;refine hK.out _ _ trivial (λ_=>?_);clear hK K;try go_frame
        have b2':Ext (w.alloc (.cells #[.int .i64 0,.int .i64 0,.int .i64 0] 67)) w2:=((af (w.alloc (.cells #[.int .i64 0,.int .i64 0,.int .i64 0] 67))).drew).trans b2;refine aO (rs:=[5,7]) (by kernel_rfl) (by simp) ?_;refine aY rfl (λK hK=>?_) (aY rfl (λK hK=>?_) bu)
        ·go_simp
         refine(JM.out _).mono ?_
         rintro e w3 ⟨rfl,b3⟩;refine hK.out _ _ trivial (λ_=>?_);clear hK K;try go_frame
         refine fG 6 (.agg #[.int .i64 1,.int .i64 kb,.int .i64 vd]) rfl (iK ⟨by kernel_rfl,λV s1=>by go_simp⟩) trivial ?_;try go_frame
         refine aO (rs:=[7]) (by kernel_rfl) (by simp) ?_;refine aY rfl (λK hK=>?_) bu;go_simp;refine hK.out _ _ trivial (λ_=>?_);clear hK K;try go_frame
         have bx:=rH w3 0 0 0 67 rfl;obtain⟨f0,f1,f2,ff⟩:=id bx;have g0:=ff 0;have g1:=ff 1;have g2:=ff 2;have hsz:=(b2'.trans b3).size;simp only[World.size_alloc]at hsz;refine aO (rs:=[8]) (by kernel_rfl) (by simp) ?_;refine aY rfl (λK hK=>?_) bu;go_simp;refine hK.out _ _ trivial (λ_=>?_);clear hK K;try go_frame
         refine ji (by kernel_rfl) ?_ _;go_wp2;go_meet;case rel=>exact⟨_,rfl,by omega,rH w3 1 kb vd 67 rfl,(rH w 0 0 0 67 rfl).ext ((b2'.trans b3).alloc _),((af w).alloc _).trans ((b2'.trans b3).alloc _)⟩
        ·go_simp;refine hK.out _ _ trivial (λ_=>?_);clear hK K;try go_frame
         refine aO (rs:=[5]) (by kernel_rfl) (by simp) ?_;refine aY rfl (λK hK=>?_) bu;go_simp
         refine(JM.out _).mono ?_
         rintro e w3 ⟨rfl,b3⟩;refine hK.out _ _ trivial (λ_=>?_);clear hK K;try go_frame
         have bx:=(rH w2 0 0 0 67 rfl).ext b3;obtain⟨f0,f1,f2,ff⟩:=id bx;have g0:=ff 0;have g1:=ff 1;have g2:=ff 2;have hsz:=b2'.size;simp only[World.size_alloc]at hsz;refine fG 6 (.agg #[.int .i64 1,.int .i64 kb,.int .i64 vd]) rfl (iK ⟨by kernel_rfl,λV s1=>by go_simp⟩) trivial ?_;try go_frame
         refine aO (rs:=[8]) (by kernel_rfl) (by simp) ?_;refine aY rfl (λK hK=>?_) bu;go_simp;refine hK.out _ _ trivial (λ_=>?_);clear hK K;try go_frame
         refine ji (by kernel_rfl) ?_ _;go_wp2;go_meet;case rel=>exact K5 1 kb vd ((b2'.alloc _).trans b3) (by omega) (bx)
       ·go_simp;refine hK.out _ _ trivial (λ_=>?_);clear hK K;try go_frame
        refine aO (rs:=[2]) (by kernel_rfl) (by simp) ?_;refine aY rfl (λK hK=>?_) bu;go_simp
        refine(Qq.out _).mono ?_
        rintro e w2 ⟨rfl,b2⟩;refine hK.out _ _ trivial (λ_=>?_);clear hK K;try go_frame
        refine aO (rs:=[5]) (by kernel_rfl) (by simp) ?_;refine aY rfl (λK hK=>?_) bu;go_simp
        refine(JM.out _).mono ?_
        rintro e w3 ⟨rfl,b3⟩;refine hK.out _ _ trivial (λ_=>?_);clear hK K;try go_frame
        have bx:=(rH (w.alloc (.cells #[.int .i64 0,.int .i64 0,.int .i64 0] 67)).drew 0 0 0 67 (q:=w.heap.size+1) (by simp)).ext (b2.trans b3);obtain⟨f0,f1,f2,ff⟩:=id bx;have g0:=ff 0;have g1:=ff 1;have g2:=ff 2;refine fG 6 (.agg #[.int .i64 1,.int .i64 kb,.int .i64 vd]) rfl (iK ⟨by kernel_rfl,λV s1=>by go_simp⟩) trivial ?_;try go_frame
        refine aO (rs:=[8]) (by kernel_rfl) (by simp) ?_;refine aY rfl (λK hK=>?_) bu;go_simp;refine hK.out _ _ trivial (λ_=>?_);clear hK K;try go_frame
        refine ji (by kernel_rfl) ?_ _;go_wp2;go_meet;case rel=>exact K5 1 kb vd ((((af (w.alloc (.cells #[.int .i64 0,.int .i64 0,.int .i64 0] 67))).drew).alloc _).trans (b2.trans b3)) (qx _) (bx)
      case rest=>
       obtain⟨q,rfl,hq,hy,ht,hX⟩:=hcut;have HY:=aa hy;have HT:=aa ht;have HX:=aa hX;clear hy ht hX;go_upto_if 33 with fail
       go_cut [] (λwx=>og wx q kd kb vd/\og wx w.heap.size 0 0 0/\Ext w wx)
       case first=>
        by_cases h119:an=119
        ·obtain⟨y0,y1,y2,yf⟩:=id HY.out;have y3:=yf 0;obtain rfl:=Zz.out.1 h119;go_wp2;go_meet;case rel=>exact⟨HY.out.kind 2,HT.out.other (by omega) 0 _,HX.out.setCell (p:=⟨q,0,none⟩) (aai hq) _⟩
        ·obtain rfl:=Zz.out.2 h119;go_wp2;go_meet;case rel=>exact⟨HY.out,HT.out,HX.out⟩
       case rest=>
        obtain⟨hy,ht,hX⟩:=hcut;obtain⟨y0,y1,y2,_⟩:=id hy;have V9:=aa hy;have HT2:=aa ht;have sV:=aa hX;clear hy ht hX HY HT HX;go_wp2_with fail
        refine(sZ.out _).mono ?_
        rintro e w5 ⟨rfl,b5⟩;obtain⟨p0,p1,p2,_⟩:=V9.out.ext b5;have HT5:=aa (HT2.out.ext b5);obtain⟨r0,r1,r2,rf⟩:=id HT5.out;have u0:=rf 0;have u1:=rf 1;have u2:=rf 2;have BS:=aa (sV.out.trans b5);clear b5 y0 y1 y2 rf
        cases hov:iY ⟨kd,kb,vd⟩ with
        | false=>
          have HR:Hid (iy l0=none):=U7.out.2 hov;obtain⟨z0,z1,z2,_⟩:=HT5.out.all 0 0 0;clear hov;go_wp2;refine bodyPost_ret (v:=.tuple #[.agg #[.int .i64 0,.int .i64 0,.int .i64 0],.bool false]) (by simp[results,Tryz.results66,go_sem,z0,z1,z2]) rfl ?_;exact⟨by rw[HR.out];rfl,Dz BS.out (av _) _ _ _⟩
        | true=>
          have HR:Hid (iy l0=some ⟨kd,kb,vd⟩):=U7.out.1 hov;obtain⟨z0,z1,z2,_⟩:=HT5.out.all kd kb vd;clear hov;go_wp2;refine bodyPost_ret (v:=.tuple #[.agg #[.int .i64 kd,.int .i64 kb,.int .i64 vd],.bool true]) (by simp[results,Tryz.results66,go_sem,z0,z1,z2]) rfl ?_;exact⟨by rw[HR.out];rfl,Dz BS.out (av _) _ _ _⟩
    ·have mF:Hid (iy l0=none):=HBAD.out (λe=>hgood ⟨c61.2 e.1,e.2.imp WX.2 a119.2⟩);have hgo:cn≠61∨(cn=61/\an≠114/\an≠119):=by omega
     clear WX a119 c61 hgood;rcases hgo with h|⟨h,h1,h2⟩
     ·have q1:(cn != 61)=true:=by simp[h]
      go_enter Tryz.func66,Tryz.ntmps66;go_wp2;go_returns;exact⟨by rw[mF.out];rfl,(af _).alloc _⟩
     ·subst h;have q2:(an != 114)=true:=by simp[h1]
      have q3:(an != 119)=true:=by simp[h2]
      go_enter Tryz.func66,Tryz.ntmps66;go_wp2;go_returns;exact⟨by rw[mF.out];rfl,(af _).alloc _⟩
