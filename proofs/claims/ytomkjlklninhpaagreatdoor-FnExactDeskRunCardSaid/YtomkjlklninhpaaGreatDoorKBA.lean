/- Lemmas. -/
import Derived.Test.YtomkjlklninhpaaGreatDoorKAV
import Derived.Test.YtomkjlklninhpaaGreatDoorKAY
set_option maxHeartbeats 16000000
set_option maxRecDepth 8000
set_option linter.all false
namespace Go.Proofs.YtomkjlklninhpaaGreatDoor
open Go.RowKit
theorem EN(x:Int)(w:World)(h0:0<=x)(h1:x<=4) :
 Calls Tryz.prog 29 #[.int .i64 x] w fun e w'=>e=.returned (.string (tx (Ya x.toNat)))/\Ext w w':=by
 have hx:x=0∨x=1∨x=2∨x=3∨x=4:=by omega
 clear h0 h1;rcases hx with rfl|rfl|rfl|rfl|rfl<;>(
  go_enter Tryz.func29,Tryz.ntmps29;go_wp2_with (go_at_call 48;refine(dY _ _ _ _).mono ?_;rintro e w' ⟨rfl,rfl⟩)
  go_returns;exact⟨rfl,(Ext.refl _).alloc _⟩)
theorem qh{l:List (List UInt8)}{k:Nat}{x:List UInt8}(hx:l[k]? =some x)(sep:List UInt8):joinL sep (l.take (k+1))=(if 0<k then joinL sep (l.take k)++sep else joinL sep (l.take k))++x:=by
 by_cases hk:0<k
 ·rw[if_pos hk,ES hk hx]
 ·obtain rfl:k=0:=by omega
  rw[if_neg (by omega),Dp hx];rfl
theorem qp(sep:List UInt8)(M:Nat){ws:List (List UInt8)}(h:∀w∈ws,w.length<=M)(k:Nat):(joinL sep (ws.take k)).length<=ws.length*(M+sep.length):=
 Nat.le_trans (nU sep M _ (fun w hw=>h w (List.mem_of_mem_take hw))) (Nat.mul_le_mul_right _ (by rw[List.length_take];omega))
theorem Bv{v:Value}{xs:List Int}(w:World)(h:rM encI w v xs)(hlen:xs.length<=1000)(hx:∀x∈xs,0<=x/\x<100) :
 Calls Tryz.prog 31 #[v] w fun e w'=>e=.returned (.string (tx (numsL xs)))/\Ext w w':=by
 obtain⟨A,c,rfl,hc⟩:=id h;have HC:=aa hc;have HX:=aa hx;have HN:Hid (numsL xs=joinL [32] ((xs.map fun x=>bK x.toNat).take xs.length)):=by show _ = _;rw[List.take_of_length_le (by simp)];rfl
 have HL:Hid (∀k,(joinL [32] ((xs.map fun x=>bK x.toNat).take k)).length<=3000):=fun k=>by
  have:=qp [32] 2 (ws:=xs.map fun x=>bK x.toNat) (fun w hw=>by obtain⟨x,_,rfl⟩:=List.mem_map.1 hw;exact kU _) k
  simp only[List.length_map,List.length_singleton]at this;omega
 clear h hc hx;go_enter Tryz.func31,Tryz.ntmps31;go_wp2;go_loopw [3,4] (fun o i wr=>Ext w wr/\∃k:Nat,k<=xs.length/\i=.int .i64 (k:Int)/\o=.string (tx (joinL [32] ((xs.map fun x=>bK x.toNat).take k)))) (fun _ i _=>xs.length-(intOf i).toNat)
 case atStart=>exact⟨Ext.refl _,0,Nat.zero_le _,rfl,rfl⟩
 case round=>
  obtain⟨hb,k,hk,rfl,rfl⟩:=hrel;by_cases hlt:k<xs.length
  ·obtain⟨x,hxk⟩:=af hlt;obtain⟨b,off,rfl,hbl,hcc⟩:=HC.out (by omega);have c0:=hb.cell (hcc k x hxk);simp only[encI]at c0;have hxr:=HX.out x (List.mem_of_getElem? hxk);have hin:jR x 0 1000=true:=bL.2 (by omega);have hwk:(xs.map fun x=>bK x.toNat)[k]? =some (bK x.toNat):=by rw[List.getElem?_map,hxk];rfl
   have hst:=qh hwk [32];have hl3:=HL.out k;have h2:=kU x.toNat;have Z9:=aa (fun W=>iE x W hxr.1 hxr.2);obtain⟨o,ho⟩:∃o,joinL [32] ((xs.map fun x=>bK x.toNat).take k)=o:=⟨_,rfl⟩;obtain⟨nl,hnl⟩:∃o,bK x.toNat=o:=⟨_,rfl⟩;rw[ho,hnl]at hst;rw[ho]at hl3 ⊢;rw[hnl]at h2 Z9;clear hwk hcc hxk hxr ho hnl;by_cases h0:0<k
   ·rw[if_pos h0]at hst;have HST:=aa hst;have a1:∀W,(Op.stringOp .add (tx o) ⟨#[32]⟩).run Tryz.prog W = _:=aZ o [32] (by simp;omega);have a2:=aZ (o++[32]) nl (by simp;omega);have hk0:(0:Int)<(k:Int):=by omega
    clear hst h0 hl3 h2;go_wp2_with (first|(go_at_call 48;refine(dY _ _ _ _).mono ?_;rintro e w' ⟨rfl,rfl⟩)|(go_at_call 46;refine(Z9.out _).mono ?_;rintro e w' ⟨rfl,b1⟩))
    go_roundw;case rel=>exact⟨hb.trans b1,k+1,by omega,by go_num,by rw[HST.out,List.append_assoc];rfl⟩
    case measure=>simp[intOf];omega
   ·rw[if_neg h0]at hst;have HST:=aa hst;have a2:=aZ o nl (by omega);have hk0:¬((0:Int)<(k:Int)):=by omega
    clear hst h0 hl3 h2;go_wp2_with (first|(go_at_call 48;refine(dY _ _ _ _).mono ?_;rintro e w' ⟨rfl,rfl⟩)|(go_at_call 46;refine(Z9.out _).mono ?_;rintro e w' ⟨rfl,b1⟩))
    go_roundw;case rel=>exact⟨hb.trans b1,k+1,by omega,by go_num,by rw[HST.out]⟩
    case measure=>simp[intOf];omega
  ·obtain rfl:k=xs.length:=by omega
   obtain⟨o,ho⟩:∃o,joinL [32] ((xs.map fun x=>bK x.toNat).take xs.length)=o:=⟨_,rfl⟩;rw[ho]at HN ⊢;clear ho;go_wp2;go_returns;exact⟨by rw[HN.out];rfl,hb⟩
theorem Lh(t:aA)(ov:Value)(w:World)(h:aF 3 aj w ov t.ops)(hlen:t.ops.length<=2097152) :
 Calls Tryz.prog 61 #[ng t ov] w fun e w'=>e=.returned (.string (tx (gI t)))/\Ext w w':=by
 obtain⟨s,ops,d⟩:=t;simp only at h hlen;have HV:=aa (fun W (b:Ext w W)=>lN ⟨s,ops,d⟩ ov W (h.ext b) hlen);obtain⟨A,c,rfl,hc⟩:=id h;unfold ng at HV ⊢;simp only at HV ⊢
 cases hok:bX ⟨s,ops,d⟩ with
 | false=>
   rw[hok]at HV;have ht:Hid (gI ⟨s,ops,d⟩=[]):=by show _ = _;rw[gI,hok];rfl
   clear h hlen hc hok;go_enter Tryz.func61,Tryz.ntmps61;go_wp2_with (go_at_call 42;refine(HV.out _ ((Ext.refl _).alloc _)).mono ?_;rintro e w1 ⟨rfl,b1⟩)
   go_returns;exact⟨by rw[ht.out];rfl,((Ext.refl _).alloc _).trans b1⟩
 | true=>
   rw[hok]at HV;have hs:=jC hok;simp only at hs;have ho6:=bU hok;simp only at ho6;have HC:=aa hc;have Z9:=aa (fun W=>iE s W hs.1 (by omega));have HW:Hid (bR ⟨s,ops,d⟩=[115,jg s.toNat] :: (if d then [111,107] else [111,102,102]) :: ops.map sF):=rfl;have HT:Hid (gI ⟨s,ops,d⟩=joinL [32] (bR ⟨s,ops,d⟩)):=by show _ = _;rw[gI,hok];rfl
   have hn:bK s.toNat=[jg s.toNat]:=by unfold bK;rw[if_pos (by omega)]
   rw[hn]at Z9;have dO:=aa hok;clear h hlen hc hok hn hs;go_enter Tryz.func61,Tryz.ntmps61;go_wp2_with fail
   refine(HV.out _ ((Ext.refl _).alloc _)).mono ?_
   rintro e w1 ⟨rfl,b1⟩;have T0:w1.cell? ⟨w.heap.size,0,none⟩=some (.int .i64 s):=b1.cell (av rfl);have T1:w1.cell? ⟨w.heap.size,1,none⟩=some (.slice A ops.length c):=b1.cell (av rfl);have T2:w1.cell? ⟨w.heap.size,2,none⟩=some (.bool d):=b1.cell (av rfl);have HT1:=aa (And.intro T1 (((Ext.refl w).alloc _).trans b1));have a1:∀W,(Op.stringOp .add ⟨#[115]⟩ (tx [jg s.toNat])).run Tryz.prog W=.ok (.string (tx [115,jg s.toNat])) W:=aZ [115] [jg s.toNat] (by simp);have a2:∀W,(Op.stringOp .add (tx [115,jg s.toNat]) ⟨#[32,111,102,102]⟩).run Tryz.prog W=.ok (.string (tx [115,jg s.toNat,32,111,102,102])) W:=aZ [115,jg s.toNat] [32,111,102,102] (by simp);have a3:∀W,(Op.stringOp .add (tx [115,jg s.toNat]) ⟨#[32,111,107]⟩).run Tryz.prog W=.ok (.string (tx [115,jg s.toNat,32,111,107])) W:=aZ [115,jg s.toNat] [32,111,107] (by simp);obtain⟨z1,hz1⟩:∃z,tx [115,jg s.toNat]=z:=⟨_,rfl⟩;obtain⟨z0,hz0⟩:∃z,tx [jg s.toNat]=z:=⟨_,rfl⟩;rw[hz1,hz0]at a1;rw[hz1]at a2 a3;rw[hz0]at Z9;obtain⟨z2,hz2⟩:∃z,tx [115,jg s.toNat,32,111,102,102]=z:=⟨_,rfl⟩;obtain⟨z3,hz3⟩:∃z,tx [115,jg s.toNat,32,111,107]=z:=⟨_,rfl⟩;rw[hz2]at a2;rw[hz3]at a3;have HZ:=aa (And.intro hz2 hz3);clear hz0 hz1 hz2 hz3 b1;go_wp2_with fail
   refine(Z9.out _).mono ?_
   rintro e w2 ⟨rfl,b2⟩;have HB2:=aa b2;have T0:=b2.cell T0;have T1:=b2.cell T1;have T2:=b2.cell T2;clear b2
   cases d with
   | false=>
     have h0:joinL [32] ((bR ⟨s,ops,false⟩).take 2)=[115,jg s.toNat,32,111,102,102]:=rfl;go_wp2_with fail
     go_loopw [3,4] (fun o i wr=>Ext w1 wr/\∃k:Nat,k<=ops.length/\i=.int .i64 (k:Int)/\o=.string (tx (joinL [32] ((bR ⟨s,ops,false⟩).take (2+k))))) (fun _ i _=>ops.length-(intOf i).toNat)
     case atStart=>exact⟨HB2.out,0,Nat.zero_le _,rfl,by rw[Nat.add_zero,h0];exact(congrArg Value.string HZ.out.1).symm⟩
     case round=>
      obtain⟨hb,k,hk,rfl,rfl⟩:=hrel;have T1:=hb.cell HT1.out.1;by_cases hlt:k<ops.length
      ·obtain⟨o,ho⟩:=af hlt;obtain⟨b,off,rfl,hbl,hcc⟩:=HC.out (by omega);have hw:=HT1.out.2.trans hb;have c0:=hw.cell (hcc k o ho 0 (by omega));have c1:=hw.cell (hcc k o ho 1 (by omega));have c2:=hw.cell (hcc k o ho 2 (by omega));simp only[aj,Nat.add_zero]at c0 c1 c2;have hwk:(bR ⟨s,ops,false⟩)[2+k]? =some (sF o):=by rw[show 2+k=k+1+1 by omega,HW.out,List.getElem?_cons_succ,List.getElem?_cons_succ,List.getElem?_map,ho];rfl
       have hst:=qh hwk [32];rw[if_pos (by omega)]at hst;have Vr:gH o=true:=eT dO.out (List.mem_of_getElem? ho);have OC:=aa (fun W=>CU o W);have hot:ig o=sF o:=by rw[ig,if_pos Vr]
       rw[hot]at OC;have hj:(joinL [32] ((bR ⟨s,ops,false⟩).take (2+k))).length<=800:=by
        have:=qp [32] 5 (ws:=bR ⟨s,ops,false⟩) (fun x hx=>by
         rw[HW.out]at hx;rcases List.mem_cons.1 hx with rfl|hx
         ·simp
         rcases List.mem_cons.1 hx with rfl|hx
         ·split<;>simp
         obtain⟨o',ho',rfl⟩:=List.mem_map.1 hx;exact uj o') (2+k)
        rw[HW.out]at this;simp only[List.length_cons,List.length_map,List.length_nil]at this;rw[HW.out];omega
       have hol:=uj o;obtain⟨out,hout⟩:∃x,joinL [32] ((bR ⟨s,ops,false⟩).take (2+k))=x:=⟨_,rfl⟩;obtain⟨ol,QT⟩:∃x,sF o=x:=⟨_,rfl⟩;rw[hout,QT]at hst;rw[hout]at hj ⊢;rw[QT]at hol OC;have HST:=aa hst;have s1:∀W,(Op.stringOp .add (tx out) ⟨#[32]⟩).run Tryz.prog W=.ok (.string (tx (out++[32]))) W:=aZ out [32] (by simp;omega);have s2:=aZ (out++[32]) ol (by simp;omega);obtain⟨y1,hy1⟩:∃z,tx (out++[32])=z:=⟨_,rfl⟩;obtain⟨y2,hy2⟩:∃z,tx (out++[32]++ol)=z:=⟨_,rfl⟩;rw[hy1]at s1 s2;rw[hy2]at s2;have HY:=aa hy2;obtain⟨kd,ky,vl⟩:=o;simp only[fP]at OC;simp only at c0 c1 c2;clear hwk hst Vr hot hj hol hout QT hcc ho hy1 hy2 hw T0 T2 h0;go_wp2_with fail
       refine(OC.out _).mono ?_
       rintro e w4 ⟨rfl,b4⟩;go_wp2_with fail
       go_roundw;case rel=>exact⟨hb.trans b4,k+1,by omega,by go_num,by rw[show 2+(k+1)=2+k+1 by omega,HST.out,<-HY.out]⟩
       case measure=>simp[intOf];omega
      ·obtain rfl:k=ops.length:=by omega
       obtain⟨out,hout⟩:∃x,joinL [32] ((bR ⟨s,ops,false⟩).take (2+ops.length))=x:=⟨_,rfl⟩;have HO:Hid (gI ⟨s,ops,false⟩=out):=by show _ = _;rw[HT.out,<-hout,List.take_of_length_le];rw[HW.out];simp;omega
       rw[hout];clear hout T0 T2 h0;go_wp2;go_returns;exact⟨by rw[HO.out];rfl,HT1.out.2.trans hb⟩
   | true=>
     have h0:joinL [32] ((bR ⟨s,ops,true⟩).take 2)=[115,jg s.toNat,32,111,107]:=rfl;go_wp2_with fail
     refine(Z9.out _).mono ?_
     rintro e w3 ⟨rfl,b3⟩;have T0:=b3.cell T0;have T1:=b3.cell T1;have T2:=b3.cell T2;replace HB2:Hid (Ext w1 w3):=HB2.out.trans b3;clear b3;go_wp2_with fail
     go_loopw [3,4] (fun o i wr=>Ext w1 wr/\∃k:Nat,k<=ops.length/\i=.int .i64 (k:Int)/\o=.string (tx (joinL [32] ((bR ⟨s,ops,true⟩).take (2+k))))) (fun _ i _=>ops.length-(intOf i).toNat)
     case atStart=>exact⟨HB2.out,0,Nat.zero_le _,rfl,by rw[Nat.add_zero,h0];exact(congrArg Value.string HZ.out.2).symm⟩
     case round=>
      obtain⟨hb,k,hk,rfl,rfl⟩:=hrel;have T1:=hb.cell HT1.out.1;by_cases hlt:k<ops.length
      ·obtain⟨o,ho⟩:=af hlt;obtain⟨b,off,rfl,hbl,hcc⟩:=HC.out (by omega);have hw:=HT1.out.2.trans hb;have c0:=hw.cell (hcc k o ho 0 (by omega));have c1:=hw.cell (hcc k o ho 1 (by omega));have c2:=hw.cell (hcc k o ho 2 (by omega));simp only[aj,Nat.add_zero]at c0 c1 c2;have hwk:(bR ⟨s,ops,true⟩)[2+k]? =some (sF o):=by rw[show 2+k=k+1+1 by omega,HW.out,List.getElem?_cons_succ,List.getElem?_cons_succ,List.getElem?_map,ho];rfl
       have hst:=qh hwk [32];rw[if_pos (by omega)]at hst;have Vr:gH o=true:=eT dO.out (List.mem_of_getElem? ho);have OC:=aa (fun W=>CU o W);have hot:ig o=sF o:=by rw[ig,if_pos Vr]
       rw[hot]at OC;have hj:(joinL [32] ((bR ⟨s,ops,true⟩).take (2+k))).length<=800:=by
        have:=qp [32] 5 (ws:=bR ⟨s,ops,true⟩) (fun x hx=>by
         rw[HW.out]at hx;rcases List.mem_cons.1 hx with rfl|hx
         ·simp
         rcases List.mem_cons.1 hx with rfl|hx
         ·split<;>simp
         obtain⟨o',ho',rfl⟩:=List.mem_map.1 hx;exact uj o') (2+k)
        rw[HW.out]at this;simp only[List.length_cons,List.length_map,List.length_nil]at this;rw[HW.out];omega
       have hol:=uj o;obtain⟨out,hout⟩:∃x,joinL [32] ((bR ⟨s,ops,true⟩).take (2+k))=x:=⟨_,rfl⟩;obtain⟨ol,QT⟩:∃x,sF o=x:=⟨_,rfl⟩;rw[hout,QT]at hst;rw[hout]at hj ⊢;rw[QT]at hol OC;have HST:=aa hst;have s1:∀W,(Op.stringOp .add (tx out) ⟨#[32]⟩).run Tryz.prog W=.ok (.string (tx (out++[32]))) W:=aZ out [32] (by simp;omega);have s2:=aZ (out++[32]) ol (by simp;omega);obtain⟨y1,hy1⟩:∃z,tx (out++[32])=z:=⟨_,rfl⟩;obtain⟨y2,hy2⟩:∃z,tx (out++[32]++ol)=z:=⟨_,rfl⟩;rw[hy1]at s1 s2;rw[hy2]at s2;have HY:=aa hy2;obtain⟨kd,ky,vl⟩:=o;simp only[fP]at OC;simp only at c0 c1 c2;clear hwk hst Vr hot hj hol hout QT hcc ho hy1 hy2 hw T0 T2 h0;go_wp2_with fail
       refine(OC.out _).mono ?_
       rintro e w4 ⟨rfl,b4⟩;go_wp2_with fail
       go_roundw;case rel=>exact⟨hb.trans b4,k+1,by omega,by go_num,by rw[show 2+(k+1)=2+k+1 by omega,HST.out,<-HY.out]⟩
       case measure=>simp[intOf];omega
      ·obtain rfl:k=ops.length:=by omega
       obtain⟨out,hout⟩:∃x,joinL [32] ((bR ⟨s,ops,true⟩).take (2+ops.length))=x:=⟨_,rfl⟩;have HO:Hid (gI ⟨s,ops,true⟩=out):=by show _ = _;rw[HT.out,<-hout,List.take_of_length_le];rw[HW.out];simp;omega
       rw[hout];clear hout T0 T2 h0;go_wp2;go_returns;exact⟨by rw[HO.out];rfl,HT1.out.2.trans hb⟩
theorem JE{t:aA}(h:bX t=true):(lH t).length<=48:=by
 have h6:=bU h
 have:=nU [32] 5 (bR t) (fun x hx=>by
  unfold bR at hx;rcases List.mem_cons.1 hx with rfl|hx
  ·simp
  rcases List.mem_cons.1 hx with rfl|hx
  ·split<;>simp
  obtain⟨o',_,rfl⟩:=List.mem_map.1 hx;exact uj o')
 simp only[bR,List.length_cons,List.length_map,List.length_nil]at this;unfold lH;simp only[bR];omega
theorem Bq{v:Value}{h:List aA}(w:World)(H:gL w v h)(hok:aC h=true) :
 Calls Tryz.prog 32 #[v] w fun e w'=>e=.returned (.string (tx (wm h)))/\Ext w w':=by
 obtain⟨A,c,rfl⟩:=H.slice;have hl:h.length<=6:=aM hok;have HH:=aa H;have HV:=aa (fun W (b:Ext w W)=>bu W (H.ext b) (by omega) (aD hok));rw[hok]at HV;have HT:=aa (fun t (ht:t∈h)=>bY hok ht);have HN:Hid (wm h=joinL [59,32] ((h.map lH).take h.length)):=by show _ = _;rw[List.take_of_length_le (by simp)];rfl
 clear H hok;go_enter Tryz.func32,Tryz.ntmps32;go_wp2;go_loopw [3,4] (fun o i wr=>Ext w wr/\∃k:Nat,k<=h.length/\i=.int .i64 (k:Int)/\o=.string (tx (joinL [59,32] ((h.map lH).take k)))) (fun _ i _=>h.length-(intOf i).toNat)
 case atStart=>exact⟨Ext.refl _,0,Nat.zero_le _,rfl,rfl⟩
 case round=>
  obtain⟨hb,k,hk,rfl,rfl⟩:=hrel;by_cases hlt:k<h.length
  ·obtain⟨b',off',rfl,pg,hcc⟩:=(HH.out.ext hb).head (by omega);obtain⟨t,ht⟩:=af hlt;obtain⟨ov,c0,c1,c2,hs⟩:=hcc k t ht;obtain⟨A4,c4,rfl,_⟩:=id hs;have htk:=HT.out t (List.mem_of_getElem? ht);have hol:=bU htk;have htt:gI t=lH t:=by rw[gI,if_pos htk]
   have hwk:(h.map lH)[k]? =some (lH t):=by rw[List.getElem?_map,ht];rfl
   have hst:=qh hwk [59,32];have hl3:=qp [59,32] 48 (ws:=h.map lH) (fun x hx=>by obtain⟨t',ht',rfl⟩:=List.mem_map.1 hx;exact JE (HT.out t' ht')) k;simp only[List.length_map,List.length_cons,List.length_nil]at hl3;have h2:=JE htk;have HS:=aa (fun W (b:Ext wr W)=>Lh t _ W (hs.ext b) (by omega));rw[htt]at HS;unfold ng at HS;obtain⟨o,ho⟩:∃o,joinL [59,32] ((h.map lH).take k)=o:=⟨_,rfl⟩;obtain⟨nl,hnl⟩:∃o,lH t=o:=⟨_,rfl⟩;rw[ho,hnl]at hst;rw[ho]at hl3 ⊢;rw[hnl]at h2 HS;have HST:=aa hst;clear hwk hcc ht htk htt ho hnl hs hst;by_cases h0:0<k
   ·have DL:Hid (joinL [59,32] ((h.map lH).take (k+1))=o++[59,32]++nl):=by rw[HST.out,if_pos h0];rfl
    have a1:∀W,(Op.stringOp .add (tx o) ⟨#[59,32]⟩).run Tryz.prog W=.ok (.string (tx (o++[59,32]))) W:=aZ o [59,32] (by simp;omega);have a2:=aZ (o++[59,32]) nl (by simp;omega);obtain⟨y1,hy1⟩:∃z,tx (o++[59,32])=z:=⟨_,rfl⟩;obtain⟨y2,hy2⟩:∃z,tx (o++[59,32]++nl)=z:=⟨_,rfl⟩;rw[hy1]at a1 a2;rw[hy2]at a2;have HY:=aa hy2;have hk0:(0:Int)<(k:Int):=by omega
    clear h0 hl3 h2 hy1 hy2;go_wp2_with fail
    refine(HV.out _ hb).mono ?_
    rintro e w2 ⟨rfl,b2⟩;have c0:=b2.cell c0;have c1:=b2.cell c1;have c2:=b2.cell c2;go_wp2_with fail
    refine(HS.out _ b2).mono ?_
    rintro e w3 ⟨rfl,b3⟩;go_wp2_with fail
    go_roundw;case rel=>exact⟨(hb.trans b2).trans b3,k+1,by omega,by go_num,by rw[DL.out,<-HY.out]⟩
    case measure=>simp[intOf];omega
   ·have DL:Hid (joinL [59,32] ((h.map lH).take (k+1))=o++nl):=by rw[HST.out,if_neg h0];rfl
    have a2:=aZ o nl (by omega);have hk0:¬((0:Int)<(k:Int)):=by omega
    clear h0 hl3 h2;go_wp2_with fail
    refine(HV.out _ hb).mono ?_
    rintro e w2 ⟨rfl,b2⟩;have c0:=b2.cell c0;have c1:=b2.cell c1;have c2:=b2.cell c2;go_wp2_with fail
    refine(HS.out _ b2).mono ?_
    rintro e w3 ⟨rfl,b3⟩;go_wp2_with fail
    go_roundw;case rel=>exact⟨(hb.trans b2).trans b3,k+1,by omega,by go_num,by rw[DL.out]⟩
    case measure=>simp[intOf];omega
  ·obtain rfl:k=h.length:=by omega
   obtain⟨o,ho⟩:∃o,joinL [59,32] ((h.map lH).take h.length)=o:=⟨_,rfl⟩;rw[ho]at HN ⊢;clear ho;go_wp2;go_returns;exact⟨by rw[HN.out];rfl,hb⟩
theorem RA:∀{l:List UInt8} {k:Nat},(∀c∈l.take k,c≠32)->l[k]? =some 32->dR l=l.take k/\dJ l=l.drop (k+1)
 | [],k,_,h=>by simp at h
 | c :: l,0,_,h=>by simp at h;subst h;exact⟨by simp[dR],by simp[dJ]⟩
 | c :: l,k+1,hn,h=>by have hc:c≠32:=hn c (by simp);obtain⟨h1,h2⟩:=RA (l:=l) (k:=k) (fun x hx=>hn x (by simp[hx])) (by simpa using h);unfold dR dJ at *;simp[hc];exact⟨h1,by simpa using h2⟩
theorem JH:∀{l:List UInt8},(∀c∈l,c≠32)->dR l=l/\dJ l=[]
 | [],_=>⟨rfl,rfl⟩
 | c :: l,hn=>by have hc:c≠32:=hn c (by simp);obtain⟨h1,h2⟩:=JH (l:=l) (fun x hx=>hn x (by simp[hx]));unfold dR dJ at *;simp[hc];exact⟨h1,by simpa using h2⟩
theorem LC(l:List UInt8)(w:World)(hl:l.length<=1048576) :
 Calls Tryz.prog 22 #[.string (tx l)] w fun e w'=>e=.returned (.tuple #[.string (tx (dR l)),.string (tx (dJ l))])/\Ext w w':=by
 have HI:=aa (fun(k:Nat) (x:UInt8) (hx:l[k]? =some x)=>jZ hx (k:Int) rfl);have HE:=aa (fun i j=>ny l i j);have hsz:=dH l;obtain⟨z,hz⟩:∃z,tx l=z:=⟨_,rfl⟩;have HZ:=aa hz;rw[hz]at hsz HI HE ⊢;clear hz;go_enter Tryz.func22,Tryz.ntmps22;go_wp2;go_loopw [4] (fun i wr=>Ext w wr/\∃k:Nat,k<=l.length/\i=.int .i64 (k:Int)/\Hid (∀c∈l.take k,c≠32)) (fun i _=>l.length-(intOf i).toNat)
 case atStart=>exact⟨Ext.refl _,0,Nat.zero_le _,rfl,by intro c hc;simp at hc⟩
 case round=>
  obtain⟨hb,k,hk,rfl,HC⟩:=hrel;by_cases hlt:k<l.length
  ·obtain⟨x,hx⟩:=af hlt;have hi0:=HI.out k x hx;have hki:(k:Int)<(l.length:Int):=by omega
   have hk0:(0:Int)<=(k:Int):=by omega
   by_cases h32:x=32
   ·subst h32;obtain⟨q1,q2⟩:=RA HC.out hx;have e1:z.extract 0 k=tx (dR l):=by rw[HE.out,q1];rfl
    have e2:z.extract (k+1) z.size=tx (dJ l):=by rw[HE.out,q2,hsz,List.take_length]
    rw[hsz]at e2;have hwk:IntKind.i64.wrap ((k:Int)+1)=(k:Int)+1:=IntWalk.i64_in _ (by have:=(List.getElem?_eq_some_iff.1 hx).1;omega);clear hx q1 q2;go_wp2;refine aO (by kernel_rfl) (by kernel_rfl) ?_;repeat (go_big_quiet_step (fail))
    refine wpQuiet_nil ?_;intro w3 hb3;go_wp2;go_returns;exact⟨rfl,hb.trans hb3⟩
   ·have hx32:((x.toNat:Int)==32)=false:=by
     rw[beq_eq_false_iff_ne];intro e;have e':(x.toNat:Int)=32:=by simpa using e
     exact h32 (UInt8.toNat_inj.1 (show x.toNat=(32:UInt8).toNat from Int.ofNat_inj.1 e'))
    have HX:=aa (And.intro hx h32);clear hx h32;go_wp2;go_roundw;case rel=>exact⟨hb,k+1,by omega,by go_num,by
     intro c hc;rw[ah HX.out.1]at hc;rcases List.mem_append.1 hc with hc|hc
     ·exact HC.out c hc
     ·rw[List.mem_singleton]at hc;exact hc▸HX.out.2⟩
    case measure=>simp[intOf];omega
  ·obtain rfl:k=l.length:=by omega
   have hw:=JH (l:=l) (by have:=HC.out;rwa [List.take_length]at this);have HW:=aa hw;clear hw;go_wp2;go_returns;exact⟨by rw[HW.out.1,HW.out.2,HZ.out];rfl,hb⟩
def eU(l:List UInt8):Int:=match dD l with
 | some n=>(n:Int)
 | none=>-1
theorem JN{l:List UInt8}(h1:1<=l.length)(h2:l.length<=2)(hd:∀c∈l,fC c=true):numOf l<100/\(eU l=if bK (numOf l)=l then (numOf l:Int) else -1):=by
 match l,h1,h2 with
 | [a],_,_=>
   have ha:=hd a (by simp);have hs:dD [a]=some (numOf [a]):=by rw[yz,if_pos ha];simp[numOf]
   obtain⟨h3,h4⟩:=pK hs;exact⟨h3,by rw[eU,hs,if_pos h4]⟩
 | [a,b],_,_=>
   have ha:=hd a (by simp);have hb:=hd b (by simp);have hn:numOf [a,b]=10*(a.toNat-48)+(b.toNat-48):=by simp[numOf]
   by_cases h0:a=48
   ·have hs:dD [a,b]=none:=by rw[tY,if_neg (fun e=>e.1 h0)]
    subst h0;have hb':=hb;simp only[fC,Bool.and_eq_true,decide_eq_true_eq]at hb';have hlt:numOf [48,b]<10:=by rw[hn];have:(48:UInt8).toNat=48:=rfl;omega
    refine⟨by omega,?_⟩;rw[eU,hs,if_neg (fun e=>?_)]
    have:=congrArg List.length e
    unfold bK at this;rw[if_pos hlt]at this;simp at this
   ·have hs:dD [a,b]=some (numOf [a,b]):=by rw[tY,if_pos ⟨h0,ha,hb⟩,hn]
    obtain⟨h3,h4⟩:=pK hs;exact⟨h3,by rw[eU,hs,if_pos h4]⟩
theorem JD{l:List UInt8}{c:UInt8}(hc:c∈l)(hd:fC c=false):eU l=-1:=by
 unfold eU dD
 have:lS l=false:=by unfold lS;rw[Bool.and_eq_false_iff];exact .inr (by rw[List.all_eq_false];exact⟨c,hc,by simp[hd]⟩)
 rw[this];rfl
theorem GL{l:List UInt8}(h:l.length=0∨3<=l.length):eU l=-1:=by unfold eU;rw[vC h]
theorem PO{l:List UInt8}{k:Nat}{x:UInt8}(hx:l[k]? =some x):numOf (l.take (k+1))=10*numOf (l.take k)+(x.toNat-48):=by unfold numOf;rw[ah hx,List.foldl_append];rfl
theorem MH{l:List UInt8}(h2:l.length<=2)(hd:∀c∈l,fC c=true):numOf l<100:=by
 rcases Nat.eq_zero_or_pos l.length with h|h
 ·rw[List.eq_nil_of_length_eq_zero h];decide
 ·exact(JN h h2 hd).1
theorem uf(l:List UInt8)(w:World)(hl:l.length<=1048576) :
 Calls Tryz.prog 24 #[.string (tx l)] w fun e w'=>e=.returned (.int .i64 (eU l))/\Ext w w':=by
 have HI:=aa (fun(k:Nat) (x:UInt8) (hx:l[k]? =some x)=>jZ hx (k:Int) rfl);have hsz:=dH l;have HZE:Hid (∀r:List UInt8,((tx r).toList==(tx l).toList)=decide (r=l)):=fun r=>by rw[eD,eD];by_cases e:r=l<;>simp[e]
 obtain⟨z,hz⟩:∃z,tx l=z:=⟨_,rfl⟩;rw[hz]at hsz HI HZE ⊢;have hz0:(z.toList==[])=decide (l.length=0):=by rw[<-hz,eD];cases l<;>simp
 clear hz;go_enter Tryz.func24,Tryz.ntmps24;go_wp2;go_loopw [3,4] (fun n i wr=>Ext w wr/\∃k:Nat,k<=l.length/\k<=2/\i=.int .i64 (k:Int)/\n=.int .i64 ((numOf (l.take k):Nat):Int)/\Hid (∀c∈l.take k,fC c=true)) (fun _ i _=>l.length-(intOf i).toNat)
 case atStart=>exact⟨Ext.refl _,0,Nat.zero_le _,by omega,rfl,rfl,by intro c hc;simp at hc⟩
 case round=>
  obtain⟨hb,k,hk,hk2,rfl,rfl,HC⟩:=hrel;have hsm:numOf (l.take k)<100:=MH (by rw[List.length_take];omega) HC.out;by_cases hlt:k<l.length
  ·obtain⟨x,hx⟩:=af hlt;have hi0:=HI.out k x hx;have hki:(k:Int)<(l.length:Int):=by omega
   have hk0:(0:Int)<=(k:Int):=by omega
   have HX:=aa hx;have HN:=aa (PO hx);obtain⟨m,hm⟩:∃m,numOf (l.take k)=m:=⟨_,rfl⟩;rw[hm]at hsm HN ⊢;by_cases h1:x.toNat<48
   ·have HB:Hid (eU l=-1):=JD (List.mem_of_getElem? hx) (by simp[fC];omega);have h1':((x.toNat:Int))<48:=by omega
    clear hx h1 hm;go_wp2;go_returns;exact⟨aX HB.out.symm,hb⟩
   ·have h1':¬(((x.toNat:Int))<48):=by omega
    by_cases h2:57<x.toNat
    ·have HB:Hid (eU l=-1):=JD (List.mem_of_getElem? hx) (by simp[fC];omega);have h2':(57:Int)<(x.toNat:Int):=by omega
     clear hx h1 hm h2;go_wp2;go_returns;exact⟨aX HB.out.symm,hb⟩
    ·have h2':¬((57:Int)<(x.toNat:Int)):=by omega
     by_cases h3:k=2
     ·have HB:Hid (eU l=-1):=GL (.inr (by omega));have h3':(1:Int)<(k:Int):=by omega
      clear hx h1 hm h2 h3;go_wp2;go_returns;exact⟨aX HB.out.symm,hb⟩
     ·have h3':¬((1:Int)<(k:Int)):=by omega
      have HD:Hid (fC x=true):=by show _ = _;simp[fC];omega
      obtain⟨d,hd⟩:∃d:Nat,x.toNat=d+48:=⟨x.toNat-48,by omega⟩;have afH:d<10:=by omega
      have tF:Hid (numOf (l.take (k+1))=10*m+d):=by show _ = _;rw[HN.out];omega
      have hw1:IntKind.u8.wrap ((x.toNat:Int)-48)=(d:Int):=by rw[show (x.toNat:Int)-48=(d:Int) by omega];exact IntWalk.u8_in _ (by omega)
      obtain⟨xn,hxn⟩:∃xn:Int,(x.toNat:Int)=xn:=⟨_,rfl⟩;rw[hxn]at hi0 h1' h2' hw1;have hw2:IntKind.i64.wrap (d:Int)=(d:Int):=IntWalk.i64_in _ (by omega);have hw3:IntKind.i64.wrap (10*(m:Int))=10*(m:Int):=IntWalk.i64_in _ (by omega);have hw4:IntKind.i64.wrap (10*(m:Int)+(d:Int))=10*(m:Int)+(d:Int):=IntWalk.i64_in _ (by omega);have ae8:k+1<=2:=by omega
      clear hx h1 hm h2 hd h3 hxn HN;go_wp2;go_roundw;case rel=>exact⟨hb,k+1,by omega,ae8,by go_num,by rw[tF.out];simp,fun c hc=>by
       rw[ah HX.out]at hc;rcases List.mem_append.1 hc with hc|hc
       ·exact HC.out c hc
       ·rw[List.mem_singleton]at hc;exact hc▸HD.out⟩
      case measure=>simp[intOf];omega
  ·obtain rfl:k=l.length:=by omega
   rw[List.take_length]at hsm HC ⊢;by_cases hl0:l.length=0
   ·have HB:Hid (eU l=-1):=GL (.inl hl0);have hz1:(z.toList==[])=true:=by rw[hz0];simp[hl0]
    clear hz0 hl0;go_wp2;go_returns;exact⟨aX HB.out.symm,hb⟩
   ·have hz1:(z.toList==[])=false:=by rw[hz0];simp[hl0]
    have HE:=aa (JN (by omega) hk2 HC.out).2;have HNN:=aa (fun W=>iE (numOf l:Int) W (by omega) (by omega));rw[Int.toNat_natCast]at HNN;have hzn:=HZE.out (bK (numOf l));obtain⟨y,hy⟩:∃y,tx (bK (numOf l))=y:=⟨_,rfl⟩;rw[hy]at hzn HNN;obtain⟨m,hm⟩:∃m,numOf l=m:=⟨_,rfl⟩;rw[hm]at HE HNN hzn ⊢;by_cases he:bK m=l
    ·have HB:Hid (eU l=(m:Int)):=by show _ = _;rw[HE.out,if_pos he]
     rw[decide_eq_true he]at hzn;clear hz0 hl0 hy hm he;go_wp2_with fail
     refine(HNN.out _).mono ?_
     rintro e w3 ⟨rfl,b3⟩;go_wp2;go_returns;exact⟨aX HB.out.symm,hb.trans b3⟩
    ·have HB:Hid (eU l=-1):=by show _ = _;rw[HE.out,if_neg he]
     rw[decide_eq_false he]at hzn;clear hz0 hl0 hy hm he;go_wp2_with fail
     refine(HNN.out _).mono ?_
     rintro e w3 ⟨rfl,b3⟩;go_wp2;go_returns;exact⟨aX HB.out.symm,hb.trans b3⟩
theorem I7{v:Value}{p:List eH}(w:World)(H:xZ w v p)(hlen:p.length<=2097152)(hst:∀d∈p,d.steps.length<=2097152) :
 Calls Tryz.prog 51 #[v] w fun e w'=>e=.returned (.string (tx (if dQ p then jq p else [])))/\Ext w w':=by
 obtain⟨A,c,rfl⟩:=H.slice;have HH:=aa H;have HV:=aa (fun W (b:Ext w W)=>qc W (H.ext b) hlen hst);clear H hst
 cases hok:dQ p with
 | false=>
   rw[hok]at HV;have h0:0<p.length:=by
    cases p with
    | nil=>cases hok
    | cons d r=>simp
   have h0i:(0:Int)<(p.length:Int):=by omega
   clear hok;go_enter Tryz.func51,Tryz.ntmps51;go_wp2;go_loopw [3,4] (fun o i wr=>Ext w wr/\o=.string ⟨#[]⟩/\i=.int .i64 0) (fun _ i _=>0)
   case atStart=>exact⟨Ext.refl _,rfl,rfl⟩
   case round=>
    obtain⟨hb,rfl,rfl⟩:=hrel;go_wp2_with (go_at_call 50;refine(HV.out _ hb).mono ?_;rintro e w1 ⟨rfl,b1⟩)
    go_returns;exact⟨rfl,hb.trans b1⟩
 | true=>
   have hl:p.length<=4:=jF hok;have dO:=aa (fun d (hd:d∈p)=>dz hok hd);rw[hok]at HV;have hgoal:Hid ((if true=true then jq p else [])=jq p):=by show _ = _;simp
   rw[hgoal.out];obtain⟨z,hz⟩:∃z,tx (jq p)=z:=⟨_,rfl⟩;rw[hz];have HZ:Hid (tx (joinL [59,32] ((p.map dU).take p.length))=z):=by show _ = _;rw[<-hz,List.take_of_length_le (by rw[List.length_map];exact Nat.le_refl _)];rfl
   have HLEN:Hid (∀k,(joinL [59,32] ((p.map dU).take k)).length<=88):=fun k=>by
    have:=qp [59,32] 20 (ws:=p.map dU) (fun x hx=>by
     obtain⟨d,hd,rfl⟩:=List.mem_map.1 hx
     have:=pR (dO.out d hd) (d.steps.length+1)
     rw[nS]at this;exact this) k
    rw[List.length_map]at this;simp only[List.length_cons,List.length_nil]at this;omega
   clear hok hgoal hz;go_enter Tryz.func51,Tryz.ntmps51;go_wp2;go_loopw [3,4] (fun s i wr=>Ext w wr/\∃(k:Nat) (y:ByteArray),k<=p.length/\i=.int .i64 (k:Int)/\s=.string y/\Hid (y=tx (joinL [59,32] ((p.map dU).take k)))) (fun _ i _=>p.length-(intOf i).toNat)
   case atStart=>exact⟨Ext.refl _,0,_,Nat.zero_le _,rfl,rfl,rfl⟩
   case round=>
    obtain⟨hb,k,yk,hk,rfl,rfl,HYK⟩:=hrel;by_cases hlt:k<p.length
    ·obtain⟨b,off,rfl,hbl,hcc⟩:=(HH.out.ext hb).head (by omega);obtain⟨d,hd⟩:=af hlt;obtain⟨ov,c0,c1,hs⟩:=hcc k d hd;obtain⟨A4,c4,rfl,hs4⟩:=id hs;have HS:=aa hs;have Xy:=List.mem_of_getElem? hd;have hdk:=dO.out d Xy;have HDK:=aa hdk;have hdl:=gq hdk;have hds:=jy hdk;have Ff:bK d.az.toNat=[jg d.az.toNat]:=by unfold bK;rw[if_pos (by omega)]
     have i1:(k:Int)<(p.length:Int):=by omega
     have i2:(0:Int)<=(k:Int):=by omega
     have hnx:=qh (l:=p.map dU) (k:=k) (x:=dU d) (by rw[List.getElem?_map,hd];rfl) [59,32];have hkl:=HLEN.out k;clear hdk;by_cases hk0:0<k
     ·rw[if_pos hk0]at hnx;have ae0:(0:Int)<(k:Int):=by omega
      have a0:=aZ (joinL [59,32] ((p.map dU).take k)) [59,32] (by simp;omega);obtain⟨cur,jo⟩:∃cur,joinL [59,32] ((p.map dU).take k)++[59,32]=cur:=⟨_,rfl⟩;have hcl:cur.length<=90:=by rw[<-jo,List.length_append];simp;omega
      have hf2:cur++[115]++[jg d.az.toNat]=cur++joinL [32] ((cz d).take 1):=by rw[ug];simp
      rw[jo]at hnx a0;rw[<-HYK.out]at a0;have iA:=aa hnx;replace a0:∀w,(Op.stringOp .add yk ⟨#[59,32]⟩).run Tryz.prog w=.ok (.string (tx cur)) w:=a0;clear hnx hkl jo hk0;have HB:=aa hb;have Pz:=aa (fun W=>iE d.az W hds.1 (by omega));rw[Ff]at Pz;have a1:=aZ cur [115] (by simp;omega);have a2:=aZ (cur++[115]) [jg d.az.toNat] (by simp;omega);rw[hf2]at a2;obtain⟨Y2,NB⟩:∃y,tx cur=y:=⟨_,rfl⟩;obtain⟨y1,hy1⟩:∃y,tx (cur++[115])=y:=⟨_,rfl⟩;obtain⟨z1,hz1⟩:∃y,tx [jg d.az.toNat]=y:=⟨_,rfl⟩;obtain⟨y2,hy2⟩:∃y,tx (cur++joinL [32] ((cz d).take 1))=y:=⟨_,rfl⟩;rw[NB,hy1]at a1;rw[NB]at a0;rw[hy1,hz1,hy2]at a2;rw[hz1]at Pz;replace a1:∀w,(Op.stringOp .add Y2 ⟨#[115]⟩).run Tryz.prog w=.ok (.string y1) w:=a1;have Yg:=aa hy2;clear hcc hd hs hs4 Xy Ff hf2 hy1 hz1 hy2 hb;go_wp2_with (first|(go_at_call 50;refine(HV.out _ HB.out).mono ?_;rintro e w1 ⟨rfl,b1⟩;have c0:=b1.cell c0;have c1:=b1.cell c1)|(go_at_call 46;refine(Pz.out _).mono ?_;rintro e w2 ⟨rfl,b2⟩))
      have Xe:=aa (b2.cell c1);have HS2:=aa (HS.out.ext (b1.trans b2));have BU:=aa (HB.out.trans (b1.trans b2));clear c0 c1 HB b1 b2;go_loopw [3,5] (fun s i wr=>Ext w2 wr/\∃(j:Nat) (y:ByteArray),j<=d.steps.length/\i=.int .i64 (j:Int)/\s=.string y/\Hid (y=tx (cur++joinL [32] ((cz d).take (j+1))))) (fun _ i _=>d.steps.length-(intOf i).toNat)
      case atStart=>exact⟨Ext.refl _,0,_,Nat.zero_le _,rfl,rfl,Yg.out.symm⟩
      case round=>
       obtain⟨hv,j,ys,hj,rfl,rfl,HYJ⟩:=hrel;have d1:=hv.cell Xe.out;by_cases hjt:j<d.steps.length
       ·obtain⟨A5,c5,e,hc4⟩:=HS2.out.ext hv;injection e with e1 e2 e3;subst e1 e3;obtain⟨b4,aa3,rfl,aaF,hc4⟩:=hc4 (by omega);obtain⟨o,ho⟩:=af hjt;have f0:=hc4 j o ho 0 (by omega);have f1:=hc4 j o ho 1 (by omega);have f2:=hc4 j o ho 2 (by omega);simp only[aj,Nat.add_zero]at f0 f1 f2;have hos:=fu HDK.out (List.mem_of_getElem? ho);have hkey:=iq hos;have hkind:=jk hos;have hnk:bK o.key.toNat=[jg o.key.toNat]:=by unfold bK;rw[if_pos (by omega)]
        have hpl:=pR HDK.out (j+1);obtain⟨X,hX⟩:∃X,cur++joinL [32] ((cz d).take (j+1))=X:=⟨_,rfl⟩;have hXl:X.length<=200:=by rw[<-hX,List.length_append];omega
        have IE:X++[32]++[aW o]++bK o.key.toNat=cur++joinL [32] ((cz d).take (j+2)):=by rw[<-hX,vM ho,hnk];simp[kC]
        have HXE:Hid (ys=tx X):=by show _ = _;rw[HYJ.out,hX]
        have a1:=aZ X [32] (by simp;omega);have a2:=aZ (X++[32]) [aW o] (by simp;omega);have a3:=aZ (X++[32]++[aW o]) (bK o.key.toNat) (by rw[hnk];simp;omega);rw[IE]at a3;obtain⟨y1,hy1⟩:∃z,tx (X++[32])=z:=⟨_,rfl⟩;obtain⟨y2,hy2⟩:∃z,tx (X++[32]++[aW o])=z:=⟨_,rfl⟩;obtain⟨y3,hy3⟩:∃z,tx (cur++joinL [32] ((cz d).take (j+2)))=z:=⟨_,rfl⟩;have LX:=aa (fun W=>iE o.key W hkey.1 (by omega));obtain⟨zk,oN⟩:∃z,tx (bK o.key.toNat)=z:=⟨_,rfl⟩;rw[oN]at LX a3;rw[<-HXE.out,hy1]at a1;rw[hy1,hy2]at a2;rw[hy2,hy3]at a3;replace a1:∀w,(Op.stringOp .add ys ⟨#[32]⟩).run Tryz.prog w=.ok (.string y1) w:=a1;have iA:=aa hy3.symm;have HB2:=aa hv;have j1:(j:Int)<(d.steps.length:Int):=by omega
        have j2:(0:Int)<=(j:Int):=by omega
        obtain⟨kd,ky,vl⟩:=o;simp only at f0 f1 f2 LX hkind;rcases hkind with hkind|hkind
        ·subst hkind;have a4:(⟨#[114,119]⟩:ByteArray).extract 0 1=tx [114]:=rfl;have a2':∀w,(Op.stringOp .add y1 (tx [114])).run Tryz.prog w=.ok (.string y2) w:=a2;clear a2;generalize tx [114]=zl at *;clear hc4 e2 ho hos hkey hnk hpl hX hXl IE hy1 hy2 hy3 oN hv hcl;have hw:IntKind.i64.wrap 0=0:=by decide
         go_wp2;have v0:(wr.alloc (.cells #[.int .i64 1,.int .i64 ky,.int .i64 vl] 71)).cell? ⟨wr.heap.size,0,none⟩=some (.int .i64 1):=av rfl;have v1:(wr.alloc (.cells #[.int .i64 1,.int .i64 ky,.int .i64 vl] 71)).cell? ⟨wr.heap.size,1,none⟩=some (.int .i64 ky):=av rfl;have v2:(wr.alloc (.cells #[.int .i64 1,.int .i64 ky,.int .i64 vl] 71)).cell? ⟨wr.heap.size,2,none⟩=some (.int .i64 vl):=av rfl;go_region_held3 (fun W=>W.cell? ⟨wr.heap.size,0,none⟩=some (.int .i64 1)/\W.cell? ⟨wr.heap.size,1,none⟩=some (.int .i64 ky)/\W.cell? ⟨wr.heap.size,2,none⟩=some (.int .i64 vl)) (exact⟨by assumption,by assumption,by assumption⟩) ((go_at_call 46;refine(LX.out _).mono ?_;rintro e w2 ⟨rfl,b2⟩;have x0:=b2.cell v0;have x1:=b2.cell v1;have x2:=b2.cell v2))
         go_wp2;go_roundw;case rel=>exact⟨HB2.out.trans (((Ext.refl _).alloc _).drew.trans b2),j+1,_,by omega,by go_num,rfl,iA.out⟩
         case measure=>simp[intOf];omega
        ·subst hkind;have a4:(⟨#[114,119]⟩:ByteArray).extract 1 2=tx [119]:=rfl;have a2':∀w,(Op.stringOp .add y1 (tx [119])).run Tryz.prog w=.ok (.string y2) w:=a2;clear a2;generalize tx [119]=zl at *;clear hc4 e2 ho hos hkey hnk hpl hX hXl IE hy1 hy2 hy3 oN hv hcl;have hw:IntKind.i64.wrap 1=1:=by decide
         go_wp2;have v0:(wr.alloc (.cells #[.int .i64 2,.int .i64 ky,.int .i64 vl] 71)).cell? ⟨wr.heap.size,0,none⟩=some (.int .i64 2):=av rfl;have v1:(wr.alloc (.cells #[.int .i64 2,.int .i64 ky,.int .i64 vl] 71)).cell? ⟨wr.heap.size,1,none⟩=some (.int .i64 ky):=av rfl;have v2:(wr.alloc (.cells #[.int .i64 2,.int .i64 ky,.int .i64 vl] 71)).cell? ⟨wr.heap.size,2,none⟩=some (.int .i64 vl):=av rfl;go_region_held3 (fun W=>W.cell? ⟨wr.heap.size,0,none⟩=some (.int .i64 2)/\W.cell? ⟨wr.heap.size,1,none⟩=some (.int .i64 ky)/\W.cell? ⟨wr.heap.size,2,none⟩=some (.int .i64 vl)) (exact⟨by assumption,by assumption,by assumption⟩) ((go_at_call 46;refine(LX.out _).mono ?_;rintro e w2 ⟨rfl,b2⟩;have x0:=b2.cell v0;have x1:=b2.cell v1;have x2:=b2.cell v2))
         go_wp2;go_roundw;case rel=>exact⟨HB2.out.trans (((Ext.refl _).alloc _).drew.trans b2),j+1,_,by omega,by go_num,rfl,iA.out⟩
         case measure=>simp[intOf];omega
       ·obtain rfl:j=d.steps.length:=by omega
        have HNY:Hid (ys=tx (joinL [59,32] ((p.map dU).take (k+1)))):=by show _ = _;rw[HYJ.out,nS,iA.out]
        have Zu:=aa (BU.out.trans hv);clear hv hcl;go_wp2;go_roundw;case rel=>exact⟨Zu.out,k+1,_,by omega,by go_num,rfl,HNY.out⟩
        case measure=>simp[intOf];omega
     ·rw[if_neg hk0]at hnx;have ae0:¬((0:Int)<(k:Int)):=by omega
      obtain⟨cur,jo⟩:∃cur,joinL [59,32] ((p.map dU).take k)=cur:=⟨_,rfl⟩;have hcl:cur.length<=90:=by rw[<-jo];omega
      have hf2:cur++[115]++[jg d.az.toNat]=cur++joinL [32] ((cz d).take 1):=by rw[ug];simp
      rw[jo]at hnx;have HYC:=HYK.out;rw[jo]at HYC;have iA:=aa hnx;clear hnx hkl jo hk0;have HB:=aa hb;have Pz:=aa (fun W=>iE d.az W hds.1 (by omega));rw[Ff]at Pz;have a1:=aZ cur [115] (by simp;omega);have a2:=aZ (cur++[115]) [jg d.az.toNat] (by simp;omega);rw[hf2]at a2;obtain⟨Y2,NB⟩:∃y,tx cur=y:=⟨_,rfl⟩;obtain⟨y1,hy1⟩:∃y,tx (cur++[115])=y:=⟨_,rfl⟩;obtain⟨z1,hz1⟩:∃y,tx [jg d.az.toNat]=y:=⟨_,rfl⟩;obtain⟨y2,hy2⟩:∃y,tx (cur++joinL [32] ((cz d).take 1))=y:=⟨_,rfl⟩;rw[NB,hy1]at a1;obtain rfl:Y2=yk:=(HYC.trans NB).symm;clear HYC;rw[hy1,hz1,hy2]at a2;rw[hz1]at Pz;replace a1:∀w,(Op.stringOp .add Y2 ⟨#[115]⟩).run Tryz.prog w=.ok (.string y1) w:=a1;have Yg:=aa hy2;clear hcc hd hs hs4 Xy Ff hf2 hy1 hz1 hy2 hb;go_wp2_with (first|(go_at_call 50;refine(HV.out _ HB.out).mono ?_;rintro e w1 ⟨rfl,b1⟩;have c0:=b1.cell c0;have c1:=b1.cell c1)|(go_at_call 46;refine(Pz.out _).mono ?_;rintro e w2 ⟨rfl,b2⟩))
      have Xe:=aa (b2.cell c1);have HS2:=aa (HS.out.ext (b1.trans b2));have BU:=aa (HB.out.trans (b1.trans b2));clear c0 c1 HB b1 b2;go_loopw [3,5] (fun s i wr=>Ext w2 wr/\∃(j:Nat) (y:ByteArray),j<=d.steps.length/\i=.int .i64 (j:Int)/\s=.string y/\Hid (y=tx (cur++joinL [32] ((cz d).take (j+1))))) (fun _ i _=>d.steps.length-(intOf i).toNat)
      case atStart=>exact⟨Ext.refl _,0,_,Nat.zero_le _,rfl,rfl,Yg.out.symm⟩
      case round=>
       obtain⟨hv,j,ys,hj,rfl,rfl,HYJ⟩:=hrel;have d1:=hv.cell Xe.out;by_cases hjt:j<d.steps.length
       ·obtain⟨A5,c5,e,hc4⟩:=HS2.out.ext hv;injection e with e1 e2 e3;subst e1 e3;obtain⟨b4,aa3,rfl,aaF,hc4⟩:=hc4 (by omega);obtain⟨o,ho⟩:=af hjt;have f0:=hc4 j o ho 0 (by omega);have f1:=hc4 j o ho 1 (by omega);have f2:=hc4 j o ho 2 (by omega);simp only[aj,Nat.add_zero]at f0 f1 f2;have hos:=fu HDK.out (List.mem_of_getElem? ho);have hkey:=iq hos;have hkind:=jk hos;have hnk:bK o.key.toNat=[jg o.key.toNat]:=by unfold bK;rw[if_pos (by omega)]
        have hpl:=pR HDK.out (j+1);obtain⟨X,hX⟩:∃X,cur++joinL [32] ((cz d).take (j+1))=X:=⟨_,rfl⟩;have hXl:X.length<=200:=by rw[<-hX,List.length_append];omega
        have IE:X++[32]++[aW o]++bK o.key.toNat=cur++joinL [32] ((cz d).take (j+2)):=by rw[<-hX,vM ho,hnk];simp[kC]
        have HXE:Hid (ys=tx X):=by show _ = _;rw[HYJ.out,hX]
        have a1:=aZ X [32] (by simp;omega);have a2:=aZ (X++[32]) [aW o] (by simp;omega);have a3:=aZ (X++[32]++[aW o]) (bK o.key.toNat) (by rw[hnk];simp;omega);rw[IE]at a3;obtain⟨y1,hy1⟩:∃z,tx (X++[32])=z:=⟨_,rfl⟩;obtain⟨y2,hy2⟩:∃z,tx (X++[32]++[aW o])=z:=⟨_,rfl⟩;obtain⟨y3,hy3⟩:∃z,tx (cur++joinL [32] ((cz d).take (j+2)))=z:=⟨_,rfl⟩;have LX:=aa (fun W=>iE o.key W hkey.1 (by omega));obtain⟨zk,oN⟩:∃z,tx (bK o.key.toNat)=z:=⟨_,rfl⟩;rw[oN]at LX a3;rw[<-HXE.out,hy1]at a1;rw[hy1,hy2]at a2;rw[hy2,hy3]at a3;replace a1:∀w,(Op.stringOp .add ys ⟨#[32]⟩).run Tryz.prog w=.ok (.string y1) w:=a1;have iA:=aa hy3.symm;have HB2:=aa hv;have j1:(j:Int)<(d.steps.length:Int):=by omega
        have j2:(0:Int)<=(j:Int):=by omega
        obtain⟨kd,ky,vl⟩:=o;simp only at f0 f1 f2 LX hkind;rcases hkind with hkind|hkind
        ·subst hkind;have a4:(⟨#[114,119]⟩:ByteArray).extract 0 1=tx [114]:=rfl;have a2':∀w,(Op.stringOp .add y1 (tx [114])).run Tryz.prog w=.ok (.string y2) w:=a2;clear a2;generalize tx [114]=zl at *;clear hc4 e2 ho hos hkey hnk hpl hX hXl IE hy1 hy2 hy3 oN hv hcl;have hw:IntKind.i64.wrap 0=0:=by decide
         go_wp2;have v0:(wr.alloc (.cells #[.int .i64 1,.int .i64 ky,.int .i64 vl] 71)).cell? ⟨wr.heap.size,0,none⟩=some (.int .i64 1):=av rfl;have v1:(wr.alloc (.cells #[.int .i64 1,.int .i64 ky,.int .i64 vl] 71)).cell? ⟨wr.heap.size,1,none⟩=some (.int .i64 ky):=av rfl;have v2:(wr.alloc (.cells #[.int .i64 1,.int .i64 ky,.int .i64 vl] 71)).cell? ⟨wr.heap.size,2,none⟩=some (.int .i64 vl):=av rfl;go_region_held3 (fun W=>W.cell? ⟨wr.heap.size,0,none⟩=some (.int .i64 1)/\W.cell? ⟨wr.heap.size,1,none⟩=some (.int .i64 ky)/\W.cell? ⟨wr.heap.size,2,none⟩=some (.int .i64 vl)) (exact⟨by assumption,by assumption,by assumption⟩) ((go_at_call 46;refine(LX.out _).mono ?_;rintro e w2 ⟨rfl,b2⟩;have x0:=b2.cell v0;have x1:=b2.cell v1;have x2:=b2.cell v2))
         go_wp2;go_roundw;case rel=>exact⟨HB2.out.trans (((Ext.refl _).alloc _).drew.trans b2),j+1,_,by omega,by go_num,rfl,iA.out⟩
         case measure=>simp[intOf];omega
        ·subst hkind;have a4:(⟨#[114,119]⟩:ByteArray).extract 1 2=tx [119]:=rfl;have a2':∀w,(Op.stringOp .add y1 (tx [119])).run Tryz.prog w=.ok (.string y2) w:=a2;clear a2;generalize tx [119]=zl at *;clear hc4 e2 ho hos hkey hnk hpl hX hXl IE hy1 hy2 hy3 oN hv hcl;have hw:IntKind.i64.wrap 1=1:=by decide
         go_wp2;have v0:(wr.alloc (.cells #[.int .i64 2,.int .i64 ky,.int .i64 vl] 71)).cell? ⟨wr.heap.size,0,none⟩=some (.int .i64 2):=av rfl;have v1:(wr.alloc (.cells #[.int .i64 2,.int .i64 ky,.int .i64 vl] 71)).cell? ⟨wr.heap.size,1,none⟩=some (.int .i64 ky):=av rfl;have v2:(wr.alloc (.cells #[.int .i64 2,.int .i64 ky,.int .i64 vl] 71)).cell? ⟨wr.heap.size,2,none⟩=some (.int .i64 vl):=av rfl;go_region_held3 (fun W=>W.cell? ⟨wr.heap.size,0,none⟩=some (.int .i64 2)/\W.cell? ⟨wr.heap.size,1,none⟩=some (.int .i64 ky)/\W.cell? ⟨wr.heap.size,2,none⟩=some (.int .i64 vl)) (exact⟨by assumption,by assumption,by assumption⟩) ((go_at_call 46;refine(LX.out _).mono ?_;rintro e w2 ⟨rfl,b2⟩;have x0:=b2.cell v0;have x1:=b2.cell v1;have x2:=b2.cell v2))
         go_wp2;go_roundw;case rel=>exact⟨HB2.out.trans (((Ext.refl _).alloc _).drew.trans b2),j+1,_,by omega,by go_num,rfl,iA.out⟩
         case measure=>simp[intOf];omega
       ·obtain rfl:j=d.steps.length:=by omega
        have HNY:Hid (ys=tx (joinL [59,32] ((p.map dU).take (k+1)))):=by show _ = _;rw[HYJ.out,nS,iA.out]
        have Zu:=aa (BU.out.trans hv);clear hv hcl;go_wp2;go_roundw;case rel=>exact⟨Zu.out,k+1,_,by omega,by go_num,rfl,HNY.out⟩
        case measure=>simp[intOf];omega
    ·obtain rfl:k=p.length:=by omega
     have HFY:Hid (yk=z):=HYK.out.trans HZ.out;go_wp2;go_returns;exact⟨congrArg (fun y=>Ending.returned (.string y)) HFY.out,hb⟩
