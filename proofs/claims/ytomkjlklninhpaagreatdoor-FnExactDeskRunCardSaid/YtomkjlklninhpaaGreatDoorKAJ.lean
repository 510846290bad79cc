/- Lemmas. -/
import Derived.Test.YtomkjlklninhpaaGreatDoorKAH
set_option maxHeartbeats 16000000
set_option maxRecDepth 8000
set_option linter.all false
namespace Go.Proofs.YtomkjlklninhpaaGreatDoor
open Go.RowKit
structure Pl where
 who:Int
 at_:Int
def kM(x:Pl):Nat->Value
 | 0=>.int .i64 x.who
 | _=>.int .i64 x.at_
theorem Fj:(Tryz.prog.info? 208).map (fun i=>(i.zero,i.size,i.bytes))=some (some (.agg #[.int .i64 0,.int .i64 0]),2,16):=by kernel_rfl
theorem WL(x:Pl)(j:Nat):(kM x j).oneCell'=true:=by unfold kM;split<;>rfl
theorem FC{base:Nat}{w0 w:World}(q:Nat)(hq:w.heap.size=q){v:Value}{xs:List Pl}(H:Row 208 2 kM base w0 v xs)(hx:Ext w0 w)(o:Pl)(hb:base<=w0.heap.size)(hn:xs.length+1<=4194304) :
 ∃v' w',(Builtin.append_ #[184,184] 184 #[v,.slice (some ⟨q,0,none⟩) 1 1]).run Tryz.prog (w.alloc (.cells #[.int .i64 o.who,.int .i64 o.at_] 208))=.ok v' w' /\
  lI 208 2 kM base w0 w' v v' (xs++[o]):=
 iP q hq Tryz.underlying184 Fj rfl (by omega) H hx o (fun j=>WL o j) _ rfl hb hn (by omega)
def oV(xs:List Pl)(b:Bool)(most:Nat):Prop:=decide (0<xs.length)=b/\xs.length<=most
theorem oV.push{xs:List Pl}{b:Bool}{most:Nat}(h:oV xs b most)(p:Pl):oV (xs++[p]) true (most+1):=⟨by simp,by have:=h.2;simp;omega⟩
theorem oV.or{xs:List Pl}{b:Bool}{most:Nat}(h:oV xs b most):oV xs (b || false) (most+1):=⟨by rw[Bool.or_false];exact h.1,by have:=h.2;omega⟩
theorem F5(who:Int)(s:Int)(d:Bool){ov:Value}{ops:List aQ}(w:World)(h:aF 3 aj w ov ops)(hlen:ops.length<=6) :
 Calls Tryz.prog 261 #[.int .i64 who,.agg #[.int .i64 s,ov,.bool d]] w fun e w'=>∃v xs,e=.returned v/\Row 208 2 kM w.heap.size w' v xs/\oV xs (yx ops) ops.length/\Ext w w':=by
 obtain⟨A0,c0,rfl,_⟩:=id h;have HS:=aa h;have hmk:=@run_makeMap Tryz.prog;clear h;go_enter Tryz.func261,Tryz.ntmps261;go_wp2;clear hmk;go_loopw [5,16] (fun o i wr=>Ext w wr/\∃k:Nat,k<=ops.length/\i=.int .i64 k/\Hid (j4 wr (w.heap.size+2) (Value.int .i64) (Cc (Value.int .i64) (ops.take k))/\∃xs,Row 208 2 kM w.heap.size wr o xs/\oV xs (xA ops k) k)) (fun _ i _=>ops.length-(intOf i).toNat)
 case atStart=>
  refine⟨(((Ext.refl _).alloc _).alloc _).alloc _,0,Nat.zero_le _,rfl,?_,[],?_,?_⟩
  ·have hG:=j4.made ((w.alloc (.cells #[.int .i64 s,.slice A0 ops.length c0,.bool d] 48)).alloc (.cells #[] 208)) (Value.int .i64);rw[show ((w.alloc (.cells #[.int .i64 s,.slice A0 ops.length c0,.bool d] 48)).alloc (.cells #[] 208)).heap.size=w.heap.size+2 by simp]at hG;exact hG
  ·have hR:=bT (E:=208) (m:=2) (enc:=kM) (w:=w.alloc (.cells #[.int .i64 s,.slice A0 ops.length c0,.bool d] 48));rw[show (w.alloc (.cells #[.int .i64 s,.slice A0 ops.length c0,.bool d] 48)).heap.size=w.heap.size+1 by simp]at hR
   exact(hR.low (by omega)).ext ((Ext.refl _).alloc _)
  ·exact⟨rfl,Nat.le_refl _⟩
 case round=>
  obtain⟨hb,k,hk,rfl,HI⟩:=hrel;have hbw:w.heap.size<=wr.heap.size:=hb.size;obtain⟨hG0,xs,hR0,hS0⟩:=HI.out;have UN:=aa hG0;have xw:=aa hR0;have Py:=aa hS0;have hxl:=hS0.2;clear HI hG0 hR0 hS0;by_cases hlt:k<ops.length
  ·obtain⟨A2,c2,hA2,hcc⟩:=HS.out.ext hb;injection hA2 with e1 e2 e3;subst e1 e3;obtain⟨b,off,rfl,hbl,hcc⟩:=hcc (by omega);obtain⟨o,ho⟩:=af hlt;have d0:wr.cell? ⟨b,off+k*3,none⟩=some (.int .i64 o.kind):=hcc k o ho 0 (by omega);have d1:wr.cell? ⟨b,off+k*3+1,none⟩=some (.int .i64 o.key):=hcc k o ho 1 (by omega);have d2:wr.cell? ⟨b,off+k*3+2,none⟩=some (.int .i64 o.value):=hcc k o ho 2 (by omega);have Ho:=aa ho;have hg1:w.heap.size<=w.heap.size+2:=by omega
   have hE1:Hid (Ext wr (wr.alloc (.cells #[.int .i64 o.kind,.int .i64 o.key,.int .i64 o.value] 71))):=(Ext.refl _).alloc _;have hE:Hid (Ext wr ((wr.alloc (.cells #[.int .i64 o.kind,.int .i64 o.key,.int .i64 o.value] 71)).alloc (.cells #[.int .i64 o.kind,.int .i64 o.key,.int .i64 o.value] 71))):=((Ext.refl _).alloc _).alloc _;have hl1:=l8 Tryz.underlying291 (kY Tryz.underlying3) FW (UN.out.ext hE1.out) o.key;have hoa:Hid (∀r,before (ops.take k) o.key=r->wF ops k=(mM o&&(match r with|some v=>v != o.value|none=>false))):=fun r hr=>by subst hr;show _ = _;unfold wF;rw[ho];rfl
   clear hcc ho e2;have skip:∀(r:Bool),wF ops k=r->r=false->Hid (oV xs (xA ops (k+1)) (k+1)):=fun r e1 e2=>by show oV _ _ _;rw[yE,e1,e2];exact Py.out.or
   have SK:=aa skip;obtain⟨ob,hu,hG,-⟩:=fG Tryz.underlying291 (kY Tryz.underlying3) (UN.out.ext hE.out) o.key (.int .i64 o.value);have HG:=aa hG;have HR2:Hid (Row 208 2 kM w.heap.size (aS _ (w.heap.size+2) ob) u5 xs):=(xw.out.ext hE.out).aS (UN.out.ext hE.out) ob;clear hG skip
   cases hbf:before (ops.take k) o.key with
   | none=>
     have hX:Cc (Value.int .i64) (ops.take k) o.key=none:=by unfold Cc;rw[hbf];rfl
     rw[hX]at hl1;have BD:=hoa.out _ hbf;have SK2:=SK.out _ BD (by simp);clear hX hbf BD hoa;cases hr:(o.kind==1)<;>(
      go_wp2_with (go_at_call 115;refine(fJ _ _ _ _).mono ?_;rw[hr];rintro e w' ⟨rfl,rfl⟩)
      go_roundw;case rel=>exact⟨(hb.trans hE.out).aS hg1 _,k+1,by omega,by go_num,by
       rw[ah Ho.out];exact⟨HG.out.congr (nJ _ _ _),xs,HR2.out,SK2.out⟩⟩
      case measure=>simp[intOf];omega)
   | some vb=>
     have hX:Cc (Value.int .i64) (ops.take k) o.key=some (.int .i64 vb):=by unfold Cc;rw[hbf];rfl
     rw[hX]at hl1;have BD:=aa (hoa.out _ hbf);clear hX hbf hoa
     cases hr:(o.kind==1) with
     | false=>
       have SK2:=SK.out _ BD.out (by simp[mM,hr]);go_wp2_with (go_at_call 115;refine(fJ _ _ _ _).mono ?_;rw[hr];rintro e w' ⟨rfl,rfl⟩)
       go_roundw;case rel=>exact⟨(hb.trans hE.out).aS hg1 _,k+1,by omega,by go_num,by
        rw[ah Ho.out];exact⟨HG.out.congr (nJ _ _ _),xs,HR2.out,SK2.out⟩⟩
       case measure=>simp[intOf];omega
     | true=>
       cases hne:(vb != o.value) with
       | false=>
         have SK2:=SK.out _ BD.out (by simp[mM,hr,hne]);go_wp2_with (go_at_call 115;refine(fJ _ _ _ _).mono ?_;rw[hr];rintro e w' ⟨rfl,rfl⟩)
         go_roundw;case rel=>exact⟨(hb.trans hE.out).aS hg1 _,k+1,by omega,by go_num,by
          rw[ah Ho.out];exact⟨HG.out.congr (nJ _ _ _),xs,HR2.out,SK2.out⟩⟩
         case measure=>simp[intOf];omega
       | true=>
         have hyes:Hid (xA ops (k+1)=true):=by show _ = _;rw[yE,BD.out];simp[mM,hr,hne]
         clear hu HG HR2 SK;have Wy:=xw.out.ext hE.out;obtain⟨v',w2,hrun,hP⟩:=FC (w:=((wr.alloc (.cells #[.int .i64 o.kind,.int .i64 o.key,.int .i64 o.value] 71)).alloc (.cells #[.int .i64 o.kind,.int .i64 o.key,.int .i64 o.value] 71))) (wr.heap.size+1+1) (by simp) Wy (Ext.refl _) ⟨who,k⟩ (Nat.le_trans hbw hE.out.size) (by omega);have HE2:=aa (hP.2.1 w (hb.trans hE.out) (Nat.le_refl _));have hM2:=(UN.out.ext hE.out).pushed Wy hP;obtain⟨ob,hu,hG,-⟩:=fG Tryz.underlying291 (kY Tryz.underlying3) hM2 o.key (.int .i64 o.value);have HG:=aa hG;have aU:=aa hrun;have hnew:=xw.out.new (Nat.le_refl wr.heap.size);have k0:w2.cell? ⟨wr.heap.size,0,none⟩=some (.int .i64 o.kind):=hP.cell hnew (((Ext.refl _).alloc _).cell (av rfl));have k1:w2.cell? ⟨wr.heap.size,1,none⟩=some (.int .i64 o.key):=hP.cell hnew (((Ext.refl _).alloc _).cell (av rfl));have k2:w2.cell? ⟨wr.heap.size,2,none⟩=some (.int .i64 o.value):=hP.cell hnew (((Ext.refl _).alloc _).cell (av rfl));have HR2:Hid (Row 208 2 kM w.heap.size (aS w2 (w.heap.size+2) ob) v' (xs++[⟨who,k⟩])):=hP.1.aS hM2 ob;clear hrun hP hG hM2 hnew Wy
         go_wp2_with (first
          | (go_at_call 115;refine(fJ _ _ _ _).mono ?_;rw[hr];rintro e w' ⟨rfl,rfl⟩)
          | (at_builtin;refine wpList_append_run rfl rfl rfl rfl aU.out ?_))
         go_roundw;case rel=>exact⟨HE2.out.aS hg1 _,k+1,by omega,by go_num,by
          rw[ah Ho.out,hyes.out];exact⟨HG.out.congr (nJ _ _ _),_,HR2.out,Py.out.push _⟩⟩
         case measure=>simp[intOf];omega
  ·obtain rfl:k=ops.length:=by omega
   obtain⟨A',c',rfl,_⟩:=id xw.out.cell.1;go_wp2;go_returns;exact⟨_,xs,rfl,xw.out,Py.out,hb⟩
theorem Row.same{α:Type}{e:TypeId}{m:Nat}{enc:α->Nat->Value}{base:Nat}{w w':World}{v:Value}{xs:List α}(h:Row e m enc base w v xs)(hk:∀k,v.ownBlock=some k->w'.heap[k]? =w.heap[k]?):Row e m enc base w' v xs:=
 ⟨h.1,h.2.imp id fun⟨g,cap,cur,a,b,hg,rest⟩=>⟨g,cap,cur,a,b,by rw[hk g (by rw[a];rfl)];exact hg,rest⟩⟩
theorem Row.pushed{α β:Type}{e e':TypeId}{m m':Nat}{enc:α->Nat->Value}{enc':β->Nat->Value}{base base':Nat}{w0 w':World}{v v' u:Value}{xs zs:List α}{ys:List β}(h:Row e' m' enc' base' w0 u ys)(H:Row e m enc base w0 v zs)(hne:e≠e')(hp:lI e m enc base w0 w' v v' xs):Row e' m' enc' base' w' u ys:=
 h.same fun k hk=>hp.2.2.1 k (World.ownsRow.lt h k hk).2 (fun e1=>by
  rcases Ro H h hne with h0|h0
  ·rw[h0]at hk;cases hk
  ·exact h0 (by rw[hk,e1]))
theorem Er{base:Nat}{w:World}{A:Option Addr}{n c:Nat}{xs:List Nat}(h:Row 3 1 (one gT) base w (.slice A n c) xs)(hn:0<xs.length):n=xs.length/\∃b off,A=some ⟨b,off,none⟩/\b<w.heap.size/\∀(k:Nat) m,xs[k]? =some m->w.cell? ⟨b,off+k,none⟩=some (.int .i64 (m:Int)):=by obtain⟨A',c',hA,hc⟩:=h.cell.1.YB;injection hA with e1 e2 e3;subst e1 e2;obtain⟨b,off,hb,hlt,hc⟩:=hc hn;exact⟨rfl,b,off,hb,hlt,fun k m hm=>hc k m hm⟩
theorem Da(h:List aA)(f:Nat->Bool):(aH h).any f=(List.range h.length).any fun n=>gP h n&&f n:=by unfold aH;rw[List.any_filter];rfl
theorem nK{h:List aA}{n:Nat}(hm:n∈aH h):n<h.length/\gP h n=true:=by unfold aH at hm;rw[List.mem_filter]at hm;exact⟨by simpa using hm.1,hm.2⟩
theorem jU(h:List aA):(aH h).length<=h.length:=by
 have:=List.length_filter_le (fun n=>(h[n]?.map (·.done)).getD false) (List.range h.length)
 simpa[aH] using this
def CQ(h:List aA)(kind:Int)(m:Nat):Bool:=((aH h).take m).any (lY h kind)
theorem Po{h:List aA}{kind:Int}{m n:Nat}(hm:(aH h)[m]? =some n):CQ h kind (m+1)=(CQ h kind m || lY h kind n):=by unfold CQ;rw[ah hm,List.any_append];simp
theorem Ug(h:List aA)(kind:Int):CQ h kind (aH h).length=fQ h kind:=by unfold CQ fQ;rw[List.take_length,Da]
theorem Ik{v:Value}{h:List aA}(kind:Int)(w:World)(H:gL w v h)(hok:aC h=true)(hk:1<=kind/\kind<=4) :
 Calls Tryz.prog 236 #[v,.int .i64 kind] w fun e w'=>∃A n c,e=.returned (.slice A n c)/\decide (0<n)=fQ h kind/\n<=1000/\Ext w w':=by
 obtain⟨A,c,rfl⟩:=H.slice;have HH:=aa H;have dO:=aa hok;have hlen:=aM hok;have hkb:jR kind 1 4=true:=bL.2 hk;have hdl:=jU h;have hmk:∀W:World,(Instr.makeSlice 184 (.int .i64 0) (.int .i64 0)).run Tryz.prog W=.ok (.slice (some ⟨W.heap.size,0,none⟩) 0 0) (W.alloc (.cells (madeCells (Value.agg #[Value.int .i64 0,Value.int .i64 0]).cells (0*2)) 208)):=gY (P:=Tryz.prog) 184 208 Tryz.underlying184 Fj 0 (by omega) (by omega);clear H hok;go_enter Tryz.func236,Tryz.ntmps236;go_wp2_with fail
 refine(bN _ HH.out (by omega) (aD dO.out)).mono ?_
 rw[dO.out];rintro e w1 ⟨rfl,b1⟩;go_wp2_with (go_at_call 105;refine(dN _ _ _ _).mono ?_;rw[hkb];rintro e w' ⟨rfl,rfl⟩)
 have hE1:Hid (Ext w (w1.alloc (.cells (madeCells (Value.agg #[Value.int .i64 0,Value.int .i64 0]).cells (0*2)) 208))):=b1.alloc _
 refine(rJ _ (HH.out.ext hE1.out) (by omega)).mono ?_
 rintro e w2 ⟨vd,rfl,rd,b2⟩;have RD:=aa rd;obtain⟨Ad,cd,rfl,_⟩:=id rd.cell.1;have HB2:=aa (hE1.out.trans b2);have hR:Row 208 2 kM w1.heap.size (w1.alloc (.cells (madeCells (Value.agg #[Value.int .i64 0,Value.int .i64 0]).cells (0*2)) 208)) (.slice (some ⟨w1.heap.size,0,none⟩) 0 0) ([]:List Pl):=jN _ 0 (by unfold maxLen;omega) (size_madeCells _ _);have HR:=aa ((hR.low b1.size).ext b2);clear hR rd b1 b2 hmk;go_wp2;go_loopw [5,22] (fun o i wr=>Ext w wr/\∃m:Nat,m<=(aH h).length/\i=.int .i64 m/\Hid (Row 3 1 (one gT) w.heap.size wr (.slice Ad (aH h).length cd) (aH h)/\∃xs,Row 208 2 kM w.heap.size wr o xs/\oV xs (CQ h kind m) (m*6))) (fun _ i _=>(aH h).length-(intOf i).toNat)
 case atStart=>exact⟨HB2.out,0,Nat.zero_le _,rfl,RD.out.low hE1.out.size,[],HR.out,rfl,Nat.le_refl _⟩
 case round=>
  obtain⟨hb,m,hm,rfl,HI⟩:=hrel;have hbw:w.heap.size<=wr.heap.size:=hb.size;obtain⟨hD,xs,hR0,hS0⟩:=HI.out;have HD:=aa hD;have xw:=aa hR0;have Py:=aa hS0;have hxl:=hS0.2;clear HI hR0 hS0 hD RD HR;by_cases hlt:m<(aH h).length
  ·obtain⟨n,hn⟩:=af hlt;obtain⟨hnl,hnd⟩:=nK (List.mem_of_getElem? hn);obtain⟨-,bd,Uy,rfl,hbd,hcd⟩:=Er HD.out (by omega);have cn:=hcd m n hn;obtain⟨b,off,rfl,hbl,hc⟩:=HH.out.head (by omega);obtain⟨t,ht⟩:=af hnl;obtain⟨ov,c0,c1,c2,hs⟩:=hc n t ht;replace c0:=hb.cell c0;replace c1:=hb.cell c1;replace c2:=hb.cell c2;have HT:=aa ht;have hto:=bY dO.out (List.mem_of_getElem? ht);have hol:=bU hto;have Uf:=aa hto;have HS:=aa hs;have hnx:=aa (Po (kind:=kind) hn);have xx:=aa (dw ht);clear hn hnd hc ht hs hto hcd;by_cases h4:kind=4
   ·have h4':(kind==4)=true:=by simp[h4]
    have hbt:Hid (lY h kind n=yx t.ops):=by show _ = _;rw[lY,if_pos h4,xx.out]
    clear h4;go_wp2_with fail
    refine(F5 n t.az t.done _ (HS.out.ext hb) hol).mono ?_
    rintro e w3 ⟨v3,ys,rfl,r3,s3,b3⟩;obtain⟨A3,c3,rfl,_⟩:=id r3.cell.1;have hRx:=xw.out.ext b3;obtain⟨v4,w4,hrun,hrow4,hg4⟩:=kL (P:=Tryz.prog) (t:=184) (ty:=184) (e:=208) Tryz.underlying184 Fj rfl (by omega) hRx r3.cell.1 (fun x _ j=>WL x j) (by have:=s3.2;omega) (by omega) (Nat.le_trans hbw b3.size);have aU:=aa hrun;have nV:=aa hrow4;have wV:=aa (Ext.grown (hb.trans b3) hg4 (fun k hk=>hRx.block k hk));have HD4:Hid (Row 3 1 (one gT) w.heap.size w4 (.slice (some ⟨bd,Uy,none⟩) (aH h).length cd) (aH h)):=World.ownsRow.kept (HD.out.ext b3) hg4 (Ro hRx (HD.out.ext b3) (by decide));have Ay:Hid (oV (xs++ys) (CQ h kind (m+1)) ((m+1)*6)):=by
     refine⟨?_,?_⟩
     ·rw[hnx.out,hbt.out,<-Py.out.1,<-s3.1,List.length_append,Bool.eq_iff_iff];simp only[decide_eq_true_eq,Bool.or_eq_true];omega
     ·rw[List.length_append];have:=s3.2;omega
    clear hrun hrow4 hg4 r3 s3 hRx;go_wp2_with (at_builtin;refine wpList_append_run rfl rfl rfl rfl aU.out ?_)
    go_roundw;case rel=>exact⟨wV.out,m+1,by omega,by go_num,HD4.out,_,nV.out,Ay.out⟩
    case measure=>simp[intOf];omega
   ·have h4':(kind==4)=false:=by simpa using h4
    have hbt:Hid (lY h kind n=t.ops.any fun o=>eP h n o==kind):=by show _ = _;rw[lY,if_neg h4,xx.out]
    obtain⟨A',c',rfl,_⟩:=id HS.out;clear h4;go_wp2;go_loopw [5,42] (fun o i wr=>Ext w wr/\∃j:Nat,j<=t.ops.length/\i=.int .i64 j/\Hid (Row 3 1 (one gT) w.heap.size wr (.slice (some ⟨bd,Uy,none⟩) (aH h).length cd) (aH h)/\∃xs,Row 208 2 kM w.heap.size wr o xs/\oV xs (CQ h kind m || uE h n kind t.ops j) (m*6+j))) (fun _ i _=>t.ops.length-(intOf i).toNat)
    case atStart=>exact⟨hb,0,Nat.zero_le _,rfl,HD.out,xs,xw.out,by
     have:uE h n kind t.ops 0=false:=rfl
     rw[this,Bool.or_false];exact Py.out⟩
    case round=>
     obtain⟨hb2,j,hj,rfl,HJ⟩:=hrel;have hbw2:w.heap.size<=wr.heap.size:=hb2.size;obtain⟨hD,ys,hR2,hS2⟩:=HJ.out;have HD2:=aa hD;have HR2:=aa hR2;have HS2:=aa hS2;have hyl:=hS2.2;clear HJ hR2 hS2 hD;by_cases hjt:j<t.ops.length
     ·obtain⟨A2,c2',hA2,hcc⟩:=HS.out.ext hb2;injection hA2 with e1 e2 e3;subst e1 e3;obtain⟨b',off',rfl,pg,hcc⟩:=hcc (by omega);obtain⟨o,ho⟩:=af hjt;have d0:wr.cell? ⟨b',off'+j*3,none⟩=some (.int .i64 o.kind):=hcc j o ho 0 (by omega);have d1:wr.cell? ⟨b',off'+j*3+1,none⟩=some (.int .i64 o.key):=hcc j o ho 1 (by omega);have d2:wr.cell? ⟨b',off'+j*3+2,none⟩=some (.int .i64 o.value):=hcc j o ho 2 (by omega);have acp:=eT Uf.out (List.mem_of_getElem? ho);have hbn:=aa (Gm (h:=h) (n:=n) (kind:=kind) ho);have hE2:Hid (Ext wr (wr.alloc (.cells #[.int .i64 o.kind,.int .i64 o.key,.int .i64 o.value] 71))):=(Ext.refl _).alloc _;obtain⟨r,hr⟩:∃r,eP h n o=r:=⟨_,rfl⟩;have hBK:=fun w' H=>Lc n o w' (v:=.slice (some ⟨b,off,none⟩) h.length c) H dO.out acp;rw[hr]at hBK;have HBK:=aa hBK;have HRr:=aa hr;clear hcc ho e2 hr hBK acp
      cases XB:(r==kind) with
      | true=>
        go_wp2_with fail
        refine(HBK.out _ (HH.out.ext (hb2.trans hE2.out))).mono ?_
        rintro e w3 ⟨rfl,b3⟩;obtain⟨v',w4,hrun,hP⟩:=FC w3.heap.size rfl HR2.out (hE2.out.trans b3) ⟨n,j⟩ hbw2 (by omega);have aU:=aa hrun;have sH:=aa hP.1;have wV:=aa (hP.2.1 w hb2 (Nat.le_refl _));have HD4:=aa (HD2.out.pushed HR2.out (by decide) hP);clear hrun hP;go_wp2_with (at_builtin;refine wpList_append_run rfl rfl rfl rfl aU.out ?_)
        go_roundw;case rel=>exact⟨wV.out,j+1,by omega,by go_num,HD4.out,_,sH.out,by
         rw[hbn.out,HRr.out,XB,Bool.or_true,Bool.or_true];exact HS2.out.push _⟩
        case measure=>simp[intOf];omega
      | false=>
        go_wp2_with fail
        refine(HBK.out _ (HH.out.ext (hb2.trans hE2.out))).mono ?_
        rintro e w3 ⟨rfl,b3⟩;have LZ:=aa (hE2.out.trans b3);go_wp2;go_roundw;case rel=>exact⟨hb2.trans LZ.out,j+1,by omega,by go_num,HD2.out.ext LZ.out,ys,HR2.out.ext LZ.out,by
         rw[hbn.out,HRr.out,XB,Bool.or_false];exact⟨HS2.out.1,by have:=HS2.out.2;omega⟩⟩
        case measure=>simp[intOf];omega
     ·obtain rfl:j=t.ops.length:=by omega
      go_wp2;go_roundw;case rel=>exact⟨hb2,m+1,by omega,by go_num,HD2.out,ys,HR2.out,by
       rw[hnx.out,hbt.out]
       have:uE h n kind t.ops t.ops.length=t.ops.any fun o=>eP h n o==kind:=by unfold uE;rw[List.take_length]
       rw[<-this];exact⟨HS2.out.1,by have:=HS2.out.2;omega⟩⟩
      case measure=>simp[intOf];omega
  ·obtain rfl:m=(aH h).length:=by omega
   obtain⟨A',c',rfl,_⟩:=id xw.out.cell.1;have hcp:=xw.out.cap _ _ _ rfl;have hfin:=Py.out.1;rw[Ug]at hfin;have HF:=aa hfin;clear hfin;go_wp2;go_returns;exact⟨_,_,_,rfl,HF.out,by omega,hb⟩
