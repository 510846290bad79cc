/- Lemmas. -/
import Derived.Test.YtomkjlklninhpaaGreatDoorKAJ
set_option maxHeartbeats 16000000
set_option maxRecDepth 8000
set_option linter.all false
namespace Go.Proofs.YtomkjlklninhpaaGreatDoor
open Go.RowKit
def qE(ops:List aQ)(k:Nat):Bool:=(List.range k).any fun i=>match ops[i]? with
 | some o=>mM o&&(ops.drop (i+1)).any fun l=>decide (l.kind=2/\l.key=o.key/\l.value=o.value)
 | none=>false
theorem Ka{ops:List aQ}{k:Nat}{o:aQ}(ho:ops[k]? =some o):qE ops (k+1)=(qE ops k || (mM o&&(ops.drop (k+1)).any fun l=>decide (l.kind=2/\l.key=o.key/\l.value=o.value))):=by unfold qE;rw[List.range_succ,List.any_append];simp[ho]
theorem Q9{ops:List aQ}{k n:Nat}(h:qE ops k=true)(hk:k<=n):qE ops n=true:=by unfold qE at *;rw[List.any_eq_true]at *;obtain⟨i,hi,h⟩:=h;exact⟨i,by simp at *;omega,h⟩
theorem Tc{o:aQ}(h:mM o=true):(o.kind==2)=false:=by unfold mM at h;simp at h;simp[h]
theorem Q0(s:Int)(d:Bool){ov:Value}{ops:List aQ}(w:World)(h:aF 3 aj w ov ops)(hcp:qL ov)(hlen:ops.length<=6) :
 Calls Tryz.prog 237 #[.agg #[.int .i64 s,ov,.bool d]] w fun e w'=>e=.returned (.bool (rz ops))/\Ext w w':=by
 obtain⟨A0,c0,rfl,_⟩:=id h;have hcap:=hcp _ _ _ rfl;have HS:=aa h;have hg:=AZ;clear h hcp;go_enter Tryz.func237,Tryz.ntmps237;go_wp2;go_loopw [10] (fun i wr=>Ext (w.alloc (.cells #[.int .i64 s,.slice A0 ops.length c0,.bool d] 48)) wr/\∃k:Nat,k<=ops.length/\i=.int .i64 k/\Hid (qE ops k=false)) (fun i _=>ops.length-(intOf i).toNat)
 case atStart=>exact⟨Ext.refl _,0,Nat.zero_le _,rfl,rfl⟩
 case round=>
  obtain⟨hb,k,hk,rfl,HI⟩:=hrel;have hbb:=((Ext.refl w).alloc _).trans hb;by_cases hlt:k<ops.length
  ·have hSx:=HS.out.ext hbb;obtain⟨A2,c2,hA2,hcc⟩:=id hSx;injection hA2 with e1 e2 e3;subst e1 e3;obtain⟨b,off,rfl,hbl,hcc⟩:=hcc (by omega);obtain⟨o,ho⟩:=af hlt;have d0:wr.cell? ⟨b,off+k*3,none⟩=some (.int .i64 o.kind):=hcc k o ho 0 (by omega);have d1:wr.cell? ⟨b,off+k*3+1,none⟩=some (.int .i64 o.key):=hcc k o ho 1 (by omega);have d2:wr.cell? ⟨b,off+k*3+2,none⟩=some (.int .i64 o.value):=hcc k o ho 2 (by omega);have f1:wr.cell? ⟨w.heap.size,1,none⟩=some (.slice (some ⟨b,off,none⟩) ops.length c0):=hb.cell (av rfl);have f1n:w.heap.size<wr.heap.size:=by have:=hb.size;simp at this;omega
   obtain⟨AV,hcut,hpart⟩:∃AV,(∀W,(Instr.slice 46 (.slice (some ⟨b,off,none⟩) ops.length c0) (some (.int .i64 ((k:Int)+1))) none none).run Tryz.prog W=.ok (.slice AV (ops.length-(k+1)) (c0-(k+1))) W)/\aF 3 aj wr (.slice AV (ops.length-(k+1)) (c0-(k+1))) (part ops (k+1) ops.length):=
    ⟨_,mh (P:=Tryz.prog) (A:=some ⟨b,off,none⟩) (n:=ops.length) (c:=c0) Tryz.underlying46 kG (k+1) (by omega),(aF.part hSx (k+1) ops.length (by omega) (Nat.le_refl _) hcap.1).1⟩
   have HP:=aa hpart;have hpl:(part ops (k+1) ops.length).length=ops.length-(k+1):=qd (Nat.le_refl _);have Ho:=aa ho;have hnx:=aa (Ka ho);have hpt:part ops (k+1) ops.length=ops.drop (k+1):=by unfold part;rw[List.take_length]
   rw[hpt]at HP hpl;have HB:=aa hb;have FO:=aa hpl;obtain⟨q,hq⟩:∃q,ops.length-(k+1)=q:=⟨_,rfl⟩;have HQ:=aa hq;have hq6:q<=6:=by omega
   rw[hq]at hcut HP;clear hcc ho e2 hpart hSx hpt hpl hq hbb;obtain⟨wo,rfl⟩:∃wo:World,wo=wr:=⟨_,rfl⟩;go_wp2;clear hcut;go_loopw [21] (fun i wr=>Ext (wo.alloc (.cells #[.int .i64 o.kind,.int .i64 o.key,.int .i64 o.value] 71)) wr/\∃j:Nat,j<=q/\i=.int .i64 j/\Hid (∀i l,i<j->(ops.drop (k+1))[i]? =some l->(mM o&&decide (l.kind=2/\l.key=o.key/\l.value=o.value))=false)) (fun i _=>q-(intOf i).toNat)
   case atStart=>exact⟨Ext.refl _,0,Nat.zero_le _,rfl,fun i l hi=>absurd hi (Nat.not_lt_zero i)⟩
   case round=>
    obtain⟨hb2,j,hj,rfl,HJ⟩:=hrel;have LY:=((Ext.refl wo).alloc _).trans hb2;have hww:=HB.out.trans LY;by_cases hjq:j<q
    ·obtain⟨l,hl⟩:=af (show j<(ops.drop (k+1)).length by rw[FO.out,HQ.out];exact hjq);obtain⟨A3,c3,hA3,hcl⟩:=HP.out.ext LY;injection hA3 with e1 e2 e3;subst e1 e3;obtain⟨b3,zh,rfl,ac1,hcl⟩:=hcl (by rw[FO.out,HQ.out];omega);have g0:wr.cell? ⟨b3,zh+j*3,none⟩=some (.int .i64 l.kind):=hcl j l hl 0 (by omega);have g1:wr.cell? ⟨b3,zh+j*3+1,none⟩=some (.int .i64 l.key):=hcl j l hl 1 (by omega);have g2:wr.cell? ⟨b3,zh+j*3+2,none⟩=some (.int .i64 l.value):=hcl j l hl 2 (by omega);have x0:wr.cell? ⟨wo.heap.size,0,none⟩=some (.int .i64 o.kind):=hb2.cell (av rfl);have x1:wr.cell? ⟨wo.heap.size,1,none⟩=some (.int .i64 o.key):=hb2.cell (av rfl);have x2:wr.cell? ⟨wo.heap.size,2,none⟩=some (.int .i64 o.value):=hb2.cell (av rfl);have xs:wo.heap.size<wr.heap.size:=by have:=hb2.size;simp at this;omega
     have he:=fun W=>pY l.kind l.key l.value 2 o.key o.value W;have hE:Hid (Ext (wo.alloc (.cells #[.int .i64 o.kind,.int .i64 o.key,.int .i64 o.value] 71)) ((wr.alloc (.cells #[.int .i64 l.kind,.int .i64 l.key,.int .i64 l.value] 71)).alloc (.cells #[.int .i64 o.kind,.int .i64 o.key,.int .i64 o.value] 71))):=(hb2.alloc _).alloc _;have HL:=aa hl;have HO:=aa LY;have HX:Hid (∀r,decide (l.kind=2/\l.key=o.key/\l.value=o.value)=r->(mM o&&r)=false->∀i l',i<j+1->(ops.drop (k+1))[i]? =some l'->(mM o&&decide (l'.kind=2/\l'.key=o.key/\l'.value=o.value))=false):=fun r hr hf i l' hi hl'=>by
      rcases Nat.lt_or_ge i j with h'|h'
      ·exact HJ.out i l' h' hl'
      ·obtain rfl:i=j:=by omega
       rw[hl]at hl';cases hl';rw[hr];exact hf
     clear hl hcl e2 LY
     cases hr:(o.kind==1) with
     | false=>
       have uP:=aa (HX.out _ rfl (by simp[mM,hr]));go_wp2_with (go_at_call 115;refine(fJ _ _ _ _).mono ?_;rw[hr];rintro e w' ⟨rfl,rfl⟩)
       go_roundw;case rel=>exact⟨hE.out,j+1,by omega,by go_num,uP.out⟩
       case measure=>simp[intOf];omega
     | true=>
       cases hm:decide (l.kind=2/\l.key=o.key/\l.value=o.value) with
       | false=>
         rw[hm]at he;have uP:=aa (HX.out _ hm (by simp));clear hm;go_wp2_with (go_at_call 115;refine(fJ _ _ _ _).mono ?_;rw[hr];rintro e w' ⟨rfl,rfl⟩)
         go_roundw;case rel=>exact⟨hE.out,j+1,by omega,by go_num,uP.out⟩
         case measure=>simp[intOf];omega
       | true=>
         rw[hm]at he;have hyes:Hid (rz ops=true):=by show _ = _;refine Q9 (k:=k+1) ?_ (by omega);rw[hnx.out,show mM o=true from hr];rw[Bool.true_and,show (ops.drop (k+1)).any (fun l=>decide (l.kind=2/\l.key=o.key/\l.value=o.value))=true by rw[List.any_eq_true];exact⟨l,List.mem_of_getElem? HL.out,hm⟩,Bool.or_true]
         clear hm;go_wp2_with (go_at_call 115;refine(fJ _ _ _ _).mono ?_;rw[hr];rintro e w' ⟨rfl,rfl⟩)
         go_returns;exact⟨aN hyes.out.symm,((Ext.refl w).alloc _).trans ((hww.alloc _).alloc _)⟩
    ·obtain rfl:j=q:=by omega
     have hno:Hid (qE ops (k+1)=false):=by
      show _ = _;rw[hnx.out,HI.out,Bool.false_or]
      cases hr:mM o with
      | false=>rfl
      | true=>
        rw[Bool.true_and,List.any_eq_false];intro l hl;obtain⟨i,hi,rfl⟩:=List.getElem_of_mem hl
        have:=HJ.out i _ (by rw[<-HQ.out,<-FO.out];exact hi) (List.getElem?_eq_getElem hi)
        rw[hr,Bool.true_and]at this;rw[this];simp
     have HB2:=aa (hb.trans LY);go_wp2;go_roundw;case rel=>exact⟨HB2.out,k+1,by omega,by go_num,hno.out⟩
     case measure=>simp[intOf];omega
  ·obtain rfl:k=ops.length:=by omega
   go_wp2;go_returns;exact⟨aN HI.out.symm,hbb⟩
theorem vI{h:List aA}{k:Nat}(h1:1<=k)(h4:k<=4)(hb:fQ h (k:Int)=true):gG h=false:=by
 have:k=1∨k=2∨k=3∨k=4:=by omega
 rcases this with rfl|rfl|rfl|rfl<;>(
  unfold gG
  first
  | rw[show fQ h 1=true from hb]
  | rw[show fQ h 2=true from hb]
  | rw[show fQ h 3=true from hb]
  | rw[show fQ h 4=true from hb]
  simp)
def og(h:List aA)(m:Nat):Bool:=((aH h).take m).any fun n=>rz (opsOf h n)
theorem KP{h:List aA}{m n:Nat}(hm:(aH h)[m]? =some n):og h (m+1)=(og h m || rz (opsOf h n)):=by unfold og;rw[ah hm,List.any_append];simp
theorem ER{h:List aA}(hok:aC h=true)(hb:∀k:Nat,1<=k->k<=4->fQ h (k:Int)=false):gG h = !og h (aH h).length:=by have b1:fQ h 1=false:=hb 1 (by omega) (by omega);have b2:fQ h 2=false:=hb 2 (by omega) (by omega);have b3:fQ h 3=false:=hb 3 (by omega) (by omega);have b4:fQ h 4=false:=hb 4 (by omega) (by omega);unfold gG og;rw[hok,b1,b2,b3,b4,List.take_length,Da];simp
theorem D8{v:Value}{h:List aA}(w:World)(H:gL w v h)(hok:aC h=true) :
 Calls Tryz.prog 203 #[v] w fun e w'=>e=.returned (.bool (gG h))/\Ext w w':=by
 obtain⟨A,c,rfl⟩:=H.slice;have HH:=aa H;have dO:=aa hok;have hlen:=aM hok;have hdl:=jU h;clear H hok;go_enter Tryz.func203,Tryz.ntmps203;go_wp2_with fail
 refine(bN _ HH.out (by omega) (aD dO.out)).mono ?_
 rw[dO.out];rintro e w1 ⟨rfl,b1⟩;go_wp2;go_loopw [3] (fun i wr=>Ext w wr/\∃k:Nat,1<=k/\k<=5/\i=.int .i64 k/\Hid (∀j:Nat,1<=j->j<k->fQ h (j:Int)=false)) (fun i _=>5-(intOf i).toNat)
 case atStart=>exact⟨b1,1,Nat.le_refl _,by omega,rfl,fun j h1 h2=>by omega⟩
 case round=>
  obtain⟨hb,k,hk1,hk5,rfl,HI⟩:=hrel;by_cases hlt:k<=4
  ·go_wp2_with fail
   refine(Ik (k:Int) _ (HH.out.ext hb) dO.out (by omega)).mono ?_
   rintro e w2 ⟨A2,n,c2,rfl,hn,hn2,b2⟩
   cases hba:fQ h (k:Int) with
   | true=>
     have hr:=aa (vI hk1 hlt hba);rw[hba]at hn;have hn0:0<n:=by simpa using hn
     clear hba hn;go_wp2;go_returns;exact⟨aN hr.out.symm,hb.trans b2⟩
   | false=>
     rw[hba]at hn;have hn0:n=0:=by simpa using hn
     subst hn0;have HBA:=aa hba;clear hba hn;go_wp2;go_roundw;case rel=>exact⟨hb.trans b2,k+1,by omega,by omega,by go_num,fun j h1 h2=>by
      rcases Nat.lt_or_ge j k with h'|h'
      ·exact HI.out j h1 h'
      ·obtain rfl:j=k:=by omega
       exact HBA.out⟩
     case measure=>simp[intOf];omega
  ·obtain rfl:k=5:=by omega
   have hend:=aa (ER dO.out (fun j h1 h2=>HI.out j h1 (by omega)));go_wp2_with fail
   refine(rJ _ (HH.out.ext hb) (by omega)).mono ?_
   rintro e w2 ⟨vd,rfl,rd,b2⟩;have RD:=aa rd;obtain⟨Ad,cd,rfl,_⟩:=id rd.cell.1;have HB2:=aa (hb.trans b2);clear rd b2 hb b1 HI;go_wp2;go_loopw [21] (fun i wr=>Ext w2 wr/\∃m:Nat,m<=(aH h).length/\i=.int .i64 m/\Hid (og h m=false)) (fun i _=>(aH h).length-(intOf i).toNat)
   case atStart=>exact⟨Ext.refl _,0,Nat.zero_le _,rfl,rfl⟩
   case round=>
    obtain⟨hb,m,hm,rfl,HJ⟩:=hrel;have hbb:=HB2.out.trans hb;by_cases hmt:m<(aH h).length
    ·obtain⟨n,hn⟩:=af hmt;obtain⟨hnl,hnd⟩:=nK (List.mem_of_getElem? hn);obtain⟨-,bd,Uy,rfl,hbd,hcd⟩:=Er (RD.out.ext hb) (by omega);have cn:=hcd m n hn;obtain⟨b,off,rfl,hbl,hc⟩:=HH.out.aaa (by omega);obtain⟨t,ht⟩:=af hnl;obtain⟨ov,c0,c1,c2,hs,hcp⟩:=hc n t ht;replace c0:=hbb.cell c0;replace c1:=hbb.cell c1;replace c2:=hbb.cell c2;have hol:=bU (bY dO.out (List.mem_of_getElem? ht));have HS:=aa (And.intro (hs.ext hbb) hcp);have hnx:=KP hn;rw[dw ht]at hnx;have iA:=aa hnx;clear hn hnd hc ht hs hcp hcd hnx;go_wp2_with fail
     refine(Q0 t.az t.done _ HS.out.1 HS.out.2 hol).mono ?_
     cases he:rz t.ops with
     | true=>
       rintro e w3 ⟨rfl,b3⟩;have hr:Hid (gG h=false):=by
        show _ = _;rw[hend.out];have h1:og h (m+1)=true:=by rw[iA.out,he,Bool.or_true]
        have h2:og h (aH h).length=true:=by unfold og at h1 ⊢;rw[List.take_length];rw[List.any_eq_true]at h1 ⊢;obtain⟨x,hx,h3⟩:=h1;exact⟨x,List.mem_of_mem_take hx,h3⟩
        rw[h2];rfl
       clear he;go_wp2;go_returns;exact⟨aN hr.out.symm,hbb.trans b3⟩
     | false=>
       rintro e w3 ⟨rfl,b3⟩;have hr:Hid (og h (m+1)=false):=by show _ = _;rw[iA.out,HJ.out,he];rfl
       clear he;go_wp2;go_roundw;case rel=>exact⟨hb.trans b3,m+1,by omega,by go_num,hr.out⟩
       case measure=>simp[intOf];omega
    ·obtain rfl:m=(aH h).length:=by omega
     go_wp2;go_returns;exact⟨aN (by rw[hend.out,HJ.out];rfl),hbb⟩
