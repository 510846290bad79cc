/- Lemmas. -/
import Derived.Test.YtcdopfdgknglfaaGreatDoorKAF
set_option maxHeartbeats 16000000
set_option maxRecDepth 8000
set_option linter.all false
namespace Go.Proofs.YtcdopfdgknglfaaGreatDoor
open Go.RowKit
def ni{α:Type}(e:TypeId)(m:Nat)(enc:α->Nat->Value)(base:Nat)(w0 w':World)(v v':Value)(xs:List α):Prop:=
 Row e m enc base w' v' xs/\(∀u:World,Ext u w0->u.heap.size<=base->Ext u w')/\(∀k,k<w0.heap.size->v.ownBlock≠some k->w'.heap[k]? =w0.heap[k]?)/\(v'.ownBlock=v.ownBlock∨∃k,v'.ownBlock=some k/\w0.heap.size<=k)
theorem jY{α:Type}{t e:TypeId}{m b:Nat}{z:Value}{enc:α->Nat->Value}{base:Nat}{w0 w:World}{v:Value}{xs:List α}(q:Nat)(hq:w.heap.size=q)(ht:Tryz.prog.underlying t=some (.slice e))(hinfo:(Tryz.prog.info? e).map (λi=>(i.zero,i.size,i.bytes))=some (some z,m,b))(hzs:z.cells.size=m)(hm:0<m)
 (H:Row e m enc base w0 v xs) (hx:Ext w0 w) (x:α) (h1:∀j,(enc x j).oneCell'=true) (cs:Array Value) (hcs:(aH m enc x).toArray=cs) (hb:base<=w0.heap.size) (hn:xs.length+1<=4194304) (hbb:b<=64) :
 ∃v' w',(Builtin.append_ #[t,t] t #[v,.slice (some ⟨q,0,none⟩) 1 1]).run Tryz.prog (w.alloc (.cells cs e))=.ok v' w'/\ni e m enc base w0 w' v v' (xs++[x]):=by
 subst hq hcs;have hrow:=H.ext hx;obtain⟨i,hi,hz,hs,hby⟩:=qo hinfo;have hl:(aH m enc x).length=1*m:=by simp[aH]
 obtain⟨v',w',hrun,hown,hg,_,hat⟩:=run_append_own_at (P:=Tryz.prog) (w:=w.alloc (.cells (aH m enc x).toArray e)) base t t e i z m b ht hi hz hs hby hzs hm v xs.length _ (World.ownsRow.alloc hrow _)
  ⟨w.heap.size,0,none⟩ 1 1 (aH m enc x) hl
  (λj u hu=>by
   have hadd:(⟨w.heap.size,0,none⟩:Addr).add j=⟨w.heap.size,j,none⟩:=by unfold Addr.add;split<;>simp_all
   rw[hadd,cell_of_row _ _ j _ e (0,0) (dP w _)];simpa using hu)
  (λu hu=>by simp[aH]at hu;obtain⟨j,_,rfl⟩:=hu;exact h1 j) (by simp only[maxLen];omega)
  (by have:(xs.length+1)*b<=4194304*64:=Nat.mul_le_mul hn hbb;omega) (by have:=hx.size;simp;omega)
 have hrow':Row e m enc base w' v' (xs++[x]):=by unfold Row;rw[lq,dw];simpa using hown
 have h2:=hx.alloc (.cells (aH m enc x).toArray e);refine⟨v',w',hrun,hrow',λu hu hl=>Ext.grown ((hu.trans hx).alloc _) hg (λk hk=>aX hl (hrow.block k hk)),λk hk hv=>?_,?_⟩
 ·exact(hg.block k (bR hk h2.size) (λe=>hv e.symm)).trans (Below.block h2 k hk)
 ·rcases hat with h|h
  ·exact .inl h
  ·exact .inr ⟨_,h,h2.size⟩
theorem Row.Yw{α:Type}{e:TypeId}{m:Nat}{enc:α->Nat->Value}{base:Nat}{w:World}{v:Value}{xs:List α}(h:Row e m enc base w v xs){g:Nat}{es:Array MapEntry}{zY:Nat}(hg:w.heap[g]? =some (.map es zY)):v.ownBlock≠some g:=by
 intro e;rcases h.2 with ⟨rfl,_⟩|⟨g',cap,cur,rfl,hb,hg',_⟩
 ·simp[Value.ownBlock]at e
 ·simp[Value.ownBlock]at e;subst e;rw[hg]at hg';cases hg'
theorem lY.pushed{K:Type}[DecidableEq K]{jI:K->Value}{mm:K->Option Value}{g:Nat}{α:Type}{e:TypeId}{m:Nat}{enc:α->Nat->Value}{base:Nat}{w0 w':World}{v v':Value}{xs ys:List α}(h:lY w0 g jI mm)(H:Row e m enc base w0 v ys)(hp:ni e m enc base w0 w' v v' xs):lY w' g jI mm:=by have hlt:=h.lt;obtain⟨es,zY,l,hg,h2⟩:=h;exact⟨es,zY,l,(hp.2.2.1 g hlt (H.Yw hg)).trans hg,h2⟩
theorem ni.cell{α:Type}{e:TypeId}{m:Nat}{enc:α->Nat->Value}{base:Nat}{w0 w':World}{v v':Value}{xs:List α}(hp:ni e m enc base w0 w' v v' xs){p:Addr}{u:Value}(hv:v.ownBlock≠some p.block)(hc:w0.cell? p=some u):w'.cell? p=some u:=by
 have hb:p.block<w0.heap.size:=by
  rcases eP p.block w0.heap.size with h'|h'
  ·exact h'
  ·simp[World.cell?,DR h']at hc
 rw[<-hc];simp only[World.cell?,hp.2.2.1 p.block hb hv]
theorem Row.new{α:Type}{e:TypeId}{m:Nat}{enc:α->Nat->Value}{base:Nat}{w:World}{v:Value}{xs:List α}(h:Row e m enc base w v xs){k:Nat}(hk:w.heap.size<=k):v.ownBlock≠some k:=λe=>by
 have:=(World.ownsRow.lt h k e).2
 omega
theorem Row.bD{K:Type}[DecidableEq K]{jI:K->Value}{mm:K->Option Value}{g:Nat}{α:Type}{e:TypeId}{m:Nat}{enc:α->Nat->Value}{base:Nat}{w:World}{v:Value}{xs:List α}(h:Row e m enc base w v xs)(hm:lY w g jI mm)(o:Obj):Row e m enc base (bD w g o) v xs:=by obtain⟨es,zY,l,hg,_⟩:=hm;refine World.ownsRow.kept (row:=some g) h ⟨rfl,rfl,rfl,by simp[Proofs.YtcdopfdgknglfaaGreatDoor.bD],λk _ hk=>by simp only[Proofs.YtcdopfdgknglfaaGreatDoor.bD,Array.getElem?_setIfInBounds];rw[au (λe=>hk (by rw[e]))]⟩ (.inr (h.Yw hg))
theorem yj{base:Nat}{w0 w:World}(q:Nat)(hq:w.heap.size=q){v:Value}{xs:List aV}(H:Row 67 3 encOpr base w0 v xs)(hx:Ext w0 w)(o:aV)(hb:base<=w0.heap.size)(hn:xs.length+1<=4194304) :
 ∃v' w',(Builtin.append_ #[46,46] 46 #[v,.slice (some ⟨q,0,none⟩) 1 1]).run Tryz.prog (w.alloc (.cells #[.int .i64 o.kind,.int .i64 o.key,.int .i64 o.value] 67))=.ok v' w' /\
  ni 67 3 encOpr base w0 w' v v' (xs++[o]):=
 jY q hq eG mq rfl (by omega) H hx o (λj=>wh o j) _ rfl hb hn (by omega)
def ZF(w:World)(xs:List aV)(e:Ending)(w':World):Prop:=∃v,e=.returned v/\Row 67 3 encOpr w.heap.size w' v xs/\Ext w w'
theorem JI{P:Program}{w:World}{ops:Array Oper}{rest:List Oper}{o:Oper}{a:Act}{Q:Exit->Act->World->Prop}{m:Operand}{T K E:TypeId}{g:Nat}{es:Array MapEntry}{zY:Nat}(hgd:o.guard=none)
 (ho:o.op=.call { callee:=.builtin .len,args:=#[m],argTypes:=#[T] }) (hT:P.underlying T=some (.map K E)) (hm:a.eval m=.map (some g)) (hs:w.heap[g]? =some (.map es zY))
 (h:wpList P ops Q rest (a.put o.dst (.int .i64 (es.size:Int))) w):wpList P ops Q (o :: rest) a w:=
 wpList_plain hgd λK hK=>by
  have Pg:(getObj g).run P w=.ok (.map es zY) w:=by simp[getObj,Sem.run,hs]
  unfold Oper.wp execOp;simp only[ho,resolve,invoke,builtin,Builtin.len_,Sem.run_bind,Sem.run_pure,Result.andThen_ok,List.map_toArray,qc,kN,hm];simp only[run_underlying hT,Result.andThen_ok,Pg,Sem.run_bind,Sem.run_pure,List.getElem?_toArray,List.getElem?_cons_zero];exact hK _ _ h
def FK(ops:List aV)(key:Int):Option Value:=(gT ops key).map iG
theorem Vw(ops:List aV)(o:aV)(hw:jQ o=true)(key:Int):(if key=o.key then some (iG o) else FK ops key)=FK (ops++[o]) key:=by
 unfold FK;rw[vI];by_cases h:key=o.key
 ·rw[aj h,aj ⟨hw,h.symm⟩];rfl
 ·rw[au h,au (λe=>h e.2.symm)]
theorem Ux(ops:List aV)(o:aV)(hw:jQ o=false)(key:Int):FK ops key=FK (ops++[o]) key:=by unfold FK;rw[vI,au (by simp[hw])]
theorem ZQ(W:World):(zeroValue 67).run Tryz.prog W=.ok (.agg #[.int .i64 0,.int .i64 0,.int .i64 0]) W:=by kernel_rfl
theorem l8(s:Int)(d:Bool){ov:Value}{ops:List aV}(w:World)(h:aL 3 encOpr w ov ops)(hlen:ops.length<=2097152) :
 Calls Tryz.prog 148 #[.agg #[.int .i64 s,ov,.bool d]] w (ZF w (bQ ops)):=by
 obtain⟨A0,c0,rfl,_⟩:=id h;have HS:=aa h;have hmk:=@run_makeMap Tryz.prog;clear h;go_enter Tryz.func148,Tryz.ntmps148;go_wp2;clear hmk;go_loopw [14] (λi wr=>Ext w wr/\∃k:Nat,k<=ops.length/\i=.int .i64 k/\Hid (lY wr (w.heap.size+1) (Value.int .i64) (FK (ops.take k))/\M6 wr (w.heap.size+1) k)) (λi _=>ops.length-(intOf i).toNat)
 case atStart=>
  have hG:=lY.made (w.alloc (.cells #[.int .i64 s,.slice A0 ops.length c0,.bool d] 48)) (Value.int .i64);have hS:=M6.made (w.alloc (.cells #[.int .i64 s,.slice A0 ops.length c0,.bool d] 48));rw[show (w.alloc (.cells #[.int .i64 s,.slice A0 ops.length c0,.bool d] 48)).heap.size=w.heap.size+1 by simp]at hG hS;exact⟨((af _).alloc _).alloc _,0,aT _,rfl,hG,hS⟩
 case round=>
  obtain⟨hb,k,hk,rfl,HI⟩:=hrel;by_cases hlt:k<ops.length
  ·obtain⟨A2,c2,hA2,hcc⟩:=HS.out.ext hb;injection hA2 with e1 e2 e3;subst e1 e3;obtain⟨b,off,rfl,hbl,hcc⟩:=hcc (by omega);obtain⟨o,ho⟩:=ah hlt;have d0:wr.cell? ⟨b,off+k*3,none⟩=some (.int .i64 o.kind):=hcc k o ho 0 (by omega);have d1:wr.cell? ⟨b,off+k*3+1,none⟩=some (.int .i64 o.key):=hcc k o ho 1 (by omega);have d2:wr.cell? ⟨b,off+k*3+2,none⟩=some (.int .i64 o.value):=hcc k o ho 2 (by omega);have Ho:=aa ho;have hE:Hid (Ext wr ((wr.alloc (.cells #[.int .i64 o.kind,.int .i64 o.key,.int .i64 o.value] 67)).alloc (.cells #[.int .i64 o.kind,.int .i64 o.key,.int .i64 o.value] 67))):=((af _).alloc _).alloc _;have hg1:w.heap.size<=w.heap.size+1:=by omega
   clear hcc ho e2
   cases hw:(o.kind==2) with
   | false=>
     go_wp2_with (go_at_call 87;refine(gI _ _ _ _).mono ?_;rw[hw];rintro e w' ⟨rfl,rfl⟩)
     go_roundw;case rel=>exact⟨hb.trans hE.out,k+1,by omega,by go_num,by
      rw[ak Ho.out];exact⟨(HI.out.1.ext hE.out).congr (Ux _ _ hw),let ⟨es,zY,h1,h2⟩:=HI.out.2.ext hE.out;⟨es,zY,h1,by omega⟩⟩⟩
     case measure=>simp[intOf];omega
   | true=>
     obtain⟨ob,hu,hG,hS⟩:=iB Tryz.underlying196 (mU agC) (HI.out.1.ext hE.out) o.key (iG o);have HG:=aa hG;have HSz:=aa (hS k (HI.out.2.ext hE.out));unfold iG at hu;clear hG hS;go_wp2_with (go_at_call 87;refine(gI _ _ _ _).mono ?_;rw[hw];rintro e w' ⟨rfl,rfl⟩)
     go_roundw;case rel=>exact⟨(hb.trans hE.out).bD hg1 _,k+1,by omega,by go_num,by
      rw[ak Ho.out];exact⟨HG.out.congr (Vw _ _ hw),HSz.out⟩⟩
     case measure=>simp[intOf];omega
  ·obtain rfl:k=ops.length:=by omega
   obtain⟨es,zY,hes,hsz⟩:=HI.out.2;have Br:=aa hes;have hT:=HI.out.1;rw[bM]at hT;have HT:=aa hT;obtain⟨q,hq⟩:∃q,es.size=q:=⟨_,rfl⟩;have HQ:=aa hq;have Mh:q<=2097152:=by omega
   have hmk:=jo (P:=Tryz.prog) 46 67 eG mq q (by omega) (by omega);clear hes hsz hT hq HI;go_wp2_with (at_len;refine JI rfl rfl Tryz.underlying196 rfl Br.out ?_;rw[HQ.out])
   clear hmk;have hbw:w.heap.size<=wr.heap.size:=hb.size;have HT0:=aa (HT.out.ext ((af _).alloc (.cells (madeCells (Value.agg #[Value.int .i64 0,Value.int .i64 0,Value.int .i64 0]).cells (q*3)) 67)));have HB0:=aa (hb.alloc (.cells (madeCells (Value.agg #[Value.int .i64 0,Value.int .i64 0,Value.int .i64 0]).cells (q*3)) 67));have zh:Hid (Row 67 3 encOpr w.heap.size (wr.alloc (.cells (madeCells (Value.agg #[Value.int .i64 0,Value.int .i64 0,Value.int .i64 0]).cells (q*3)) 67)) (.slice (some ⟨wr.heap.size,0,none⟩) 0 q) ([]:List aV)):=
    (lC _ q (by unfold maxLen;omega) (size_madeCells _ _)).low hbw
   clear HT Br HQ hbw;go_loopw [6,28] (λo i wr=>Ext w wr/\∃k:Nat,k<=3/\i=.int .i64 k/\Hid (lY wr (w.heap.size+1) (Value.int .i64) (FK ops)/\Row 67 3 encOpr w.heap.size wr o (xO ops k))) (λ_ i _=>3-(intOf i).toNat)
   case atStart=>exact⟨HB0.out,0,by omega,rfl,HT0.out,zh.out⟩
   case round=>
    obtain⟨hb2,k,hk,rfl,HI⟩:=hrel;have hkl:=nN ops k;have hbw:w.heap.size<=wr.heap.size:=hb2.size;by_cases hlt:k<3
    ·have hl1:=oC Tryz.underlying196 (mU agC) ZQ HI.out.1 (k:Int);have hnx:=aa (EF ops k)
     cases LC:gT ops (k:Int) with
     | none=>
       have hX:FK ops (k:Int)=none:=by unfold FK;rw[LC];rfl
       rw[hX]at hl1;have Y6:=aa LC;clear hX LC;go_wp2;go_roundw;case rel=>exact⟨hb2.alloc _,k+1,by omega,by go_num,HI.out.1.ext ((af _).alloc _),by rw[hnx.out,Y6.out];simpa using HI.out.2.ext ((af _).alloc _)⟩
       case measure=>simp[intOf];omega
     | some o=>
       have hX:FK ops (k:Int)=some (.agg #[.int .i64 o.kind,.int .i64 o.key,.int .i64 o.value]):=by unfold FK;rw[LC];rfl
       rw[hX]at hl1;have Y6:=aa LC;obtain⟨v',w2,hrun,hP⟩:=yj (w:=wr.alloc (.cells #[.int .i64 o.kind,.int .i64 o.key,.int .i64 o.value] 67)) (wr.heap.size+1) (by simp) HI.out.2 ((af _).alloc _) o hbw (by omega);have bH:=aa hrun;have HB2:=aa hP.1;have HE2:=aa (hP.2.1 w hb2 (av _));have Uw:=aa (HI.out.1.pushed HI.out.2 hP);clear hX LC hrun hP;go_wp2_with (at_builtin;refine wpList_append_run rfl rfl rfl rfl bH.out ?_)
       go_roundw;case rel=>exact⟨HE2.out,k+1,by omega,by go_num,Uw.out,by rw[hnx.out,Y6.out];exact HB2.out⟩
       case measure=>simp[intOf];omega
    ·obtain rfl:k=3:=by omega
     obtain⟨A',c',rfl,_⟩:=HI.out.2.cell.1;go_wp2;go_returns;exact⟨_,rfl,by rw[<-lU];exact HI.out.2,hb2⟩
def CV(f:Int->Value)(ops:List aV)(key:Int):Option Value:=(before ops key).map f
theorem pR(f:Int->Value)(ops:List aV)(o:aV)(key:Int):(if key=o.key then some (f o.value) else CV f ops key)=CV f (ops++[o]) key:=by
 unfold CV;rw[xw]
 split<;>rfl
theorem Lp(W:World):(zeroValue 4).run Tryz.prog W=.ok (.bool false) W:=by kernel_rfl
def CE(o x:aV):Bool:=decide (o.kind=x.kind/\o.key=x.key/\o.value=x.value)
theorem KP{o x:aV}:CE o x=true↔x=o:=by unfold CE;rw[rU];exact⟨λh=>(aV.ext' h.1 h.2.1 h.2.2).symm,λh=>by subst h;exact⟨rfl,rfl,rfl⟩⟩
theorem Qg{v:Value}{xs:List aV}(o:aV)(w:World)(h:aL 3 encOpr w v xs)(hlen:xs.length<=2097152) :
 Calls Tryz.prog 302 #[v,iG o] w λe w'=>e=.returned (.int .i64 (findAt (CE o) xs 0))/\Ext w w':=by
 obtain⟨A,c,rfl,hc0⟩:=h;have HC:=aa hc0;have hg:=BD;clear hc0;show Calls Tryz.prog 302 #[.slice A xs.length c,.agg #[.int .i64 o.kind,.int .i64 o.key,.int .i64 o.value]] w _;go_enter Tryz.func302,Tryz.ntmps302;go_wp2;go_loopw [8] (λi wr=>Ext (w.alloc (.cells #[.int .i64 o.kind,.int .i64 o.key,.int .i64 o.value] 67)) wr/\∃k:Nat,k<=xs.length/\i=.int .i64 k/\Hid (findAt (CE o) xs 0=findAt (CE o) (xs.drop k) k)) (λi _=>xs.length-(intOf i).toNat)
 case atStart=>exact⟨af _,0,aT _,rfl,rfl⟩
 case round=>
  obtain⟨hb,k,hk,rfl,HI⟩:=hrel;have hbb:=((af w).alloc _).trans hb;by_cases hlt:k<xs.length
  ·obtain⟨b,off,rfl,hbl,hc⟩:=HC.out (by omega);obtain⟨x,hx⟩:=ah hlt;have E0:∀e,(over wr e).cell? ⟨w.heap.size,0,none⟩=some (.int .i64 o.kind):=aK (hb.cell (aF rfl));have E1:∀e,(over wr e).cell? ⟨w.heap.size,1,none⟩=some (.int .i64 o.key):=aK (hb.cell (aF rfl));have E2:∀e,(over wr e).cell? ⟨w.heap.size,2,none⟩=some (.int .i64 o.value):=aK (hb.cell (aF rfl));have d0:∀e,(over wr e).cell? ⟨b,off+k*3,none⟩=some (.int .i64 x.kind):=aK (hbb.cell (hc k x hx 0 (by omega)));have d1:∀e,(over wr e).cell? ⟨b,off+k*3+1,none⟩=some (.int .i64 x.key):=aK (hbb.cell (hc k x hx 1 (by omega)));have d2:∀e,(over wr e).cell? ⟨b,off+k*3+2,none⟩=some (.int .i64 x.value):=aK (hbb.cell (hc k x hx 2 (by omega)));have he:=λW=>sw o.kind o.key o.value x.kind x.key x.value W;have hE:Hid (∀r,CE o x=r->decide (o.kind=x.kind/\o.key=x.key/\o.value=x.value)=r):=λr hr=>hr;have Hx:=aa hx;clear hx hc
   cases hp:CE o x with
   | true=>
     rw[hE.out _ hp]at he;have hr:=aa (HI.out.trans (pJ Hx.out hp));clear hp;go_wp2;refine aU (by kernel_rfl) (by kernel_rfl) ?_;repeat (go_big_quiet_step (fail))
     refine j5 ?_;intro w1 hb1;go_wp2;go_returns;exact⟨bU hr.out.symm,hbb.trans hb1⟩
   | false=>
     rw[hE.out _ hp]at he;have hr:=aa (HI.out.trans (nX Hx.out hp));clear hp;go_wp2;refine aU (by kernel_rfl) (by kernel_rfl) ?_;repeat (go_big_quiet_step (fail))
     refine j5 ?_;intro w1 hb1;go_wp2;go_roundw;case rel=>exact⟨hb.trans hb1,k+1,by omega,by go_num,hr⟩
     case measure=>simp[intOf];omega
  ·obtain rfl:k=xs.length:=by omega
   go_wp2;go_returns;exact⟨bU (by rw[HI.out];simp[findAt]),hbb⟩
theorem Hz{v:Value}{xs:List aV}(o:aV)(w:World)(h:aL 3 encOpr w v xs)(hlen:xs.length<=2097152) :
 Calls Tryz.prog 299 #[v,iG o] w λe w'=>e=.returned (.bool (xs.any (CE o)))/\Ext w w':=by
 have H:=aa h;clear h;show Calls Tryz.prog 299 #[v,.agg #[.int .i64 o.kind,.int .i64 o.key,.int .i64 o.value]] w _;go_enter Tryz.func299,Tryz.ntmps299;go_wp2_with fail
 refine(Qg o _ (H.out.ext ((af _).alloc _)) hlen).mono ?_
 rintro e w1 ⟨rfl,b1⟩;go_wp2;go_returns;exact⟨aS (pQ),((af _).alloc _).trans b1⟩
theorem aJ{h:List aG}(hok:aD h=true):∀t∈h,t.ops.length<=2097152:=λt ht=>by have:=dF (dH hok ht);omega
theorem uf{v:Value}{h:List aG}(key value:Int)(w:World)(H:iM w v h)(hok:aD h=true) :
 Calls Tryz.prog 204 #[v,.int .i64 key,.int .i64 value] w λe w'=>e=.returned (.int .i64 (aI h key value))/\Ext w w':=by
 have hM:=aJ hok;have hlen:h.length<=2097152:=by have:=aR hok;omega
 have hnt:kH h=true:=by simp only[aD,dh]at hok;exact hok.2
 obtain⟨A,c,rfl⟩:=H.slice;have HH:=aa H;have HM:=aa hM;have HN:=aa hnt;have fu:=aa hok;clear H hM hnt hok;go_enter Tryz.func204,Tryz.ntmps204;go_wp2_with fail
 refine(bZ _ HH.out hlen HM.out).mono ?_
 rw[fu.out];rintro e w1 ⟨rfl,b1⟩;go_wp2_with fail
 refine(Bu _ (HH.out.ext b1) hlen HM.out).mono ?_
 rintro e w2 ⟨b2,⟨hn,g,rfl,hG⟩|⟨hn,rfl⟩⟩
 ·have hl1:=oC Tryz.underlying71 xg H8 hG (key,value);unfold tq at hl1
  cases hlk:lookW (Da h) (key,value) with
  | none=>
    have hX:Ba (Da h) (key,value)=none:=by unfold Ba;rw[hlk];rfl
    have hR:=aa (show aI h key value=-1 by unfold aI;rw[hlk];rfl);rw[hX]at hl1;clear hX hlk hn hG;go_wp2;go_returns;exact⟨bU hR.out.symm,b1.trans b2⟩
  | some n=>
    have hX:Ba (Da h) (key,value)=some (.int .i64 (n:Int)):=by unfold Ba;rw[hlk];rfl
    have hR:=aa (show aI h key value=n by unfold aI;rw[hlk];rfl);rw[hX]at hl1;clear hX hlk hn hG;go_wp2;go_returns;exact⟨bU hR.out.symm,b1.trans b2⟩
 ·exfalso;rw[HN.out]at hn;cases hn
theorem M7{h:List aG}{key value:Int}{n:Nat}{t:aG}(hw:aI h key value=n)(ht:h[n]? =some t)(hk:0<=key/\key<=2):jH h key value=(bQ t.ops).any (CE ⟨2,key,value⟩):=by
 unfold jH;rw[hw,qM,show decide ((0:Int)<=(n:Int))=true by simp,Bool.true_and];have ho:opsOf h n=t.ops:=by simp[opsOf,ht]
 rw[ho,kQ,jF];constructor
 ·intro hx
  cases hl:gT t.ops key with
  | none=>rw[hl]at hx;simp at hx
  | some o=>
    rw[hl]at hx;simp at hx;have h3:=lV hl;refine⟨o,kK.2 ⟨by rw[h3.2.2];omega,by rw[h3.2.2];exact hl⟩,?_⟩;rw[KP];have hk2:o.kind=2:=by simpa[jQ] using h3.2.1
    exact aV.ext' hk2 h3.2.2 hx
 ·rintro⟨o,hm,he⟩;rw[KP]at he;subst he
  have:=(kK.1 hm).2
  simp only at this;rw[this];simp
theorem Hg{v:Value}{h:List aG}(key value:Int)(w:World)(H:iM w v h)(hok:aD h=true)(hk:0<=key/\key<=2) :
 Calls Tryz.prog 288 #[v,.int .i64 key,.int .i64 value] w λe w'=>e=.returned (.bool (jH h key value))/\Ext w w':=by
 have hwr:=gK (h:=h) key value;obtain⟨A,c,rfl⟩:=H.slice;have HH:=aa H;have fu:=aa hok;have HK:=aa hk;clear H hk;have hM:=aJ hok;obtain⟨z,hz⟩:∃z,aI h key value=z:=⟨_,rfl⟩;have hW:=λw' (H:iM w' (.slice A h.length c) h)=>uf key value w' H hok;rw[hz]at hwr hW;have HW:=aa hW;have HZ:=aa hz;have HM:=aa hM;clear hz hW hok hM;by_cases hneg:z<0
 ·have hR:=aa (show jH h key value=false by unfold jH;rw[HZ.out,show decide (0<=z)=false by simp;omega];rfl);go_enter Tryz.func288,Tryz.ntmps288;go_wp2_with fail
  refine(HW.out _ HH.out).mono ?_
  rintro e w1 ⟨rfl,b1⟩;go_wp2;go_returns;exact⟨aS hR.out.symm,b1⟩
 ·obtain⟨n,rfl⟩:=dZ (show 0<=z by omega);have hn:n<h.length:=by omega
  obtain⟨t,ht⟩:=ah hn;have hR:=aa (M7 HZ.out ht HK.out);have hl:=HM.out t (aM ht);obtain⟨b,off,rfl,hbl,hc⟩:=HH.out.head (by omega);obtain⟨ov,c0,c1,c2,hs⟩:=hc n t ht;have HS:=aa hs;have LC:(bQ t.ops).length<=3:=by rw[<-lU];exact nN _ _
  clear hc ht hs;go_enter Tryz.func288,Tryz.ntmps288;go_wp2_with fail
  refine(HW.out _ HH.out).mono ?_
  rintro e w1 ⟨rfl,b1⟩;replace c0:=b1.cell c0;replace c1:=b1.cell c1;replace c2:=b1.cell c2;go_wp2_with fail
  refine(l8 t.az t.done _ (HS.out.ext b1) hl).mono ?_
  rintro e w2 ⟨v2,rfl,r2,b2⟩;have R2:=aa r2;clear r2;go_wp2_with fail
  refine(Hz ⟨2,key,value⟩ _ R2.out.cell.1 (by omega)).mono ?_
  rw[<-hR.out];rintro e w3 ⟨rfl,b3⟩;go_wp2;go_returns;exact⟨rfl,(b1.trans b2).trans b3⟩
theorem zG{h:List aG}{n:Nat}{o:aV}(hx:oH o=false∨o.value=0∨aI h o.key o.value=n):gG h n o=0:=by unfold gG;rw[aj hx]
theorem Mx{v:Value}{h:List aG}(n:Nat)(o:aV)(w:World)(H:iM w v h)(hok:aD h=true)(ho:iY o=true) :
 Calls Tryz.prog 264 #[v,.int .i64 (n:Int),iG o] w λe w'=>e=.returned (.int .i64 (gG h n o))/\Ext w w':=by
 have hwr:=gK (h:=h) o.key o.value;have hkey:=jE ho;obtain⟨A,c,rfl⟩:=H.slice;have HH:=aa H;have hlen:=aR hok;clear H ho;obtain⟨z,hz⟩:∃z,aI h o.key o.value=z:=⟨_,rfl⟩;have hW:=λw' (H:iM w' (.slice A h.length c) h)=>uf o.key o.value w' H hok;have hL:=λw' (H:iM w' (.slice A h.length c) h)=>Hg o.key o.value w' H hok hkey;rw[hz]at hwr hW;have HW:=aa hW;have HL:=aa hL;have hb0:=λhx=>zG (h:=h) (n:=n) (o:=o) hx;have hb1:Hid (oH o=true->o.value≠0->z≠n->gG h n o=if z<0 then 1 else if jk h z.toNat=false then 2 else if jH h o.key o.value=false then 3 else 0):=λh1 h2 h3=>by unfold gG;rw[hz,au (by simp[h1,h2,h3])]
 rw[hz]at hb0;have HB0:=aa hb0;clear hz hW hL hok hb0;show Calls Tryz.prog 264 #[.slice A h.length c,.int .i64 (n:Int),.agg #[.int .i64 o.kind,.int .i64 o.key,.int .i64 o.value]] w _;have go1:∀r,gG h n o=r->((o.kind==1)=false∨(o.value==0)=true∨(z==(n:Int))=true)->r=0 ->
  Calls Tryz.prog 264 #[.slice A h.length c,.int .i64 (n:Int),.agg #[.int .i64 o.kind,.int .i64 o.key,.int .i64 o.value]] w λe w'=>e=.returned (.int .i64 r)/\Ext w w':=by
  intro r hr hx hr0;subst hr0;clear hr;have hE:Hid (Ext w (w.alloc (.cells #[.int .i64 o.kind,.int .i64 o.key,.int .i64 o.value] 67))):=(af _).alloc _
  cases h1:(o.kind==1)<;>cases h2:(o.value==0)<;>cases h3:(z==(n:Int))<;>first
   | (exfalso;simp[h1,h2,h3]at hx;done)
   | (clear hx
      go_enter Tryz.func264,Tryz.ntmps264;go_wp2_with fail
      refine(HW.out _ (HH.out.ext hE.out)).mono ?_
      rintro e w1 ⟨rfl,b1⟩;have x0:w1.cell? ⟨w.heap.size,0,none⟩=some (.int .i64 o.kind):=b1.cell (aF rfl);have x1:w1.cell? ⟨w.heap.size,1,none⟩=some (.int .i64 o.key):=b1.cell (aF rfl);have x2:w1.cell? ⟨w.heap.size,2,none⟩=some (.int .i64 o.value):=b1.cell (aF rfl);have hz:w.heap.size<w1.heap.size:=by have:=b1.size;simp at this;omega
      have MU:=aa (hE.out.trans b1);clear b1;go_wp2_with (go_at_call 118;refine(iA _ _ _ _).mono ?_;rw[h1];rintro e w' ⟨rfl,rfl⟩)
      go_returns;exact⟨rfl,MU.out.alloc _⟩)
 by_cases h1:oH o=true;case neg=>exact go1 _ rfl (.inl (by simpa[oH] using h1)) (HB0.out (.inl (by simpa using h1)))
 by_cases h2:o.value=0
 ·exact go1 _ rfl (.inr (.inl (by simp[h2]))) (HB0.out (.inr (.inl h2)))
 by_cases h3:z=n
 ·exact go1 _ rfl (.inr (.inr (by simp[h3]))) (HB0.out (.inr (.inr h3)))
 have hr:=aa (hb1.out h1 h2 h3);have h1':(o.kind==1)=true:=h1;have h2':(o.value==0)=false:=by simpa using h2
 have h3':(z==(n:Int))=false:=by simpa using h3
 have hE:Hid (Ext w (w.alloc (.cells #[.int .i64 o.kind,.int .i64 o.key,.int .i64 o.value] 67))):=(af _).alloc _;clear go1 h1 h2 h3 hb1 HB0;by_cases hneg:z<0
 ·go_enter Tryz.func264,Tryz.ntmps264;go_wp2_with fail
  refine(HW.out _ (HH.out.ext hE.out)).mono ?_
  rintro e w1 ⟨rfl,b1⟩;have x0:w1.cell? ⟨w.heap.size,0,none⟩=some (.int .i64 o.kind):=b1.cell (aF rfl);have x1:w1.cell? ⟨w.heap.size,1,none⟩=some (.int .i64 o.key):=b1.cell (aF rfl);have x2:w1.cell? ⟨w.heap.size,2,none⟩=some (.int .i64 o.value):=b1.cell (aF rfl);have hz:w.heap.size<w1.heap.size:=by have:=b1.size;simp at this;omega
  have MU:=aa (hE.out.trans b1);clear b1;go_wp2_with (go_at_call 118;refine(iA _ _ _ _).mono ?_;rw[h1'];rintro e w' ⟨rfl,rfl⟩)
  go_returns;exact⟨bU (by rw[hr.out,aj hneg]),MU.out.alloc _⟩
 ·obtain⟨m,rfl⟩:=dZ (show 0<=z by omega);have hm:m<h.length:=by omega
  obtain⟨t,ht⟩:=ah hm;have hdo:Hid (jk h m=t.done):=by show _ = _;simp[jk,ht]
  obtain⟨b,off,rfl,hbl,hc⟩:=HH.out.head (by omega);obtain⟨ov,c0,c1,c2,hs⟩:=hc m t ht;clear hc ht hs c0 c1
  cases hd:t.done with
  | false=>
    rw[hd]at c2;go_enter Tryz.func264,Tryz.ntmps264;go_wp2_with fail
    refine(HW.out _ (HH.out.ext hE.out)).mono ?_
    rintro e w1 ⟨rfl,b1⟩;have x0:w1.cell? ⟨w.heap.size,0,none⟩=some (.int .i64 o.kind):=b1.cell (aF rfl);have x1:w1.cell? ⟨w.heap.size,1,none⟩=some (.int .i64 o.key):=b1.cell (aF rfl);have x2:w1.cell? ⟨w.heap.size,2,none⟩=some (.int .i64 o.value):=b1.cell (aF rfl);have hz:w.heap.size<w1.heap.size:=by have:=b1.size;simp at this;omega
    have MU:=aa (hE.out.trans b1);replace c2:=MU.out.cell c2;have hbw:b<w1.heap.size:=bR hbl MU.out.size;clear b1;go_wp2_with (go_at_call 118;refine(iA _ _ _ _).mono ?_;rw[h1'];rintro e w' ⟨rfl,rfl⟩)
    go_returns;exact⟨bU (by rw[hr.out,au (by omega),qM,hdo.out,aj hd]),MU.out.alloc _⟩
  | true=>
    rw[hd]at c2;have hr2:Hid (∀r,jH h o.key o.value=r->gG h n o=if r=false then 3 else 0):=λr e=>by subst e;rw[hr.out,au (by omega),qM,hdo.out,au (by simp[hd])]
    cases hlv:jH h o.key o.value<;>(
     go_enter Tryz.func264,Tryz.ntmps264;go_wp2_with fail
     refine(HW.out _ (HH.out.ext hE.out)).mono ?_
     rintro e w1 ⟨rfl,b1⟩;have x0:w1.cell? ⟨w.heap.size,0,none⟩=some (.int .i64 o.kind):=b1.cell (aF rfl);have x1:w1.cell? ⟨w.heap.size,1,none⟩=some (.int .i64 o.key):=b1.cell (aF rfl);have x2:w1.cell? ⟨w.heap.size,2,none⟩=some (.int .i64 o.value):=b1.cell (aF rfl);have hz:w.heap.size<w1.heap.size:=by have:=b1.size;simp at this;omega
     have MU:=aa (hE.out.trans b1);replace c2:=MU.out.cell c2;have hbw:b<w1.heap.size:=bR hbl MU.out.size;clear b1;go_wp2_with (go_at_call 118;refine(iA _ _ _ _).mono ?_;rw[h1'];rintro e w' ⟨rfl,rfl⟩)
     refine(HL.out _ (HH.out.ext (MU.out.alloc _))).mono ?_
     rw[hlv];rintro e w2 ⟨rfl,b2⟩;go_wp2;go_returns;exact⟨bU (by rw[hr2.out _ hlv];rfl),(MU.out.alloc _).trans b2⟩)
structure Pl where
 who:Int
 at_:Int
def encPl(x:Pl):Nat->Value
 | 0=>.int .i64 x.who
 | _=>.int .i64 x.at_
theorem JG:(Tryz.prog.info? 231).map (λi=>(i.zero,i.size,i.bytes))=some (some (.agg #[.int .i64 0,.int .i64 0]),2,16):=by kernel_rfl
theorem Yj(x:Pl)(j:Nat):(encPl x j).oneCell'=true:=by unfold encPl;split<;>rfl
theorem Gy{base:Nat}{w0 w:World}(q:Nat)(hq:w.heap.size=q){v:Value}{xs:List Pl}(H:Row 231 2 encPl base w0 v xs)(hx:Ext w0 w)(o:Pl)(hb:base<=w0.heap.size)(hn:xs.length+1<=4194304) :
 ∃v' w',(Builtin.append_ #[207,207] 207 #[v,.slice (some ⟨q,0,none⟩) 1 1]).run Tryz.prog (w.alloc (.cells #[.int .i64 o.who,.int .i64 o.at_] 231))=.ok v' w' /\
  ni 231 2 encPl base w0 w' v v' (xs++[o]):=
 jY q hq Tryz.underlying207 JG rfl (by omega) H hx o (λj=>Yj o j) _ rfl hb hn (by omega)
def qP(xs:List Pl)(b:Bool)(most:Nat):Prop:=decide (0<xs.length)=b/\xs.length<=most
theorem qP.push{xs:List Pl}{b:Bool}{most:Nat}(h:qP xs b most)(p:Pl):qP (xs++[p]) true (most+1):=⟨by simp,by have:=h.2;simp;omega⟩
theorem qP.or{xs:List Pl}{b:Bool}{most:Nat}(h:qP xs b most):qP xs (b || false) (most+1):=⟨by rw[Bool.or_false];exact h.1,by have:=h.2;omega⟩
theorem GX(who:Int)(s:Int)(d:Bool){ov:Value}{ops:List aV}(w:World)(h:aL 3 encOpr w ov ops)(hlen:ops.length<=6) :
 Calls Tryz.prog 263 #[.int .i64 who,.agg #[.int .i64 s,ov,.bool d]] w λe w'=>∃v xs,e=.returned v/\Row 231 2 encPl w.heap.size w' v xs/\qP xs (zZ ops) ops.length/\Ext w w':=by
 obtain⟨A0,c0,rfl,_⟩:=id h;have HS:=aa h;have hmk:=@run_makeMap Tryz.prog;clear h;go_enter Tryz.func263,Tryz.ntmps263;go_wp2;clear hmk;go_loopw [5,16] (λo i wr=>Ext w wr/\∃k:Nat,k<=ops.length/\i=.int .i64 k/\Hid (lY wr (w.heap.size+2) (Value.int .i64) (CV (Value.int .i64) (ops.take k))/\∃xs,Row 231 2 encPl w.heap.size wr o xs/\qP xs (zV ops k) k)) (λ_ i _=>ops.length-(intOf i).toNat)
 case atStart=>
  refine⟨(((af _).alloc _).alloc _).alloc _,0,aT _,rfl,?_,[],?_,?_⟩
  ·have hG:=lY.made ((w.alloc (.cells #[.int .i64 s,.slice A0 ops.length c0,.bool d] 48)).alloc (.cells #[] 231)) (Value.int .i64);rw[show ((w.alloc (.cells #[.int .i64 s,.slice A0 ops.length c0,.bool d] 48)).alloc (.cells #[] 231)).heap.size=w.heap.size+2 by simp]at hG;exact hG
  ·have hR:=dD (E:=231) (m:=2) (enc:=encPl) (w:=w.alloc (.cells #[.int .i64 s,.slice A0 ops.length c0,.bool d] 48));rw[show (w.alloc (.cells #[.int .i64 s,.slice A0 ops.length c0,.bool d] 48)).heap.size=w.heap.size+1 by simp]at hR
   exact(hR.low (by omega)).ext ((af _).alloc _)
  ·exact⟨rfl,av _⟩
 case round=>
  obtain⟨hb,k,hk,rfl,HI⟩:=hrel;have hbw:w.heap.size<=wr.heap.size:=hb.size;obtain⟨hG0,xs,hR0,hS0⟩:=HI.out;have Wj:=aa hG0;have zh:=aa hR0;have TN:=aa hS0;have hxl:=hS0.2;clear HI hG0 hR0 hS0;by_cases hlt:k<ops.length
  ·obtain⟨A2,c2,hA2,hcc⟩:=HS.out.ext hb;injection hA2 with e1 e2 e3;subst e1 e3;obtain⟨b,off,rfl,hbl,hcc⟩:=hcc (by omega);obtain⟨o,ho⟩:=ah hlt;have d0:wr.cell? ⟨b,off+k*3,none⟩=some (.int .i64 o.kind):=hcc k o ho 0 (by omega);have d1:wr.cell? ⟨b,off+k*3+1,none⟩=some (.int .i64 o.key):=hcc k o ho 1 (by omega);have d2:wr.cell? ⟨b,off+k*3+2,none⟩=some (.int .i64 o.value):=hcc k o ho 2 (by omega);have Ho:=aa ho;have hg1:w.heap.size<=w.heap.size+2:=by omega
   have hE1:Hid (Ext wr (wr.alloc (.cells #[.int .i64 o.kind,.int .i64 o.key,.int .i64 o.value] 67))):=(af _).alloc _;have hE:Hid (Ext wr ((wr.alloc (.cells #[.int .i64 o.kind,.int .i64 o.key,.int .i64 o.value] 67)).alloc (.cells #[.int .i64 o.kind,.int .i64 o.key,.int .i64 o.value] 67))):=((af _).alloc _).alloc _;have hl1:=oC Tryz.underlying286 (mU agC) H8 (Wj.out.ext hE1.out) o.key;have hoa:Hid (∀r,before (ops.take k) o.key=r->xM ops k=(oH o&&(match r with|some v=>v != o.value|none=>false))):=λr hr=>by subst hr;show _ = _;unfold xM;rw[ho];rfl
   clear hcc ho e2;have skip:∀(r:Bool),xM ops k=r->r=false->Hid (qP xs (zV ops (k+1)) (k+1)):=λr e1 e2=>by show qP _ _ _;rw[Bl,e1,e2];exact TN.out.or
   have SK:=aa skip;obtain⟨ob,hu,hG,-⟩:=iB Tryz.underlying286 (mU agC) (Wj.out.ext hE.out) o.key (.int .i64 o.value);have HG:=aa hG;have HR2:Hid (Row 231 2 encPl w.heap.size (bD _ (w.heap.size+2) ob) u5 xs):=(zh.out.ext hE.out).bD (Wj.out.ext hE.out) ob;clear hG skip
   cases hbf:before (ops.take k) o.key with
   | none=>
     have hX:CV (Value.int .i64) (ops.take k) o.key=none:=by unfold CV;rw[hbf];rfl
     rw[hX]at hl1;have CW:=hoa.out _ hbf;have SK2:=SK.out _ CW (by simp);clear hX hbf CW hoa;cases hr:(o.kind==1)<;>(
      go_wp2_with (go_at_call 118;refine(iA _ _ _ _).mono ?_;rw[hr];rintro e w' ⟨rfl,rfl⟩)
      go_roundw;case rel=>exact⟨(hb.trans hE.out).bD hg1 _,k+1,by omega,by go_num,by
       rw[ak Ho.out];exact⟨HG.out.congr (pR _ _ _),xs,HR2.out,SK2.out⟩⟩
      case measure=>simp[intOf];omega)
   | some vb=>
     have hX:CV (Value.int .i64) (ops.take k) o.key=some (.int .i64 vb):=by unfold CV;rw[hbf];rfl
     rw[hX]at hl1;have CW:=aa (hoa.out _ hbf);clear hX hbf hoa
     cases hr:(o.kind==1) with
     | false=>
       have SK2:=SK.out _ CW.out (by simp[oH,hr]);go_wp2_with (go_at_call 118;refine(iA _ _ _ _).mono ?_;rw[hr];rintro e w' ⟨rfl,rfl⟩)
       go_roundw;case rel=>exact⟨(hb.trans hE.out).bD hg1 _,k+1,by omega,by go_num,by
        rw[ak Ho.out];exact⟨HG.out.congr (pR _ _ _),xs,HR2.out,SK2.out⟩⟩
       case measure=>simp[intOf];omega
     | true=>
       cases hne:(vb != o.value) with
       | false=>
         have SK2:=SK.out _ CW.out (by simp[oH,hr,hne]);go_wp2_with (go_at_call 118;refine(iA _ _ _ _).mono ?_;rw[hr];rintro e w' ⟨rfl,rfl⟩)
         go_roundw;case rel=>exact⟨(hb.trans hE.out).bD hg1 _,k+1,by omega,by go_num,by
          rw[ak Ho.out];exact⟨HG.out.congr (pR _ _ _),xs,HR2.out,SK2.out⟩⟩
         case measure=>simp[intOf];omega
       | true=>
         have hyes:Hid (zV ops (k+1)=true):=by show _ = _;rw[Bl,CW.out];simp[oH,hr,hne]
         clear hu HG HR2 SK;have Yr:=zh.out.ext hE.out;obtain⟨v',w2,hrun,hP⟩:=Gy (w:=((wr.alloc (.cells #[.int .i64 o.kind,.int .i64 o.key,.int .i64 o.value] 67)).alloc (.cells #[.int .i64 o.kind,.int .i64 o.key,.int .i64 o.value] 67))) (wr.heap.size+1+1) (by simp) Yr (af _) ⟨who,k⟩ (aX hbw hE.out.size) (by omega);have HE2:=aa (hP.2.1 w (hb.trans hE.out) (av _));have hM2:=(Wj.out.ext hE.out).pushed Yr hP;obtain⟨ob,hu,hG,-⟩:=iB Tryz.underlying286 (mU agC) hM2 o.key (.int .i64 o.value);have HG:=aa hG;have bH:=aa hrun;have hnew:=zh.out.new (av wr.heap.size);have k0:w2.cell? ⟨wr.heap.size,0,none⟩=some (.int .i64 o.kind):=hP.cell hnew (((af _).alloc _).cell (aF rfl));have k1:w2.cell? ⟨wr.heap.size,1,none⟩=some (.int .i64 o.key):=hP.cell hnew (((af _).alloc _).cell (aF rfl));have k2:w2.cell? ⟨wr.heap.size,2,none⟩=some (.int .i64 o.value):=hP.cell hnew (((af _).alloc _).cell (aF rfl));have HR2:Hid (Row 231 2 encPl w.heap.size (bD w2 (w.heap.size+2) ob) v' (xs++[⟨who,k⟩])):=hP.1.bD hM2 ob;clear hrun hP hG hM2 hnew Yr
         go_wp2_with (first
          | (go_at_call 118;refine(iA _ _ _ _).mono ?_;rw[hr];rintro e w' ⟨rfl,rfl⟩)
          | (at_builtin;refine wpList_append_run rfl rfl rfl rfl bH.out ?_))
         go_roundw;case rel=>exact⟨HE2.out.bD hg1 _,k+1,by omega,by go_num,by
          rw[ak Ho.out,hyes.out];exact⟨HG.out.congr (pR _ _ _),_,HR2.out,TN.out.push _⟩⟩
         case measure=>simp[intOf];omega
  ·obtain rfl:k=ops.length:=by omega
   obtain⟨A',c',rfl,_⟩:=id zh.out.cell.1;go_wp2;go_returns;exact⟨_,xs,rfl,zh.out,TN.out,hb⟩
theorem Row.same{α:Type}{e:TypeId}{m:Nat}{enc:α->Nat->Value}{base:Nat}{w w':World}{v:Value}{xs:List α}(h:Row e m enc base w v xs)(hk:∀k,v.ownBlock=some k->w'.heap[k]? =w.heap[k]?):Row e m enc base w' v xs:=
 ⟨h.1,h.2.imp id λ⟨g,cap,cur,a,b,hg,rest⟩=>⟨g,cap,cur,a,b,by rw[hk g (by rw[a];rfl)];exact hg,rest⟩⟩
theorem Row.pushed{α β:Type}{e e':TypeId}{m m':Nat}{enc:α->Nat->Value}{enc':β->Nat->Value}{base base':Nat}{w0 w':World}{v v' u:Value}{xs zs:List α}{ys:List β}(h:Row e' m' enc' base' w0 u ys)(H:Row e m enc base w0 v zs)(hne:e≠e')(hp:ni e m enc base w0 w' v v' xs):Row e' m' enc' base' w' u ys:=
 h.same λk hk=>hp.2.2.1 k (World.ownsRow.lt h k hk).2 (λe1=>by
  rcases TG H h hne with h0|h0
  ·rw[h0]at hk;cases hk
  ·exact h0 (by rw[hk,e1]))
theorem Gf{base:Nat}{w:World}{A:Option Addr}{n c:Nat}{xs:List Nat}(h:Row 3 1 (one jl) base w (.slice A n c) xs)(hn:0<xs.length):n=xs.length/\∃b off,A=some ⟨b,off,none⟩/\b<w.heap.size/\∀(k:Nat) m,xs[k]? =some m->w.cell? ⟨b,off+k,none⟩=some (.int .i64 (m:Int)):=by obtain⟨A',c',hA,hc⟩:=h.cell.1.to1;injection hA with e1 e2 e3;subst e1 e2;obtain⟨b,off,hb,hlt,hc⟩:=hc hn;exact⟨rfl,b,off,hb,hlt,λk m hm=>hc k m hm⟩
theorem EK(h:List aG)(f:Nat->Bool):(aN h).any f=(List.range h.length).any λn=>jk h n&&f n:=by unfold aN;rw[List.any_filter];rfl
theorem qg{h:List aG}{n:Nat}(hm:n∈aN h):n<h.length/\jk h n=true:=by unfold aN at hm;rw[nT]at hm;exact⟨by simpa using hm.1,hm.2⟩
theorem lK(h:List aG):(aN h).length<=h.length:=by
 have:=mO (λn=>(h[n]?.map (·.done)).getD false) (List.range h.length)
 simpa[aN] using this
def EG(h:List aG)(kind:Int)(m:Nat):Bool:=((aN h).take m).any (nO h kind)
theorem SL{h:List aG}{kind:Int}{m n:Nat}(hm:(aN h)[m]? =some n):EG h kind (m+1)=(EG h kind m || nO h kind n):=by unfold EG;rw[ak hm,List.any_append];simp
theorem VQ(h:List aG)(kind:Int):EG h kind (aN h).length=iF h kind:=by unfold EG iF;rw[bM,EK]
theorem Ky{v:Value}{h:List aG}(kind:Int)(w:World)(H:iM w v h)(hok:aD h=true)(hk:1<=kind/\kind<=4) :
 Calls Tryz.prog 242 #[v,.int .i64 kind] w λe w'=>∃A n c,e=.returned (.slice A n c)/\decide (0<n)=iF h kind/\n<=1000/\Ext w w':=by
 obtain⟨A,c,rfl⟩:=H.slice;have HH:=aa H;have fu:=aa hok;have hlen:=aR hok;have hkb:lH kind 1 4=true:=cK.2 hk;have hdl:=lK h;have hmk:∀W:World,(Instr.makeSlice 207 (.int .i64 0) (.int .i64 0)).run Tryz.prog W=.ok (.slice (some ⟨W.heap.size,0,none⟩) 0 0) (W.alloc (.cells (madeCells (Value.agg #[Value.int .i64 0,Value.int .i64 0]).cells (0*2)) 231)):=jo (P:=Tryz.prog) 207 231 Tryz.underlying207 JG 0 (by omega) (by omega);clear H hok;go_enter Tryz.func242,Tryz.ntmps242;go_wp2_with fail
 refine(bZ _ HH.out (by omega) (aJ fu.out)).mono ?_
 rw[fu.out];rintro e w1 ⟨rfl,b1⟩;go_wp2_with (go_at_call 106;refine(eZ _ _ _ _).mono ?_;rw[hkb];rintro e w' ⟨rfl,rfl⟩)
 have hE1:Hid (Ext w (w1.alloc (.cells (madeCells (Value.agg #[Value.int .i64 0,Value.int .i64 0]).cells (0*2)) 231))):=b1.alloc _
 refine(uG _ (HH.out.ext hE1.out) (by omega)).mono ?_
 rintro e w2 ⟨vd,rfl,rd,b2⟩;have RD:=aa rd;obtain⟨Ad,cd,rfl,_⟩:=id rd.cell.1;have HB2:=aa (hE1.out.trans b2);have hR:Row 231 2 encPl w1.heap.size (w1.alloc (.cells (madeCells (Value.agg #[Value.int .i64 0,Value.int .i64 0]).cells (0*2)) 231)) (.slice (some ⟨w1.heap.size,0,none⟩) 0 0) ([]:List Pl):=lC _ 0 (by unfold maxLen;omega) (size_madeCells _ _);have HR:=aa ((hR.low b1.size).ext b2);clear hR rd b1 b2 hmk;go_wp2;go_loopw [5,22] (λo i wr=>Ext w wr/\∃m:Nat,m<=(aN h).length/\i=.int .i64 m/\Hid (Row 3 1 (one jl) w.heap.size wr (.slice Ad (aN h).length cd) (aN h)/\∃xs,Row 231 2 encPl w.heap.size wr o xs/\qP xs (EG h kind m) (m*6))) (λ_ i _=>(aN h).length-(intOf i).toNat)
 case atStart=>exact⟨HB2.out,0,aT _,rfl,RD.out.low hE1.out.size,[],HR.out,rfl,av _⟩
 case round=>
  obtain⟨hb,m,hm,rfl,HI⟩:=hrel;have hbw:w.heap.size<=wr.heap.size:=hb.size;obtain⟨hD,xs,hR0,hS0⟩:=HI.out;have HD:=aa hD;have zh:=aa hR0;have TN:=aa hS0;have hxl:=hS0.2;clear HI hR0 hS0 hD RD HR;by_cases hlt:m<(aN h).length
  ·obtain⟨n,hn⟩:=ah hlt;obtain⟨hnl,hnd⟩:=qg (aM hn);obtain⟨-,bd,UU,rfl,hbd,hcd⟩:=Gf HD.out (by omega);have cn:=hcd m n hn;obtain⟨b,off,rfl,hbl,hc⟩:=HH.out.head (by omega);obtain⟨t,ht⟩:=ah hnl;obtain⟨ov,c0,c1,c2,hs⟩:=hc n t ht;replace c0:=hb.cell c0;replace c1:=hb.cell c1;replace c2:=hb.cell c2;have HT:=aa ht;have hto:=dH fu.out (aM ht);have hol:=dF hto;have VZ:=aa hto;have HS:=aa hs;have hnx:=aa (SL (kind:=kind) hn);have yZ:=aa (dV ht);clear hn hnd hc ht hs hto hcd;by_cases h4:kind=4
   ·have h4':(kind==4)=true:=by simp[h4]
    have hbt:Hid (nO h kind n=zZ t.ops):=by show _ = _;rw[nO,aj h4,yZ.out]
    clear h4;go_wp2_with fail
    refine(GX n t.az t.done _ (HS.out.ext hb) hol).mono ?_
    rintro e w3 ⟨v3,ys,rfl,r3,s3,b3⟩;obtain⟨A3,c3,rfl,_⟩:=id r3.cell.1;have hRx:=zh.out.ext b3;obtain⟨v4,w4,hrun,hrow4,hg4⟩:=lX (P:=Tryz.prog) (t:=207) (ty:=207) (e:=231) Tryz.underlying207 JG rfl (by omega) hRx r3.cell.1 (λx _ j=>Yj x j) (by have:=s3.2;omega) (by omega) (aX hbw b3.size);have bH:=aa hrun;have rA:=aa hrow4;have sU:=aa (Ext.grown (hb.trans b3) hg4 (λk hk=>hRx.block k hk));have HD4:Hid (Row 3 1 (one jl) w.heap.size w4 (.slice (some ⟨bd,UU,none⟩) (aN h).length cd) (aN h)):=World.ownsRow.kept (HD.out.ext b3) hg4 (TG hRx (HD.out.ext b3) (by decide));have K6:Hid (qP (xs++ys) (EG h kind (m+1)) ((m+1)*6)):=by
     refine⟨?_,?_⟩
     ·rw[hnx.out,hbt.out,<-TN.out.1,<-s3.1,dw,kQ];simp only[rU,agF];omega
     ·rw[dw];have:=s3.2;omega
    clear hrun hrow4 hg4 r3 s3 hRx;go_wp2_with (at_builtin;refine wpList_append_run rfl rfl rfl rfl bH.out ?_)
    go_roundw;case rel=>exact⟨sU.out,m+1,by omega,by go_num,HD4.out,_,rA.out,K6.out⟩
    case measure=>simp[intOf];omega
   ·have h4':(kind==4)=false:=by simpa using h4
    have hbt:Hid (nO h kind n=t.ops.any λo=>gG h n o==kind):=by show _ = _;rw[nO,au h4,yZ.out]
    obtain⟨A',c',rfl,_⟩:=id HS.out;clear h4;go_wp2;go_loopw [5,42] (λo i wr=>Ext w wr/\∃j:Nat,j<=t.ops.length/\i=.int .i64 j/\Hid (Row 3 1 (one jl) w.heap.size wr (.slice (some ⟨bd,UU,none⟩) (aN h).length cd) (aN h)/\∃xs,Row 231 2 encPl w.heap.size wr o xs/\qP xs (EG h kind m || wW h n kind t.ops j) (m*6+j))) (λ_ i _=>t.ops.length-(intOf i).toNat)
    case atStart=>exact⟨hb,0,aT _,rfl,HD.out,xs,zh.out,by
     have:wW h n kind t.ops 0=false:=rfl
     rw[this,Bool.or_false];exact TN.out⟩
    case round=>
     obtain⟨hb2,j,hj,rfl,HJ⟩:=hrel;have hbw2:w.heap.size<=wr.heap.size:=hb2.size;obtain⟨hD,ys,hR2,hS2⟩:=HJ.out;have HD2:=aa hD;have HR2:=aa hR2;have HS2:=aa hS2;have hyl:=hS2.2;clear HJ hR2 hS2 hD;by_cases hjt:j<t.ops.length
     ·obtain⟨A2,c2',hA2,hcc⟩:=HS.out.ext hb2;injection hA2 with e1 e2 e3;subst e1 e3;obtain⟨b',off',rfl,ru,hcc⟩:=hcc (by omega);obtain⟨o,ho⟩:=ah hjt;have d0:wr.cell? ⟨b',off'+j*3,none⟩=some (.int .i64 o.kind):=hcc j o ho 0 (by omega);have d1:wr.cell? ⟨b',off'+j*3+1,none⟩=some (.int .i64 o.key):=hcc j o ho 1 (by omega);have d2:wr.cell? ⟨b',off'+j*3+2,none⟩=some (.int .i64 o.value):=hcc j o ho 2 (by omega);have acR:=gD VZ.out (aM ho);have hbn:=aa (Ja (h:=h) (n:=n) (kind:=kind) ho);have hE2:Hid (Ext wr (wr.alloc (.cells #[.int .i64 o.kind,.int .i64 o.key,.int .i64 o.value] 67))):=(af _).alloc _;obtain⟨r,hr⟩:∃r,gG h n o=r:=⟨_,rfl⟩;have hBK:=λw' H=>Mx n o w' (v:=.slice (some ⟨b,off,none⟩) h.length c) H fu.out acR;rw[hr]at hBK;have HBK:=aa hBK;have HRr:=aa hr;clear hcc ho e2 hr hBK acR
      cases Zp:(r==kind) with
      | true=>
        go_wp2_with fail
        refine(HBK.out _ (HH.out.ext (hb2.trans hE2.out))).mono ?_
        rintro e w3 ⟨rfl,b3⟩;obtain⟨v',w4,hrun,hP⟩:=Gy w3.heap.size rfl HR2.out (hE2.out.trans b3) ⟨n,j⟩ hbw2 (by omega);have bH:=aa hrun;have uW:=aa hP.1;have sU:=aa (hP.2.1 w hb2 (av _));have HD4:=aa (HD2.out.pushed HR2.out (by decide) hP);clear hrun hP;go_wp2_with (at_builtin;refine wpList_append_run rfl rfl rfl rfl bH.out ?_)
        go_roundw;case rel=>exact⟨sU.out,j+1,by omega,by go_num,HD4.out,_,uW.out,by
         rw[hbn.out,HRr.out,Zp,Bool.or_true,Bool.or_true];exact HS2.out.push _⟩
        case measure=>simp[intOf];omega
      | false=>
        go_wp2_with fail
        refine(HBK.out _ (HH.out.ext (hb2.trans hE2.out))).mono ?_
        rintro e w3 ⟨rfl,b3⟩;have NK:=aa (hE2.out.trans b3);go_wp2;go_roundw;case rel=>exact⟨hb2.trans NK.out,j+1,by omega,by go_num,HD2.out.ext NK.out,ys,HR2.out.ext NK.out,by
         rw[hbn.out,HRr.out,Zp,Bool.or_false];exact⟨HS2.out.1,by have:=HS2.out.2;omega⟩⟩
        case measure=>simp[intOf];omega
     ·obtain rfl:j=t.ops.length:=by omega
      go_wp2;go_roundw;case rel=>exact⟨hb2,m+1,by omega,by go_num,HD2.out,ys,HR2.out,by
       rw[hnx.out,hbt.out]
       have:wW h n kind t.ops t.ops.length=t.ops.any λo=>gG h n o==kind:=by unfold wW;rw[bM]
       rw[<-this];exact⟨HS2.out.1,by have:=HS2.out.2;omega⟩⟩
      case measure=>simp[intOf];omega
  ·obtain rfl:m=(aN h).length:=by omega
   obtain⟨A',c',rfl,_⟩:=id zh.out.cell.1;have hcp:=zh.out.cap _ _ _ rfl;have hfin:=TN.out.1;rw[VQ]at hfin;have HF:=aa hfin;clear hfin;go_wp2;go_returns;exact⟨_,_,_,rfl,HF.out,by omega,hb⟩
