/- Lemmas. -/
import Derived.Test.YtomkjlklninhpaaGreatDoorKAI
import Derived.Test.YtomkjlklninhpaaGreatDoorKAK
import Derived.Test.YtomkjlklninhpaaGreatDoorKAL
import Derived.Lib.AppendZerosOnto
set_option maxHeartbeats 16000000
set_option maxRecDepth 8000
set_option linter.all false
namespace Go.Proofs.YtomkjlklninhpaaGreatDoor
open Go.RowKit
theorem I1.part{w:World}{A:Option Addr}{n c:Nat}{xs:List Int}(h:I1 w (.slice A n c) xs)(lo hi:Nat)(hlo:lo<=hi)(hhi:hi<=xs.length):I1 w (.slice (if c=lo then A else A.map (·.add (lo*1))) (hi-lo) (c-lo)) (part xs lo hi):=by
 obtain⟨h1,h2,h3⟩:=h;have hc:=h3 A n c rfl;have hl:n=xs.length:=by obtain⟨A',c',e,_⟩:=h1;injection e
 refine⟨((aF.part h1.U1 lo hi hlo hhi (by omega)).1).YB,fun a n' c' e hn=>?_,mQ (by omega) (by omega)⟩;injection e with e1 e2 e3;by_cases hcl:c=lo
 ·rw[if_pos hcl]at e1;exact h2 a n c (by rw[e1]) (by omega)
 ·rw[if_neg hcl]at e1
  cases A with
  | none=>simp at e1
  | some ad=>
    simp at e1;obtain⟨cs,fr,hg⟩:=h2 ad n c rfl (by omega)
    have:a.block=ad.block:=by rw[<-e1];unfold Addr.add;split<;>rfl
    exact⟨cs,fr,by rw[this];exact hg⟩
theorem yU{P:Program}{w w':World}{ops:Array Oper}{rest:List Oper}{o:Oper}{a:Act}{Q:Exit->Act->World->Prop}{s x:Operand}{t tn:TypeId}{v u v':Value}(hgd:o.guard=none)
 (ho:o.op=.call { callee:=.builtin .append,args:=#[s,x],argTypes:=#[t,tn] }) (hs:a.eval s=v) (hx:a.eval x=u) (hrun:(Builtin.append_ #[t,tn] o.type #[v,u]).run P w=.ok v' w')
 (h:wpList P ops Q rest (a.put o.dst v') w'):wpList P ops Q (o :: rest) a w:=
 wpList_plain hgd fun K hK=>by unfold Oper.wp execOp;simp only[ho,resolve,invoke,builtin,Sem.run_bind,Sem.run_pure,Result.andThen_ok,List.map_toArray,List.map_cons,List.map_nil,hs,hx,hrun];exact hK _ _ h
theorem Ms(q:Nat)(hq:q<=1000)(w:World) :
 Calls Tryz.prog 223 #[.slice none 0 0,.int .i64 (q:Int)] w fun e w'=>∃v,e=.returned v/\Row 3 1 (one encI) w.heap.size w' v ([]:List Int)/\Ext w w':=by
 rcases Nat.eq_zero_or_pos q with rfl|hpos
 ·go_enter Tryz.func223,Tryz.ntmps223;go_wp2;go_returns;exact⟨_,rfl,Row.nil,Ext.refl _⟩
 ·obtain⟨i,hi,hz,hs,hby⟩:=oq bQ;have hrun:=Lib.run_append_grow_zeros w 57 3 57 3 i (.int .i64 0) .i64 .i64 Tryz.underlying57 Tryz.underlying3 hi hz none 0 0 [] (by exact run_firstCells_none _ _ 0 0 0) q (by omega) (by omega) (by omega) (by omega) (by rw[hby];omega) (by rw[hby];exact growslice_fits (by omega) (by omega));have hG1:=grownCap_ge w (0+q) 0 3;have hG2:=grownCap_le_maxLen w (0+q) 0 3 (by unfold maxLen;omega);generalize grownCap w (0+q) 0 3=G at hrun hG1 hG2;have hsz:((([]:List Value).toArray++Builtin.zeroCells (Value.int .i64 0).cells q++Builtin.zeroCells (Value.int .i64 0).cells (G-(0+q)))).size=G*1:=by simp[Builtin.zeroCells,Value.cells];omega
  generalize (([]:List Value).toArray++Builtin.zeroCells (Value.int .i64 0).cells q++Builtin.zeroCells (Value.int .i64 0).cells (G-(0+q)))=cs at hrun hsz;rw[Nat.zero_add]at hrun hG1;have aU:=aa hrun;have hG3:G<=9223372036854775807:=by unfold maxLen at hG2;omega
  clear hrun hi hz hs hby;have HR:Hid (Row 3 1 (one encI) w.heap.size (w.drew.alloc (.cells cs 3)) (.slice (some ⟨w.heap.size,0,none⟩) 0 G) ([]:List Int)):=jN (w:=w.drew) cs G hG2 hsz;have HE:Hid (Ext w (w.drew.alloc (.cells cs 3))):=((Ext.refl w).drew).alloc _;clear hsz;go_enter Tryz.func223,Tryz.ntmps223;go_wp2_with (at_builtin;refine yU rfl rfl rfl rfl aU.out ?_)
  go_returns;exact⟨_,rfl,HR.out,HE.out⟩
theorem Jk{xss:List (List Int)}{k:Nat}{xs:List Int}(h:xss[k]? =some xs):(xss.take (k+1)).flatten=(xss.take k).flatten++xs:=by rw[ah h,List.flatten_append];simp
theorem Qm{v:Value}{xss:List (List Int)}(w:World)(h:Ls 57 I1 w v xss)(hlen:xss.length<=100)(htot:xss.flatten.length<=1000) :
 Calls Tryz.prog 192 #[v] w fun e w'=>∃v',e=.returned v'/\Row 3 1 (one encI) w.heap.size w' v' xss.flatten/\Ext w w':=by
 obtain⟨A,c,rfl,hc1,hc2⟩:=h.slice;have H:=aa h;have hst:=dZ (T:=83) (by decide);have hle:∀k,(xss.take k).flatten.length<=1000:=fun k=>by
  have e:xss.flatten=(xss.take k).flatten++(xss.drop k).flatten:=by rw[<-List.flatten_append,List.take_append_drop]
  rw[e,List.length_append]at htot;omega
 have UI:=aa hle;clear h hle htot;go_enter Tryz.func192,Tryz.ntmps192;go_wp2;go_loopw [3,11] (fun m i wr=>w=wr/\∃k:Nat,k<=xss.length/\i=.int .i64 k/\m=.int .i64 (((xss.take k).flatten.length:Nat):Int)) (fun _ i _=>xss.length-(intOf i).toNat)
 case atStart=>exact⟨rfl,0,Nat.zero_le _,rfl,rfl⟩
 case round=>
  obtain⟨rfl,k,hk,rfl,rfl⟩:=hrel;have hlk:=UI.out k;by_cases hlt:k<xss.length
  ·obtain⟨xs,hx⟩:=af hlt;obtain⟨b,off,rfl,hb,hc⟩:=H.out.cells (by omega);obtain⟨u,hu,hP⟩:=hc k xs hx;obtain⟨Au,cu,rfl,_⟩:=hP.slice;have hnx:Hid ((xss.take (k+1)).flatten.length=(xss.take k).flatten.length+xs.length):=by show _ = _;rw[Jk hx,List.length_append]
   have hlk2:=UI.out (k+1);rw[hnx.out]at hlk2;have H2:=aa hP;obtain⟨q,hq⟩:∃q,(xss.take k).flatten.length=q:=⟨_,rfl⟩;rw[hq]at hlk hlk2 ⊢;have HQ:=aa hq;clear hx hc hP hq;go_wp2;go_roundw;case rel=>exact⟨trivial,k+1,by omega,by go_num,by rw[hnx.out,HQ.out];go_num⟩
   case measure=>simp[intOf];omega
  ·obtain rfl:k=xss.length:=by omega
   rw[List.take_length]at hlk ⊢;obtain⟨q,hq⟩:∃q,xss.flatten.length=q:=⟨_,rfl⟩;rw[hq]at hlk ⊢;have HQ:=aa hq;clear hq;go_wp2_with fail
   refine(Ms q hlk _).mono ?_
   rintro e w1 ⟨v1,rfl,r1,b1⟩;have R1:=aa r1;have B1:=aa b1;clear r1 b1;go_wp2;go_loopw [6,27] (fun o i wr=>Ext w wr/\∃k:Nat,k<=xss.length/\i=.int .i64 k/\Hid (Row 3 1 (one encI) w.heap.size wr o (xss.take k).flatten)) (fun _ i _=>xss.length-(intOf i).toNat)
   case atStart=>exact⟨B1.out,0,Nat.zero_le _,rfl,R1.out⟩
   case round=>
    obtain⟨hb,k,hk,rfl,HI⟩:=hrel;have hbw:w.heap.size<=wr.heap.size:=hb.size;by_cases hlt:k<xss.length
    ·obtain⟨xs,hx⟩:=af hlt;obtain⟨b,off,rfl,hb2,hc⟩:=(H.out.ext hst hb).cells (by omega);obtain⟨u,hu,hP⟩:=hc k xs hx;obtain⟨Au,cu,rfl,_⟩:=hP.slice;have hnx:=aa (Jk hx);have hl2:=UI.out (k+1);rw[hnx.out,List.length_append]at hl2;obtain⟨v4,w4,hrun,hrow4,hg4⟩:=kL (P:=Tryz.prog) (t:=57) (ty:=57) (e:=3) Tryz.underlying57 bQ rfl (by omega) HI.out (hP.1.U1) (fun x _ j=>rfl) (by omega) (by omega) hbw;have aU:=aa hrun;have nV:=aa hrow4;have wV:=aa (Ext.grown hb hg4 (fun k hk=>HI.out.block k hk));clear hx hc hP hrun hrow4 hg4 hl2;go_wp2_with (at_builtin;refine wpList_append_run rfl rfl rfl rfl aU.out ?_)
     go_roundw;case rel=>exact⟨wV.out,k+1,by omega,by go_num,by rw[hnx.out];exact nV.out⟩
     case measure=>simp[intOf];omega
    ·obtain rfl:k=xss.length:=by omega
     have hr:=HI.out;rw[List.take_length]at hr;have HR:=aa hr;obtain⟨A',c',rfl,_⟩:=hr.cell.1;clear hr HI;go_wp2;go_returns;exact⟨_,rfl,HR.out,hb⟩
theorem MW(xs:List Int):0<(perms xs).length:=by
 rw[mI];generalize xs.length=n
 induction n with
 | zero=>exact Nat.zero_lt_one
 | succ n ih=>exact Nat.mul_pos ih (Nat.succ_pos n)
theorem Dm(xs:List Int)(k:Nat):[part xs 0 k,part xs (k+1) xs.length].flatten=xs.eraseIdx k:=by simp[part,List.eraseIdx_eq_take_drop_succ]
theorem Bs.ad3{T:TypeId}{β:Type}{P:World->Value->β->Prop}{T':TypeId}(hP:rR T' P)(w:World){u1 u2:Value}{x1 x2:β}(h1:P w u1 x1)(h2:P w u2 x2) :
 Bs T P w.heap.size (w.alloc (.cells #[u1,u2] T)) (.slice (some ⟨w.heap.size,0,none⟩) 2 2) [x1,x2]:=by
 refine⟨[u1,u2],Row.lit (m:=1) (enc:=one QD) w #[u1,u2] T [u1,u2] (by simp[aI,one,QD]) (by simp),rfl,fun i u x hu hx=>?_⟩;have hE:Ext w (w.alloc (.cells #[u1,u2] T)):=(Ext.refl _).alloc _
 match i with
 | 0=>simp at hu hx;subst hu hx;exact hP.keep _ _ _ _ h1 (.aT hE)
 | 1=>simp at hu hx;subst hu hx;exact hP.keep _ _ _ _ h2 (.aT hE)
 | i+2=>simp at hu
theorem Bs.Yb{T:TypeId}{β:Type}{P:World->Value->β->Prop}{T':TypeId}(hP:rR T' P)(w:World){u1:Value}{x1:β}(h1:P w u1 x1) :
 Bs T P w.heap.size (w.alloc (.cells #[u1] T)) (.slice (some ⟨w.heap.size,0,none⟩) 1 1) [x1]:=by
 refine⟨[u1],Row.lit (m:=1) (enc:=one QD) w #[u1] T [u1] (by simp[aI,one,QD]) (by simp),rfl,fun i u x hu hx=>?_⟩;have hE:Ext w (w.alloc (.cells #[u1] T)):=(Ext.refl _).alloc _
 match i with
 | 0=>simp at hu hx;subst hu hx;exact hP.keep _ _ _ _ h1 (.aT hE)
 | i+1=>simp at hu
theorem Bs.own{T:TypeId}{β:Type}{P:World->Value->β->Prop}{base:Nat}{w:World}{v:Value}{xs:List β}(h:Bs T P base w v xs):∀k,v.ownBlock=some k->base<=k/\k<w.heap.size:=fun k hk=>let ⟨_,h1,_⟩:=h;World.ownsRow.lt h1 k hk
theorem F9:∀n,n<=5->fact n<=120
 | 0,_=>by decide
 | 1,_=>by decide
 | 2,_=>by decide
 | 3,_=>by decide
 | 4,_=>by decide
 | 5,_=>by decide
 | n+6,h=>by omega
theorem Hl{xs:List Int}(h:xs.length<=6):∀k,k<=xs.length->(fU xs k).length<=k*120:=by
 intro k
 induction k with
 | zero=>intro _;simp[fU]
 | succ k ih=>
   intro hk
   have:=ih (by omega)
   have h2:(perms (xs.eraseIdx k)).length<=120:=by rw[mI];exact F9 _ (by rw[List.length_eraseIdx,if_pos (by omega)];omega)
   rw[um,List.length_append,List.length_map];omega
def Rl(w w':World)(v':Value)(xs:List Int):Prop:=I2 w' v' (perms xs)/\(∀k,v'.ownBlock=some k->w.heap.size<=k)/\Ext w w'
theorem Lr:∀(n:Nat) (v:Value) (xs:List Int) (w:World),xs.length=n->n<=6->I1 w v xs ->
 Calls Tryz.prog 161 #[v] w fun e w'=>∃v',e=.returned v'/\Rl w w' v' xs:=by
 intro n
 induction n with
 | zero=>
   intro v xs w hx _ h;obtain rfl:xs=[]:=List.eq_nil_of_length_eq_zero hx;obtain⟨A,c,rfl,_⟩:=h.slice;clear h;have h0:I1 (w.alloc (.cells #[] 3)) (.slice (some ⟨w.heap.size,0,none⟩) 0 0) []:=.dm (bT);have h1:=(Bs.Yb (T:=57) (dZ (T:=83) (by decide)) _ h0);have H1:=aa h1;clear h0 h1;go_enter Tryz.func161,Tryz.ntmps161;go_wp2;go_returns;have ho:∀k,(Value.slice (some ⟨(w.alloc (.cells #[] 3)).heap.size,0,none⟩) 1 1).ownBlock=some k->w.heap.size<=k:=fun k hk=>Nat.le_trans ((Ext.refl w).alloc (.cells #[] 3)).size (H1.out.own k hk).1;have hd:=H1.out.done;have hsz:(w.alloc (.cells #[] 3)).heap.size=w.heap.size+1:=by simp
   rw[hsz]at ho hd;exact⟨_,rfl,hd,ho,((Ext.refl _).alloc _).alloc _⟩
 | succ n ih=>
   intro v xs w hx hn h;obtain⟨A,c,rfl,hc1,hc2⟩:=h.slice;have H:=aa h;have HIH:=aa ih;have hpos:0<xs.length:=by omega
   have HX:=aa hx;have h6:xs.length<=6:=by omega
   have hz:((xs.length:Int)==0)=false:=beq_eq_false_iff_ne.2 (by omega);have hst:=dZ (T:=83) (by decide);clear h ih hx;go_enter Tryz.func161,Tryz.ntmps161;go_wp2;go_loopw [3,17] (fun o i wr=>Ext w wr/\∃k:Nat,k<=xs.length/\i=.int .i64 k/\Hid (Bs 57 I1 w.heap.size wr o (fU xs k))) (fun _ i _=>xs.length-(intOf i).toNat)
   case atStart=>exact⟨(Ext.refl _).alloc _,0,Nat.zero_le _,rfl,Bs.nil w⟩
   case round=>
    obtain⟨hb,k,hk,rfl,HI⟩:=hrel;have hbw:w.heap.size<=wr.heap.size:=hb.size;by_cases hlt:k<xs.length
    ·obtain⟨x,hx⟩:=af hlt;have hI:=H.out.ext hb;obtain⟨b,off,rfl,hb2,hc⟩:=hI.cells (by omega);have c0:=hc k x hx;simp only[encI]at c0;obtain⟨V1,Mt,hp1⟩:∃V,(∀W,(Instr.slice 57 (.slice (some ⟨b,off,none⟩) xs.length c) none (some (.int .i64 (k:Int))) none).run Tryz.prog W=.ok (.slice V (k-0) (c-0)) W)/\I1 wr (.slice V (k-0) (c-0)) (part xs 0 k):=
      ⟨_,mR (P:=Tryz.prog) (A:=some ⟨b,off,none⟩) (n:=xs.length) (c:=c) Tryz.underlying57 bQ k (by omega),I1.part hI 0 k (by omega) (by omega)⟩
     obtain⟨V2,RN,hp2⟩:∃V,(∀W,(Instr.slice 57 (.slice (some ⟨b,off,none⟩) xs.length c) (some (.int .i64 ((k:Int)+1))) none none).run Tryz.prog W=.ok (.slice V (xs.length-(k+1)) (c-(k+1))) W)/\I1 wr (.slice V (xs.length-(k+1)) (c-(k+1))) (part xs (k+1) xs.length):=
      ⟨_,mh (P:=Tryz.prog) (A:=some ⟨b,off,none⟩) (n:=xs.length) (c:=c) Tryz.underlying57 bQ (k+1) (by omega),I1.part hI (k+1) xs.length (by omega) (Nat.le_refl _)⟩
     simp only[Nat.sub_zero]at Mt hp1;have hwrap:IntKind.i64.wrap ((k:Int)+1)=(k:Int)+1:=IntWalk.i64_in _ (by omega);have HLS:=aa (Bs.ad3 (T:=57) hst wr.drew (hp1.ext (((Ext.refl _).drew))) (hp2.ext (((Ext.refl _).drew)))).done;have hfl:=Dm xs k;have hle:(xs.eraseIdx k).length=n:=by rw[List.length_eraseIdx,if_pos hlt];have:=HX.out;omega
     have htot:[part xs 0 k,part xs (k+1) xs.length].flatten.length<=1000:=by rw[hfl,hle];omega
     have VR:=aa hfl;have aeI:=aa htot;have HXK:Hid (xs.getD k 0=x):=by show _ = _;simp[List.getD,hx]
     have FO:=aa (Nat.le_trans (Nat.le_of_eq (mI (xs.eraseIdx k))) (F9 _ (by rw[hle];omega)));have HPT:=aa (Nat.le_trans (Hl h6 k hk) (show k*120<=720 by omega));clear hc hp1 hp2 hI hx hfl htot;go_wp2;go_region_held3 (fun _=>True) (trivial) ((go_at_call 192;refine(Qm _ HLS.out (by simp) aeI.out).mono ?_;rintro e w1 ⟨v1,rfl,r1,b1⟩))
     have hp1':I1 w1 v1 (xs.eraseIdx k):=by have:=mo.dm r1;rw[VR.out]at this;exact this
     have b1':Ext wr w1:=((((Ext.refl wr).drew).alloc _)).trans b1;have HP:=aa hp1';have HB1:=aa b1';have hl1:=HIH.out v1 (xs.eraseIdx k) w1 hle (by omega) hp1';have HC:=aa hl1;clear r1 b1 hp1' b1' hl1;go_wp2_with (go_at_call 161;refine HC.out.mono ?_;rintro e w2 ⟨v2,rfl,hres⟩;obtain⟨hr1,hr2,hr3⟩:=hres;obtain⟨A2,c2,rfl,hd1,hd2⟩:=hr1.slice;have HR:=aa hr1;have HR2:=aa hr2;have HR3:=aa hr3;clear hr1 hr2 hr3)
     have hpl:=FO.out;have hpp:=MW (xs.eraseIdx k);generalize hps:perms (xs.eraseIdx k)=ps at HR hd1 hd2 hpl hpp;obtain⟨b3,zh,rfl,hb3,hcc⟩:=HR.out.cells hpp;have hb4:wr.heap.size<=b3:=Nat.le_trans HB1.out.size (HR2.out b3 rfl);have b2:Ext wr w2:=HB1.out.trans HR3.out;clear hcc HB1 HR2 HR3;obtain⟨wo,rfl⟩:∃wo:World,wo=wr:=⟨_,rfl⟩;obtain⟨Ao,co,rfl,ho1,ho2⟩:=HI.out.slice;have HI2:Hid (Bs 57 I1 w.heap.size w2 (.slice Ao (fU xs k).length co) (fU xs k)):=HI.out.ext hst b2;have HOW:Hid ((Value.slice Ao (fU xs k).length co).ownBlock≠some b3):=fun e=>by have:=(HI.out.own _ e).2;omega
     clear HI;go_loopw [3,34] (fun o i wr=>Ext w wr/\∃j:Nat,j<=ps.length/\i=.int .i64 j/\Hid (Bs 57 I1 w.heap.size wr o (fU xs k++(ps.take j).map (x :: ·))/\o.ownBlock≠some b3)/\Hid (b3<wr.heap.size)/\Hid (I2 wr (.slice (some ⟨b3,zh,none⟩) ps.length c2) ps)) (fun _ i _=>ps.length-(intOf i).toNat)
     case atStart=>exact⟨hb.trans b2,0,Nat.zero_le _,rfl,⟨by simpa using HI2.out,HOW.out⟩,hb3,HR.out⟩
     case round=>
      obtain⟨hb,j,hj,rfl,HJ,HB3,HR⟩:=hrel;by_cases hlt2:j<ps.length
      ·obtain⟨p,hp⟩:=af hlt2;have hb3:=HB3.out;obtain⟨b',off',e,_,hcc⟩:=HR.out.cells (by omega);injection e with e;injection e with e1 e2;subst e1 e2;obtain⟨u,hu,hP⟩:=hcc j p hp;obtain⟨Au,cu,rfl,hu1,hu2⟩:=mo.slice hP;have Na:p.length<=6:=by
        have:=(nW (xs:=xs.eraseIdx k) (p:=p) (by rw[hps];exact List.mem_of_getElem? hp)).length_eq
        omega
       have r1:Row 3 1 (one encI) wr.heap.size (wr.alloc (.cells #[.int .i64 x] 3)) (.slice (some ⟨wr.heap.size,0,none⟩) 1 1) [x]:=Row.lit wr #[.int .i64 x] 3 [x] (by simp[aI,one,encI]) (by simp);have hE0:Ext wr (wr.alloc (.cells #[.int .i64 x] 3)):=(Ext.refl _).alloc _;obtain⟨v3,w3,lD,hrow3,hg3⟩:=kL (P:=Tryz.prog) (t:=57) (ty:=57) (e:=3) Tryz.underlying57 bQ rfl (by omega) r1 ((hP.ext hE0).1.U1) (fun x _ j=>rfl) (by simp;omega) (by omega) hE0.size;obtain⟨cx,hcx⟩:∃cx,cx=[x]++p:=⟨_,rfl⟩;rw[<-hcx]at hrow3;obtain⟨A3,c3,rfl,_⟩:=(mo.dm hrow3).slice;have b3':Ext wr w3:=Ext.grown hE0 hg3 (fun k hk=>r1.block k hk);have Nv:(fU xs k++(ps.take j).map (x :: ·)).length+1<=4194304:=by
        have:=HPT.out
        simp;omega
       obtain⟨cur,jo⟩:∃cur,cur=fU xs k++(ps.take j).map (x :: ·):=⟨_,rfl⟩;have Za:=HJ.out;rw[<-jo]at Nv Za;obtain⟨Ao,co,rfl,_⟩:=Za.1.slice;obtain⟨v4,w4,kK,hB4,Sy,hK4,hS4,hO4⟩:=Cb w3.heap.size rfl Za.1 b3' (mo.dm hrow3) hb.size Nv;have H4:Hid (Bs 57 I1 w.heap.size w4 v4 (fU xs k++(ps.take (j+1)).map (x :: ·))/\v4.ownBlock≠some b3):=by
        refine⟨?_,?_⟩
        ·rw[ah hp,List.map_append,<-List.append_assoc,<-jo];rw[hcx]at hB4;exact hB4
        ·rcases hO4 with h|⟨kk,h,h'⟩
         ·rw[h];exact HJ.out.2
         ·rw[h];intro e;injection e with e;omega
       have HR4:Hid (I2 w4 (.slice (some ⟨b3,zh,none⟩) ps.length c2) ps):=Ls.same HR.out (by omega) (hS4 _ hb3 HJ.out.2) (dZ (by decide)) hK4;have sH:Hid (b3<w4.heap.size):=Nat.lt_of_lt_of_le hb3 hK4.1;have wV:=aa (Sy w hb (Nat.le_refl _));have mH:=aa lD;have oO:=aa kK;clear hcc hP hp Za jo hcx r1 hrow3 hg3 lD kK hB4 Sy hK4 hS4 hO4 HJ HR hE0;go_wp2_with (first|(at_builtin;refine wpList_append_run rfl rfl rfl rfl mH.out ?_;clear mH)|(at_builtin;refine wpList_append_run rfl rfl rfl rfl oO.out ?_;clear oO))
       go_roundw;case rel=>exact⟨wV.out,j+1,by omega,by go_num,H4.out,sH.out,HR4.out⟩
       case measure=>simp[intOf];omega
      ·obtain rfl:j=ps.length:=by omega
       have hJ0:=HJ.out.1;rw[List.take_length,<-hps,<-HXK.out,<-um]at hJ0;have HJ':=aa hJ0;clear hJ0;clear HJ HR;go_wp2;go_roundw;case rel=>exact⟨hb,k+1,by omega,by go_num,HJ'.out⟩
       case measure=>simp[intOf];omega
    ·obtain rfl:k=xs.length:=by omega
     have HI':=HI;obtain⟨A',c',rfl,_⟩:=HI.out.slice;clear HI;go_wp2;go_returns;rw[<-BV hpos]at HI';rw[<-BV hpos];have hd:=HI'.out.done;have ho:=HI'.out.own;exact⟨_,rfl,hd,fun k hk=>(ho k hk).1,hb⟩
def Aside(u o:Value)(w0 w:World):Prop:=∀k,u.ownBlock=some k->k<w0.heap.size/\w.heap[k]? =w0.heap[k]?/\o.ownBlock≠some k
theorem Aside.lt{u o:Value}{w0 w:World}(h:Aside u o w0 w){k:Nat}(hk:u.ownBlock=some k):k<w.heap.size:=by
 obtain⟨h1,h2,_⟩:=h k hk;rw[Array.getElem?_eq_getElem h1]at h2
 exact(Array.getElem?_eq_some_iff.1 h2).1
theorem Aside.ext{u o:Value}{w0 w w':World}(h:Aside u o w0 w)(hb:Ext w w'):Aside u o w0 w':=fun k hk=>
 ⟨(h k hk).1,(Below.block hb k (h.lt hk)).trans (h k hk).2.1,(h k hk).2.2⟩
theorem Aside.pushed{α:Type}{e:TypeId}{m:Nat}{enc:α->Nat->Value}{base:Nat}{u o o':Value}{xs:List α}{w0 w w':World}(h:Aside u o w0 w)(hp:lI e m enc base w w' o o' xs):Aside u o' w0 w':=fun k hk=>
 ⟨(h k hk).1,(hp.2.2.1 k (h.lt hk) (h k hk).2.2).trans (h k hk).2.1,by
   rcases hp.2.2.2 with h1|⟨j,h1,h2⟩
   ·rw[h1];exact(h k hk).2.2
   ·rw[h1];intro e;injection e with e;have:=h.lt hk;omega⟩
theorem Aside.row{α:Type}{e:TypeId}{m:Nat}{enc:α->Nat->Value}{base:Nat}{u o:Value}{xs:List α}{w0 w:World}(h:Aside u o w0 w)(hr:Row e m enc base w0 u xs):Row e m enc base w u xs:=hr.same fun k hk=>(h k hk).2.1
theorem CR(ops:List aQ):(bD ops).length<=3:=by rw[<-j6];exact lV _ _
theorem H9(ops:List aQ)(key:Int):nN ops key (bD ops).length=nC ops key:=by unfold nN nC;rw[List.take_length]
theorem vo{v:Value}{h:List aA}(key:Int)(w:World)(H:gL w v h)(hok:aC h=true)(hk:jR key 0 2=true) :
 Calls Tryz.prog 191 #[v,.int .i64 key] w fun e w'=>∃v',e=.returned v'/\Row 3 1 (one encI) w.heap.size w' v' (aP h key)/\Ext w w':=by
 obtain⟨A,c,rfl⟩:=H.slice;have HH:=aa H;have dO:=aa hok;have hlen:=aM hok;have hdl:=jU h;obtain⟨cs,hmk,hcs⟩:∃cs,(∀W:World,(Instr.makeSlice 57 (.int .i64 0) (.int .i64 (h.length:Int))).run Tryz.prog W=.ok (.slice (some ⟨W.heap.size,0,none⟩) 0 h.length) (W.alloc (.cells cs 3)))/\cs.size=h.length*1:=
  ⟨_,gY (P:=Tryz.prog) 57 3 Tryz.underlying57 bQ h.length (by omega) (by omega),size_madeCells _ _⟩
 clear H hok;go_enter Tryz.func191,Tryz.ntmps191;go_wp2_with fail
 refine(bN _ HH.out (by omega) (aD dO.out)).mono ?_
 rw[dO.out];rintro e w1 ⟨rfl,b1⟩;go_wp2_with (go_at_call 116;refine(BL _ _).mono ?_;rw[hk];rintro e w' ⟨rfl,rfl⟩)
 have hE1:Hid (Ext w (w1.alloc (.cells cs 3))):=b1.alloc _
 refine(rJ _ (HH.out.ext hE1.out) (by omega)).mono ?_
 rintro e w2 ⟨vd,rfl,rd,b2⟩;have RD:=aa rd;obtain⟨Ad,cd,rfl,_⟩:=id rd.cell.1;have HB2:=aa (hE1.out.trans b2);have hR:Row 3 1 (one encI) w1.heap.size (w1.alloc (.cells cs 3)) (.slice (some ⟨w1.heap.size,0,none⟩) 0 h.length) ([]:List Int):=jN _ h.length (by unfold maxLen;omega) hcs;have HAP:Hid (Aside (.slice Ad (aH h).length cd) (.slice (some ⟨w1.heap.size,0,none⟩) 0 h.length) w2 w2):=fun k hk=>by have h1:=World.ownsRow.lt rd k hk;refine⟨h1.2,rfl,fun e=>?_⟩;have h2:=World.ownsRow.lt hR k e;have h3:=h1.1;omega
 have HR:=aa ((hR.low b1.size).ext b2);clear hR rd b1 b2 hmk;go_wp2;go_loopw [5,24] (fun o i wr=>Ext w wr/\∃m:Nat,m<=(aH h).length/\i=.int .i64 m/\Hid (Row 3 1 (one encI) w.heap.size wr o (ry h key m)/\Aside (.slice Ad (aH h).length cd) o w2 wr)) (fun _ i _=>(aH h).length-(intOf i).toNat)
 case atStart=>exact⟨HB2.out,0,Nat.zero_le _,rfl,HR.out,HAP.out⟩
 case round=>
  obtain⟨hb,m,hm,rfl,HI⟩:=hrel;have hbw:w.heap.size<=wr.heap.size:=hb.size;by_cases hlt:m<(aH h).length
  ·obtain⟨n,hn⟩:=af hlt;obtain⟨hnl,hnd⟩:=nK (List.mem_of_getElem? hn);obtain⟨-,bd,Uy,rfl,hbd,hcd⟩:=Er (HI.out.2.row RD.out) (by omega);have cn:=hcd m n hn;obtain⟨b,off,rfl,hbl,hc⟩:=HH.out.head (by omega);obtain⟨t,ht⟩:=af hnl;obtain⟨ov,c0,c1,c2,hs⟩:=hc n t ht;replace c0:=hb.cell c0;replace c1:=hb.cell c1;replace c2:=hb.cell c2;have hto:=bY dO.out (List.mem_of_getElem? ht);have hol:=bU hto;have HS:=aa hs;have hnx:=Mw (key:=key) hn;rw[dw ht]at hnx;have iA:=aa hnx;have hl3:=CR t.ops;have hlu:=Hf h key m;clear hn hnd hc ht hs hto hcd hnx;go_wp2_with fail
   refine(kr t.az t.done _ (HS.out.ext hb) (by omega)).mono ?_
   rintro e w3 ⟨v3,rfl,r3,b3⟩;obtain⟨A3,c3,rfl,_⟩:=id r3.cell.1;have R3:=aa r3;have HJ:Hid (Row 3 1 (one encI) w.heap.size w3 _ (ry h key m++nN t.ops key 0)/\Aside _ _ w2 w3):=⟨by simpa[nN] using HI.out.1.ext b3,HI.out.2.ext b3⟩;have HB3:=aa (hb.trans b3);clear r3 b3 HI;go_wp2;go_loopw [5,34] (fun o i wr=>Ext w wr/\∃j:Nat,j<=(bD t.ops).length/\i=.int .i64 j/\Hid (Row 3 1 (one encI) w.heap.size wr o (ry h key m++nN t.ops key j)/\Aside (.slice (some ⟨bd,Uy,none⟩) (aH h).length cd) o w2 wr/\Row 71 3 aj w.heap.size wr (.slice A3 (bD t.ops).length c3) (bD t.ops))) (fun _ i _=>(bD t.ops).length-(intOf i).toNat)
   case atStart=>exact⟨HB3.out,0,Nat.zero_le _,rfl,HJ.out.1,HJ.out.2,R3.out.low hbw⟩
   case round=>
    obtain⟨hb2,j,hj,rfl,HK⟩:=hrel;have hbw2:w.heap.size<=wr.heap.size:=hb2.size;by_cases hjt:j<(bD t.ops).length
    ·obtain⟨A',c',hA',hcc⟩:=HK.out.2.2.cell.1;injection hA' with e1 e2 e3;subst e1 e3;obtain⟨b',off',rfl,pg,hcc⟩:=hcc (by omega);obtain⟨o,ho⟩:=af hjt;have d0:wr.cell? ⟨b',off'+j*3,none⟩=some (.int .i64 o.kind):=hcc j o ho 0 (by omega);have d1:wr.cell? ⟨b',off'+j*3+1,none⟩=some (.int .i64 o.key):=hcc j o ho 1 (by omega);have d2:wr.cell? ⟨b',off'+j*3+2,none⟩=some (.int .i64 o.value):=hcc j o ho 2 (by omega);have hE2:Hid (Ext wr (wr.alloc (.cells #[.int .i64 o.kind,.int .i64 o.key,.int .i64 o.value] 71))):=(Ext.refl _).alloc _;have hn2:=Di (key:=key) ho;have hlt2:=Gp t.ops key j;by_cases hkk:o.key=key
     ·rw[if_pos hkk]at hn2;have tF:=aa hn2;have hkb:(o.key==key)=true:=by simp[hkk]
      obtain⟨v',w4,hrun,hP⟩:=FK (wr.heap.size+1) (by simp) HK.out.1 hE2.out o.value hbw2 (by rw[List.length_append];omega);have aU:=aa hrun;have HP:=aa hP;have HR4:=aa (HK.out.2.2.pushed HK.out.1 (by decide) hP);have HA4:=aa (HK.out.2.1.pushed hP);have wV:=aa (hP.2.1 w hb2 (Nat.le_refl _));clear hcc ho e2 hn2 hrun hP HK hkk;go_wp2_with (at_builtin;refine wpList_append_run rfl rfl rfl rfl aU.out ?_)
      go_roundw;case rel=>exact⟨wV.out,j+1,by omega,by go_num,by rw[tF.out,<-List.append_assoc];exact HP.out.1,HA4.out,HR4.out⟩
      case measure=>simp[intOf];omega
     ·rw[if_neg hkk,List.append_nil]at hn2;have tF:=aa hn2;have hkb:(o.key==key)=false:=by simp[hkk]
      clear hcc ho e2 hn2 hkk;go_wp2;go_roundw;case rel=>exact⟨hb2.trans hE2.out,j+1,by omega,by go_num,by rw[tF.out];exact HK.out.1.ext hE2.out,HK.out.2.1.ext hE2.out,HK.out.2.2.ext hE2.out⟩
      case measure=>simp[intOf];omega
    ·obtain rfl:j=(bD t.ops).length:=by omega
     go_wp2;go_roundw;case rel=>exact⟨hb2,m+1,by omega,by go_num,by rw[iA.out,<-H9];exact HK.out.1,HK.out.2.1⟩
     case measure=>simp[intOf];omega
  ·obtain rfl:m=(aH h).length:=by omega
   have hr:=HI.out.1;rw[Ia]at hr;have Y6:=aa hr;clear hr HI;go_wp2;go_returns;exact⟨_,rfl,Y6.out,hb⟩
def nZ(h:List aA)(k:Nat):List (List Int):=(List.range k).map fun(i:Nat)=>aP h (i:Int)
theorem Kt(h:List aA)(k:Nat):nZ h (k+1)=nZ h k++[aP h (k:Int)]:=by simp[nZ,List.range_succ]
theorem qJ(h:List aA)(k:Nat):(nZ h k).length=k:=by simp[nZ]
theorem Cs:(Tryz.prog.info? 57).map (fun i=>(i.zero,i.size,i.bytes))=some (some (.slice none 0 0),1,24):=tQ
theorem Be{v:Value}{h:List aA}(w:World)(H:gL w v h)(hok:aC h=true) :
 Calls Tryz.prog 160 #[v] w fun e w'=>∃v',e=.returned v'/\Bs 57 I1 w.heap.size w' v' (nZ h 3)/\Ext w w':=by
 obtain⟨A,c,rfl⟩:=H.slice;have HH:=aa H;have dO:=aa hok;have hlen:=aM hok;obtain⟨cs,hmk,hcs⟩:∃cs,(∀W:World,(Instr.makeSlice 83 (.int .i64 0) (.int .i64 ((3:Nat):Int))).run Tryz.prog W=.ok (.slice (some ⟨W.heap.size,0,none⟩) 0 3) (W.alloc (.cells cs 57)))/\cs.size=3*1:=
  ⟨_,gY (P:=Tryz.prog) 83 57 Tryz.underlying83 Cs 3 (by omega) (by omega),size_madeCells _ _⟩
 have hmk':∀W:World,(Instr.makeSlice 83 (.int .i64 0) (.int .i64 3)).run Tryz.prog W=.ok (.slice (some ⟨W.heap.size,0,none⟩) 0 3) (W.alloc (.cells cs 57)):=hmk;have hst:=dZ (T:=83) (by decide);clear H hok hmk;go_enter Tryz.func160,Tryz.ntmps160;go_wp2_with fail
 refine(bN _ HH.out (by omega) (aD dO.out)).mono ?_
 rw[dO.out];rintro e w1 ⟨rfl,b1⟩;have HR:Hid (Bs 57 I1 w.heap.size (w1.alloc (.cells cs 57)) (.slice (some ⟨w1.heap.size,0,none⟩) 0 3) (nZ h 0)):=Bs.low (T:=57) (P:=I1) (Bs.room w1 cs 3 (by unfold maxLen;omega) hcs) b1.size;have HB1:Hid (Ext w (w1.alloc (.cells cs 57))):=b1.alloc _;clear b1;go_wp2;go_loopw [3,9] (fun o i wr=>Ext w wr/\∃k:Nat,k<=3/\i=.int .i64 k/\Hid (Bs 57 I1 w.heap.size wr o (nZ h k))) (fun _ i _=>3-(intOf i).toNat)
 case atStart=>exact⟨HB1.out,0,by omega,rfl,HR.out⟩
 case round=>
  obtain⟨hb,k,hk,rfl,HI⟩:=hrel;have hbw:w.heap.size<=wr.heap.size:=hb.size;by_cases hlt:k<3
  ·go_wp2_with fail
   refine(vo (k:Int) _ (HH.out.ext hb) dO.out (bL.2 (by omega))).mono ?_
   rintro e w3 ⟨v3,rfl,r3,b3⟩;have hs3:=mo.dm r3;obtain⟨A3,c3,rfl,_⟩:=hs3.slice;obtain⟨Ao,co,rfl,_⟩:=HI.out.slice;obtain⟨v4,w4,hrun,hB4,Sy,_⟩:=Cb w3.heap.size rfl HI.out b3 hs3 hbw (by rw[qJ];omega);have aU:=aa hrun;have sH:=aa hB4;have wV:=aa (Sy w hb (Nat.le_refl _));clear hrun hB4 Sy HI r3 hs3;go_wp2_with (at_builtin;refine wpList_append_run rfl rfl rfl rfl aU.out ?_)
   go_roundw;case rel=>exact⟨wV.out,k+1,by omega,by go_num,by rw[Kt];exact sH.out⟩
   case measure=>simp[intOf];omega
  ·obtain rfl:k=3:=by omega
   have HI':=HI;obtain⟨A',c',rfl,_⟩:=HI.out.slice;clear HI;go_wp2;go_returns;exact⟨_,rfl,HI'.out,hb⟩
theorem Xj:(Tryz.prog.info? 3).map (fun i=>(i.zero,i.size,i.bytes))=some (some (.int .i64 0),1,8):=by kernel_rfl
theorem abA(x:Int)(j:Nat):((one encI) x j).oneCell'=true:=by first|rfl|(unfold one;split<;>rfl)
theorem xH{v:Value}{xs:List Int}(w:World)(h:aF 1 (one encI) w v xs)(hlen:xs.length<=2097152) :
 Calls Tryz.prog 162 #[v] w fun e w'=>∃v',e=.returned v'/\Row 3 1 (one encI) w.heap.size w' v' xs/\Ext w w':=by
 obtain⟨A,c,rfl,h'⟩:=id h;have heq:=fun W=>Lib.run_eql_slice_nil (P:=Tryz.prog) W 57 3 A xs.length c 0 0 Tryz.underlying57
 cases A with
 | none=>
   have hx:xs=[]:=by
    rcases Nat.eq_zero_or_pos xs.length with h0|h0
    ·exact List.eq_nil_of_length_eq_zero h0
    ·obtain⟨b,off,hA,_⟩:=h' h0;cases hA
   subst hx;clear h h';simp only[List.length_nil]at heq ⊢;go_enter Tryz.func162,Tryz.ntmps162;go_wp2;go_returns;exact⟨_,rfl,Row.nil,Ext.refl _⟩
 | some ad=>
   have hrow:Row 3 1 (one encI) w.heap.size (w.alloc (.cells #[] 3)) (.slice (some ⟨w.heap.size,0,none⟩) 0 0) ([]:List Int):=World.ownsRow_made w #[] 0 (Nat.le_refl _) (by simp[maxLen]) (by simp);obtain⟨v',w',hrun,hrow',hgrow⟩:=kL (P:=Tryz.prog) (t:=57) (ty:=57) (e:=3) Tryz.underlying57 Xj rfl (by omega) hrow (h.ext ((Ext.refl w).alloc (.cells #[] 3))) (fun x _ j=>abA x j) (by simp;omega) (by omega) (by simp);have VX:=aa hrow';have hg:=aa (Ext.grown ((Ext.refl w).alloc (.cells #[] 3)) hgrow (fun k hk=>by simp[Value.ownBlock]at hk;omega));have UX:=aa hrun;clear h h' hrow hrow' hgrow hrun;go_enter Tryz.func162,Tryz.ntmps162;go_wp2_with (at_builtin;refine wpList_append_run rfl rfl rfl rfl UX.out ?_)
   go_returns;exact⟨_,rfl,by simpa using VX.out,hg.out⟩
theorem tq(A:Option Addr)(n c:Nat)(w:World)(h:n<=c/\c<=9223372036854775807) :
 Calls Tryz.prog 163 #[.slice A n c] w fun e w'=>e=.returned (.slice A n n)/\w=w':=by
 go_enter Tryz.func163,Tryz.ntmps163;go_wp2;go_returns;exact⟨rfl,rfl⟩
theorem ET(A:Option Addr)(n c:Nat)(w:World)(h:n<=c/\c<=9223372036854775807) :
 Calls Tryz.prog 164 #[.slice A n c] w fun e w'=>e=.returned (.slice A n n)/\w=w':=by
 go_enter Tryz.func164,Tryz.ntmps164;go_wp2;go_returns;exact⟨rfl,rfl⟩
def jc(h:List aA):Nat->Nat
 | 0=>1
 | k+1=>jc h k*fact (aP h (k:Int)).length
theorem pE(h:List aA):jc h 3=iw h:=by unfold iw;rw[jc,jc,jc,jc];simp
theorem Nj:∀n,1<=fact n
 | 0=>Nat.le_refl _
 | n+1=>Nat.mul_pos (Nj n) (Nat.succ_pos n)
theorem zI(h:List aA):∀k,(bG h k).length=jc h k:=by
 intro k
 induction k with
 | zero=>rfl
 | succ k ih=>
   rw[bG,List.length_flatMap,jc,<-ih];simp only[List.length_map,mI];generalize fact (aP h (k:Int)).length=F;generalize bG h k=l
   induction l with
   | nil=>simp
   | cons a l ih2=>simp[Nat.add_mul,ih2];omega
theorem MN{h:List aA}{k m:Nat}(hk:k<=m):jc h k<=jc h m:=by
 induction m with
 | zero=>obtain rfl:k=0:=by omega
         exact Nat.le_refl _
 | succ m ih=>
   rcases Nat.lt_or_ge m k with h1|h1
   ·obtain rfl:k=m+1:=by omega
    exact Nat.le_refl _
   ·exact Nat.le_trans (ih h1) (Nat.le_mul_of_pos_right _ (Nj _))
theorem rU{h:List aA}(hl:∀k:Int,(aP h k).length<=6):∀k,jc h k<=720 ^ k
 | 0=>Nat.le_refl _
 | k+1=>Nat.mul_le_mul (rU hl k) (zH (hl _))
theorem lM{h:List aA}:∀{k:Nat} {x:List (List Int)},x∈bG h k->x.length=k
 | 0,x,hx=>by simp[bG]at hx;subst hx;rfl
 | k+1,x,hx=>by simp only[bG,List.mem_flatMap,List.mem_map]at hx;obtain⟨b,hb,o,_,rfl⟩:=hx;simp[lM hb]
def grownBy(ps:List (List Int))(b:List (List Int)):List (List (List Int)):=ps.map fun o=>b++[o]
def gp(h:List aA)(k j:Nat):List (List (List Int)):=((bG h k).take j).flatMap (grownBy (perms (aP h (k:Int))))
theorem tX{h:List aA}{k j:Nat}{b:List (List Int)}(hb:(bG h k)[j]? =some b):gp h k (j+1)=gp h k j++grownBy (perms (aP h (k:Int))) b:=by unfold gp;rw[ah hb,List.flatMap_append];simp
theorem Dh(h:List aA)(k:Nat):gp h k (bG h k).length=bG h (k+1):=by unfold gp;rw[List.take_length];rfl
theorem Oc(h:List aA)(k j:Nat)(hj:j<=(bG h k).length):(gp h k j).length=j*fact (aP h (k:Int)).length:=by
 induction j with
 | zero=>simp[gp]
 | succ j ih=>
   obtain⟨b,hb⟩:=af (show j<(bG h k).length by omega);rw[tX hb,List.length_append,ih (by omega),grownBy,List.length_map,mI,Nat.succ_mul]
theorem GZ{h:List aA}{k j i:Nat}(hk:k<3)(hm:iw h<=200)(hj:j<(bG h k).length)(hi:i<=fact (aP h (k:Int)).length):(gp h k j).length+i<=200:=by
 rw[Oc h k j (by omega)];have h1:j*fact (aP h (k:Int)).length+fact (aP h (k:Int)).length<=jc h (k+1):=by rw[<-Nat.succ_mul,jc,<-zI];exact Nat.mul_le_mul_right _ hj
 have h2:=MN (h:=h) (show k+1<=3 by omega);rw[pE]at h2;omega
theorem ql{h:List aA}:∀{k:Nat} {x:List (List Int)},x∈bG h k->∀y∈x,y.length<=h.length
 | 0,x,hx=>by simp[bG]at hx;subst hx;intro y hy;cases hy
 | k+1,x,hx=>by
   simp only[bG,List.mem_flatMap,List.mem_map]at hx;obtain⟨b,hb,o,ho,rfl⟩:=hx;intro y hy;rcases List.mem_append.1 hy with h1|h1
   ·exact ql hb y h1
   ·simp at h1;subst h1;rw[(nW ho).length_eq];exact gJ _ _
theorem zG{ps:List (List Int)}{b:List (List Int)}{i:Nat}{p:List Int}(hp:ps[i]? =some p):grownBy (ps.take (i+1)) b=grownBy (ps.take i) b++[b++[p]]:=by unfold grownBy;rw[ah hp,List.map_append];simp
theorem Ls.ad2{T:TypeId}{β:Type}{P:World->Value->β->Prop}{w:World}:Ls T P w (.slice none 0 0) ([]:List β):=⟨[],.dm (base:=0) Row.nil,rfl,fun _ _ _ h=>by simp at h⟩
theorem Gq{v:Value}{h:List aA}(w:World)(H:gL w v h)(hok:aC h=true) :
 Calls Tryz.prog 118 #[v] w fun e w'=>∃v',e=.returned v'/\I3 w' v' (eZ h)/\Ext w w':=by
 obtain⟨A,c,rfl⟩:=H.slice;have HH:=aa H;have dO:=aa hok;have hlen:=aM hok;have hil:∀k:Int,(aP h k).length<=6:=fun k=>Nat.le_trans (gJ h k) (by omega);have Zj:=aa hil;clear H hok hil;go_enter Tryz.func118,Tryz.ntmps118;go_wp2_with fail
 refine(Be _ HH.out dO.out).mono ?_
 rintro e w1 ⟨v1,rfl,r1,b1⟩;have hd1:=r1.done;obtain⟨A1,c1,rfl,_⟩:=hd1.slice;obtain⟨bf,off,rfl,hbf,hcf⟩:=hd1.cells (by rw[qJ];omega);rw[qJ]at hd1;have HF:Hid (∀i:Nat,i<3->∃u,w1.cell? ⟨bf,off+i,none⟩=some u/\I1 w1 u (aP h (i:Int))):=fun i hi=>by
  have:(nZ h 3)[i]? =some (aP h (i:Int)):=by
   match i,hi with
   | 0,_=>rfl
   | 1,_=>rfl
   | 2,_=>rfl
   | i+3,hi=>omega
  exact hcf i _ this
 have heq:=fun W=>Lib.run_eql_slice_nil (P:=Tryz.prog) W 83 57 (some ⟨bf,off,none⟩) (nZ h 3).length c1 0 0 Tryz.underlying83;rw[qJ]at heq ⊢;have HB1:=aa b1;clear r1 b1 hd1 hcf;go_wp2;go_loopw [4,25] (fun p i wr=>w1=wr/\∃k:Nat,k<=3/\i=.int .i64 k/\p=.int .i64 (jc h k:Nat)) (fun _ i _=>3-(intOf i).toNat)
 case atStart=>exact⟨rfl,0,by omega,rfl,rfl⟩
 case round=>
  obtain⟨rfl,k,hk,rfl,rfl⟩:=hrel;by_cases hlt:k<3
  ·obtain⟨u,hu,hP⟩:=HF.out k hlt;obtain⟨Au,cu,rfl,_⟩:=mo.slice hP;have RQ:=Zj.out (k:Int);have hq:=rU Zj.out k;have hq2:720 ^ k<=518400:=(show k=0∨k=1∨k=2 by omega).elim (by rintro rfl;decide) fun h=>h.elim (by rintro rfl;decide) (by rintro rfl;decide);have hnx:Hid (jc h (k+1)=jc h k*fact (aP h (k:Int)).length):=rfl;obtain⟨p,hp⟩:∃p,jc h k=p:=⟨_,rfl⟩;rw[hp]at hq hnx ⊢;obtain⟨n,hn⟩:∃n,(aP h (k:Int)).length=n:=⟨_,rfl⟩;rw[hn]at hu RQ hnx;clear hP hp;go_wp2;go_loopw [4,31] (fun q i wr=>w1=wr/\∃j:Nat,j<=n/\i=.int .i64 j/\q=.int .i64 ((p*fact j:Nat):Int)) (fun _ i _=>n-(intOf i).toNat)
   case atStart=>exact⟨rfl,0,by omega,rfl,by simp[fact]⟩
   case round=>
    obtain⟨rfl,j,hj,rfl,rfl⟩:=hrel;by_cases hjt:j<n
    ·have hf:p*fact j<=518400*720:=Nat.mul_le_mul (Nat.le_trans hq hq2) (zH (by omega));have hf2:p*fact (j+1)<=518400*720:=Nat.mul_le_mul (Nat.le_trans hq hq2) (zH (by omega));have he:Hid (p*fact (j+1)=p*fact j*(j+1)):=by show _ = _;rw[fact,Nat.mul_assoc]
     have hwrap:IntKind.i64.wrap (((p*fact j:Nat):Int)*((j:Int)+1))=((p*fact (j+1):Nat):Int):=by rw[he.out];rw[he.out]at hf2;rw[show ((p*fact j:Nat):Int)*((j:Int)+1)=((p*fact j*(j+1):Nat):Int) by rw[Int.natCast_mul (p*fact j)];rfl];exact IntWalk.i64_in _ (by omega)
     obtain⟨q,hq3⟩:∃q,p*fact j=q:=⟨_,rfl⟩;obtain⟨q',hq4⟩:∃q',p*fact (j+1)=q':=⟨_,rfl⟩;rw[hq3,hq4]at hwrap;rw[hq3];have HQ4:=aa hq4;clear hq3 hq4 hf hf2 he hq;go_wp2;go_roundw;case rel=>exact⟨trivial,j+1,by omega,by go_num,by rw[HQ4.out]⟩
     case measure=>simp[intOf];omega
    ·obtain rfl:j=n:=by omega
     go_wp2;go_roundw;case rel=>exact⟨trivial,k+1,by omega,by go_num,by rw[hnx.out]⟩
     case measure=>simp[intOf];omega
  ·obtain rfl:k=3:=by omega
   have hq:=rU Zj.out 3;rw[pE]at hq ⊢;rw[show ((3:Nat):Int)=3 from rfl];clear hlt hk;by_cases hm:iw h<=200
   ·have HR:Hid (eZ h=bG h 3):=if_pos ⟨dO.out,hm⟩;have HM:=aa hm;have h0:I2 (w1.alloc (.cells #[] 57)) (.slice (some ⟨w1.heap.size,0,none⟩) 0 0) []:=(Bs.nil w1).done;have H0:=aa (Bs.Yb (T:=83) rE _ h0).done;have hs1:(w1.alloc (.cells #[] 57)).heap.size=w1.heap.size+1:=by simp
    rw[hs1]at H0;clear h0 hs1 heq;obtain⟨m,hm2⟩:∃m,iw h=m:=⟨_,rfl⟩;rw[hm2]at hq hm ⊢;clear hm2;go_wp2;clear hq hm;go_loopw [8,46] (fun o i wr=>Ext w1 wr/\∃k:Nat,k<=3/\i=.int .i64 k/\Hid (I3 wr o (bG h k))) (fun _ i _=>3-(intOf i).toNat)
    case atStart=>exact⟨((Ext.refl _).alloc _).alloc _,0,by omega,rfl,H0.out⟩
    case round=>
     obtain⟨hb,k,hk,rfl,HI⟩:=hrel;by_cases hlt:k<3
     ·obtain⟨u,hu,hP⟩:=HF.out k hlt;replace hu:=hb.cell hu;have HP:=aa (mo.ext hP hb);obtain⟨Au,cu,rfl,_⟩:=mo.slice hP;obtain⟨Ao,co,rfl,_⟩:=HI.out.slice;obtain⟨wo,rfl⟩:∃wo:World,wo=wr:=⟨_,rfl⟩;have HN:Hid (Bs 83 I2 wo.heap.size (wo.alloc (.cells #[] 83)) (.slice (some ⟨wo.heap.size,0,none⟩) 0 0) (gp h k 0)):=by
       show Bs _ _ _ _ _ _
       have:=Bs.nil (T:=83) (P:=I2) wo
       simpa[gp] using this
      have HB:=aa hb;have hlt3:(k:Int)<3:=by omega
      clear hP hb;go_wp2;go_loopw [11,53] (fun o i wr=>Ext wo wr/\∃j:Nat,j<=(bG h k).length/\i=.int .i64 j/\Hid (Bs 83 I2 wo.heap.size wr o (gp h k j))) (fun _ i _=>(bG h k).length-(intOf i).toNat)
      case atStart=>exact⟨(Ext.refl _).alloc _,0,by omega,rfl,HN.out⟩
      case round=>
       obtain⟨hb2,j,hj,rfl,HJ⟩:=hrel;by_cases hjt:j<(bG h k).length
       ·have hi3:=HI.out.ext (T':=89) (Ls.stays (dZ (by decide)) (by decide)) hb2;obtain⟨b2,off2,rfl,_,hc2⟩:=hi3.cells (by omega);obtain⟨bg,hbg⟩:=af hjt;obtain⟨ub,hub,hPb⟩:=hc2 j bg hbg;obtain⟨Ab,cb,rfl,_⟩:=Ls.slice hPb;have Iy:=aa hPb;have hbl:=lM (List.mem_of_getElem? hbg);have ac1:bg.length<=2:=by omega
        clear hbl;have HBL:=aa (ql (List.mem_of_getElem? hbg));have HGN:=aa (tX hbg);obtain⟨An,cn,rfl,_⟩:=HJ.out.slice;have hroom:=fun i hi=>GZ (i:=i) hlt HM.out hjt hi;have Wv:=aa hroom;have RQ:=Zj.out (k:Int);clear hc2 hPb hbg hi3 hroom;go_wp2_with fail
        refine(Lr _ _ (aP h (k:Int)) _ rfl RQ (mo.ext HP.out hb2)).mono ?_
        rintro e w2 ⟨v2,rfl,hr1,-,hr3⟩;have hpl:=mI (aP h (k:Int));obtain⟨ps,hps⟩:∃ps,perms (aP h (k:Int))=ps:=⟨_,rfl⟩;rw[hps]at hr1 hpl HGN;obtain⟨Ap,cp,rfl,_⟩:=Ls.slice hr1;have HR2:=aa hr1;have HJ2:Hid (Bs 83 I2 wo.heap.size w2 (.slice An (gp h k j).length cn) (gp h k j++grownBy (ps.take 0) bg)):=by show Bs _ _ _ _ _ _;rw[show grownBy (ps.take 0) bg=[] by simp[grownBy],List.append_nil];exact HJ.out.ext (T':=83) rE hr3
        have afo:=aa (Ls.ext Iy.out (T':=83) (dZ (by decide)) hr3);have HB2:=aa (hb2.trans hr3);have FO:=aa hpl;clear hr1 hr3 hb2 HJ Iy hpl;have Na:∀p∈ps,p.length<=6:=fun p hp=>by rw[<-hps]at hp;rw[(nW hp).length_eq];exact RQ
        have aax:=aa Na;clear hps Na hub;obtain⟨wq,rfl⟩:∃wq:World,wq=wr:=⟨_,rfl⟩;go_wp2;go_loopw [11,60] (fun o i wr=>Ext wo wr/\True/\∃i':Nat,i'<=ps.length/\i=.int .i64 i'/\Hid (Bs 83 I2 wo.heap.size wr o (gp h k j++grownBy (ps.take i') bg))/\Hid (I2 wr (.slice Ap ps.length cp) ps/\I2 wr (.slice Ab bg.length cb) bg)) (fun _ i _=>ps.length-(intOf i).toNat)
        case atStart=>exact⟨HB2.out,trivial,0,by omega,rfl,HJ2.out,HR2.out,afo.out⟩
        case round=>
         obtain⟨hb3,-,i,hi,rfl,HK,HL⟩:=hrel;by_cases hit:i<ps.length
         ·obtain⟨p,hp⟩:=af hit;obtain⟨bp,VM,rfl,_,hcp⟩:=Ls.cells HL.out.1 (by omega);obtain⟨up,hup,hPp⟩:=hcp i p hp;obtain⟨Aq,cq,rfl,hq1,hq2⟩:=mo.slice hPp;have hp6:=aax.out p (List.mem_of_getElem? hp);have HPP:=aa (mo.clip hPp);have Xw:=aa (zG (b:=bg) hp);have HP:=aa hp;obtain⟨nx,hnx⟩:∃nx,nx=gp h k j++grownBy (ps.take i) bg:=⟨_,rfl⟩;have hK:=HK.out;rw[<-hnx]at hK;have hnl:nx.length<=200:=by
           have:=Wv.out i (by have:=FO.out;omega)
           rw[hnx,List.length_append,grownBy,List.length_map,List.length_take];omega
          obtain⟨An,cn,rfl,_⟩:=hK.slice;have iA:=aa hnx;have HK2:=aa hK;obtain⟨cs,hmk,hcs⟩:∃cs,(∀W:World,(Instr.makeSlice 83 (.int .i64 0) (.int .i64 ((3:Nat):Int))).run Tryz.prog W=.ok (.slice (some ⟨W.heap.size,0,none⟩) 0 3) (W.alloc (.cells cs 57)))/\cs.size=3*1:=
           ⟨_,gY (P:=Tryz.prog) 83 57 Tryz.underlying83 Cs 3 (by omega) (by omega),size_madeCells _ _⟩
          have hmk':∀W:World,(Instr.makeSlice 83 (.int .i64 0) (.int .i64 3)).run Tryz.prog W=.ok (.slice (some ⟨W.heap.size,0,none⟩) 0 3) (W.alloc (.cells cs 57)):=hmk;obtain⟨wp,rfl⟩:∃wp:World,wp=wr:=⟨_,rfl⟩;have HC0:Hid (Bs 57 I1 wp.heap.size (wp.alloc (.cells cs 57)) (.slice (some ⟨wp.heap.size,0,none⟩) 0 3) (bg.take 0)):=Bs.room wp cs 3 (by unfold maxLen;omega) hcs;clear hmk hcs hcp hPp hp hK hnx HK;go_wp2;go_loopw [16,67] (fun o i wr=>Ext wp wr/\∃d:Nat,d<=bg.length/\i=.int .i64 d/\Hid (Bs 57 I1 wp.heap.size wr o (bg.take d))) (fun _ i _=>bg.length-(intOf i).toNat)
          case atStart=>exact⟨(Ext.refl _).alloc _,0,by omega,rfl,HC0.out⟩
          case round=>
           obtain⟨hb4,d,hd,rfl,HC⟩:=hrel;by_cases hdt:d<bg.length
           ·obtain⟨x,hx⟩:=af hdt;obtain⟨bx,afM,rfl,_,hcx⟩:=Ls.cells (Ls.ext HL.out.2 (T':=83) (dZ (by decide)) hb4) (by omega);obtain⟨ux,hux,hPx⟩:=hcx d x hx;obtain⟨Ax,cx,rfl,_⟩:=mo.slice hPx;have hx6:=HBL.out x (List.mem_of_getElem? hx);have O8:=aa (ah hx);have HPX:=aa hPx;have hC:=HC.out;obtain⟨cur,jo⟩:∃cur,cur=bg.take d:=⟨_,rfl⟩;have hcl:cur.length<=2:=by rw[jo,List.length_take];omega
            rw[<-jo]at hC;obtain⟨Ao2,co2,rfl,_⟩:=hC.slice;have HCU:=aa jo;have UZ:=aa hC;clear hcx hPx hx hC jo HC;go_wp2_with fail
            refine(xH _ HPX.out.1.U1 (by omega)).mono ?_
            rintro e w5 ⟨v5,rfl,r5,b5⟩;have hs5:=mo.dm r5;obtain⟨A5,c5,rfl,_⟩:=hs5.slice;obtain⟨v6,w6,hrun,hB6,hE6,_⟩:=Cb w5.heap.size rfl UZ.out b5 hs5 hb4.size (by omega);have aU:=aa hrun;have Ca:=aa hB6;have HE6:=aa (hE6 wp hb4 (Nat.le_refl _));clear hrun hB6 hE6 UZ r5 hs5;go_wp2_with (at_builtin;refine wpList_append_run rfl rfl rfl rfl aU.out ?_)
            go_roundw;case rel=>exact⟨HE6.out,d+1,by omega,by go_num,by rw[O8.out,<-HCU.out];exact Ca.out⟩
            case measure=>simp[intOf];omega
           ·obtain rfl:d=bg.length:=by omega
            have hC:=HC.out;rw[List.take_length]at hC;obtain⟨Ao2,co2,rfl,_⟩:=hC.slice;obtain⟨v6,w6,hrun,hB6,hE6,_⟩:=Cb wr.heap.size rfl hC (Ext.refl wr) (mo.ext HPP.out hb4) hb4.size (by omega);have b6:=hE6 wp hb4 (Nat.le_refl _);obtain⟨fin,hfin⟩:∃fin,fin=bg++[p]:=⟨_,rfl⟩;rw[<-hfin]at hB6;have hD6:=hB6.done;obtain⟨A6,c6,rfl,_⟩:=hD6.slice;obtain⟨v7,w7,ZA,Zw,FY,hK7,_⟩:=RV w6.heap.size rfl HK2.out b6 hD6 hb3.size (by omega);have mH:=aa hrun;have oO:=aa ZA;have Ec:=aa Zw;have Eg:=aa (FY wo hb3 (Nat.le_refl _));have HR7:=aa (rE.keep _ _ _ _ HL.out.1 hK7);have aeE:=aa (rE.keep _ _ _ _ HL.out.2 hK7);have jl:=aa hfin;clear hrun ZA hB6 Zw hE6 FY hK7 hC HC hD6 hfin HK2 HL;go_wp2_with (first|(go_at_call 163;refine(tq _ _ _ _ ⟨hq1,hq2⟩).mono ?_;rintro e w8 ⟨rfl,rfl⟩)|(at_builtin;refine wpList_append_run rfl rfl rfl rfl mH.out ?_;clear mH)|(at_builtin;refine wpList_append_run rfl rfl rfl rfl oO.out ?_;clear oO))
            go_roundw;case rel=>exact⟨Eg.out,trivial,i+1,by omega,by go_num,by rw[Xw.out,<-List.append_assoc,<-iA.out,<-jl.out];exact Ec.out,HR7.out,aeE.out⟩
            case measure=>simp[intOf];omega
         ·obtain rfl:i=ps.length:=by omega
          have hk:=HK.out;rw[List.take_length,<-HGN.out]at hk;have HK':=aa hk;clear HK hk;go_wp2;go_roundw;case rel=>exact⟨hb3,j+1,by omega,by go_num,HK'.out⟩
          case measure=>simp[intOf];omega
       ·obtain rfl:j=(bG h k).length:=by omega
        have hd:=HJ.out.done;rw[Dh]at hd;have HD:=aa hd;clear HJ hd;go_wp2;go_roundw;case rel=>exact⟨HB.out.trans hb2,k+1,by omega,by go_num,HD.out⟩
        case measure=>simp[intOf];omega
     ·obtain rfl:k=3:=by omega
      obtain⟨Ao,co,rfl,hc1,hc2⟩:=HI.out.slice;have HD:=aa (Ls.clip HI.out);go_wp2_with fail
      refine(ET _ _ _ _ ⟨hc1,hc2⟩).mono ?_
      rintro e w3 ⟨rfl,rfl⟩;go_wp2;go_returns;exact⟨_,rfl,by rw[HR.out];exact HD.out,HB1.out.trans hb⟩
   ·have HR:Hid (eZ h=[]):=if_neg fun hc=>hm hc.2;obtain⟨m,hm2⟩:∃m,iw h=m:=⟨_,rfl⟩;rw[hm2]at hq hm ⊢;clear hm2 heq;go_wp2;go_returns;exact⟨_,rfl,by rw[HR.out];exact Ls.ad2,HB1.out⟩
theorem LJ{base:Nat}{w0 w:World}(q:Nat)(hq:w.heap.size=q){v:Value}{xs:List Nat}(H:Row 3 1 (one gT) base w0 v xs)(hx:Ext w0 w)(n:Nat)(hb:base<=w0.heap.size)(hn:xs.length+1<=4194304) :
 ∃v' w',(Builtin.append_ #[57,57] 57 #[v,.slice (some ⟨q,0,none⟩) 1 1]).run Tryz.prog (w.alloc (.cells #[.int .i64 (n:Int)] 3))=.ok v' w'/\lI 3 1 (one gT) base w0 w' v v' (xs++[n]):=
 iP q hq Tryz.underlying57 bQ rfl (by omega) H hx n (fun j=>rfl) _ rfl hb hn (by omega)
theorem iR{α:Type}{e:TypeId}{m:Nat}{enc:α->Nat->Value}{base:Nat}{u w0 w':World}{v v':Value}{xs zs:List α}(H:Row e m enc base w0 v zs)(hp:lI e m enc base w0 w' v v' xs)(hu:Ext u w0)(hl:u.heap.size<=base):bH (fun k=>v.ownBlock=some k) w0 w':=by have h1:Below u.heap.size u w0:=hu;have h2:Below u.heap.size u w':=hp.2.1 u hu hl;exact⟨h2.os.trans h1.os.symm,h2.tape.trans h1.tape.symm,h2.output.trans h1.output.symm,(uS.wX H hp).1,fun k hk hx=>hp.2.2.1 k hk hx⟩
theorem XG{α:Type}{e:TypeId}{m:Nat}{enc:α->Nat->Value}{base:Nat}{w:World}{A:Option Addr}{n c:Nat}{xs:List α}(h:Row e m enc base w (.slice A n c) xs)(p:Nat)(hp:p<=xs.length):Row e m enc base w (.slice A p c) (xs.take p):=by
 have hl:(xs.take p).length=p:=by rw[List.length_take];omega
 refine⟨ji _,?_⟩;rcases h.2 with ⟨hv,hn⟩|⟨g,cap,cur,hv,h1,h2,h3,h4,h5,h6⟩
 ·injection hv with e1 e2 e3;subst e1 e2 e3;left
  have:p=0:=by omega
  subst this;exact⟨rfl,by simp⟩
 ·injection hv with e1 e2 e3;subst e1 e2 e3;right;refine⟨g,c,cur,by rw[hl],h1,h2,by omega,h4,h5,?_⟩;have hcs:(xs.take p).flatMap (aI m enc)=(xs.flatMap (aI m enc)).take (p*m):=by
   have hsp:xs.flatMap (aI m enc)=(xs.take p).flatMap (aI m enc)++(xs.drop p).flatMap (aI m enc):=by rw[<-List.flatMap_append,List.take_append_drop]
   have hl2:((xs.take p).flatMap (aI m enc)).length=p*m:=by rw[ji,hl]
   rw[hsp,<-hl2,List.take_left]
  rw[hl,hcs,<-h6,List.take_take];congr 1
  exact(Nat.min_eq_left (Nat.mul_le_mul_right _ hp)).symm
theorem Sa{T:TypeId}{base:Nat}{w:World}{v:Value}{xs:List Nat}:Row T 1 (one encI) base w v (xs.map fun n:Nat=>(n:Int))↔Row T 1 (one gT) base w v xs:=by unfold Row;rw[List.length_map,List.flatMap_map];exact Iff.rfl
theorem aa1{w:World}{v:Value}{xs:List Nat}(h:aF 1 (one gT) w v xs):aF 1 (one encI) w v (xs.map fun n:Nat=>(n:Int)):=by obtain⟨A,c,rfl,h⟩:=h;refine⟨A,c,by rw[List.length_map],fun hn=>?_⟩;obtain⟨b,off,e,hb,hc⟩:=h (by simpa using hn);refine⟨b,off,e,hb,fun i x hx j hj=>?_⟩;rw[List.getElem?_map,Option.map_eq_some_iff]at hx;obtain⟨y,hy,rfl⟩:=hx;exact hc i y hy j hj
theorem FV(a b:Value)(w:World):Calls Tryz.prog 121 #[a,b] w fun e w'=>e=.returned (.bool true)/\w=w':=by go_enter Tryz.func121,Tryz.ntmps121;go_wp2;go_returns;exact⟨rfl,rfl⟩
theorem Pg{FB KB bo:Nat}{v fv:Value}{cur:List Nat}{W:World}(hr:Row 3 1 (one gT) bo W v cur)(hf:Boxed W FB 57 fv)(hk:Boxed W KB 4 (.bool false))(hne:FB≠KB)(hl:cur.length<=2097152)(LY:bo<=W.heap.size) :
 Calls Tryz.prog 169 #[v,.pointer (some ⟨FB,0,none⟩),.pointer (some ⟨KB,0,none⟩)] W fun e W'=>e=.returned (.bool false)/\bH (fun k=>k=FB∨k=KB) W W'/\Boxed W' KB 4 (.bool true)/\∃u,Boxed W' FB 57 u/\Row 3 1 (one gT) bo W' u cur:=by
 obtain⟨A,c,rfl,_⟩:=id hr.cell.1;have HR:=aa (aa1 hr.cell.1);have HF:=aa hf;have HK:=aa hk;have HL:=aa hl;have HB:=aa LY;clear hr hf hk hl LY;go_enter Tryz.func169,Tryz.ntmps169;go_wp2_with fail
 refine(xH (xs:=cur.map fun n:Nat=>(n:Int)) W HR.out (by rw[List.length_map];exact HL.out)).mono ?_
 rintro e w1 ⟨u,rfl,hu,b1⟩;have HU:=aa (Sa.1 hu);obtain⟨A',c',rfl,_⟩:=id (Sa.1 hu).cell.1;have f1:=aL HF.out b1;have k1:=aL HK.out b1;have HF1:=aa f1;have HK1:=aa k1;have cf:=f1.cell;have zf:=f1.frozen;have ck:=k1.cell;have zk:=k1.frozen;clear hu f1 k1;go_wp2;go_returns;have q1:=(HF1.out.set (.slice A' cur.length c'));have q2:=jf HK1.out (a:=⟨FB,0,none⟩) hne (.slice A' cur.length c');refine⟨rfl,((bH.aT b1).setCell (.inl (.inl rfl)) _).setCell (.inl (.inr rfl)) _,q2.set _,_,jf q1 (a:=⟨KB,0,none⟩) (fun e=>hne e.symm) _,?_⟩;have hrow:=HU.out.low HB.out;have n1:=Boxed.not_row HF1.out (e:=3) (by decide) HU.out;have n2:=Boxed.not_row HK1.out (e:=3) (by decide) HU.out;have r1:=World.ownsRow.kept hrow (grownBy_setCell' _ FB (.slice A' cur.length c')) (.inr (fun e=>n1 e.symm));exact World.ownsRow.kept r1 (grownBy_setCell' _ KB (.bool true)) (.inr (fun e=>n2 e.symm))
