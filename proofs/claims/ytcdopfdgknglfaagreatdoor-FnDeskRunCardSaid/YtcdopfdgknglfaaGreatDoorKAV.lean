/- Lemmas. -/
import Derived.Test.YtcdopfdgknglfaaGreatDoorKAQ
import Derived.Test.YtcdopfdgknglfaaGreatDoorKAR
set_option maxHeartbeats 16000000
set_option maxRecDepth 8000
set_option linter.all false
namespace Go.Proofs.YtcdopfdgknglfaaGreatDoor
open Go.RowKit
section
section
variable{P:Program}{ops:Array Oper}{Q:Exit->Act->World->Prop}
def ET(Q:Exit->Act->World->Prop)(e:Exit)(a:Act)(w:World):Prop:=e=.normal/\Q .normal a w
theorem KU:¬LetsOut (ET Q):=λ⟨_,_,h⟩=>by cases h.1
theorem kg:∀(d:Option Tmp) (v:Value) (c:_) (a:Act) (w:World),ET Q (.panic c) (a.put d v) w->ET Q (.panic c) a w:=λ_ _ _ _ _ h=>by cases h.1
theorem U3{o:Oper}{l n:Nat}{a:Act}{w:World}{K:Act->World->Prop}(hd:vC o=true)(h:o.wp P a w K (ET Q)):o.wpIn (Fence.wide.inRound l) n P a w K Q:=by
 unfold Oper.wp at h;unfold Oper.wpIn;refine⟨λ_ _=>trivial,?_⟩;rw[Oper.semAt_eq _ _ _ (SS hd)];generalize (execOp a.eval o).run P w=r at *
 cases r with
 | ok x w'=>
   cases x<;>simp only[Oper.upon]at h<;>simp only[Oper.uponIn]
   case value u=>exact h
   case skip=>exact h
   case defer d=>exact h
   case enter f args=>
    refine⟨λe=>(by cases e),CallsIn.inRound l (callsIn_wide.2 (h.mono λe w'' he=>?_))⟩
    cases e with
    | returned v=>exact he
    | panicked c=>cases he.1
    | outgrown=>exact absurd he KU
   case row r args=>
    exact⟨λe=>(by cases e),λc cs _=>let ⟨v,w',r,s⟩:=h c cs;⟨v,w',r,stepsIn_wide.2 s⟩⟩
 | halt x w'=>cases x<;>simp only[Oper.upon]at h<;>first|exact h.elim|cases h.1
theorem VJ{i l n:Nat}{a:Act}{K K':Act->World->Prop}{w:World}(hd:ops.toList.all vC=true)(hk:∀a w,K a w->K' a w)(h:wpOp P ops (ET Q) i K a w):wpOpIn (Fence.wide.inRound l) n P ops Q i K' a w:=by
 refine wpOpIn_mono hk ?_;unfold wpOp at h;unfold wpOpIn;split
 ·rename_i ho;simpa only[ho] using h
 ·rename_i o ho;simp only[ho]at h;have hdo:vC o=true:=kT.1 hd o (aM (by rw[Array.getElem?_toList];exact ho));split
  ·rename_i hw;simp only[hw,if_true]at h;rcases h with h|⟨_,h⟩
   ·exact U3 hdo h
   ·exact absurd h KU
  ·rename_i hw;simp only[hw]at h;exact⟨λ_ _=>trivial,h⟩
theorem PX{md:Region.Mode}{l n:Nat}(hd:ops.toList.all vC=true):∀(fuel:Nat) (listed:Array Bool) (a:Act) (w:World),wpAny P md ops (ET Q) fuel listed a w->wpAnyIn (Fence.wide.inRound l) n P md ops Q fuel listed a w
 | 0,_,_,_,h=>⟨h.1,h.2.2⟩
 | fuel+1,_,_,_,h=>⟨λh0=>(h.1 h0).2,λi hi=>VJ hd (λa w=>PX hd fuel _ a w) (h.2 i hi)⟩
theorem FO{id l n:Nat}{S:World->Prop}{a:Act}{w:World}{os:List Oper}(hm:P.follows .mixedOrders=true)(hd:os.all vC=true)(hS:S w.drew)
 (h:S w.drew->wpAnyH P .any os.toArray (ET Q) S os.length (Array.replicate os.length false) a w.drew):(Code.region id os.toArray true).wpIn (Fence.wide.inRound l) n P Q a w:=
 wpIn_region_any hm (PX (by simpa using hd) _ _ _ _ (wpAny_of_held _ _ _ _ (by simpa using h hS)))
theorem yY{F:Fence}{n:Nat}{w w':World}{rest:List Oper}{o:Oper}{a:Act}{s x:Operand}{t:TypeId}{v u v':Value}(hgd:o.guard=none)
 (ho:o.op=.call { callee:=.builtin .append,args:=#[s,x],argTypes:=#[t,t] }) (hs:a.eval s=v) (hx:a.eval x=u) (hrun:(Builtin.append_ #[t,t] o.type #[v,u]).run P w=.ok v' w')
 (h:wpListIn F n P ops Q rest (a.put o.dst v') w'):wpListIn F n P ops Q (o :: rest) a w:=by
 refine wpListIn_plain hgd λK hK=>?_;unfold Oper.wpIn;refine⟨?_,?_⟩
 ·simp[Oper.about,ho,resolve,Target.leads,Sem.run_pure]
 ·rw[Oper.semAt_plain F _ _ (by rw[ho];intro c hc';cases hc')];simp only[execOp,ho,resolve,invoke,builtin,Sem.run_bind,Sem.run_pure,Result.andThen_ok,List.map_toArray,qc,kN,hs,hx,hrun];exact hK _ _ h
end
end
theorem Yc{h:List aG}{s:j3}{l:List Nat}{k:Nat}(e:runs h s (l.take k)=none):runs h s l=none:=by rw[<-List.take_append_drop k l,Ez,e];rfl
theorem YK{h:List aG}{n:Nat}{t:aG}(ht:h[n]? =some t):uO h n=t.ops:=by simp[uO,ht]
theorem Mv{s:j3}{k v:Int}(h:s k=v):s.put k v=s:=by
 funext x;unfold j3.put;split
 ·rename_i e;rw[e,h]
 ·rfl
theorem QX(W:World):(Instr.makeSlice 56 (.int .i64 3) (.int .i64 3)).run Tryz.prog W=.ok (.slice (some ⟨W.heap.size,0,none⟩) 3 3) (W.alloc (.cells #[.int .i64 0,.int .i64 0,.int .i64 0] 3)):=by
 have h:=lJ (P:=Tryz.prog) 56 3 Mm dx 3 (by omega) (by omega) W;have e:madeCells (Value.int .i64 0).cells (3*1)=#[.int .i64 0,.int .i64 0,.int .i64 0]:=by kernel_rfl
 rw[e]at h;exact h
theorem El{v u:Value}{h:List aG}{order:List Nat}(w:World)(H:iM w v h)(ho:aL 1 (one jl) w u order)(hok:aD h=true)(hm:∀n∈order,n<h.length)(hlen:order.length<=2097152) :
 Calls Tryz.prog 116 #[v,u] w λe w'=>e=.returned (.bool (runs h pU order).isSome)/\Ext w w':=by
 obtain⟨A,c,rfl⟩:=H.slice;obtain⟨A',c',rfl,_⟩:=id ho;have HH:=aa H;have HO:=aa ho;have fu:=aa hok;have HM:=aa hm;clear H ho hok hm;have hmk:=QX;go_enter Tryz.func116,Tryz.ntmps116;go_wp2;clear hmk;go_loopw [6] (λi wr=>Ext w wr/\∃k:Nat,k<=order.length/\i=.int .i64 k/\Hid (∃s,runs h pU (order.take k)=some s/\qR wr w.heap.size s)) (λi _=>order.length-(intOf i).toNat)
 case atStart=>exact⟨(af _).alloc _,0,aT _,rfl,pU,rfl,BU w pU _⟩
 case round=>
  obtain⟨hb,k,hk,rfl,HS⟩:=hrel;by_cases hlt:k<order.length
  ·obtain⟨A2,c2,e,hcc⟩:=HO.out.ext hb;injection e with e1 e2 e3;subst e1 e3;obtain⟨b2,off2,rfl,Xu,hcc⟩:=hcc (by omega);obtain⟨n,hn⟩:=ah hlt;have hnl:=HM.out n (aM hn);have hd0:=hcc k n hn 0 (by omega);rw[Nat.mul_one,fE]at hd0;have d0:wr.cell? ⟨b2,off2+k,none⟩=some (.int .i64 (n:Int)):=hd0;obtain⟨b,off,rfl,hbl,hc⟩:=HH.out.head (by omega);obtain⟨t,ht⟩:=ah hnl;obtain⟨ov,c0,c1,c2,hs⟩:=hc n t ht;replace c1:=hb.cell c1;obtain⟨A4,c4,rfl,hops⟩:=hs;have OL:=aa hops;have htk:=dH fu.out (aM ht);have R8:=aa htk;have hol:=dF htk;obtain⟨s,hs0,hst⟩:=HS.out;have HN:Hid (runs h pU (order.take (k+1))=follow s t.ops):=by show _ = _;rw[ak hn,CU,hs0,Option.bind_some,YK ht]
   have HST:=aa hst;have HB:=aa hb;clear hcc hn hd0 hc c0 c2 ht hops htk hs0 hst HS e2 hb;go_wp2;go_loopw [8] (λi wv=>Ext w wv/\∃j:Nat,j<=t.ops.length/\i=.int .i64 j/\Hid (∃s',follow s (t.ops.take j)=some s'/\qR wv w.heap.size s')) (λi _=>t.ops.length-(intOf i).toNat)
   case atStart=>exact⟨HB.out,0,aT _,rfl,s,rfl,HST.out⟩
   case round=>
    obtain⟨hb,j,hj,rfl,HJ⟩:=hrel;by_cases hjt:j<t.ops.length
    ·obtain⟨b',off',rfl,ru,hcc⟩:=OL.out (by omega);obtain⟨o,ho⟩:=ah hjt;have c0:=hb.cell (hcc j o ho 0 (by omega));have c1:=hb.cell (hcc j o ho 1 (by omega));have c2:=hb.cell (hcc j o ho 2 (by omega));simp only[encOpr,fE]at c0 c1 c2;have yZ:=gD R8.out (aM ho);have hkey:=jE yZ;have hkind:=p8 yZ;obtain⟨s',hs',hst⟩:=HJ.out;have Wd:Hid (follow s (t.ops.take (j+1))=if jQ o then some (s'.put o.key o.value) else if s' o.key=o.value then some s' else none):=by show _ = _;rw[ak ho,Eb,hs',Option.bind_some]
     have HSJ:=aa hst;obtain⟨kd,ky,vl⟩:=o;simp only at hkey hkind c0 c1 c2;obtain⟨q,rfl⟩:=dZ hkey.1;have hq3:(q:Int)<3:=by omega
     have OJ:q<3:=by omega
     have c3:=hst.2 q OJ;have hfree:=hst.1.free q;obtain⟨y,hy⟩:∃y,s' (q:Int)=y:=⟨_,rfl⟩;rw[hy]at c3;have HY:=aa hy;clear yZ hkey hcc ho hs' hst HJ hy;rcases hkind with rfl|rfl
     ·by_cases hyv:y=vl
      ·have hd:(y != vl)=false:=by simp[hyv]
       have V6:Hid (follow s (t.ops.take (j+1))=some (s'.put (q:Int) vl)):=by show _ = _;rw[Wd.out,au (by simp[jQ]),aj (by rw[HY.out,hyv]),Mv (by rw[HY.out,hyv])]
       clear hyv Wd;go_wp2;have e0:∀e,(over wr e).cell? ⟨b',off'+j*3,none⟩=some (.int .i64 1):=aK c0;have e1:∀e,(over wr e).cell? ⟨b',off'+j*3+1,none⟩=some (.int .i64 (q:Int)):=aK c1;have e2:∀e,(over wr e).cell? ⟨b',off'+j*3+2,none⟩=some (.int .i64 vl):=aK c2;have e3:∀e,(over wr e).cell? ⟨w.heap.size,q,none⟩=some (.int .i64 y):=aK c3;refine aU (by kernel_rfl) (by kernel_rfl) ?_;repeat (go_big_quiet_step (fail))
       refine j5 ?_;clear e0 e1 e2 e3;intro wz X;go_wp2;have u1:({ wz with drawn:=wz.drawn+1 }:World).cell? ⟨b',off'+j*3+1,none⟩=some (.int .i64 (q:Int)):=X.cell c1;have u2:({ wz with drawn:=wz.drawn+1 }:World).cell? ⟨b',off'+j*3+2,none⟩=some (.int .i64 vl):=X.cell c2;have u3:({ wz with drawn:=wz.drawn+1 }:World).cell? ⟨w.heap.size,q,none⟩=some (.int .i64 y):=X.cell c3;have v1:=X.cell c1;have v2:=X.cell c2;have v3:=X.cell c3;have u5:wz.frozen? ⟨w.heap.size,q,none⟩=false:=(HSJ.out.1.ext X).free q;clear c0 c1 c2 c3 hfree;have i1:(j:Int)<(t.ops.length:Int):=by omega
       have i2:(0:Int)<=(j:Int):=by omega
       have i3:(0:Int)<=(q:Int):=by omega
       go_still_tail 11,(by kernel_rfl)
       change wpList _ _ _ _ _ wz.drew;clear u1 u2 u3;go_wp2;have Y:=X.drew;have FD:=aa ((HSJ.out.ext Y).put (q:=q) OJ vl);go_roundw;case rel=>exact⟨(hb.trans Y).setCell (av _) _,j+1,by omega,by go_num,_,V6.out,FD.out⟩
       case measure=>simp[intOf];omega
      ·have hd:(y != vl)=true:=by simp[hyv]
       have V6:Hid (runs h pU order=none):=Yc (k:=k+1) (by rw[HN.out];exact Iu (k:=j+1) (by rw[Wd.out,au (by simp[jQ]),au (by rw[HY.out];exact hyv)]))
       clear hyv Wd;go_wp2;have e0:∀e,(over wr e).cell? ⟨b',off'+j*3,none⟩=some (.int .i64 1):=aK c0;have e1:∀e,(over wr e).cell? ⟨b',off'+j*3+1,none⟩=some (.int .i64 (q:Int)):=aK c1;have e2:∀e,(over wr e).cell? ⟨b',off'+j*3+2,none⟩=some (.int .i64 vl):=aK c2;have e3:∀e,(over wr e).cell? ⟨w.heap.size,q,none⟩=some (.int .i64 y):=aK c3;refine aU (by kernel_rfl) (by kernel_rfl) ?_;repeat (go_big_quiet_step (fail))
       refine j5 ?_;clear e0 e1 e2 e3;intro wz X;go_wp2;go_returns;exact⟨aS (by rw[V6.out];rfl),hb.trans X⟩
     ·have V6:Hid (follow s (t.ops.take (j+1))=some (s'.put (q:Int) vl)):=by show _ = _;rw[Wd.out,aj (by simp[jQ])]
      clear Wd;go_wp2;have e0:∀e,(over wr e).cell? ⟨b',off'+j*3,none⟩=some (.int .i64 2):=aK c0;have e1:∀e,(over wr e).cell? ⟨b',off'+j*3+1,none⟩=some (.int .i64 (q:Int)):=aK c1;have e2:∀e,(over wr e).cell? ⟨b',off'+j*3+2,none⟩=some (.int .i64 vl):=aK c2;have e3:∀e,(over wr e).cell? ⟨w.heap.size,q,none⟩=some (.int .i64 y):=aK c3;refine aU (by kernel_rfl) (by kernel_rfl) ?_;repeat (go_big_quiet_step (fail))
      refine j5 ?_;clear e0 e1 e2 e3;intro wz X;go_wp2;have u1:({ wz with drawn:=wz.drawn+1 }:World).cell? ⟨b',off'+j*3+1,none⟩=some (.int .i64 (q:Int)):=X.cell c1;have u2:({ wz with drawn:=wz.drawn+1 }:World).cell? ⟨b',off'+j*3+2,none⟩=some (.int .i64 vl):=X.cell c2;have u3:({ wz with drawn:=wz.drawn+1 }:World).cell? ⟨w.heap.size,q,none⟩=some (.int .i64 y):=X.cell c3;have v1:=X.cell c1;have v2:=X.cell c2;have v3:=X.cell c3;have u5:wz.frozen? ⟨w.heap.size,q,none⟩=false:=(HSJ.out.1.ext X).free q;clear c0 c1 c2 c3 hfree;have i1:(j:Int)<(t.ops.length:Int):=by omega
      have i2:(0:Int)<=(j:Int):=by omega
      have i3:(0:Int)<=(q:Int):=by omega
      go_still_tail 11,(by kernel_rfl)
      change wpList _ _ _ _ _ wz.drew;clear u1 u2 u3;go_wp2;have Y:=X.drew;have FD:=aa ((HSJ.out.ext Y).put (q:=q) OJ vl);go_roundw;case rel=>exact⟨(hb.trans Y).setCell (av _) _,j+1,by omega,by go_num,_,V6.out,FD.out⟩
      case measure=>simp[intOf];omega
    ·obtain rfl:j=t.ops.length:=by omega
     obtain⟨s',hs',hst⟩:=HJ.out;rw[bM]at hs';have HF:=aa (aB hs' hst);clear hs' hst HJ;go_wp2;go_roundw;case rel=>exact⟨hb,k+1,by omega,by go_num,s',by rw[HN.out];exact HF.out.1,HF.out.2⟩
     case measure=>simp[intOf];omega
  ·obtain rfl:k=order.length:=by omega
   obtain⟨s,hs,_⟩:=HS.out;rw[bM]at hs;have HF:=aa hs;clear hs HS;go_wp2;go_returns;exact⟨aS (by rw[HF.out];rfl),hb⟩
theorem Mw(W:World)(x:Nat):aL 1 (one jl) (W.alloc (.cells #[.int .i64 (x:Int)] 3)) (.slice (some ⟨W.heap.size,0,none⟩) 1 1) [x]:=by
 refine⟨_,_,rfl,λ_=>⟨_,0,rfl,by simp,λi y hy j hj=>?_⟩⟩;obtain rfl:i=0:=by have:=(bG.1 hy).1;simp at this;omega
 obtain rfl:j=0:=by omega
 simp at hy;subst hy;exact aF rfl
theorem Ro{h:List aG}{n:Nat}{begin_ rest:List Nat}(hr:(runs h pU begin_).isSome=true){k:Nat}{x:Nat}{r:Option (List Nat)}(hx:rest[k]? =some x)(he:sfind h n (begin_++[x]) (rest.eraseIdx k)=r)(hs:r.isSome=true)
 (hb:∀(j:Nat) y,j<k->rest[j]? =some y->sfind h n (begin_++[y]) (rest.eraseIdx j)=none):sfind h (n+1) begin_ rest=r:=by
 have hk:=(bG.1 hx).1;rw[sfind,aj hr];have e1:List.range rest.length=List.range k++k :: (List.range (rest.length-k-1)).map (λi=>k+1+i):=by
  have:rest.length=k+(1+(rest.length-k-1)):=by omega
  conv=>lhs;rw[this]
  rw[List.range_add,List.range_add,rR];simp[Function.comp_def,Nat.add_assoc]
 rw[e1,List.findSome?_append,List.findSome?_cons];have e2:(List.range k).findSome? (λk=>sfind h n (begin_++[rest.getD k 0]) (rest.eraseIdx k))=none:=by
  rw[List.findSome?_eq_none_iff];intro j hj;have hj:=Q6.1 hj;obtain⟨y,hy⟩:=ah (show j<rest.length by omega)
  have:=hb j y hj hy
  rwa [show rest.getD j 0=y by simp[List.getD,hy]]
 rw[e2,show rest.getD k 0=x by simp[List.getD,hx],he]
 cases r with
 | none=>cases hs
 | some o=>rfl
theorem RL{h:List aG}{n:Nat}{begin_ rest:List Nat}(hb:∀(j:Nat) y,j<rest.length->rest[j]? =some y->sfind h n (begin_++[y]) (rest.eraseIdx j)=none):sfind h (n+1) begin_ rest=none:=by
 rw[sfind];split
 ·rw[List.findSome?_eq_none_iff];intro j hj;have hj:=Q6.1 hj;obtain⟨y,hy⟩:=ah hj
  have:=hb j y hj hy
  rwa [show rest.getD j 0=y by simp[List.getD,hy]]
 ·rfl
theorem Lm{h:List aG}{n:Nat}{begin_ rest:List Nat}(hr:(runs h pU begin_).isSome=false):sfind h n begin_ rest=none:=by cases n<;>simp[sfind,hr]
theorem Pf{h:List aG}(hok:aD h=true):∀(n:Nat) (hv bv rv:Value) (begin_ rest:List Nat) (w:World),rest.length=n->iM w hv h->aL 1 (one jl) w bv begin_->aL 1 (one jl) w rv rest->tN rv->(∀x∈begin_,x<h.length)->(∀x∈rest,x<h.length)->begin_.length+n<=6 ->
 Calls Tryz.prog 77 #[hv,bv,rv] w (Dp w (sfind h n begin_ rest)):=by
 intro n
 induction n with
 | zero=>
   intro hv bv rv begin_ rest w hn H hB hR hC hm1 hm2 hl;obtain⟨Ah,ch,rfl⟩:=H.slice;obtain⟨Ab,cb,rfl,_⟩:=id hB;obtain⟨Ar,cr,rfl,_⟩:=id hR;have ZB:=aa (El w H hB hok hm1 (by omega));have HB:=aa hB;rw[hn];clear H hB hR hC hm1 hm2
   cases hr:(runs h pU begin_).isSome with
   | false=>
     have HF:Hid (sfind h 0 begin_ rest=none):=Lm hr;rw[hr]at ZB;clear hr;go_enter Tryz.func77,Tryz.ntmps77;go_wp2_with fail
     refine ZB.out.mono ?_;rintro e w1 ⟨rfl,b1⟩;go_wp2;go_returns;exact⟨_,by rw[HF.out];rfl,by rw[HF.out];exact aL.nil _ _ _ _ _,b1.alloc _⟩
   | true=>
     have HF:Hid (sfind h 0 begin_ rest=some begin_):=by show _ = _;rw[sfind,aj hr]
     rw[hr]at ZB;clear hr;go_enter Tryz.func77,Tryz.ntmps77;go_wp2_with fail
     refine ZB.out.mono ?_;rintro e w1 ⟨rfl,b1⟩;go_wp2;go_returns;exact⟨_,by rw[HF.out];rfl,by rw[HF.out];exact HB.out.ext b1,b1⟩
 | succ n ih=>
   intro hv bv rv begin_ rest w hn H hB hR hC hm1 hm2 hl;obtain⟨Ah,ch,rfl⟩:=H.slice;obtain⟨Ab,cb,rfl,_⟩:=id hB;obtain⟨Ar,c,rfl,hrc⟩:=id hR;have ZB:=aa (El w H hB hok hm1 (by omega));have HH:=aa H;have HB:=aa hB;have HR:=aa hR;have HRC:=aa hrc;have hcap:=hC _ _ _ rfl;have HM1:=aa hm1;have Uw:=aa hm2;have HIH:=aa ih;have HN:=aa hn;clear H hB hR hC hm1 hm2 ih hrc
   cases hr:(runs h pU begin_).isSome with
   | false=>
     have HF:Hid (sfind h (n+1) begin_ rest=none):=Lm hr;rw[hr]at ZB;clear hr;go_enter Tryz.func77,Tryz.ntmps77;go_wp2_with fail
     refine ZB.out.mono ?_;rintro e w1 ⟨rfl,b1⟩;go_wp2;go_returns;exact⟨_,by rw[HF.out];rfl,by rw[HF.out];exact aL.nil _ _ _ _ _,b1.alloc _⟩
   | true=>
     rw[hr]at ZB;have HRR:=aa hr;have hz:((rest.length:Int)==0)=false:=fU.2 (by omega);clear hr hn;go_enter Tryz.func77,Tryz.ntmps77;go_wp2_with fail
     refine ZB.out.mono ?_;rintro e w1 ⟨rfl,b1⟩;have HB1:=aa b1;clear b1;go_wp2;go_loopw [8] (λi wr=>Ext w wr/\∃k:Nat,k<=rest.length/\i=.int .i64 (k:Int)/\Hid (∀(j:Nat) y,j<k->rest[j]? =some y->sfind h n (begin_++[y]) (rest.eraseIdx j)=none)) (λi _=>rest.length-(intOf i).toNat)
     case atStart=>exact⟨HB1.out,0,aT _,rfl,λj y hj=>absurd hj (gu _)⟩
     case round=>
      obtain⟨hb,k,hk,rfl,HI⟩:=hrel;by_cases hlt:k<rest.length
      ·obtain⟨x,hx⟩:=ah hlt;obtain⟨b,off,rfl,hbl,hcc⟩:=HRC.out (by omega);have c0:w.cell? ⟨b,off+k,none⟩=some (.int .i64 (x:Int)):=by have:=hcc k x hx 0 (by omega);rw[Nat.mul_one,fE]at this;exact this
       have hRr:=HR.out.ext hb;obtain⟨V1,Cf,hp1⟩:∃V,(∀W,(Instr.slice 56 (.slice (some ⟨b,off,none⟩) rest.length c) none (some (.int .i64 (k:Int))) none).run Tryz.prog W=.ok (.slice V (k-0) (c-0)) W)/\aL 1 (one jl) wr (.slice V (k-0) (c-0)) (part rest 0 k):=
        ⟨_,mW (P:=Tryz.prog) (A:=some ⟨b,off,none⟩) (n:=rest.length) (c:=c) Mm dx k (by omega),(aL.part hRr 0 k (by omega) (by omega) hcap.1).1⟩
       obtain⟨V2,EB,hp2⟩:∃V,(∀W,(Instr.slice 56 (.slice (some ⟨b,off,none⟩) rest.length c) (some (.int .i64 ((k:Int)+1))) none none).run Tryz.prog W=.ok (.slice V (rest.length-(k+1)) (c-(k+1))) W)/\aL 1 (one jl) wr (.slice V (rest.length-(k+1)) (c-(k+1))) (part rest (k+1) rest.length):=
        ⟨_,mK (P:=Tryz.prog) (A:=some ⟨b,off,none⟩) (n:=rest.length) (c:=c) Mm dx (k+1) (by omega),(aL.part hRr (k+1) rest.length (by omega) (av _) hcap.1).1⟩
       simp only[Nat.sub_zero]at Cf hp1;have hwrap:IntKind.i64.wrap ((k:Int)+1)=(k:Int)+1:=dL _ (by omega);have hle:(rest.eraseIdx k).length=n:=by rw[agE,aj hlt];have:=HN.out;omega
       have hrl:=HN.out;have hl1:(part rest 0 k).length<=6:=by rw[rZ (by omega)];omega
       have hl2:(part rest (k+1) rest.length).length<=6:=by rw[rZ (av _)];omega
       have hpe:part rest 0 k++part rest (k+1) rest.length=rest.eraseIdx k:=by simp[part,List.eraseIdx_eq_take_drop_succ]
       obtain⟨v1,w2,mX,jO,Ch⟩:=oD (w:=wr.drew) wr.heap.size rfl Mm dx rfl (by omega) (hp1.ext ((af _).drew)) (λx _ j=>rfl) (by omega) (by omega);have b1:=Ch wr ((af _).drew);obtain⟨v2,w3,mG,hrow2,hg2⟩:=lX (P:=Tryz.prog) (t:=56) (ty:=56) (e:=3) Mm dx rfl (by omega) jO (hp2.ext b1) (λx _ j=>rfl) (by omega) (by omega) b1.size;have b2:Ext wr w3:=Ext.grown b1 hg2 (λk hk=>jO.block k hk);obtain⟨A1,n1,c1,rfl⟩:=jL jO;obtain⟨Al,nl,cl,rfl⟩:=jL hrow2;rw[hpe]at hrow2;have oq:Hid ((Builtin.append_ #[56,56] 56 #[.slice (some ⟨wr.heap.size,0,none⟩) 0 0,.slice V1 k c]).run Tryz.prog (wr.alloc (.cells #[] 3)).drew=.ok (.slice A1 n1 c1) w2):=mX;have qV:=aa mG;have HL:=aa (aB hrow2.cell.1 (aB (show tN (.slice Al nl cl) from hrow2.cap) (hb.trans b2)));have HC0:=aa c0;have hxl:=Uw.out x (aM hx);obtain⟨r,hr⟩:∃r,sfind h n (begin_++[x]) (rest.eraseIdx k)=r:=⟨_,rfl⟩;have abS:Hid (r.isSome=true->sfind h (n+1) begin_ rest=r):=λe=>Ro HRR.out hx hr e HI.out;have Yy:Hid (r=none->∀(j:Nat) y,j<k+1->rest[j]? =some y->sfind h n (begin_++[y]) (rest.eraseIdx j)=none):=λe j y hj hy=>by
        rcases eP j k with h'|h'
        ·exact HI.out j y h' hy
        ·obtain rfl:j=k:=by omega
         rw[hx]at hy;cases hy;exact hr.trans e
       have acW:Hid (∀V u,Ext w3 V->aL 1 (one jl) V u (begin_++[x])->Calls Tryz.prog 77 #[.slice Ah h.length ch,u,.slice Al nl cl] V (Dp V r)):=λV u hV hu=>by
        rw[<-hr];refine HIH.out _ _ _ (begin_++[x]) (rest.eraseIdx k) V hle (HH.out.ext (HL.out.2.2.trans hV)) hu (HL.out.1.ext hV) HL.out.2.1 (λy hy=>?_) (λy hy=>Uw.out y (List.mem_of_mem_eraseIdx hy)) (by simp;omega);rcases iR.1 hy with hy|hy
        ·exact HM1.out y hy
        ·rw[pF]at hy;exact hy▸hxl
       have abK:begin_.length<=6:=by omega
       have i1:(k:Int)<(rest.length:Int):=by omega
       have i2:(0:Int)<=(k:Int):=by omega
       clear hcc hp1 hp2 hx hpe mX mG jO hrow2 Ch hg2 b1 b2 hl1 hl2 hle c0 hRr hr hrl;go_wp2;go_region_held3 (λ_=>True) (trivial) ((first|(refine aP (by rfl) (by rfl) (by rfl) (by rfl) oq.out ?_;clear oq)|(refine aP (by rfl) (by rfl) (by rfl) (by rfl) qV.out ?_)))
       have hb:Ext w w3:=HL.out.2.2;have HX0:Hid (∀V,Ext w3 V->V.cell? ⟨b,off+k,none⟩=some (.int .i64 (x:Int))):=λV bb=>bb.cell (hb.cell HC0.out);obtain⟨wr,rfl⟩:∃W,W=w3:=⟨_,rfl⟩;have HBE:=aa (HB.out.ext hb);have jR:Hid (∀(V:World) (v1:Value) (q:Nat),Row 3 1 (one jl) wr.heap.size V v1 begin_->aL 1 (one jl) V (.slice (some ⟨q,0,none⟩) 1 1) [x]->Ext wr V ->
        ∃A2 n2 c2 w2,(Builtin.append_ #[56,56] 56 #[v1,.slice (some ⟨q,0,none⟩) 1 1]).run Tryz.prog V=.ok (.slice A2 n2 c2) w2/\Calls Tryz.prog 77 #[.slice Ah h.length ch,.slice A2 n2 c2,.slice Al nl cl] w2 (Dp w2 r)/\Ext wr w2):=λV v1 q hr ho hx=>by
        obtain⟨v7,w7,hrun,hrow,hg⟩:=lX (P:=Tryz.prog) (t:=56) (ty:=56) (e:=3) Mm dx rfl (by omega) hr ho (λx hx j=>rfl) (by simp;omega) (by omega) hx.size;have b7:Ext wr w7:=Ext.grown hx hg (λk hk=>hr.block k hk);obtain⟨A7,n7,c7,rfl⟩:=jL hrow;exact⟨A7,n7,c7,w7,hrun,acW.out w7 _ b7 hrow.cell.1,b7⟩
       obtain⟨u1,w1,mX,jO,Ch⟩:=oD (w:=wr.drew) wr.heap.size rfl Mm dx rfl (by omega) (HBE.out.ext ((af _).drew)) (λx _ j=>rfl) (by omega) (by omega);have HCB:=aa (Ch wr ((af _).drew));obtain⟨B1,m1,d1,rfl⟩:=jL jO;have afk:Hid ((Builtin.append_ #[56,56] 56 #[.slice (some ⟨wr.heap.size,0,none⟩) 0 0,.slice Ab begin_.length cb]).run Tryz.prog (wr.drew.alloc (.cells #[] 3))=.ok (.slice B1 m1 d1) w1):=mX;have HCR:=aa jO;obtain⟨u2,w2,mG,hrow2,hg2⟩:=lX (P:=Tryz.prog) (t:=56) (ty:=56) (e:=3) (base:=wr.drew.heap.size) (w:=(wr.drew.alloc (.cells #[] 3)).alloc (.cells #[.int .i64 (x:Int)] 3)) Mm dx rfl (by omega) (Row.ext (dD (E:=3) (m:=1) (enc:=one jl) (w:=wr.drew)) ((af _).alloc _)) (HBE.out.ext (((af wr).drew.alloc _).alloc _)) (λx _ j=>rfl) (by simp;omega) (by omega) (by simp;omega);have ho2:aL 1 (one jl) w2 (.slice (some ⟨wr.heap.size+1,0,none⟩) 1 1) [x]:=by
        have:=Mw (wr.drew.alloc (.cells #[] 3)) x
        rw[show (wr.drew.alloc (.cells #[] 3)).heap.size=wr.heap.size+1 by simp]at this;exact this.grown hg2 (λa n c e hn=>by cases e;simp[Value.ownBlock])
       have abY:=aa (aB ho2 (Ext.grown (((af wr).drew.alloc (.cells #[] 3)).alloc (.cells #[.int .i64 (x:Int)] 3)) hg2 (λk hk=>by simp[Value.ownBlock]at hk;omega)));obtain⟨B2,m2,d2,rfl⟩:=jL hrow2;have acN:=aa mG;have afs:=aa (show Row 3 1 (one jl) wr.heap.size w2 (.slice B2 m2 d2) begin_ from by simpa using hrow2);obtain⟨u3,w3,Jz,hrow3,Pw⟩:=oD (w:=wr.drew.alloc (.cells #[.int .i64 (x:Int)] 3)) (wr.heap.size+1) (by simp) Mm dx rfl (by omega) (HBE.out.ext ((af wr).drew.alloc _)) (λx _ j=>rfl) (by omega) (by omega);have acs:=aa (aB ((Mw wr.drew x).ext (Pw _ (af _))) (Pw wr ((af wr).drew.alloc _)));obtain⟨B3,m3,d3,rfl⟩:=jL hrow3;have acK:=aa Jz;have aeN:=aa (hrow3.low (base':=wr.heap.size) (by simp));clear mX jO Ch mG hrow2 hg2 ho2 Jz hrow3 Pw;go_wp2;refine wp_region_held_drew (S:=λV:World=>V.cell? ⟨b,off+k,none⟩=some (.int .i64 (x:Int))) (by kernel_rfl) (HX0.out _ (af _).drew) (λhHeld=>?_);simp only[List.size_toArray,eO,iJ,ig,Nat.reduceAdd];refine fG 0 (.slice Ah h.length ch) rfl (iK ⟨by kernel_rfl,λV s1=>by go_simp⟩) hHeld ?_;try go_frame
       refine fG 2 (.slice Ab begin_.length cb) rfl (iK ⟨by kernel_rfl,λV s1=>by go_simp⟩) hHeld ?_;try go_frame
       refine fG 4 (.slice (some ⟨b,off,none⟩) rest.length c) rfl (iK ⟨by kernel_rfl,λV s1=>by go_simp⟩) hHeld ?_;try go_frame
       refine fG 5 (.int .i64 (k:Int)) rfl (iK ⟨by kernel_rfl,λV s1=>by go_simp⟩) hHeld ?_;try go_frame
       refine fG 6 (.pointer (some ⟨b,off+k,none⟩)) rfl (iK ⟨by kernel_rfl,λV s1=>by go_simp⟩) hHeld ?_;try go_frame
       refine fG 7 (.int .i64 (x:Int)) rfl (iK ⟨by kernel_rfl,λV s1=>by go_simp⟩) hHeld ?_;try go_frame
       refine fG 10 (.slice Al nl cl) rfl (iK ⟨by kernel_rfl,λV s1=>by go_simp⟩) hHeld ?_;try go_frame
       refine aO (rs:=[1,8]) (by kernel_rfl) (by simp) ?_;refine aY rfl (λK hK=>?_) (aY rfl (λK hK=>?_) bu)
       ·go_simp;refine hK.out _ _ (HX0.out _ ((af wr).drew.alloc _)) (λhHeld=>?_);clear hK K;try go_frame
        refine aO (rs:=[3,8]) (by kernel_rfl) (by simp) ?_;refine aY rfl (λK hK=>?_) (aY rfl (λK hK=>?_) bu)
        ·refine aP (by rfl) (by rfl) (by rfl) (by rfl) afk.out ?_;refine hK.out _ _ (HX0.out _ HCB.out) (λhHeld=>?_);clear hK K;try go_frame
         refine aO (rs:=[8]) (by kernel_rfl) (by simp) ?_;refine aY rfl (λK hK=>?_) bu;go_simp;refine hK.out _ _ (HX0.out _ (HCB.out.alloc _)) (λhHeld=>?_);clear hK K;try go_frame
         have hrow:=Row.ext HCR.out ((af w1).alloc (.cells #[.int .i64 (x:Int)] 3));have ho:=Mw w1 x;have hx:=HCB.out.alloc (.cells #[.int .i64 (x:Int)] 3);obtain⟨A2,n2,c2,w2,hrun,hcall,b2⟩:=jR.out _ _ _ hrow ho hx;have HC:=aa hcall;have bH:=aa hrun;have HB2:=aa b2;clear hrun hcall b2 hrow ho hx;refine aO (rs:=[9]) (by kernel_rfl) (by simp) ?_;refine aY rfl (λK hK=>?_) bu;refine aP (by rfl) (by rfl) (by rfl) (by rfl) bH.out ?_;refine hK.out _ _ (HX0.out _ HB2.out) (λhHeld=>?_);clear hK K;try go_frame
         refine aO (rs:=[11]) (by kernel_rfl) (by simp) ?_;refine aY rfl (λK hK=>?_) bu;go_simp;refine HC.out.mono ?_;rintro e w3 ⟨v3,rfl,hs3,b3⟩;obtain⟨A3,c3,rfl,_⟩:=id hs3;have NI:=aa hs3;have HB3:=aa (HB2.out.trans b3);clear hs3 b3;refine hK.out _ _ (HX0.out _ HB3.out) (λhHeld=>?_);clear hK K;try go_frame
         refine fG 12 (.tuple #[.slice A3 (r.getD []).length c3,.bool r.isSome]) rfl (iK ⟨by kernel_rfl,λV s1=>by go_simp⟩) hHeld ?_;try go_frame
         refine fG 13 (.slice A3 (r.getD []).length c3) rfl (iK ⟨by kernel_rfl,λV s1=>by go_simp⟩) hHeld ?_;try go_frame
         refine fG 14 (.bool r.isSome) rfl (iK ⟨by kernel_rfl,λV s1=>by go_simp⟩) hHeld ?_;try go_frame
         refine aO (rs:=[15]) (by kernel_rfl) (by simp) ?_;refine aY rfl (λK hK=>?_) bu;go_simp;refine hK.out _ _ (HX0.out _ HB3.out) (λhHeld=>?_);clear hK K;try go_frame
         refine aO (rs:=[16]) (by kernel_rfl) (by simp) ?_;refine aY rfl (λK hK=>?_) bu;go_simp;refine hK.out _ _ (HX0.out _ HB3.out) (λhHeld=>?_);clear hK K;try go_frame
         refine ji (by kernel_rfl) ?_ _;clear hHeld;obtain⟨bb,hbb⟩:∃bb,r.isSome=bb:=⟨_,rfl⟩;have Db:=aa hbb;rw[hbb];clear hbb
         cases bb with
         | true=>
           have HR:Hid (sfind h (n+1) begin_ rest=r):=abS.out Db.out;go_wp2;go_returns;exact⟨.slice A3 (r.getD []).length c3,by rw[HR.out,Db.out];rfl,by rw[HR.out];exact NI.out,hb.trans HB3.out⟩
         | false=>
           have HN:Hid (r=none):=by have:=Db.out;show _ = _;cases e:r with|none=>rfl|some _=>rw[e]at this;cases this
           go_wp2;go_roundw;case rel=>exact⟨hb.trans HB3.out,k+1,by omega,by go_num,Yy.out HN.out⟩
           case measure=>simp[intOf];omega
        ·go_simp;refine hK.out _ _ (HX0.out _ (((af wr).drew.alloc _).alloc _)) (λhHeld=>?_);clear hK K;try go_frame
         refine aO (rs:=[3]) (by kernel_rfl) (by simp) ?_;refine aY rfl (λK hK=>?_) bu;refine aP (by rfl) (by rfl) (by rfl) (by rfl) acN.out ?_;refine hK.out _ _ (HX0.out _ abY.out.2) (λhHeld=>?_);clear hK K;try go_frame
         have hrow:=afs.out;have ho:=abY.out.1;have hx:=abY.out.2;obtain⟨A2,n2,c2,w2,hrun,hcall,b2⟩:=jR.out _ _ _ hrow ho hx;have HC:=aa hcall;have bH:=aa hrun;have HB2:=aa b2;clear hrun hcall b2 hrow ho hx;refine aO (rs:=[9]) (by kernel_rfl) (by simp) ?_;refine aY rfl (λK hK=>?_) bu;refine aP (by rfl) (by rfl) (by rfl) (by rfl) bH.out ?_;refine hK.out _ _ (HX0.out _ HB2.out) (λhHeld=>?_);clear hK K;try go_frame
         refine aO (rs:=[11]) (by kernel_rfl) (by simp) ?_;refine aY rfl (λK hK=>?_) bu;go_simp;refine HC.out.mono ?_;rintro e w3 ⟨v3,rfl,hs3,b3⟩;obtain⟨A3,c3,rfl,_⟩:=id hs3;have NI:=aa hs3;have HB3:=aa (HB2.out.trans b3);clear hs3 b3;refine hK.out _ _ (HX0.out _ HB3.out) (λhHeld=>?_);clear hK K;try go_frame
         refine fG 12 (.tuple #[.slice A3 (r.getD []).length c3,.bool r.isSome]) rfl (iK ⟨by kernel_rfl,λV s1=>by go_simp⟩) hHeld ?_;try go_frame
         refine fG 13 (.slice A3 (r.getD []).length c3) rfl (iK ⟨by kernel_rfl,λV s1=>by go_simp⟩) hHeld ?_;try go_frame
         refine fG 14 (.bool r.isSome) rfl (iK ⟨by kernel_rfl,λV s1=>by go_simp⟩) hHeld ?_;try go_frame
         refine aO (rs:=[15]) (by kernel_rfl) (by simp) ?_;refine aY rfl (λK hK=>?_) bu;go_simp;refine hK.out _ _ (HX0.out _ HB3.out) (λhHeld=>?_);clear hK K;try go_frame
         refine aO (rs:=[16]) (by kernel_rfl) (by simp) ?_;refine aY rfl (λK hK=>?_) bu;go_simp;refine hK.out _ _ (HX0.out _ HB3.out) (λhHeld=>?_);clear hK K;try go_frame
         refine ji (by kernel_rfl) ?_ _;clear hHeld;obtain⟨bb,hbb⟩:∃bb,r.isSome=bb:=⟨_,rfl⟩;have Db:=aa hbb;rw[hbb];clear hbb
         cases bb with
         | true=>
           have HR:Hid (sfind h (n+1) begin_ rest=r):=abS.out Db.out;go_wp2;go_returns;exact⟨.slice A3 (r.getD []).length c3,by rw[HR.out,Db.out];rfl,by rw[HR.out];exact NI.out,hb.trans HB3.out⟩
         | false=>
           have HN:Hid (r=none):=by have:=Db.out;show _ = _;cases e:r with|none=>rfl|some _=>rw[e]at this;cases this
           go_wp2;go_roundw;case rel=>exact⟨hb.trans HB3.out,k+1,by omega,by go_num,Yy.out HN.out⟩
           case measure=>simp[intOf];omega
       ·go_simp;refine hK.out _ _ (HX0.out _ ((af wr).drew.alloc _)) (λhHeld=>?_);clear hK K;try go_frame
        refine aO (rs:=[1]) (by kernel_rfl) (by simp) ?_;refine aY rfl (λK hK=>?_) bu;go_simp;refine hK.out _ _ (HX0.out _ (((af wr).drew.alloc _).alloc _)) (λhHeld=>?_);clear hK K;try go_frame
        refine aO (rs:=[3]) (by kernel_rfl) (by simp) ?_;refine aY rfl (λK hK=>?_) bu;refine aP (by rfl) (by rfl) (by rfl) (by rfl) acK.out ?_;refine hK.out _ _ (HX0.out _ acs.out.2) (λhHeld=>?_);clear hK K;try go_frame
        have hrow:=aeN.out;have ho:=acs.out.1;have hx:=acs.out.2;obtain⟨A2,n2,c2,w2,hrun,hcall,b2⟩:=jR.out _ _ _ hrow ho hx;have HC:=aa hcall;have bH:=aa hrun;have HB2:=aa b2;clear hrun hcall b2 hrow ho hx;refine aO (rs:=[9]) (by kernel_rfl) (by simp) ?_;refine aY rfl (λK hK=>?_) bu;refine aP (by rfl) (by rfl) (by rfl) (by rfl) bH.out ?_;refine hK.out _ _ (HX0.out _ HB2.out) (λhHeld=>?_);clear hK K;try go_frame
        refine aO (rs:=[11]) (by kernel_rfl) (by simp) ?_;refine aY rfl (λK hK=>?_) bu;go_simp;refine HC.out.mono ?_;rintro e w3 ⟨v3,rfl,hs3,b3⟩;obtain⟨A3,c3,rfl,_⟩:=id hs3;have NI:=aa hs3;have HB3:=aa (HB2.out.trans b3);clear hs3 b3;refine hK.out _ _ (HX0.out _ HB3.out) (λhHeld=>?_);clear hK K;try go_frame
        refine fG 12 (.tuple #[.slice A3 (r.getD []).length c3,.bool r.isSome]) rfl (iK ⟨by kernel_rfl,λV s1=>by go_simp⟩) hHeld ?_;try go_frame
        refine fG 13 (.slice A3 (r.getD []).length c3) rfl (iK ⟨by kernel_rfl,λV s1=>by go_simp⟩) hHeld ?_;try go_frame
        refine fG 14 (.bool r.isSome) rfl (iK ⟨by kernel_rfl,λV s1=>by go_simp⟩) hHeld ?_;try go_frame
        refine aO (rs:=[15]) (by kernel_rfl) (by simp) ?_;refine aY rfl (λK hK=>?_) bu;go_simp;refine hK.out _ _ (HX0.out _ HB3.out) (λhHeld=>?_);clear hK K;try go_frame
        refine aO (rs:=[16]) (by kernel_rfl) (by simp) ?_;refine aY rfl (λK hK=>?_) bu;go_simp;refine hK.out _ _ (HX0.out _ HB3.out) (λhHeld=>?_);clear hK K;try go_frame
        refine ji (by kernel_rfl) ?_ _;clear hHeld;obtain⟨bb,hbb⟩:∃bb,r.isSome=bb:=⟨_,rfl⟩;have Db:=aa hbb;rw[hbb];clear hbb
        cases bb with
        | true=>
          have HR:Hid (sfind h (n+1) begin_ rest=r):=abS.out Db.out;go_wp2;go_returns;exact⟨.slice A3 (r.getD []).length c3,by rw[HR.out,Db.out];rfl,by rw[HR.out];exact NI.out,hb.trans HB3.out⟩
        | false=>
          have HN:Hid (r=none):=by have:=Db.out;show _ = _;cases e:r with|none=>rfl|some _=>rw[e]at this;cases this
          go_wp2;go_roundw;case rel=>exact⟨hb.trans HB3.out,k+1,by omega,by go_num,Yy.out HN.out⟩
          case measure=>simp[intOf];omega
      ·obtain rfl:k=rest.length:=by omega
       have HF:Hid (sfind h (n+1) begin_ rest=none):=RL HI.out;go_wp2;go_returns;exact⟨_,by rw[HF.out];rfl,by rw[HF.out];exact aL.nil _ _ _ _ _,hb.alloc _⟩
theorem FE{v:Value}{h:List aG}(w:World)(H:iM w v h)(hok:aD h=true) :
 Calls Tryz.prog 34 #[v] w (Dp w (fM h)):=by
 obtain⟨A,c,rfl⟩:=H.slice;have hlen:=aR hok;have hdl:=lK h;have HH:=aa H;have fu:=aa hok;have HV:=aa (bJ w H (by omega) (aJ hok));rw[hok]at HV;have HF:Hid (fM h=sfind h (aN h).length [] (aN h)):=JQ h;have HD:=aa (λW (b:Ext w W)=>JW W (H.ext b) hok);obtain⟨r,hr⟩:∃r,fM h=r:=⟨_,rfl⟩;rw[hr]at HF ⊢;clear H hok hr;go_enter Tryz.func34,Tryz.ntmps34;go_wp2_with fail
 refine HV.out.mono ?_;rintro e w1 ⟨rfl,b1⟩;go_wp2_with fail
 refine(HD.out _ (b1.alloc _)).mono ?_
 rintro e w2 ⟨v2,rfl,r2,b2⟩;have hb2:Ext w w2:=(b1.alloc _).trans b2;have HCC:=aa (Pf fu.out (aN h).length _ (.slice (some ⟨w1.heap.size,0,none⟩) 0 0) v2 [] (aN h) w2 rfl (HH.out.ext hb2) (aL.nil _ _ _ _ _) r2.cell.1 r2.cap (by simp) (λx hx=>(qg hx).1) (by simp;omega));rw[<-HF.out]at HCC;obtain⟨A2,c2,rfl,_⟩:=id r2.cell.1;have HB2:=aa hb2;clear r2 b1 b2 hb2 HF;go_wp2_with fail
 refine HCC.out.mono ?_;rintro e w3 ⟨v3,rfl,hs3,b3⟩;have NI:=aa hs3;obtain⟨A3,c3,rfl,_⟩:=id hs3;clear hs3;go_wp2;go_returns;exact⟨_,rfl,NI.out,HB2.out.trans b3⟩
