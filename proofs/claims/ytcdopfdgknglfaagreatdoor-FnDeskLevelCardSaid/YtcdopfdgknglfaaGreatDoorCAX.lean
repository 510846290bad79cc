/- Lemmas. -/
import Derived.Test.YtcdopfdgknglfaaGreatDoorCAS
import Derived.Test.YtcdopfdgknglfaaGreatDoorCAT
set_option maxHeartbeats 16000000
set_option maxRecDepth 8000
set_option linter.all false
namespace Go.Proofs.YtcdopfdgknglfaaGreatDoor
open Go.RowKit
section
section
variable{P:Program}{ops:Array Oper}{Q:Exit->Act->World->Prop}
def zV(Q:Exit->Act->World->Prop)(e:Exit)(a:Act)(w:World):Prop:=e=.normal/\Q .normal a w
theorem Cj:¬LetsOut (zV Q):=λ⟨_,_,h⟩=>by cases h.1
theorem CF:∀(d:Option Tmp) (v:Value) (c:_) (a:Act) (w:World),zV Q (.panic c) (a.put d v) w->zV Q (.panic c) a w:=λ_ _ _ _ _ h=>by cases h.1
theorem KA{o:Oper}{l n:Nat}{a:Act}{w:World}{K:Act->World->Prop}(hd:pQ o=true)(h:o.wp P a w K (zV Q)):o.wpIn (Fence.wide.inRound l) n P a w K Q:=by
 unfold Oper.wp at h;unfold Oper.wpIn;refine⟨λ_ _=>trivial,?_⟩;rw[Oper.semAt_eq _ _ _ (Ic hd)];generalize (execOp a.eval o).run P w=r at *
 cases r with
 | ok x w'=>
   cases x<;>simp only[Oper.upon]at h<;>simp only[Oper.uponIn]
   case value u=>exact h
   case skip=>exact h
   case defer d=>exact h
   case enter f args=>
    refine⟨λe=>(by cases e),CallsIn.inRound l (callsIn_wide.2 (h.mono λe w'' he=>?_))⟩
    cases e with
    | returned v=>exact he
    | panicked c=>cases he.1
    | outgrown=>exact absurd he Cj
   case row r args=>
    exact⟨λe=>(by cases e),λc cs _=>let ⟨v,w',r,s⟩:=h c cs;⟨v,w',r,stepsIn_wide.2 s⟩⟩
 | halt x w'=>cases x<;>simp only[Oper.upon]at h<;>first|exact h.elim|cases h.1
theorem KD{i l n:Nat}{a:Act}{K K':Act->World->Prop}{w:World}(hd:ops.toList.all pQ=true)(hk:∀a w,K a w->K' a w)(h:wpOp P ops (zV Q) i K a w):wpOpIn (Fence.wide.inRound l) n P ops Q i K' a w:=by
 refine wpOpIn_mono hk ?_;unfold wpOp at h;unfold wpOpIn;split
 ·rename_i ho;simpa only[ho] using h
 ·rename_i o ho;simp only[ho]at h;have hdo:pQ o=true:=iN.1 hd o (aN (by rw[Array.getElem?_toList];exact ho));split
  ·rename_i hw;simp only[hw,if_true]at h;rcases h with h|⟨_,h⟩
   ·exact KA hdo h
   ·exact absurd h Cj
  ·rename_i hw;simp only[hw]at h;exact⟨λ_ _=>trivial,h⟩
theorem Ff{md:Region.Mode}{l n:Nat}(hd:ops.toList.all pQ=true):∀(fuel:Nat) (listed:Array Bool) (a:Act) (w:World),wpAny P md ops (zV Q) fuel listed a w->wpAnyIn (Fence.wide.inRound l) n P md ops Q fuel listed a w
 | 0,_,_,_,h=>⟨h.1,h.2.2⟩
 | fuel+1,_,_,_,h=>⟨λh0=>(h.1 h0).2,λi hi=>KD hd (λa w=>Ff hd fuel _ a w) (h.2 i hi)⟩
theorem xI{id l n:Nat}{S:World->Prop}{a:Act}{w:World}{os:List Oper}(hm:P.follows .mixedOrders=true)(hd:os.all pQ=true)(hS:S w.drew)
 (h:S w.drew->wpAnyH P .any os.toArray (zV Q) S os.length (Array.replicate os.length false) a w.drew):(Code.region id os.toArray true).wpIn (Fence.wide.inRound l) n P Q a w:=
 wpIn_region_any hm (Ff (by simpa using hd) _ _ _ _ (wpAny_of_held _ _ _ _ (by simpa using h hS)))
theorem su{F:Fence}{n:Nat}{w w':World}{rest:List Oper}{o:Oper}{a:Act}{s x:Operand}{t:TypeId}{v u v':Value}(hgd:o.guard=none)
 (ho:o.op=.call { callee:=.builtin .append,args:=#[s,x],argTypes:=#[t,t] }) (hs:a.eval s=v) (hx:a.eval x=u) (hrun:(Builtin.append_ #[t,t] o.type #[v,u]).run P w=.ok v' w')
 (h:wpListIn F n P ops Q rest (a.put o.dst v') w'):wpListIn F n P ops Q (o :: rest) a w:=by
 refine wpListIn_plain hgd λK hK=>?_;unfold Oper.wpIn;refine⟨?_,?_⟩
 ·simp[Oper.about,ho,resolve,Target.leads,Sem.run_pure]
 ·rw[Oper.semAt_plain F _ _ (by rw[ho];intro c hc';cases hc')];simp only[execOp,ho,resolve,invoke,builtin,Sem.run_bind,Sem.run_pure,Result.andThen_ok,List.map_toArray,iF,nH,hs,hx,hrun];exact hK _ _ h
end
end
section
attribute [local go_sem] Oper.semAt_some
theorem Dv(s sep:ByteArray)(w:World):Calls Tryz.prog 178 #[.string s,.string sep,.int .i64 0] w λe w'=>
 e=.returned (.func (.func 219) #[] #[.pointer (some ⟨w.heap.size+1,0,none⟩),.pointer (some ⟨w.heap.size,0,none⟩),.pointer (some ⟨w.heap.size+2,0,none⟩)]) /\
 w'=((w.alloc (.cells #[.string s] 9)).alloc (.cells #[.string sep] 9)).alloc (.cells #[.int .i64 0] 3):=by
 go_enter Tryz.func178,Tryz.ntmps178;go_wp2;go_returns;exact⟨rfl,rfl⟩
theorem Dk(s sep:ByteArray)(w:World):Calls Tryz.prog 140 #[.string s,.string sep] w λe w'=>
 e=.returned (.func (.func 219) #[] #[.pointer (some ⟨w.heap.size+1,0,none⟩),.pointer (some ⟨w.heap.size,0,none⟩),.pointer (some ⟨w.heap.size+2,0,none⟩)]) /\
 w'=((w.alloc (.cells #[.string s] 9)).alloc (.cells #[.string sep] 9)).alloc (.cells #[.int .i64 0] 3):=by
 go_enter Tryz.func140,Tryz.ntmps140;go_wp2_with (go_at_call 178;refine(Dv _ _ _).mono ?_;rintro e w' ⟨rfl,rfl⟩)
 go_returns;exact⟨rfl,rfl⟩
theorem GZ(A:Option Addr)(n c:Nat)(w:World)(h:n<=c/\c<=9223372036854775807) :
 Calls Tryz.prog 142 #[.slice A n c] w λe w'=>e=.returned (.slice A n n)/\w=w':=by
 have h1:(n:Int)<=(c:Int):=by omega
 have h2:(0:Int)<=(n:Int):=by omega
 go_enter Tryz.func142,Tryz.ntmps142;go_wp2;go_returns;exact⟨rfl,rfl⟩
def Nf(X:Nat->Prop)(W:World):Prop:=∀q,X q->(∃o,W.heap[q]? =some o/\o.isCells=false)∨TB 9 W q
theorem Nf.tb{X:Nat->Prop}{W:World}(h:Nf X W){T:TypeId}{q:Nat}(hq:TB T W q)(hT:T≠9):¬X q:=λhx=>by
 rcases h q hx with ⟨o,ho,hc⟩|h'
 ·obtain⟨cs,fr,hq⟩:=hq;rw[hq]at ho;cases ho;cases hc
 ·exact TB.ne hq h' hT rfl
def sj(base:Nat)(W:World)(v:Value)(ds:List dZ):Prop:=∃rs:List yO,rs.length=ds.length/\Row 79 2 encDrV base W v rs/\∀(i:Nat) r d,rs[i]? =some r->ds[i]? =some d->r.aD=d.aD/\aI 3 encOpr W r.jf d.steps/\fT 67 W r.jf/\d.steps.length<=2097152
theorem sj.frX{base:Nat}{X:Nat->Prop}{W W':World}{v:Value}{ds:List dZ}(h:sj base W v ds)(k:bF X W W')(h1:∀q,TB 79 W q->v.ownBlock=some q->¬X q)(h2:∀q,TB 67 W q->¬X q):sj base W' v ds:=by
 obtain⟨rs,hl,hr,hi⟩:=h;refine⟨rs,hl,iw hr k (λi e=>h1 i (TB.fu hr e) e),λi r d Vu hdi=>?_⟩;obtain⟨a,b,c,e⟩:=hi i r d Vu hdi;have hf:∀(ad:Addr) (n c:Nat),r.jf=.slice (some ad) n c->0<n->¬X ad.block:=λad n c' hv hn=>by obtain⟨cs,fr,hg⟩:=c ad n c' hv hn;exact h2 _ ⟨cs,fr,hg⟩
 exact⟨a,b.frX k hf,rJ c k hf,e⟩
theorem sj.away{base:Nat}{X:Nat->Prop}{W W':World}{v:Value}{ds:List dZ}(h:sj base W v ds)(k:bF X W W')(ha:Nf X W):sj base W' v ds:=
 h.frX k (λq hq _=>ha.tb hq (by decide)) (λq hq=>ha.tb hq (by decide))
theorem sj.Qb{base:Nat}{W:World}{v:Value}{ds:List dZ}(h:sj base W v ds):vT W v ds:=by obtain⟨rs,hl,hr,hi⟩:=h;exact⟨rs,hl,hr.cell.1,λi r d Vu hdi=>⟨(hi i r d Vu hdi).1,(hi i r d Vu hdi).2.1⟩⟩
theorem sj.nil(base:Nat)(W:World)(hb:base<=W.heap.size):sj base (W.alloc (.cells #[] 79)) (.slice (some ⟨W.heap.size,0,none⟩) 0 0) []:=
 ⟨[],rfl,(nk (w:=W)).low hb,λi r d h=>by simp at h⟩
theorem sj.pushed{base:Nat}{W w':World}{v v':Value}{ds:List dZ}{rs:List yO}{r:yO}{d:dZ}(hl:rs.length=ds.length)(hi:∀(i:Nat) r d,rs[i]? =some r->ds[i]? =some d->r.aD=d.aD/\aI 3 encOpr W r.jf d.steps/\fT 67 W r.jf/\d.steps.length<=2097152)
 (hr:Row 79 2 encDrV base W v rs) (hp:Row 79 2 encDrV base w' v' (rs++[r])) (k:bF (λq=>v.ownBlock=some q) W w') (hd:r.aD=d.aD/\aI 3 encOpr W r.jf d.steps/\fT 67 W r.jf/\d.steps.length<=2097152):sj base w' v' (ds++[d]):=by
 have hx:∀(u:Value),fT 67 W u->∀(ad:Addr) (n c:Nat),u=.slice (some ad) n c->0<n->¬v.ownBlock=some ad.block:=λu hu ad n c hv hn e=>by obtain⟨cs,fr,hg⟩:=hu ad n c hv hn;exact TB.ne (TB.fu hr e) ⟨cs,fr,hg⟩ (by decide) rfl
 refine⟨rs++[r],by simp[hl],hp,λi y e hy he=>?_⟩;have key:∀(y:yO) (e:dZ),(y.aD=e.aD/\aI 3 encOpr W y.jf e.steps/\fT 67 W y.jf/\e.steps.length<=2097152)->y.aD=e.aD/\aI 3 encOpr w' y.jf e.steps/\fT 67 w' y.jf/\e.steps.length<=2097152:=λy e ⟨a,b,c,g⟩=>⟨a,b.frX k (hx _ c),rJ c k (hx _ c),g⟩;rw[oQ]at hy he;split at hy
 ·rename_i h;rw[ah (by rw[<-hl];exact h)]at he;exact key _ _ (hi i y e hy he)
 ·rename_i h;rw[ak (by rw[<-hl];exact h)]at he;have h0:i-rs.length=0:=by
   have:=(aS.1 hy).1
   simp at this;omega
  rw[h0]at hy;rw[<-hl,h0]at he;simp at hy he;subst hy he;exact key _ _ hd
theorem zP:∀l:List UInt8,(splitS l).length<=l.length+1:=λl=>by
 induction l using splitS.induct with
 | case1=>simp[splitS]
 | case2 l ih=>simp[splitS];omega
 | case3 x l hx e ih=>exact absurd e (J7 l)
 | case4 x l hx y r e ih=>
   rw[splitS]
   ·rw[e]at ih ⊢;simp only[eF]at ih ⊢;omega
   ·exact hx
def uZ(s:List JV)(ds:List dZ):Prop:=∀p',bJ p'=true->s.map (·.1)=(p'.map bZ).take s.length->ds=p'.take s.length
theorem yC{s:List JV}{x:JV}{p':List dZ}(he:(s++[x]).map (·.1)=(p'.map bZ).take (s++[x]).length):s.map (·.1)=(p'.map bZ).take s.length/\∃d,p'[s.length]? =some d/\x.1=bZ d:=by
 have h0:=fU (λl=>l[s.length]?) he;simp only[j3,iF,nH,bN,nI]at h0 he;rw[qp (by simp),dF,Nat.sub_self,zg,ah (by omega),jM]at h0;simp only[List.getElem?_cons_zero]at h0;obtain⟨d,hd,hx⟩:=qi.1 h0.symm;refine⟨?_,d,hd,hx.symm⟩;rw[aj (x:=bZ d) (by rw[jM,hd];rfl)]at he
 exact(List.append_inj he (by simp;have:=(aS.1 hd).1;omega)).1
theorem uZ.nil:uZ [] []:=λp' _ _=>by simp
def F5(w:World)(s:List JV)(W:World):Prop:=Ext w W/\Boxed W w.heap.size 36 (.slice none 0 0)/\Boxed W (w.heap.size+1) 4 (.bool false)/\∃v ds,Boxed W (w.heap.size+1+1+1) 36 v/\sj (w.heap.size+1+1) W v ds/\ds.length=s.length/\uZ s ds
def MK(w W:World):Prop:=TB 9 W (w.heap.size+1+1+1+1)/\TB 9 W (w.heap.size+1+1+1+1+1)/\TB 3 W (w.heap.size+1+1+1+1+2)
def JN(w:World)(s:List JV)(W:World):Prop:=Ext w W/\Boxed W w.heap.size 36 (.slice none 0 0)/\Boxed W (w.heap.size+1) 4 (.bool false)/\∀p',bJ p'=true->s.map (·.1)≠(p'.map bZ).take s.length
theorem iE{X:Nat->Prop}{W W':World}{B:Nat}{T:TypeId}{v:Value}(h:Boxed W B T v)(k:bF X W W')(hx:¬X B):Boxed W' B T v:=k.heap h hx
theorem eD{W:World}{B:Nat}{T:TypeId}{v:Value}(h:Boxed W B T v):TB T W B:=⟨_,_,h⟩
theorem F5.away{w:World}{s:List JV}{X:Nat->Prop}{W W':World}(h:F5 w s W)(k:bF X W W')(ha:Nf X W)(hX:∀q,X q->w.heap.size<=q):F5 w s W':=by obtain⟨h1,h2,h3,v,ds,h4,h5,h6,h7⟩:=h;exact⟨bF.out h1 k hX,iE h2 k (ha.tb (eD h2) (by decide)),iE h3 k (ha.tb (eD h3) (by decide)),v,ds,iE h4 k (ha.tb (eD h4) (by decide)),h5.away k ha,h6,h7⟩
theorem JN.away{w:World}{s:List JV}{X:Nat->Prop}{W W':World}(h:JN w s W)(k:bF X W W')(ha:Nf X W)(hX:∀q,X q->w.heap.size<=q):JN w s W':=by obtain⟨h1,h2,h3,h4⟩:=h;exact⟨bF.out h1 k hX,iE h2 k (ha.tb (eD h2) (by decide)),iE h3 k (ha.tb (eD h3) (by decide)),h4⟩
theorem nu{W W':World}{row:Option Nat}(hg:W.grownBy W' row):bF (λk=>row=some k) W W':=(bF.refl _ W).grown hg (λ_ e=>.inl e)
theorem sQ{B:Nat}{X:Nat->Prop}{W W':World}(k:bF X W W')(hX:∀q,X q->∃T,TB T W q):KeepsFrom B W W':=
 ⟨k.size,λq o _ hq ho=>(k.block q (dB.1 hq).1 (λhx=>by obtain⟨T,cs,fr,h⟩:=hX q hx;rw[hq]at h;cases h;cases ho)).trans hq⟩
theorem Iy{n lo hi:Nat}{X:Nat->Prop}{W W':World}(k:bF X W W')(hn:n<=W.heap.size)(hh:hi<=W.heap.size)(h1:∀q,X q->n<=q)(h2:∀q,lo<=q->q<hi->¬X q):qP n lo hi W W':=
 ⟨⟨k.os,k.tape,k.output,k.size,λq hq=>k.block q (by omega) (λhx=>by have:=h1 q hx;omega)⟩,λq ha hb=>k.block q (by omega) (h2 q ha hb)⟩
theorem Gi:(Tryz.prog.info? 79).map (λi=>(i.zero,i.size,i.bytes))=some (some (.agg #[.int .i64 0,.slice none 0 0]),2,32):=by kernel_rfl
theorem vT.clip{W:World}{A:Option Addr}{n c:Nat}{p:List dZ}(h:vT W (.slice A n c) p):vT W (.slice A n n) p:=by obtain⟨rs,h1,h2,h3⟩:=h;obtain⟨A',c',e,hc⟩:=h2;cases e;exact⟨rs,h1,⟨_,_,rfl,hc⟩,h3⟩
theorem wH{l:List UInt8}{w W:World}{D:Nat}(h:Ext w W)(hD:w.heap.size<=D)(hK:W.heap[D]? =some (.deferred (some [])))(hno:dO l=none) :
 ∃(p:List dZ) (v:Value),Ending.returned (.tuple #[.slice none 0 0,.bool false])=.returned (.tuple #[v,.bool (dO l).isSome])/\vT (W.putObj D (.deferred none)) v p/\p=(dO l).getD []/\Ext w (W.putObj D (.deferred none)):=
 ⟨[],.slice none 0 0,by rw[hno];rfl,⟨[],rfl,aI.nil _ _ _ _ _,λi r d hr=>by simp at hr⟩,by rw[hno];rfl,Below.trans h (belowK_b (w:=w) (ay _) W D _ _ hD hK rfl rfl)⟩
theorem Bw(l:List UInt8)(w:World)(hE:Env w)(hl:l.length<=1048576)(hne:l≠[]) :
 Calls Tryz.prog 103 #[.string (tx l)] w λe w'=>∃(p:List dZ) (v:Value),e=.returned (.tuple #[v,.bool (dO l).isSome])/\vT w' v p/\p=(dO l).getD []/\Ext w w':=by
 obtain⟨m,hm⟩:=hE.max;have hg:0<w.heap.size:=by
  rcases eX 0 w.heap.size with h|h
  ·exact h
  ·simp[World.cell?,oJ h]at hm
 have HE:=aa hE;have hq0:((tx l).toList != [])=true:=by
  rw[eu]
  cases l with
  | nil=>exact absurd rfl hne
  | cons a r=>rfl
 have hq1:(tx l).toList.isEmpty=false:=by
  rw[eu]
  cases l with
  | nil=>exact absurd rfl hne
  | cons a r=>rfl
 obtain⟨z,hz⟩:∃z,tx l=z:=⟨_,rfl⟩;have HZ:=aa hz;have HL:=aa (aL hl hne);rw[hz]at hq0 hq1 ⊢;clear hE hl hne hz
 refine(callsIn_wide (n:=9)).1 ?_
 refine callsIn_of_wp_marks Tryz.func103 rfl trivial ?_ rfl;simp only[Tryz.ntmps103,List.size_toArray,eF,jK,Nat.reduceAdd,Nat.reduceSub,Array.replicate_succ,Array.replicate_zero,List.push_toArray,List.append_toArray,List.nil_append,List.cons_append]
 gi_wp2_with (refine⟨trivial,?_⟩;gi_at_call 140;refine(callsIn_wide.2 (Dk _ _ _)).mono ?_;rintro e w' ⟨rfl,rfl⟩)
 obtain⟨W0,hW0⟩:∃W0,(((((((w.alloc (.cells #[.slice none 0 0] 36)).alloc (.cells #[.bool false] 4)).alloc (.cells #[] 79)).alloc (.cells #[.slice (some ⟨w.heap.size+1+1,0,none⟩) 0 0] 36)).alloc (.cells #[.string z] 9)).alloc (.cells #[.string ⟨#[59,32]⟩] 9)).alloc (.cells #[.int .i64 0] 3))=W0:=⟨_,rfl⟩;have hsz:W0.heap.size=w.heap.size+7:=by rw[<-hW0];simp
 have B0:Ext w W0:=by rw[<-hW0];exact(((((((af _).alloc _).alloc _).alloc _).alloc _).alloc _).alloc _).alloc _
 have bA:Boxed W0 w.heap.size 36 (.slice none 0 0):=by rw[<-hW0];exact aC (jo w _ _ _ rfl) (((((((af _).alloc _).alloc _).alloc _).alloc _).alloc _).alloc _)
 have bB:Boxed W0 (w.heap.size+1) 4 (.bool false):=by rw[<-hW0];exact aC (jo (w.alloc _) _ _ _ (by simp)) ((((((af _).alloc _).alloc _).alloc _).alloc _).alloc _)
 have bP:sj (w.heap.size+1+1) W0 (.slice (some ⟨w.heap.size+1+1,0,none⟩) 0 0) []:=by
  rw[<-hW0];have h:=sj.nil (w.heap.size+1+1) ((w.alloc (.cells #[.slice none 0 0] 36)).alloc (.cells #[.bool false] 4)) (by simp);have e:((w.alloc (.cells #[.slice none 0 0] 36)).alloc (.cells #[.bool false] 4)).heap.size=w.heap.size+1+1:=by simp
  rw[e]at h;exact h.away (bF.aO (X:=λ_=>False) (((((af _).alloc _).alloc _).alloc _).alloc _)) (λ_ h=>h.elim)
 have bC:Boxed W0 (w.heap.size+1+1+1) 36 (.slice (some ⟨w.heap.size+1+1,0,none⟩) 0 0):=by rw[<-hW0];exact aC (jo (((w.alloc _).alloc _).alloc _) _ _ _ (by simp)) ((((af _).alloc _).alloc _).alloc _)
 have bS:Boxed W0 (w.heap.size+1+1+1+1) 9 (.string z):=by rw[<-hW0];exact aC (jo ((((w.alloc _).alloc _).alloc _).alloc _) _ _ _ (by simp)) (((af _).alloc _).alloc _)
 have bE:Boxed W0 (w.heap.size+1+1+1+1+1) 9 (.string ⟨#[59,32]⟩):=by rw[<-hW0];exact aC (jo (((((w.alloc _).alloc _).alloc _).alloc _).alloc _) _ _ _ (by simp)) ((af _).alloc _)
 have bV:Boxed W0 (w.heap.size+1+1+1+1+2) 3 (.int .i64 0):=by rw[<-hW0];exact jo ((((((w.alloc _).alloc _).alloc _).alloc _).alloc _).alloc _) _ _ _ (by simp)
 rw[hW0];clear hW0;have HW0:=aa (aL hsz B0);rw[<-HZ.out]at bS;have hsb:=Bu 8 (by omega) (w.heap.size+1+1+1+1) w.heap.size ⟨l,HL.out.1⟩ m W0 hg (by omega) (B0.cell hm) bS bE bV;refine Gy (by omega) (gf:=219) rfl (enters_of Tryz.func219 (by kernel_rfl) rfl) hsb Nq (Mw (by omega) (by omega)) (Below.refl _ _) (by omega) (λ_=>rfl)
  (λs W=>F5 w s W/\MK w W) (JN w) ?hI ?hIx ?YP ⟨⟨B0,bA,bB,_,[],bC,bP,rfl,uZ.nil⟩,eD bS,eD bE,eD bV⟩ ?a1 ?assign ?body ?done ?stop
 case hI=>
  intro s A B row hs hgr hr;have hn:∀{T:TypeId} {q:Nat},TB T A q->¬row=some q:=λhq e=>by obtain⟨cs,fr,hq⟩:=hq;obtain⟨_,o,ho,hc⟩:=hr _ e;rw[hq]at ho;cases ho;cases hc
  exact⟨hs.1.away (nu hgr) (λq e=>.inl (hr q e).2) (λq e=>by have:=(hr q e).1;omega),hs.2.1.frX (nu hgr) (hn hs.2.1),hs.2.2.1.frX (nu hgr) (hn hs.2.2.1),hs.2.2.2.frX (nu hgr) (hn hs.2.2.2)⟩
 case hIx=>
  intro s A B row hs hgr hr;exact hs.away (nu hgr) (λq e=>.inl (hr q e).2) (λq e=>by have:=(hr q e).1;omega)
 case YP=>
  intro s W v hs;have k:bF (λq=>q=w.heap.size+1+1+1+1) W (W.setCell ⟨w.heap.size+1+1+1+1,0,none⟩ v):=bF.setCell (X:=λq=>q=w.heap.size+1+1+1+1) (bF.refl _ _) (.inl rfl) _;exact⟨hs.1.away k (λq e=>.inr (e▸hs.2.1)) (λq e=>by omega),hs.2.1.set _ _,hs.2.2.1.frX k (by omega),hs.2.2.2.frX k (by omega)⟩
 case assign=>
  intro l x W K hK
  gi_wp2
  exact hK
 case body=>
  rintro l2 pre ⟨x,hxl⟩ W ⟨⟨h1,h2,h3,v,ds,h4,h5,h6,h7⟩,ht1,ht2,ht3⟩ hlen
  dsimp only
  have WT:=HE.out.ext h1;have P5:=aa (CL x W WT (by omega));have hwl:(splitL 32 x).length<=1048577:=by have:=uB 32 x;omega
  have HX:=aa (tX 32 x);obtain⟨zx,hzx⟩:∃z,tx x=z:=⟨_,rfl⟩;rw[hzx]at P5 ⊢;obtain⟨ws,hws⟩:∃ws,splitL 32 x=ws:=⟨_,rfl⟩;rw[hws]at P5 hwl HX;have NT:=aa hws;have HI:=aa (aL h1 (aL h2 (aL h3 (aL h4 (aL h5 (aL h6 (aL h7 (aL ht1 (aL ht2 ht3)))))))));have hvs:∃A c,v=.slice A ds.length c:=by obtain⟨rs,e1,e2,_⟩:=h5;obtain⟨A,c,e3,_⟩:=e2.cell.1;exact⟨A,c,by rw[e3,e1]⟩
  obtain⟨Av,cv,rfl⟩:=hvs;clear h1 h2 h3 h5 h6 h7 ht1 ht2 ht3 hzx hws hsb bA bB bC bP bS bE bV
  gi_wp2_with fail
  refine⟨trivial,(CallsIn.inRound l2 (callsIn_wide.2 P5.out)).mono ?_⟩;rintro e W1 ⟨g,rfl,hs,hty,b1⟩;obtain⟨P,hP⟩:∃P,W1.heap.size=P:=⟨_,rfl⟩;have HP:=aa hP;have hS2:Scan P (W1.alloc (.cells #[.slice (some ⟨g,0,none⟩) ws.length ws.length,.bool false] 149)) ws false:=
   ⟨_,by rw[<-hP];exact dx W1 _,hs.ext ((af _).alloc _),jP (ay _) (by omega),hty.ext ((af _).alloc _)⟩
  have HB1:=aa b1;have XU:Hid (∀W',bF (λk=>k=P) W1 W'->Env W'):=λW' k=>WT.ext (bF.out b1 k (λi e=>by rw[e,<-hP];exact b1.size));have Lv:=aa (xq _ hS2 (by omega) (λW' k=>XU.out W' (bF.trans ((bF.refl _ _).alloc _) k)) (λy hy=>by have:=HX.out y hy;omega));clear hs hty b1 hS2 WT
  gi_wp2_with fail
  refine⟨trivial,(CallsIn.inRound l2 (callsIn_wide.2 Lv.out)).mono ?_⟩;rintro e W3 ⟨n,b3,rfl,s3,k3,Uy,Va⟩;have Q7:=aa s3;have Vw:Hid (bF (λk=>k=P) W1 W3):=bF.trans ((bF.refl _ _).alloc _) k3;have HD0:Hid (∀d',aY d'=true->ws=bH d'->b3=false/\n=d'.aD/\([]:List aJ)=d'.steps.take 0):=λd' hd he=>by
   have hds:=iL hd
   have:=Uy d'.aD.toNat (by omega) (by rw[he];rfl)
   exact⟨this.2,by omega,by simp⟩
  clear s3 k3 Uy Va Lv;obtain⟨B,hB⟩:∃B,W3.heap.size=B:=⟨_,rfl⟩;have R7:=aa hB
  gi_wp2_with fail
  gi_loopw [] (λwr=>bF (λk=>k=P) W1 wr/\Hid (∃(b':Bool) (rem:List (List UInt8)) (steps:List aJ) (ov:Value),Scan P wr rem b'/\wr.heap[B]? =some (.cells #[.int .i64 n,ov] 79 (0,0))/\Row 67 3 encOpr P wr ov steps/\(∀d',aY d'=true->ws=bH d'->b'=false/\n=d'.aD/\steps=d'.steps.take steps.length)/\rem=ws.drop (1+steps.length)/\steps.length<=ws.length)) (λwr=>Jw wr P)
  case atStart=>
   refine⟨Vw.out.alloc _,b3,ws.tail,[],.slice none 0 0,Q7.out.ext ((af _).alloc _),?_,Row.nil,HD0.out,?_,bR _⟩
   ·rw[<-R7.out];exact dx W3 _
   ·rw[<-List.drop_one];rfl
  case round=>
   obtain⟨hb,HJ⟩:=hrel;obtain⟨b',rem,steps,ov,hsc,hbx,hrow,hinv,Mq,hol⟩:=HJ.out;obtain⟨A,c,c0,c1,fz,_⟩:=hsc.cells;have f1:=fz 1;obtain⟨A5,c5,rfl,_⟩:=id hrow.cell.1;have B0:wr.cell? ⟨B,0,none⟩=some (.int .i64 n):=by simp[World.cell?,hbx]
   have B1:wr.cell? ⟨B,1,none⟩=some (.slice A5 steps.length c5):=by simp[World.cell?,hbx]
   have Bf:wr.frozen? ⟨B,1,none⟩=false:=by simp[World.frozen?,hbx]
   have Iz:=aa hinv;have NR:=aa hsc;have Bl:=aa hbx;have mI:=aa hrow;have Dr:=aa Mq;have hcap:=hrow.cap _ _ _ rfl;clear HJ hsc hbx hrow hinv Mq fz;have Zh:W.heap.size<=P:=by rw[<-HP.out];exact HB1.out.size
   have aam:=HI.out.2.2.2.1.lt;have hKW:bF (λq=>q=P) W wr:=bF.trans (.aO HB1.out) hb;have Nv:=aa hKW
   cases b' with
   | true=>
     have r0:=iE HI.out.2.1 hKW (by omega);have r1:=iE HI.out.2.2.1 hKW (by omega);have YE:=r0.cell;have XK:=r0.frozen;have We:=r1.cell;have YD:=r1.frozen;have HR:=aa (aL r0 r1);clear B0 B1 Bf hb hKW r0 r1
     gi_wp2
     have kx:bF (λq=>q=w.heap.size∨q=w.heap.size+1) W ((wr.setCell ⟨w.heap.size,0,none⟩ (.slice none 0 0)).setCell ⟨w.heap.size+1,0,none⟩ (.bool false)):=
      (((bF.refl _ _).more Nv.out (λi e=>.inr (by omega))).setCell (.inl (.inl rfl)) _).setCell (.inl (.inr rfl)) _
     refine⟨sQ kx (λq e=>?_),bF.out HI.out.1 kx (λq e=>by omega),?_,?_,λp' hp he=>?_⟩
     ·rcases e with rfl|rfl
      ·exact⟨_,eD HI.out.2.1⟩
      ·exact⟨_,eD HI.out.2.2.1⟩
     ·exact gu (HR.out.1.set _) (by simp) _
     ·exact(gu HR.out.2 (by simp) _).set _
     ·obtain⟨_,d,hd,hx⟩:=yC he;have hdk:=cZ hp (aN hd)
      have:=(Iz.out d hdk (by rw[<-NT.out];simp only at hx;rw[hx,nU hdk])).1
      cases this
   | false=>
     cases rem with
     | nil=>
       have hlb:P<=B:=by rw[<-R7.out];exact pJ (by obtain⟨_,_,h⟩:=Q7.out.tb;exact(dB.1 h).1)
       have E8:Ext W (wr.setCell ⟨B,1,none⟩ (.slice A5 steps.length steps.length)):=(bF.out (af W) Nv.out (λi e=>by rw[e];exact Zh)).setCell (by simp only;omega) _;have Na:=heap_set Bl.out (.slice A5 steps.length steps.length) (i:=1);obtain⟨W8,VM⟩:∃W8,wr.setCell ⟨B,1,none⟩ (.slice A5 steps.length steps.length)=W8:=⟨_,rfl⟩;have OY:Row 67 3 encOpr P W8 (.slice A5 steps.length c5) steps:=by rw[<-VM];exact iw mI.out (bF.setCell (X:=λk=>k=B) (bF.refl _ _) (.inl rfl) _) (λk hk=>TB.ne (TB.fu mI.out hk) ⟨_,_,Bl.out⟩ (by decide))
       rw[VM]at E8 Na;have s8:aI 3 encOpr W8 (.slice A5 steps.length steps.length) steps:=by obtain⟨_,_,e,hc⟩:=OY.cell.1;cases e;exact⟨_,_,rfl,hc⟩
       have t8:fT 67 W8 (.slice A5 steps.length steps.length):=λad n' c' e hn=>by injection e with e1 e2 _;obtain⟨g',cap,e3,_⟩:=mZ OY (by omega);injection e3 with e3 _ _;rw[e3]at e1;injection e1 with e1;subst e1;exact TB.fu OY (by rw[e3];rfl)
       have hds:Hid (uZ (pre++[(⟨x,hxl⟩:JV)]) (ds++[(⟨n,steps⟩:dZ)])):=λp' hp' he=>by
        obtain⟨e1,d,hd,hx⟩:=yC he;have e2:=HI.out.2.2.2.2.2.2.1 p' hp' e1;have hdk:=cZ hp' (aN hd);have hwd:ws=bH d:=by rw[<-NT.out];simp only at hx;rw[hx,nU hdk]
        obtain⟨_,q1,q2⟩:=Iz.out d hdk hwd;have q3:=fU List.length Dr.out;rw[kU,hwd]at q3;simp[bH]at q3;have hde:(⟨n,steps⟩:dZ)=d:=by cases d;simp only at q1 q2 q3;rw[q1,q2,jZ (by omega)]
        rw[bN,nI,aj hd,<-e2,hde]
       have hT:=HI.out.2.2.2.1;have h4:=aC hT E8;have h5:=HI.out.2.2.2.2.1.away (bF.aO (X:=λ_=>False) E8) (λ_ h=>h.elim);obtain⟨rs,hl,hr,hi⟩:=h5;have hdl:ds.length<=1048576:=by
        have:=zP l
        have:=HL.out.1
        have h6:=HI.out.2.2.2.2.2.1;rw[h6]
        have:pre.length<(splitS l).length:=hlen
        omega
       obtain⟨v',w9,hrun,hp⟩:=jQ wr.heap.size (by rw[<-VM];simp) Tryz.underlying36 Gi rfl (by omega) hr (af _) ⟨n,.slice A5 steps.length steps.length⟩ (λj=>by rcases j with _|j<;>rfl) #[.int .i64 n,.slice A5 steps.length steps.length] rfl (by have:=h4.lt;omega) (by omega) (by omega)
       obtain⟨A9,PX,Ze,_⟩:=id hp.1.cell.1;obtain⟨n9,hn9⟩:∃k,(rs++[(⟨n,.slice A5 steps.length steps.length⟩:yO)]).length=k:=⟨_,rfl⟩;rw[hn9]at Ze;subst Ze;have K9:=jY hr hp (HI.out.1.trans E8) (by omega);have Lt:∀{T:TypeId} {q:Nat},TB T W8 q->T≠79->¬(Value.slice Av ds.length cv).ownBlock=some q:=λhq hT e=>TB.ne (TB.fu hr e) hq hT.symm rfl;have RX:=iE h4 K9 (Lt (eD h4) (by decide));have KX:bF (λq=>q=w.heap.size+1+1+1∨(Value.slice Av ds.length cv).ownBlock=some q) W8 (w9.setCell ⟨w.heap.size+1+1+1,0,none⟩ (.slice A9 n9 PX)):=(K9.wide (λ_ e=>.inr e)).setCell (.inl (.inl rfl)) _;have hq8:∀{T:TypeId} {q:Nat},TB T W8 q->T≠79->q≠w.heap.size+1+1+1->TB T (w9.setCell ⟨w.heap.size+1+1+1,0,none⟩ (.slice A9 n9 PX)) q:=λhq hT hne=>hq.frX KX (λe=>e.elim hne (Lt hq hT));have i1:MK w W8:=⟨HI.out.2.2.2.2.2.2.2.1.frX (bF.aO (X:=λ_=>False) E8) id,HI.out.2.2.2.2.2.2.2.2.1.frX (bF.aO (X:=λ_=>False) E8) id,HI.out.2.2.2.2.2.2.2.2.2.frX (bF.aO (X:=λ_=>False) E8) id⟩;have hlow:∀q,(q=w.heap.size+1+1+1∨(Value.slice Av ds.length cv).ownBlock=some q)->w.heap.size+1+1<=q:=λq e=>e.elim (by omega) (λe=>(l8 hr e).1);have HIT:Hid (MK w (w9.setCell ⟨w.heap.size+1+1+1,0,none⟩ (.slice A9 n9 PX))):=⟨hq8 i1.1 (by decide) (by omega),hq8 i1.2.1 (by decide) (by omega),hq8 i1.2.2 (by decide) (by omega)⟩;have Ol:Hid (F5 w (pre++[(⟨x,hxl⟩:JV)]) (w9.setCell ⟨w.heap.size+1+1+1,0,none⟩ (.slice A9 n9 PX))):=by refine⟨bF.out (HI.out.1.trans E8) KX (λq e=>by have:=hlow q e;omega),iE (aC HI.out.2.1 E8) KX (λe=>by have:=hlow _ e;omega),iE (aC HI.out.2.2.1 E8) KX (λe=>by have:=hlow _ e;omega),(.slice A9 n9 PX),ds++[⟨n,steps⟩],RX.set _,?_,by simp[HI.out.2.2.2.2.2.1],hds.out⟩;have hpb:=sj.pushed (r:=⟨n,.slice A5 steps.length steps.length⟩) (d:=⟨n,steps⟩) hl hi hr hp.1 K9 ⟨rfl,s8,t8,by simp only;omega⟩;exact hpb.frX (bF.setCell (X:=λk=>k=w.heap.size+1+1+1) (bF.refl _ _) (.inl rfl) _) (λq hq _ e=>TB.ne hq (eD RX) (by decide) e) (λq hq e=>TB.ne hq (eD RX) (by decide) e)
       have KW:bF (λq=>q=w.heap.size+1+1+1∨(Value.slice Av ds.length cv).ownBlock=some q) W (w9.setCell ⟨w.heap.size+1+1+1,0,none⟩ (.slice A9 n9 PX)):=bF.trans (bF.aO E8) KX;have HKF:Hid (KeepsFrom W0.heap.size W (w9.setCell ⟨w.heap.size+1+1+1,0,none⟩ (.slice A9 n9 PX))):=sQ KW (λq e=>e.elim (λe=>⟨_,e▸eD hT⟩) (λe=>by obtain⟨_,_,hr0,_⟩:=HI.out.2.2.2.2.1;exact⟨_,TB.fu hr0 e⟩))
       have HKA:Hid (qP w.heap.size (w.heap.size+1+1+1+1) (w.heap.size+1+1+1+1+3) W (w9.setCell ⟨w.heap.size+1+1+1,0,none⟩ (.slice A9 n9 PX))):=Iy KW (by omega) (by have:=HI.out.2.2.2.2.2.2.2.2.2;obtain⟨_,_,h⟩:=this;have:=(dB.1 h).1;omega) (λq e=>by have:=hlow q e;omega) (λq h1 h2 e=>by
        rcases e with e|e
        ·omega
        ·obtain rfl|rfl|rfl:q=w.heap.size+1+1+1+1∨q=w.heap.size+1+1+1+1+1∨q=w.heap.size+1+1+1+1+2:=by omega
         ·exact Lt i1.1 (by decide) e
         ·exact Lt i1.2.1 (by decide) e
         ·exact Lt i1.2.2 (by decide) e)
       have cz:=aa hrun;have c8:=h4.cell;have c9:=RX.cell;have f9:=RX.frozen;have b80:W8.cell? ⟨B,0,none⟩=some (.int .i64 n):=by simp[World.cell?,Na]
       have b81:W8.cell? ⟨B,1,none⟩=some (.slice A5 steps.length steps.length):=by simp[World.cell?,Na]
       have hln:B<W8.heap.size:=(dB.1 Na).1;have hcap1:=hcap.1;have hcap2:=hcap.2;have YC:w.heap.size+1+1+1<B:=by omega
       clear hb hKW hlb E8 Na OY s8 t8 hds hT h4 hl hr hi hrun hp K9 Lt RX KX hq8 i1 hlow KW hdl hcap;have c4:=(iE HI.out.2.2.2.1 Nv.out (by omega)).cell;have hBT:B≠w.heap.size+1+1+1:=Nat.ne_of_gt YC;have hTB:=hBT.symm;clear c8 b80 b81;subst VM
       gi_wp2_with fail
       refine⟨trivial,(CallsIn.inRound l2 (callsIn_wide.2 (rH A5 steps.length c5 _ hcap1 hcap2))).mono ?_⟩;rintro e w' ⟨rfl,rfl⟩;clear hcap1 hcap2 c0 c1 f1
       gi_wp2_with (gi_at_builtin;refine su rfl rfl rfl rfl cz.out ?_)
       exact⟨HKF.out,HKA.out,Ol.out,HIT.out⟩
     | cons y r=>
       have hrl:(y :: r).length<=1048577:=by rw[Dr.out,kU];omega
       have XH:ws[1+steps.length]? =some y:=by
        have:=fU (λl=>l[0]?) Dr.out
        simp only[List.getElem?_cons_zero,ry,gL]at this;exact this.symm
       have Y8:steps.length+1<=ws.length:=by have:=(aS.1 XH).1;omega
       have hr2:Hid (r=ws.drop (1+(steps.length+1))):=by
        have:=fU List.tail Dr.out
        rw[List.tail_drop]at this;exact this
       have HYW:=aa XH;have lZ:=aa (λ(W:World) (h:Scan P W (y :: r) false)=>D9 W h (by omega));simp only[List.tail_cons]at lZ;have Qp:Hid (P≠B):=λe=>by
        have:=TB.ne NR.out.tb ⟨_,_,Bl.out⟩ (by decide)
        exact this e
       have EO:=aa NR.out.left;clear XH hrl f1;have nP:Hid (∀(W5:World) (kd ky vl:Int) (b5:Bool),Scan P W5 r b5->bF (λk=>k=P) wr W5->(∀o':aJ,dK o'=true->(y :: r).head? =some (kX o')->(⟨kd,ky,vl⟩:aJ)=o'/\b5=false) ->
        ∃A7 c7 w7,W5.cell? ⟨B,1,none⟩=some (.slice A5 steps.length c5)/\(W5.alloc (.cells #[.int .i64 kd,.int .i64 ky,.int .i64 vl] 67)).cell? ⟨B,1,none⟩=some (.slice A5 steps.length c5) /\
         (Builtin.append_ #[46,46] 46 #[.slice A5 steps.length c5,.slice (some ⟨W5.heap.size,0,none⟩) 1 1]).run Tryz.prog (W5.alloc (.cells #[.int .i64 kd,.int .i64 ky,.int .i64 vl] 67))=.ok (.slice A7 (steps.length+1) c7) w7 /\
         w7.cell? ⟨B,1,none⟩=some (.slice A5 steps.length c5)/\w7.frozen? ⟨B,1,none⟩=false /\
         Scan P (w7.setCell ⟨B,1,none⟩ (.slice A7 (steps.length+1) c7)) r b5/\(w7.setCell ⟨B,1,none⟩ (.slice A7 (steps.length+1) c7)).heap[B]? =some (.cells #[.int .i64 n,.slice A7 (steps.length+1) c7] 79 (0,0)) /\
         Row 67 3 encOpr P (w7.setCell ⟨B,1,none⟩ (.slice A7 (steps.length+1) c7)) (.slice A7 (steps.length+1) c7) (steps++[(⟨kd,ky,vl⟩:aJ)]) /\
         bF (λk=>k=P) W1 (w7.setCell ⟨B,1,none⟩ (.slice A7 (steps.length+1) c7))/\(∀d',aY d'=true->ws=bH d'->b5=false/\n=d'.aD/\steps++[(⟨kd,ky,vl⟩:aJ)]=d'.steps.take (steps++[(⟨kd,ky,vl⟩:aJ)]).length)):=by
        intro W5 kd ky vl b5 s5 k5 hst;have UN:∀d',aY d'=true->ws=bH d'->b5=false/\n=d'.aD/\steps++[(⟨kd,ky,vl⟩:aJ)]=d'.steps.take (steps++[(⟨kd,ky,vl⟩:aJ)]).length:=λd' hd he=>by obtain⟨_,e1,e2⟩:=Iz.out d' hd he;have hy2:=HYW.out;rw[he,show 1+steps.length=steps.length+1 by omega]at hy2;simp only[bH,List.getElem?_cons_succ,jM]at hy2;obtain⟨o',ho',hyo⟩:=qi.1 hy2;obtain⟨q1,q2⟩:=hst o' (fE hd (aN ho')) (by rw[List.head?_cons,<-hyo]);refine⟨q2,e1,?_⟩;rw[bN,nI,aj ho',<-e2,q1]
        have Xj:=Qp.out;have PE:=Xj.symm;have xG:=iw mI.out k5 (λk hk=>TB.ne (TB.fu mI.out hk) NR.out.tb (by decide));have Ux:P<W5.heap.size:=by obtain⟨_,_,h⟩:=s5.tb;exact(dB.1 h).1
        obtain⟨v',w7,hrun,hp⟩:=jQ W5.heap.size rfl Tryz.underlying46 lq rfl (by omega) xG (af _) ⟨kd,ky,vl⟩ (λj=>yc _ j) #[.int .i64 kd,.int .i64 ky,.int .i64 vl] rfl (by omega) (by omega) (by omega);have Pm:=jY xG hp (bF.out (af W1) (hb.trans k5) (λi e=>(by rw[e,HP.out];omega))) (by rw[HP.out];omega);obtain⟨A7,c7,rfl,_⟩:=id hp.1.cell.1;rw[show (steps++[(⟨kd,ky,vl⟩:aJ)]).length=steps.length+1 by simp]at hp hrun;have QO:=k5.heap Bl.out (by simpa using PE);have xN:=Pm.heap QO (λe=>TB.ne (TB.fu xG e) ⟨_,_,QO⟩ (by decide) rfl);have Oi:=s5.far Pm (λq e=>⟨_,TB.fu xG e,by decide,by decide⟩);have hBW:P<=B:=by rw[<-R7.out];exact pJ (by obtain⟨_,_,h⟩:=Q7.out.tb;exact(dB.1 h).1)
        have Vj:W5.cell? ⟨B,1,none⟩=some (.slice A5 steps.length c5):=by simp[World.cell?,QO]
        refine⟨A7,c7,w7,Vj,((af _).alloc _).cell Vj,hrun,by simp[World.cell?,xN],by simp[World.frozen?,xN],Oi.other ⟨_,_,xN⟩ (by decide) _ _,heap_set xN _,?_,?_,UN⟩
        ·exact iw hp.1 (bF.setCell (X:=λk=>k=B) (bF.refl _ _) (.inl rfl) _) (λk hk=>TB.ne (TB.fu hp.1 hk) ⟨_,_,xN⟩ (by decide))
        ·exact((hb.trans k5).more Pm (λi e=>.inr (by rw[HP.out];exact(l8 xG e).1))).setCell (.inr (by rw[HP.out];exact hBW)) _
       clear hb hKW
       gi_wp2_with fail
       refine xI (S:=λ_=>True) (by kernel_rfl) (by kernel_rfl) trivial (λhHeld=>?_);refine iV 0 (.pointer (some ⟨B,1,none⟩)) rfl (aM ⟨by rfl,λV _=>by go_simp⟩) trivial ?_ (hQ:=CF _ _);try go_frame
       refine iV 2 (.pointer (some ⟨P,0,none⟩)) rfl (aM ⟨by rfl,λV _=>by go_simp⟩) trivial ?_ (hQ:=CF _ _);try go_frame
       refine aW (rs:=[1,3]) (by kernel_rfl) (by simp) ?_;refine bM rfl (λK hK=>?_) (bM rfl (λK hK=>?_) bX)
       ·go_simp;refine hK.out _ _ trivial (λ_=>?_);clear hK K;try go_frame
        refine aW (rs:=[3]) (by kernel_rfl) (by simp) ?_;refine bM rfl (λK hK=>?_) bX;go_simp
        refine(lZ.out wr.drew (show Scan P wr.drew (y :: r) false from NR.out)).mono ?_
        rintro e W5 ⟨⟨kd,ky,vl⟩,b5,rfl,s5,k5,hst⟩;obtain⟨A7,c7,w7,Vj,b52,hrun,g1,gf,q1,q2,q3,q4,q5⟩:=nP.out W5 kd ky vl b5 s5 (bF.trans (bF.aO (af wr).drew) k5) hst;have HQ:=aa (aL q1 (aL q2 (aL q3 (aL q4 q5))));have cz:=aa hrun;clear s5 k5 hst q1 q2 q3 q4 q5 hrun
        dsimp only[fZ]
        refine hK.out _ _ trivial (λ_=>?_);clear hK K;try go_frame
        refine aW (rs:=[4]) (by kernel_rfl) (by simp) ?_;refine bM rfl (λK hK=>?_) bX;go_simp;refine hK.out _ _ trivial (λ_=>?_);clear hK K;try go_frame
        refine aW (rs:=[5]) (by kernel_rfl) (by simp) ?_;refine bM rfl (λK hK=>?_) bX;refine dY (by rfl) (by rfl) (by rfl) (by rfl) cz.out ?_;refine hK.out _ _ trivial (λ_=>?_);clear hK K;try go_frame
        refine aW (rs:=[6]) (by kernel_rfl) (by simp) ?_;refine bM rfl (λK hK=>?_) bX;go_simp;refine hK.out _ _ trivial (λ_=>?_);clear hK K;try go_frame
        refine aW (rs:=[7]) (by kernel_rfl) (by simp) ?_;refine bM rfl (λK hK=>?_) bX;go_simp;refine hK.out _ _ trivial (λ_=>?_);clear hK K;try go_frame
        refine lg (by kernel_rfl) ⟨rfl,?_⟩ _;clear nP lZ cz;go_roundw;case rel=>refine⟨_,_,_,_,_,_,_,_,_,_,_,_,_,_,_,_,_,_,_,_,⟨HQ.out.2.2.2.1,b5,r,steps++[⟨kd,ky,vl⟩],_,HQ.out.1,HQ.out.2.1,HQ.out.2.2.1,HQ.out.2.2.2.2,by rw[bN];exact hr2.out,by simp;omega⟩,rfl⟩
        case measure=>
         rw[EO.out]
         have:=HQ.out.1.left
         simp only[eF];omega
       ·go_simp
        refine(lZ.out wr.drew (show Scan P wr.drew (y :: r) false from NR.out)).mono ?_
        rintro e W5 ⟨⟨kd,ky,vl⟩,b5,rfl,s5,k5,hst⟩;obtain⟨A7,c7,w7,Vj,b52,hrun,g1,gf,q1,q2,q3,q4,q5⟩:=nP.out W5 kd ky vl b5 s5 (bF.trans (bF.aO (af wr).drew) k5) hst;have HQ:=aa (aL q1 (aL q2 (aL q3 (aL q4 q5))));have cz:=aa hrun;clear s5 k5 hst q1 q2 q3 q4 q5 hrun
        dsimp only[fZ]
        refine hK.out _ _ trivial (λ_=>?_);clear hK K;try go_frame
        refine aW (rs:=[1,4]) (by kernel_rfl) (by simp) ?_;refine bM rfl (λK hK=>?_) (bM rfl (λK hK=>?_) bX)
        ·go_simp;refine hK.out _ _ trivial (λ_=>?_);clear hK K;try go_frame
         refine aW (rs:=[4]) (by kernel_rfl) (by simp) ?_;refine bM rfl (λK hK=>?_) bX;go_simp;refine hK.out _ _ trivial (λ_=>?_);clear hK K;try go_frame
         refine aW (rs:=[5]) (by kernel_rfl) (by simp) ?_;refine bM rfl (λK hK=>?_) bX;refine dY (by rfl) (by rfl) (by rfl) (by rfl) cz.out ?_;refine hK.out _ _ trivial (λ_=>?_);clear hK K;try go_frame
         refine aW (rs:=[6]) (by kernel_rfl) (by simp) ?_;refine bM rfl (λK hK=>?_) bX;go_simp;refine hK.out _ _ trivial (λ_=>?_);clear hK K;try go_frame
         refine aW (rs:=[7]) (by kernel_rfl) (by simp) ?_;refine bM rfl (λK hK=>?_) bX;go_simp;refine hK.out _ _ trivial (λ_=>?_);clear hK K;try go_frame
         refine lg (by kernel_rfl) ⟨rfl,?_⟩ _;clear nP lZ cz;go_roundw;case rel=>refine⟨_,_,_,_,_,_,_,_,_,_,_,_,_,_,_,_,_,_,_,_,⟨HQ.out.2.2.2.1,b5,r,steps++[⟨kd,ky,vl⟩],_,HQ.out.1,HQ.out.2.1,HQ.out.2.2.1,HQ.out.2.2.2.2,by rw[bN];exact hr2.out,by simp;omega⟩,rfl⟩
         case measure=>
          rw[EO.out]
          have:=HQ.out.1.left
          simp only[eF];omega
        ·go_simp;refine hK.out _ _ trivial (λ_=>?_);clear hK K;try go_frame
         refine aW (rs:=[1]) (by kernel_rfl) (by simp) ?_;refine bM rfl (λK hK=>?_) bX;go_simp;refine hK.out _ _ trivial (λ_=>?_);clear hK K;try go_frame
         refine aW (rs:=[5]) (by kernel_rfl) (by simp) ?_;refine bM rfl (λK hK=>?_) bX;refine dY (by rfl) (by rfl) (by rfl) (by rfl) cz.out ?_;refine hK.out _ _ trivial (λ_=>?_);clear hK K;try go_frame
         refine aW (rs:=[6]) (by kernel_rfl) (by simp) ?_;refine bM rfl (λK hK=>?_) bX;go_simp;refine hK.out _ _ trivial (λ_=>?_);clear hK K;try go_frame
         refine aW (rs:=[7]) (by kernel_rfl) (by simp) ?_;refine bM rfl (λK hK=>?_) bX;go_simp;refine hK.out _ _ trivial (λ_=>?_);clear hK K;try go_frame
         refine lg (by kernel_rfl) ⟨rfl,?_⟩ _;clear nP lZ cz;go_roundw;case rel=>refine⟨_,_,_,_,_,_,_,_,_,_,_,_,_,_,_,_,_,_,_,_,⟨HQ.out.2.2.2.1,b5,r,steps++[⟨kd,ky,vl⟩],_,HQ.out.1,HQ.out.2.1,HQ.out.2.2.1,HQ.out.2.2.2.2,by rw[bN];exact hr2.out,by simp;omega⟩,rfl⟩
         case measure=>
          rw[EO.out]
          have:=HQ.out.1.left
          simp only[eF];omega
 case done=>
  rintro D xs W hD hS ⟨⟨h1,h2,h3,v,ds,h4,h5,h6,h7⟩,-⟩ hK;have hxl:xs.length=(splitS l).length:=by rw[<-hS,dF]
  have hsome:∀p',bJ p'=true->dR p'=l->ds=p':=λp' hp' he=>by
   have hne:p'≠[]:=λe=>HL.out.2 (by rw[<-he,e];rfl);have hsp:=pM hp' hne;rw[he]at hsp;have hm':xs.map (·.1)=p'.map bZ:=by rw[hS];exact hsp
   have hl':xs.length=p'.length:=by have:=fU List.length hm';simpa using this
   have:=h7 p' hp' (by rw[hm',jZ (by simp;omega)])
   rw[this,jZ (by omega)]
  have hlen:ds.length<=2097152:=by
   have:=zP l
   have:=HL.out.1
   omega
  have hst:∀d∈ds,d.steps.length<=2097152:=λd hd=>by
   obtain⟨rs,e1,_,e3⟩:=h5;obtain⟨i,hi,hid⟩:=jw hd
   exact(e3 i (rs[i]'(by omega)) d (dz _) (by rw[dz hi,hid])).2.2.2
  have hvs:∃A c,v=.slice A ds.length c/\ds.length<=c/\c<=9223372036854775807:=by
   obtain⟨rs,e1,e2,_⟩:=h5;obtain⟨A,c,e3,_⟩:=id e2.cell.1
   have:=e2.cap _ _ _ e3
   rw[e1]at e3 this;exact⟨A,c,e3,this⟩
  obtain⟨Av,cv,rfl,hcap⟩:=hvs;have HV:=aa (nL W h5.Qb hlen hst);have HT:=aa (λW' (k:Ext W W')=>sU W' (h5.Qb.ext k) hlen hst);have c4:=h4.cell;have HH:=aa (aL h1 (aL h2 (aL h3 (aL h4 h5))));have HK:=aa hK;clear h1 h2 h3 h4 h5 h6 h7 hst hK hsb bA bB bC bP bS bE bV;by_cases hv:bJ ds=true
  ·have RQ:=HV.out;rw[hv]at RQ;have HT2:=HT.out;rw[hv,ah rfl]at HT2;by_cases he:dR ds=l
   ·rw[he,HZ.out]at HT2;have Ww:=aa HT2;have hyes:Hid (dO l=some ds):=je.2 ⟨hv,he⟩;clear hv HV HT HT2 hsome he
    gi_wp2_with fail
    refine⟨trivial,(callsIn_wide.2 RQ).mono ?_⟩;rintro e W1 ⟨rfl,b1⟩;have c4:=b1.cell c4
    gi_wp2_with fail
    refine⟨trivial,(callsIn_wide.2 (Ww.out _ b1)).mono ?_⟩;rintro e W2 ⟨rfl,b12⟩;have b2:Ext W W2:=b1.trans b12;have c4:=b12.cell c4;have k2:=aC HH.out.2.1 b2;have k3:=aC HH.out.2.2.1 b2;have YE:=k2.cell;have XK:=k2.frozen;have We:=k3.cell;have YD:=k3.frozen
    gi_wp2_with fail
    refine⟨trivial,(callsIn_wide.2 (GZ Av ds.length cv W2 hcap)).mono ?_⟩;rintro e w' ⟨rfl,rfl⟩
    gi_wp2
    have hK3:=(KeepsOthers.setCell (W2.setCell ⟨w.heap.size,0,none⟩ (.slice Av ds.length ds.length)) ⟨w.heap.size+1,0,none⟩ (.bool true)).same D _ ((KeepsOthers.setCell W2 ⟨w.heap.size,0,none⟩ (.slice Av ds.length ds.length)).same D _ (mg b2 |>.same D _ HK.out rfl) rfl) rfl;refine⟨by simp,.inl ⟨_,_,rfl,run_takeDeferred hK3,?_⟩⟩;have QE:=cell_kept (gu (k2.set (.slice Av ds.length ds.length)) (a:=⟨w.heap.size+1,0,none⟩) (by simp) (.bool true)).cell (grownBy_putObj' _ D (.deferred none)) (λr e=>by cases e;exact⟨_,hK3,rfl⟩);have hc6:=cell_kept ((gu k3 (a:=⟨w.heap.size,0,none⟩) (by simp) (.slice Av ds.length ds.length)).set (.bool true)).cell (grownBy_putObj' _ D (.deferred none)) (λr e=>by cases e;exact⟨_,hK3,rfl⟩);have q1:=HH.out.2.2.2.2.away (bF.aO (X:=λ_=>False) b2) (λ_ h=>h.elim);have q2:=q1.frX (X:=λq=>q=w.heap.size∨q=w.heap.size+1) (((bF.refl _ _).setCell (p:=⟨w.heap.size,0,none⟩) (.inl (.inl rfl)) (.slice Av ds.length ds.length)).setCell (p:=⟨w.heap.size+1,0,none⟩) (.inl (.inr rfl)) (.bool true)) (λq hq _ e=>e.elim (TB.ne hq (eD k2) (by decide)) (TB.ne hq (eD k3) (by decide))) (λq hq e=>e.elim (TB.ne hq (eD k2) (by decide)) (TB.ne hq (eD k3) (by decide)));have q3:=q2.away (nu (grownBy_putObj' _ D (.deferred none))) (λq e=>.inl ⟨_,(by cases e;exact hK3),rfl⟩);refine⟨.tuple #[.slice Av ds.length ds.length,.bool true],by simp[results,Tryz.f103,go_sem,QE,hc6],ds,_,by rw[hyes.out];rfl,q3.Qb.clip,by rw[hyes.out];rfl,?_⟩;exact Below.trans (((HH.out.1.trans b2).setCell (ay _) _).setCell (by simp) _) (belowK_b (w:=w) (ay _) _ D _ _ (by omega) hK3 rfl rfl)
   ·obtain⟨z2,hz2⟩:∃z2,tx (dR ds)=z2:=⟨_,rfl⟩;rw[hz2]at HT2;have Ww:=aa HT2;have hq:(z2.toList==z.toList)=false:=by rw[<-hz2,<-HZ.out,eu,eu];simpa using he
    have hno:Hid (dO l=none):=oD λp' hp' he'=>he (by rw[hsome p' hp' he'];exact he');clear hv HV HT HT2 hsome he hz2
    gi_wp2_with fail
    refine⟨trivial,(callsIn_wide.2 RQ).mono ?_⟩;rintro e W1 ⟨rfl,b1⟩;have c4:=b1.cell c4
    gi_wp2_with fail
    refine⟨trivial,(callsIn_wide.2 (Ww.out _ b1)).mono ?_⟩;rintro e W2 ⟨rfl,b12⟩;have b2:Ext W W2:=b1.trans b12;have k2:=aC HH.out.2.1 b2;have k3:=aC HH.out.2.2.1 b2;have YE:=k2.cell;have XK:=k2.frozen;have We:=k3.cell;have YD:=k3.frozen
    gi_wp2
    have hK3:=(KeepsOthers.setCell (W2.setCell ⟨w.heap.size,0,none⟩ (.slice none 0 0)) ⟨w.heap.size+1,0,none⟩ (.bool false)).same D _ ((KeepsOthers.setCell W2 ⟨w.heap.size,0,none⟩ (.slice none 0 0)).same D _ (mg b2 |>.same D _ HK.out rfl) rfl) rfl;refine⟨by simp,.inl ⟨_,_,rfl,run_takeDeferred hK3,?_⟩⟩;have QE:=cell_kept (gu (k2.set (.slice none 0 0)) (a:=⟨w.heap.size+1,0,none⟩) (by simp) (.bool false)).cell (grownBy_putObj' _ D (.deferred none)) (λr e=>by cases e;exact⟨_,hK3,rfl⟩);have hc6:=cell_kept ((gu k3 (a:=⟨w.heap.size,0,none⟩) (by simp) (.slice none 0 0)).set (.bool false)).cell (grownBy_putObj' _ D (.deferred none)) (λr e=>by cases e;exact⟨_,hK3,rfl⟩);refine⟨.tuple #[.slice none 0 0,.bool false],by simp[results,Tryz.f103,go_sem,QE,hc6],wH (((HH.out.1.trans b2).setCell (ay _) _).setCell (by simp) _) (by omega) hK3 hno.out⟩
  ·have hv':bJ ds=false:=by simpa using hv
   have hno:Hid (dO l=none):=oD λp' hp' he=>hv (by rw[hsome p' hp' he];exact hp');have RQ:=HV.out;rw[hv']at RQ;clear hv hv' HV hsome
   gi_wp2_with fail
   refine⟨trivial,(callsIn_wide.2 RQ).mono ?_⟩;rintro e W2 ⟨rfl,b2⟩;have k2:=aC HH.out.2.1 b2;have k3:=aC HH.out.2.2.1 b2;have YE:=k2.cell;have XK:=k2.frozen;have We:=k3.cell;have YD:=k3.frozen
   gi_wp2
   refine⟨trivial,?_⟩
   gi_wp2
   have hK3:=(KeepsOthers.setCell (W2.setCell ⟨w.heap.size,0,none⟩ (.slice none 0 0)) ⟨w.heap.size+1,0,none⟩ (.bool false)).same D _ ((KeepsOthers.setCell W2 ⟨w.heap.size,0,none⟩ (.slice none 0 0)).same D _ (mg b2 |>.same D _ HK.out rfl) rfl) rfl;refine⟨by simp,.inl ⟨_,_,rfl,run_takeDeferred hK3,?_⟩⟩;have QE:=cell_kept (gu (k2.set (.slice none 0 0)) (a:=⟨w.heap.size+1,0,none⟩) (by simp) (.bool false)).cell (grownBy_putObj' _ D (.deferred none)) (λr e=>by cases e;exact⟨_,hK3,rfl⟩);have hc6:=cell_kept ((gu k3 (a:=⟨w.heap.size,0,none⟩) (by simp) (.slice none 0 0)).set (.bool false)).cell (grownBy_putObj' _ D (.deferred none)) (λr e=>by cases e;exact⟨_,hK3,rfl⟩);refine⟨.tuple #[.slice none 0 0,.bool false],by simp[results,Tryz.f103,go_sem,QE,hc6],wH (((HH.out.1.trans b2).setCell (ay _) _).setCell (by simp) _) (by omega) hK3 hno.out⟩
 case stop=>
  rintro D pre W hD ⟨r,hr⟩ ⟨h1,h2,h3,h4⟩ hK;have hno:Hid (dO l=none):=oD λp' hp' he=>by have hne:p'≠[]:=λe=>HL.out.2 (by rw[<-he,e];rfl);have hsp:=pM hp' hne;rw[he]at hsp;refine h4 p' hp' ?_;rw[<-hsp];show _=(splitS l).take pre.length;rw[show splitS l=pre.map (·.1)++r from hr,List.take_left' (by simp)]
  gi_wp2
  have hK3:=hK;refine⟨by simp,.inl ⟨_,_,rfl,run_takeDeferred hK3,?_⟩⟩;have QE:=cell_kept h2.cell (grownBy_putObj' _ D (.deferred none)) (λr e=>by cases e;exact⟨_,hK3,rfl⟩);have hc6:=cell_kept h3.cell (grownBy_putObj' _ D (.deferred none)) (λr e=>by cases e;exact⟨_,hK3,rfl⟩);refine⟨.tuple #[.slice none 0 0,.bool false],by simp[results,Tryz.f103,go_sem,QE,hc6],wH h1 (by omega) hK3 hno.out⟩
end
