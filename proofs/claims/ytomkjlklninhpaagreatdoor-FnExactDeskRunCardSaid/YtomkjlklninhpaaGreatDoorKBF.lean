/- Lemmas. -/
import Derived.Test.YtomkjlklninhpaaGreatDoorKBD
import Derived.Test.YtomkjlklninhpaaGreatDoorKBE
import Derived.Lib.ConvBytes
set_option maxHeartbeats 16000000
set_option maxRecDepth 8000
set_option linter.all false
namespace Go.Proofs.YtomkjlklninhpaaGreatDoor
open Go.RowKit
section
attribute [local go_sem] Oper.semAt_some
theorem Kc(s sep:ByteArray)(w:World):Calls Tryz.prog 178 #[.string s,.string sep,.int .i64 0] w fun e w'=>
 e=.returned (.func (.func 215) #[] #[.pointer (some ⟨w.heap.size+1,0,none⟩),.pointer (some ⟨w.heap.size,0,none⟩),.pointer (some ⟨w.heap.size+2,0,none⟩)]) /\
 w'=((w.alloc (.cells #[.string s] 9)).alloc (.cells #[.string sep] 9)).alloc (.cells #[.int .i64 0] 3):=by
 go_enter Tryz.func178,Tryz.ntmps178;go_wp2;go_returns;exact⟨rfl,rfl⟩
theorem KF(s sep:ByteArray)(w:World):Calls Tryz.prog 135 #[.string s,.string sep] w fun e w'=>
 e=.returned (.func (.func 215) #[] #[.pointer (some ⟨w.heap.size+1,0,none⟩),.pointer (some ⟨w.heap.size,0,none⟩),.pointer (some ⟨w.heap.size+2,0,none⟩)]) /\
 w'=((w.alloc (.cells #[.string s] 9)).alloc (.cells #[.string sep] 9)).alloc (.cells #[.int .i64 0] 3):=by
 go_enter Tryz.func135,Tryz.ntmps135;go_wp2_with (go_at_call 178;refine(Kc _ _ _).mono ?_;rintro e w' ⟨rfl,rfl⟩)
 go_returns;exact⟨rfl,rfl⟩
theorem Pt(A:Option Addr)(n c:Nat)(w:World)(h:n<=c/\c<=9223372036854775807) :
 Calls Tryz.prog 139 #[.slice A n c] w fun e w'=>e=.returned (.slice A n n)/\w=w':=by
 have h1:(n:Int)<=(c:Int):=by omega
 have h2:(0:Int)<=(n:Int):=by omega
 go_enter Tryz.func139,Tryz.ntmps139;go_wp2;go_returns;exact⟨rfl,rfl⟩
def WH(X:Nat->Prop)(W:World):Prop:=∀q,X q->(∃o,W.heap[q]? =some o/\o.isCells=false)∨TB 9 W q
theorem WH.tb{X:Nat->Prop}{W:World}(h:WH X W){T:TypeId}{q:Nat}(hq:TB T W q)(hT:T≠9):¬X q:=fun hx=>by
 rcases h q hx with ⟨o,ho,hc⟩|h'
 ·obtain⟨cs,fr,hq⟩:=hq;rw[hq]at ho;cases ho;cases hc
 ·exact TB.ne hq h' hT rfl
def xg(base:Nat)(W:World)(v:Value)(ds:List eH):Prop:=∃rs:List NA,rs.length=ds.length/\Row 78 2 fM base W v rs/\∀(i:Nat) r d,rs[i]? =some r->ds[i]? =some d->r.az=d.az/\aF 3 aj W r.iF d.steps/\iY 71 W r.iF/\d.steps.length<=2097152
theorem xg.frX{base:Nat}{X:Nat->Prop}{W W':World}{v:Value}{ds:List eH}(h:xg base W v ds)(k:bH X W W')(h1:∀q,TB 78 W q->v.ownBlock=some q->¬X q)(h2:∀q,TB 71 W q->¬X q):xg base W' v ds:=by
 obtain⟨rs,hl,hr,hi⟩:=h;refine⟨rs,hl,dM hr k (fun i e=>h1 i (TB.dm hr e) e),fun i r d hri hdi=>?_⟩;obtain⟨a,b,c,e⟩:=hi i r d hri hdi;have hf:∀(ad:Addr) (n c:Nat),r.iF=.slice (some ad) n c->0<n->¬X ad.block:=fun ad n c' hv hn=>by obtain⟨cs,fr,hg⟩:=c ad n c' hv hn;exact h2 _ ⟨cs,fr,hg⟩
 exact⟨a,b.frX k hf,vH c k hf,e⟩
theorem xg.away{base:Nat}{X:Nat->Prop}{W W':World}{v:Value}{ds:List eH}(h:xg base W v ds)(k:bH X W W')(ha:WH X W):xg base W' v ds:=
 h.frX k (fun q hq _=>ha.tb hq (by decide)) (fun q hq=>ha.tb hq (by decide))
theorem xg.pla{base:Nat}{W:World}{v:Value}{ds:List eH}(h:xg base W v ds):xZ W v ds:=by obtain⟨rs,hl,hr,hi⟩:=h;exact⟨rs,hl,hr.cell.1,fun i r d hri hdi=>⟨(hi i r d hri hdi).1,(hi i r d hri hdi).2.1⟩⟩
theorem xg.nil(base:Nat)(W:World)(hb:base<=W.heap.size):xg base (W.alloc (.cells #[] 78)) (.slice (some ⟨W.heap.size,0,none⟩) 0 0) []:=
 ⟨[],rfl,(bT (w:=W)).low hb,fun i r d h=>by simp at h⟩
theorem xg.pushed{base:Nat}{W w':World}{v v':Value}{ds:List eH}{rs:List NA}{r:NA}{d:eH}(hl:rs.length=ds.length)(hi:∀(i:Nat) r d,rs[i]? =some r->ds[i]? =some d->r.az=d.az/\aF 3 aj W r.iF d.steps/\iY 71 W r.iF/\d.steps.length<=2097152)
 (hr:Row 78 2 fM base W v rs) (hp:Row 78 2 fM base w' v' (rs++[r])) (k:bH (fun q=>v.ownBlock=some q) W w') (hd:r.az=d.az/\aF 3 aj W r.iF d.steps/\iY 71 W r.iF/\d.steps.length<=2097152):xg base w' v' (ds++[d]):=by
 have hx:∀(u:Value),iY 71 W u->∀(ad:Addr) (n c:Nat),u=.slice (some ad) n c->0<n->¬v.ownBlock=some ad.block:=fun u hu ad n c hv hn e=>by obtain⟨cs,fr,hg⟩:=hu ad n c hv hn;exact TB.ne (TB.dm hr e) ⟨cs,fr,hg⟩ (by decide) rfl
 refine⟨rs++[r],by simp[hl],hp,fun i y e hy he=>?_⟩;have key:∀(y:NA) (e:eH),(y.az=e.az/\aF 3 aj W y.iF e.steps/\iY 71 W y.iF/\e.steps.length<=2097152)->y.az=e.az/\aF 3 aj w' y.iF e.steps/\iY 71 w' y.iF/\e.steps.length<=2097152:=fun y e ⟨a,b,c,g⟩=>⟨a,b.frX k (hx _ c),vH c k (hx _ c),g⟩;rw[List.getElem?_append]at hy he;split at hy
 ·rename_i h;rw[if_pos (by rw[<-hl];exact h)]at he;exact key _ _ (hi i y e hy he)
 ·rename_i h;rw[if_neg (by rw[<-hl];exact h)]at he;have h0:i-rs.length=0:=by
   have:=(List.getElem?_eq_some_iff.1 hy).1
   simp at this;omega
  rw[h0]at hy;rw[<-hl,h0]at he;simp at hy he;subst hy he;exact key _ _ hd
theorem FI:∀l:List UInt8,(dS l).length<=l.length+1:=fun l=>by
 induction l using dS.induct with
 | case1=>simp[dS]
 | case2 l ih=>simp[dS];omega
 | case3 x l hx e ih=>exact absurd e (Sw l)
 | case4 x l hx y r e ih=>
   rw[dS]
   ·rw[e]at ih ⊢;simp only[List.length_cons]at ih ⊢;omega
   ·exact hx
def yY(s:List Rw)(ds:List eH):Prop:=∀p',dQ p'=true->s.map (·.1)=(p'.map dU).take s.length->ds=p'.take s.length
theorem H7{s:List Rw}{x:Rw}{p':List eH}(he:(s++[x]).map (·.1)=(p'.map dU).take (s++[x]).length):s.map (·.1)=(p'.map dU).take s.length/\∃d,p'[s.length]? =some d/\x.1=dU d:=by
 have h0:=congrArg (fun l=>l[s.length]?) he;simp only[List.map_append,List.map_cons,List.map_nil,List.length_append,List.length_singleton]at h0 he;rw[List.getElem?_append_right (by simp),List.length_map,Nat.sub_self,List.getElem?_take,if_pos (by omega),List.getElem?_map]at h0;simp only[List.getElem?_cons_zero]at h0;obtain⟨d,hd,hx⟩:=Option.map_eq_some_iff.1 h0.symm;refine⟨?_,d,hd,hx.symm⟩;rw[ah (x:=dU d) (by rw[List.getElem?_map,hd];rfl)]at he
 exact(List.append_inj he (by simp;have:=(List.getElem?_eq_some_iff.1 hd).1;omega)).1
theorem yY.nil:yY [] []:=fun p' _ _=>by simp
def N9(w:World)(s:List Rw)(W:World):Prop:=Ext w W/\Boxed W w.heap.size 54 (.slice none 0 0)/\Boxed W (w.heap.size+1) 4 (.bool false)/\∃v ds,Boxed W (w.heap.size+1+1+1) 54 v/\xg (w.heap.size+1+1) W v ds/\ds.length=s.length/\yY s ds
def Vs(w W:World):Prop:=TB 9 W (w.heap.size+1+1+1+1)/\TB 9 W (w.heap.size+1+1+1+1+1)/\TB 3 W (w.heap.size+1+1+1+1+2)
def Rs(w:World)(s:List Rw)(W:World):Prop:=Ext w W/\Boxed W w.heap.size 54 (.slice none 0 0)/\Boxed W (w.heap.size+1) 4 (.bool false)/\∀p',dQ p'=true->s.map (·.1)≠(p'.map dU).take s.length
theorem jL{X:Nat->Prop}{W W':World}{B:Nat}{T:TypeId}{v:Value}(h:Boxed W B T v)(k:bH X W W')(hx:¬X B):Boxed W' B T v:=k.heap h hx
theorem gF{W:World}{B:Nat}{T:TypeId}{v:Value}(h:Boxed W B T v):TB T W B:=⟨_,_,h⟩
theorem N9.away{w:World}{s:List Rw}{X:Nat->Prop}{W W':World}(h:N9 w s W)(k:bH X W W')(ha:WH X W)(hX:∀q,X q->w.heap.size<=q):N9 w s W':=by obtain⟨h1,h2,h3,v,ds,h4,h5,h6,h7⟩:=h;exact⟨bH.out h1 k hX,jL h2 k (ha.tb (gF h2) (by decide)),jL h3 k (ha.tb (gF h3) (by decide)),v,ds,jL h4 k (ha.tb (gF h4) (by decide)),h5.away k ha,h6,h7⟩
theorem Rs.away{w:World}{s:List Rw}{X:Nat->Prop}{W W':World}(h:Rs w s W)(k:bH X W W')(ha:WH X W)(hX:∀q,X q->w.heap.size<=q):Rs w s W':=by obtain⟨h1,h2,h3,h4⟩:=h;exact⟨bH.out h1 k hX,jL h2 k (ha.tb (gF h2) (by decide)),jL h3 k (ha.tb (gF h3) (by decide)),h4⟩
theorem pU{W W':World}{row:Option Nat}(hg:W.grownBy W' row):bH (fun k=>row=some k) W W':=(bH.refl _ W).grown hg (fun _ e=>.inl e)
theorem xM{B:Nat}{X:Nat->Prop}{W W':World}(k:bH X W W')(hX:∀q,X q->∃T,TB T W q):KeepsFrom B W W':=
 ⟨k.size,fun q o _ hq ho=>(k.block q (Array.getElem?_eq_some_iff.1 hq).1 (fun hx=>by obtain⟨T,cs,fr,h⟩:=hX q hx;rw[hq]at h;cases h;cases ho)).trans hq⟩
theorem Ph{n lo hi:Nat}{X:Nat->Prop}{W W':World}(k:bH X W W')(hn:n<=W.heap.size)(hh:hi<=W.heap.size)(h1:∀q,X q->n<=q)(h2:∀q,lo<=q->q<hi->¬X q):vT n lo hi W W':=
 ⟨⟨k.os,k.tape,k.output,k.size,fun q hq=>k.block q (by omega) (fun hx=>by have:=h1 q hx;omega)⟩,fun q ha hb=>k.block q (by omega) (h2 q ha hb)⟩
theorem Dv:(Tryz.prog.info? 78).map (fun i=>(i.zero,i.size,i.bytes))=some (some (.agg #[.int .i64 0,.slice none 0 0]),2,32):=by kernel_rfl
theorem xZ.clip{W:World}{A:Option Addr}{n c:Nat}{p:List eH}(h:xZ W (.slice A n c) p):xZ W (.slice A n n) p:=by obtain⟨rs,h1,h2,h3⟩:=h;obtain⟨A',c',e,hc⟩:=h2;cases e;exact⟨rs,h1,⟨_,_,rfl,hc⟩,h3⟩
theorem BI{l:List UInt8}{w W:World}{D:Nat}(h:Ext w W)(hD:w.heap.size<=D)(hK:W.heap[D]? =some (.deferred (some [])))(hno:aV l=none) :
 ∃(p:List eH) (v:Value),Ending.returned (.tuple #[.slice none 0 0,.bool false])=.returned (.tuple #[v,.bool (aV l).isSome])/\xZ (W.putObj D (.deferred none)) v p/\p=(aV l).getD []/\Ext w (W.putObj D (.deferred none)):=
 ⟨[],.slice none 0 0,by rw[hno];rfl,⟨[],rfl,aF.nil _ _ _ _ _,fun i r d hr=>by simp at hr⟩,by rw[hno];rfl,Below.trans h (belowK_b (w:=w) (Nat.le_refl _) W D _ _ hD hK rfl rfl)⟩
theorem IW(l:List UInt8)(w:World)(hE:Env w)(hl:l.length<=1048576)(hne:l≠[]) :
 Calls Tryz.prog 102 #[.string (tx l)] w fun e w'=>∃(p:List eH) (v:Value),e=.returned (.tuple #[v,.bool (aV l).isSome])/\xZ w' v p/\p=(aV l).getD []/\Ext w w':=by
 obtain⟨m,hm⟩:=hE.max;have hg:0<w.heap.size:=by
  rcases Nat.lt_or_ge 0 w.heap.size with h|h
  ·exact h
  ·simp[World.cell?,Array.getElem?_eq_none h]at hm
 have HE:=aa hE;have hq0:((tx l).toList != [])=true:=by
  rw[eD]
  cases l with
  | nil=>exact absurd rfl hne
  | cons a r=>rfl
 have hq1:(tx l).toList.isEmpty=false:=by
  rw[eD]
  cases l with
  | nil=>exact absurd rfl hne
  | cons a r=>rfl
 obtain⟨z,hz⟩:∃z,tx l=z:=⟨_,rfl⟩;have HZ:=aa hz;have HL:=aa (And.intro hl hne);rw[hz]at hq0 hq1 ⊢;clear hE hl hne hz
 refine(callsIn_wide (n:=9)).1 ?_
 refine callsIn_of_wp_marks Tryz.func102 rfl trivial ?_ rfl;simp only[Tryz.ntmps102,List.size_toArray,List.length_cons,List.length_nil,Nat.reduceAdd,Nat.reduceSub,Array.replicate_succ,Array.replicate_zero,List.push_toArray,List.append_toArray,List.nil_append,List.cons_append]
 gi_wp2_with (refine⟨trivial,?_⟩;gi_at_call 135;refine(callsIn_wide.2 (KF _ _ _)).mono ?_;rintro e w' ⟨rfl,rfl⟩)
 obtain⟨W0,hW0⟩:∃W0,(((((((w.alloc (.cells #[.slice none 0 0] 54)).alloc (.cells #[.bool false] 4)).alloc (.cells #[] 78)).alloc (.cells #[.slice (some ⟨w.heap.size+1+1,0,none⟩) 0 0] 54)).alloc (.cells #[.string z] 9)).alloc (.cells #[.string ⟨#[59,32]⟩] 9)).alloc (.cells #[.int .i64 0] 3))=W0:=⟨_,rfl⟩;have hsz:W0.heap.size=w.heap.size+7:=by rw[<-hW0];simp
 have B0:Ext w W0:=by rw[<-hW0];exact(((((((Ext.refl _).alloc _).alloc _).alloc _).alloc _).alloc _).alloc _).alloc _
 have bA:Boxed W0 w.heap.size 54 (.slice none 0 0):=by rw[<-hW0];exact aL (kT w _ _ _ rfl) (((((((Ext.refl _).alloc _).alloc _).alloc _).alloc _).alloc _).alloc _)
 have bB:Boxed W0 (w.heap.size+1) 4 (.bool false):=by rw[<-hW0];exact aL (kT (w.alloc _) _ _ _ (by simp)) ((((((Ext.refl _).alloc _).alloc _).alloc _).alloc _).alloc _)
 have bP:xg (w.heap.size+1+1) W0 (.slice (some ⟨w.heap.size+1+1,0,none⟩) 0 0) []:=by
  rw[<-hW0];have h:=xg.nil (w.heap.size+1+1) ((w.alloc (.cells #[.slice none 0 0] 54)).alloc (.cells #[.bool false] 4)) (by simp);have e:((w.alloc (.cells #[.slice none 0 0] 54)).alloc (.cells #[.bool false] 4)).heap.size=w.heap.size+1+1:=by simp
  rw[e]at h;exact h.away (bH.aT (X:=fun _=>False) (((((Ext.refl _).alloc _).alloc _).alloc _).alloc _)) (fun _ h=>h.elim)
 have bC:Boxed W0 (w.heap.size+1+1+1) 54 (.slice (some ⟨w.heap.size+1+1,0,none⟩) 0 0):=by rw[<-hW0];exact aL (kT (((w.alloc _).alloc _).alloc _) _ _ _ (by simp)) ((((Ext.refl _).alloc _).alloc _).alloc _)
 have bS:Boxed W0 (w.heap.size+1+1+1+1) 9 (.string z):=by rw[<-hW0];exact aL (kT ((((w.alloc _).alloc _).alloc _).alloc _) _ _ _ (by simp)) (((Ext.refl _).alloc _).alloc _)
 have bE:Boxed W0 (w.heap.size+1+1+1+1+1) 9 (.string ⟨#[59,32]⟩):=by rw[<-hW0];exact aL (kT (((((w.alloc _).alloc _).alloc _).alloc _).alloc _) _ _ _ (by simp)) ((Ext.refl _).alloc _)
 have bV:Boxed W0 (w.heap.size+1+1+1+1+2) 3 (.int .i64 0):=by rw[<-hW0];exact kT ((((((w.alloc _).alloc _).alloc _).alloc _).alloc _).alloc _) _ _ _ (by simp)
 rw[hW0];clear hW0;have HW0:=aa (And.intro hsz B0);rw[<-HZ.out]at bS;have hsb:=IP 8 (by omega) (w.heap.size+1+1+1+1) w.heap.size ⟨l,HL.out.1⟩ m W0 hg (by omega) (B0.cell hm) bS bE bV;refine NW (by omega) (gf:=215) rfl (enters_of Tryz.func215 (by kernel_rfl) rfl) hsb VZ (Xl (by omega) (by omega)) (Below.refl _ _) (by omega) (fun _=>rfl)
  (fun s W=>N9 w s W/\Vs w W) (Rs w) ?hI ?hIx ?hIc ⟨⟨B0,bA,bB,_,[],bC,bP,rfl,yY.nil⟩,gF bS,gF bE,gF bV⟩ ?a1 ?assign ?body ?done ?stop
 case hI=>
  intro s A B row hs hgr hr;have hn:∀{T:TypeId} {q:Nat},TB T A q->¬row=some q:=fun hq e=>by obtain⟨cs,fr,hq⟩:=hq;obtain⟨_,o,ho,hc⟩:=hr _ e;rw[hq]at ho;cases ho;cases hc
  exact⟨hs.1.away (pU hgr) (fun q e=>.inl (hr q e).2) (fun q e=>by have:=(hr q e).1;omega),hs.2.1.frX (pU hgr) (hn hs.2.1),hs.2.2.1.frX (pU hgr) (hn hs.2.2.1),hs.2.2.2.frX (pU hgr) (hn hs.2.2.2)⟩
 case hIx=>
  intro s A B row hs hgr hr;exact hs.away (pU hgr) (fun q e=>.inl (hr q e).2) (fun q e=>by have:=(hr q e).1;omega)
 case hIc=>
  intro s W v hs;have k:bH (fun q=>q=w.heap.size+1+1+1+1) W (W.setCell ⟨w.heap.size+1+1+1+1,0,none⟩ v):=bH.setCell (X:=fun q=>q=w.heap.size+1+1+1+1) (bH.refl _ _) (.inl rfl) _;exact⟨hs.1.away k (fun q e=>.inr (e▸hs.2.1)) (fun q e=>by omega),hs.2.1.set _ _,hs.2.2.1.frX k (by omega),hs.2.2.2.frX k (by omega)⟩
 case assign=>
  intro l x W K hK
  gi_wp2
  exact hK
 case body=>
  rintro l2 pre ⟨x,hxl⟩ W ⟨⟨h1,h2,h3,v,ds,h4,h5,h6,h7⟩,ht1,ht2,ht3⟩ hlen
  dsimp only
  have hEW:=HE.out.ext h1;have I9:=aa (Jy x W hEW (by omega));have hwl:(aK 32 x).length<=1048577:=by have:=nH 32 x;omega
  have HX:=aa (nX 32 x);obtain⟨zx,hzx⟩:∃z,tx x=z:=⟨_,rfl⟩;rw[hzx]at I9 ⊢;obtain⟨ws,hws⟩:∃ws,aK 32 x=ws:=⟨_,rfl⟩;rw[hws]at I9 hwl HX;have IG:=aa hws;have HI:=aa (And.intro h1 (And.intro h2 (And.intro h3 (And.intro h4 (And.intro h5 (And.intro h6 (And.intro h7 (And.intro ht1 (And.intro ht2 ht3)))))))));have hvs:∃A c,v=.slice A ds.length c:=by obtain⟨rs,e1,e2,_⟩:=h5;obtain⟨A,c,e3,_⟩:=e2.cell.1;exact⟨A,c,by rw[e3,e1]⟩
  obtain⟨Av,cv,rfl⟩:=hvs;clear h1 h2 h3 h5 h6 h7 ht1 ht2 ht3 hzx hws hsb bA bB bC bP bS bE bV
  gi_wp2_with fail
  refine⟨trivial,(CallsIn.inRound l2 (callsIn_wide.2 I9.out)).mono ?_⟩;rintro e W1 ⟨g,rfl,hs,hty,b1⟩;obtain⟨P,hP⟩:∃P,W1.heap.size=P:=⟨_,rfl⟩;have HP:=aa hP;have hS2:Scan P (W1.alloc (.cells #[.slice (some ⟨g,0,none⟩) ws.length ws.length,.bool false] 153)) ws false:=
   ⟨_,by rw[<-hP];exact heap_alloc_new W1 _,hs.ext ((Ext.refl _).alloc _),mQ (Nat.le_refl _) (by omega),hty.ext ((Ext.refl _).alloc _)⟩
  have HB1:=aa b1;have adH:Hid (∀W',bH (fun k=>k=P) W1 W'->Env W'):=fun W' k=>hEW.ext (bH.out b1 k (fun i e=>by rw[e,<-hP];exact b1.size));have Uh:=aa (CW _ hS2 (by omega) (fun W' k=>adH.out W' (bH.trans ((bH.refl _ _).alloc _) k)) (fun y hy=>by have:=HX.out y hy;omega));clear hs hty b1 hS2 hEW
  gi_wp2_with fail
  refine⟨trivial,(CallsIn.inRound l2 (callsIn_wide.2 Uh.out)).mono ?_⟩;rintro e W3 ⟨n,b3,rfl,s3,k3,Jl,he3⟩;have L6:=aa s3;have HK3:Hid (bH (fun k=>k=P) W1 W3):=bH.trans ((bH.refl _ _).alloc _) k3;have HD0:Hid (∀d',bM d'=true->ws=cz d'->b3=false/\n=d'.az/\([]:List aQ)=d'.steps.take 0):=fun d' hd he=>by
   have hds:=jy hd
   have:=Jl d'.az.toNat (by omega) (by rw[he];rfl)
   exact⟨this.2,by omega,by simp⟩
  clear s3 k3 Jl he3 Uh;obtain⟨B,hB⟩:∃B,W3.heap.size=B:=⟨_,rfl⟩;have HBQ:=aa hB
  gi_wp2_with fail
  gi_loopw [] (fun wr=>bH (fun k=>k=P) W1 wr/\Hid (∃(b':Bool) (rem:List (List UInt8)) (steps:List aQ) (ov:Value),Scan P wr rem b'/\wr.heap[B]? =some (.cells #[.int .i64 n,ov] 78 (0,0))/\Row 71 3 aj P wr ov steps/\(∀d',bM d'=true->ws=cz d'->b'=false/\n=d'.az/\steps=d'.steps.take steps.length)/\rem=ws.drop (1+steps.length)/\steps.length<=ws.length)) (fun wr=>RS wr P)
  case atStart=>
   refine⟨HK3.out.alloc _,b3,ws.tail,[],.slice none 0 0,L6.out.ext ((Ext.refl _).alloc _),?_,Row.nil,HD0.out,?_,Nat.zero_le _⟩
   ·rw[<-HBQ.out];exact heap_alloc_new W3 _
   ·rw[<-List.drop_one];rfl
  case round=>
   obtain⟨hb,HJ⟩:=hrel;obtain⟨b',rem,steps,ov,hsc,hbx,hrow,hinv,VW,hol⟩:=HJ.out;obtain⟨A,c,c0,c1,fz,_⟩:=hsc.cells;have f1:=fz 1;obtain⟨A5,c5,rfl,_⟩:=id hrow.cell.1;have B0:wr.cell? ⟨B,0,none⟩=some (.int .i64 n):=by simp[World.cell?,hbx]
   have B1:wr.cell? ⟨B,1,none⟩=some (.slice A5 steps.length c5):=by simp[World.cell?,hbx]
   have Bf:wr.frozen? ⟨B,1,none⟩=false:=by simp[World.frozen?,hbx]
   have QX:=aa hinv;have Ut:=aa hsc;have Ih:=aa hbx;have nV:=aa hrow;have Ll:=aa VW;have hcap:=hrow.cap _ _ _ rfl;clear HJ hsc hbx hrow hinv VW fz;have hPW:W.heap.size<=P:=by rw[<-HP.out];exact HB1.out.size
   have aec:=HI.out.2.2.2.1.lt;have hKW:bH (fun q=>q=P) W wr:=bH.trans (.aT HB1.out) hb;have Vy:=aa hKW
   cases b' with
   | true=>
     have r0:=jL HI.out.2.1 hKW (by omega);have r1:=jL HI.out.2.2.1 hKW (by omega);have cr0:=r0.cell;have fr0:=r0.frozen;have cr1:=r1.cell;have fr1:=r1.frozen;have HR:=aa (And.intro r0 r1);clear B0 B1 Bf hb hKW r0 r1
     gi_wp2
     have kx:bH (fun q=>q=w.heap.size∨q=w.heap.size+1) W ((wr.setCell ⟨w.heap.size,0,none⟩ (.slice none 0 0)).setCell ⟨w.heap.size+1,0,none⟩ (.bool false)):=
      (((bH.refl _ _).more Vy.out (fun i e=>.inr (by omega))).setCell (.inl (.inl rfl)) _).setCell (.inl (.inr rfl)) _
     refine⟨xM kx (fun q e=>?_),bH.out HI.out.1 kx (fun q e=>by omega),?_,?_,fun p' hp he=>?_⟩
     ·rcases e with rfl|rfl
      ·exact⟨_,gF HI.out.2.1⟩
      ·exact⟨_,gF HI.out.2.2.1⟩
     ·exact jf (HR.out.1.set _) (by simp) _
     ·exact(jf HR.out.2 (by simp) _).set _
     ·obtain⟨_,d,hd,hx⟩:=H7 he;have hdk:=dz hp (List.mem_of_getElem? hd)
      have:=(QX.out d hdk (by rw[<-IG.out];simp only at hx;rw[hx,mE hdk])).1
      cases this
   | false=>
     cases rem with
     | nil=>
       have hlb:P<=B:=by rw[<-HBQ.out];exact Nat.le_of_lt (by obtain⟨_,_,h⟩:=L6.out.tb;exact(Array.getElem?_eq_some_iff.1 h).1)
       have E8:Ext W (wr.setCell ⟨B,1,none⟩ (.slice A5 steps.length steps.length)):=(bH.out (Ext.refl W) Vy.out (fun i e=>by rw[e];exact hPW)).setCell (by simp only;omega) _;have Vv:=heap_set Ih.out (.slice A5 steps.length steps.length) (i:=1);obtain⟨W8,hW8⟩:∃W8,wr.setCell ⟨B,1,none⟩ (.slice A5 steps.length steps.length)=W8:=⟨_,rfl⟩;have YC:Row 71 3 aj P W8 (.slice A5 steps.length c5) steps:=by rw[<-hW8];exact dM nV.out (bH.setCell (X:=fun k=>k=B) (bH.refl _ _) (.inl rfl) _) (fun k hk=>TB.ne (TB.dm nV.out hk) ⟨_,_,Ih.out⟩ (by decide))
       rw[hW8]at E8 Vv;have s8:aF 3 aj W8 (.slice A5 steps.length steps.length) steps:=by obtain⟨_,_,e,hc⟩:=YC.cell.1;cases e;exact⟨_,_,rfl,hc⟩
       have t8:iY 71 W8 (.slice A5 steps.length steps.length):=fun ad n' c' e hn=>by injection e with e1 e2 _;obtain⟨g',cap,e3,_⟩:=mK YC (by omega);injection e3 with e3 _ _;rw[e3]at e1;injection e1 with e1;subst e1;exact TB.dm YC (by rw[e3];rfl)
       have hds:Hid (yY (pre++[(⟨x,hxl⟩:Rw)]) (ds++[(⟨n,steps⟩:eH)])):=fun p' hp' he=>by
        obtain⟨e1,d,hd,hx⟩:=H7 he;have e2:=HI.out.2.2.2.2.2.2.1 p' hp' e1;have hdk:=dz hp' (List.mem_of_getElem? hd);have hwd:ws=cz d:=by rw[<-IG.out];simp only at hx;rw[hx,mE hdk]
        obtain⟨_,q1,q2⟩:=QX.out d hdk hwd;have q3:=congrArg List.length Ll.out;rw[List.length_drop,hwd]at q3;simp[cz]at q3;have hde:(⟨n,steps⟩:eH)=d:=by cases d;simp only at q1 q2 q3;rw[q1,q2,List.take_of_length_le (by omega)]
        rw[List.length_append,List.length_singleton,ah hd,<-e2,hde]
       have hT:=HI.out.2.2.2.1;have h4:=aL hT E8;have h5:=HI.out.2.2.2.2.1.away (bH.aT (X:=fun _=>False) E8) (fun _ h=>h.elim);obtain⟨rs,hl,hr,hi⟩:=h5;have hdl:ds.length<=1048576:=by
        have:=FI l
        have:=HL.out.1
        have h6:=HI.out.2.2.2.2.2.1;rw[h6]
        have:pre.length<(dS l).length:=hlen
        omega
       obtain⟨v',w9,hrun,hp⟩:=iP wr.heap.size (by rw[<-hW8];simp) Tryz.underlying54 Dv rfl (by omega) hr (Ext.refl _) ⟨n,.slice A5 steps.length steps.length⟩ (fun j=>by rcases j with _|j<;>rfl) #[.int .i64 n,.slice A5 steps.length steps.length] rfl (by have:=h4.lt;omega) (by omega) (by omega)
       obtain⟨A9,cc9,hv9,_⟩:=id hp.1.cell.1;obtain⟨n9,hn9⟩:∃k,(rs++[(⟨n,.slice A5 steps.length steps.length⟩:NA)]).length=k:=⟨_,rfl⟩;rw[hn9]at hv9;subst hv9;have K9:=iR hr hp (HI.out.1.trans E8) (by omega);have SV:∀{T:TypeId} {q:Nat},TB T W8 q->T≠78->¬(Value.slice Av ds.length cv).ownBlock=some q:=fun hq hT e=>TB.ne (TB.dm hr e) hq hT.symm rfl;have h49:=jL h4 K9 (SV (gF h4) (by decide));have KX:bH (fun q=>q=w.heap.size+1+1+1∨(Value.slice Av ds.length cv).ownBlock=some q) W8 (w9.setCell ⟨w.heap.size+1+1+1,0,none⟩ (.slice A9 n9 cc9)):=(K9.wide (fun _ e=>.inr e)).setCell (.inl (.inl rfl)) _;have hq8:∀{T:TypeId} {q:Nat},TB T W8 q->T≠78->q≠w.heap.size+1+1+1->TB T (w9.setCell ⟨w.heap.size+1+1+1,0,none⟩ (.slice A9 n9 cc9)) q:=fun hq hT hne=>hq.frX KX (fun e=>e.elim hne (SV hq hT));have i1:Vs w W8:=⟨HI.out.2.2.2.2.2.2.2.1.frX (bH.aT (X:=fun _=>False) E8) id,HI.out.2.2.2.2.2.2.2.2.1.frX (bH.aT (X:=fun _=>False) E8) id,HI.out.2.2.2.2.2.2.2.2.2.frX (bH.aT (X:=fun _=>False) E8) id⟩;have hlow:∀q,(q=w.heap.size+1+1+1∨(Value.slice Av ds.length cv).ownBlock=some q)->w.heap.size+1+1<=q:=fun q e=>e.elim (by omega) (fun e=>(iU hr e).1);have HIT:Hid (Vs w (w9.setCell ⟨w.heap.size+1+1+1,0,none⟩ (.slice A9 n9 cc9))):=⟨hq8 i1.1 (by decide) (by omega),hq8 i1.2.1 (by decide) (by omega),hq8 i1.2.2 (by decide) (by omega)⟩;have HPI:Hid (N9 w (pre++[(⟨x,hxl⟩:Rw)]) (w9.setCell ⟨w.heap.size+1+1+1,0,none⟩ (.slice A9 n9 cc9))):=by refine⟨bH.out (HI.out.1.trans E8) KX (fun q e=>by have:=hlow q e;omega),jL (aL HI.out.2.1 E8) KX (fun e=>by have:=hlow _ e;omega),jL (aL HI.out.2.2.1 E8) KX (fun e=>by have:=hlow _ e;omega),(.slice A9 n9 cc9),ds++[⟨n,steps⟩],h49.set _,?_,by simp[HI.out.2.2.2.2.2.1],hds.out⟩;have hpb:=xg.pushed (r:=⟨n,.slice A5 steps.length steps.length⟩) (d:=⟨n,steps⟩) hl hi hr hp.1 K9 ⟨rfl,s8,t8,by simp only;omega⟩;exact hpb.frX (bH.setCell (X:=fun k=>k=w.heap.size+1+1+1) (bH.refl _ _) (.inl rfl) _) (fun q hq _ e=>TB.ne hq (gF h49) (by decide) e) (fun q hq e=>TB.ne hq (gF h49) (by decide) e)
       have KW:bH (fun q=>q=w.heap.size+1+1+1∨(Value.slice Av ds.length cv).ownBlock=some q) W (w9.setCell ⟨w.heap.size+1+1+1,0,none⟩ (.slice A9 n9 cc9)):=bH.trans (bH.aT E8) KX;have HKF:Hid (KeepsFrom W0.heap.size W (w9.setCell ⟨w.heap.size+1+1+1,0,none⟩ (.slice A9 n9 cc9))):=xM KW (fun q e=>e.elim (fun e=>⟨_,e▸gF hT⟩) (fun e=>by obtain⟨_,_,hr0,_⟩:=HI.out.2.2.2.2.1;exact⟨_,TB.dm hr0 e⟩))
       have HKA:Hid (vT w.heap.size (w.heap.size+1+1+1+1) (w.heap.size+1+1+1+1+3) W (w9.setCell ⟨w.heap.size+1+1+1,0,none⟩ (.slice A9 n9 cc9))):=Ph KW (by omega) (by have:=HI.out.2.2.2.2.2.2.2.2.2;obtain⟨_,_,h⟩:=this;have:=(Array.getElem?_eq_some_iff.1 h).1;omega) (fun q e=>by have:=hlow q e;omega) (fun q h1 h2 e=>by
        rcases e with e|e
        ·omega
        ·obtain rfl|rfl|rfl:q=w.heap.size+1+1+1+1∨q=w.heap.size+1+1+1+1+1∨q=w.heap.size+1+1+1+1+2:=by omega
         ·exact SV i1.1 (by decide) e
         ·exact SV i1.2.1 (by decide) e
         ·exact SV i1.2.2 (by decide) e)
       have aU:=aa hrun;have c8:=h4.cell;have c9:=h49.cell;have f9:=h49.frozen;have b80:W8.cell? ⟨B,0,none⟩=some (.int .i64 n):=by simp[World.cell?,Vv]
       have b81:W8.cell? ⟨B,1,none⟩=some (.slice A5 steps.length steps.length):=by simp[World.cell?,Vv]
       have hln:B<W8.heap.size:=(Array.getElem?_eq_some_iff.1 Vv).1;have hcap1:=hcap.1;have hcap2:=hcap.2;have aem:w.heap.size+1+1+1<B:=by omega
       clear hb hKW hlb E8 Vv YC s8 t8 hds hT h4 hl hr hi hrun hp K9 SV h49 KX hq8 i1 hlow KW hdl hcap;have c4:=(jL HI.out.2.2.2.1 Vy.out (by omega)).cell;have hBT:B≠w.heap.size+1+1+1:=Nat.ne_of_gt aem;have hTB:=hBT.symm;clear c8 b80 b81;subst hW8
       gi_wp2_with fail
       refine⟨trivial,(CallsIn.inRound l2 (callsIn_wide.2 (vk A5 steps.length c5 _ hcap1 hcap2))).mono ?_⟩;rintro e w' ⟨rfl,rfl⟩;clear hcap1 hcap2 c0 c1 f1
       gi_wp2_with (gi_at_builtin;refine xz rfl rfl rfl rfl aU.out ?_)
       exact⟨HKF.out,HKA.out,HPI.out,HIT.out⟩
     | cons y r=>
       have hrl:(y :: r).length<=1048577:=by rw[Ll.out,List.length_drop];omega
       have hyw:ws[1+steps.length]? =some y:=by
        have:=congrArg (fun l=>l[0]?) Ll.out
        simp only[List.getElem?_cons_zero,List.getElem?_drop,Nat.add_zero]at this;exact this.symm
       have adX:steps.length+1<=ws.length:=by have:=(List.getElem?_eq_some_iff.1 hyw).1;omega
       have hr2:Hid (r=ws.drop (1+(steps.length+1))):=by
        have:=congrArg List.tail Ll.out
        rw[List.tail_drop]at this;exact this
       have HYW:=aa hyw;have iA:=aa (fun(W:World) (h:Scan P W (y :: r) false)=>K6 W h (by omega));simp only[List.tail_cons]at iA;have HPN:Hid (P≠B):=fun e=>by
        have:=TB.ne Ut.out.tb ⟨_,_,Ih.out⟩ (by decide)
        exact this e
       have NI:=aa Ut.out.left;clear hyw hrl f1;have jl:Hid (∀(W5:World) (kd ky vl:Int) (b5:Bool),Scan P W5 r b5->bH (fun k=>k=P) wr W5->(∀o':aQ,eO o'=true->(y :: r).head? =some (kC o')->(⟨kd,ky,vl⟩:aQ)=o'/\b5=false) ->
        ∃A7 c7 w7,W5.cell? ⟨B,1,none⟩=some (.slice A5 steps.length c5)/\(W5.alloc (.cells #[.int .i64 kd,.int .i64 ky,.int .i64 vl] 71)).cell? ⟨B,1,none⟩=some (.slice A5 steps.length c5) /\
         (Builtin.append_ #[46,46] 46 #[.slice A5 steps.length c5,.slice (some ⟨W5.heap.size,0,none⟩) 1 1]).run Tryz.prog (W5.alloc (.cells #[.int .i64 kd,.int .i64 ky,.int .i64 vl] 71))=.ok (.slice A7 (steps.length+1) c7) w7 /\
         w7.cell? ⟨B,1,none⟩=some (.slice A5 steps.length c5)/\w7.frozen? ⟨B,1,none⟩=false /\
         Scan P (w7.setCell ⟨B,1,none⟩ (.slice A7 (steps.length+1) c7)) r b5/\(w7.setCell ⟨B,1,none⟩ (.slice A7 (steps.length+1) c7)).heap[B]? =some (.cells #[.int .i64 n,.slice A7 (steps.length+1) c7] 78 (0,0)) /\
         Row 71 3 aj P (w7.setCell ⟨B,1,none⟩ (.slice A7 (steps.length+1) c7)) (.slice A7 (steps.length+1) c7) (steps++[(⟨kd,ky,vl⟩:aQ)]) /\
         bH (fun k=>k=P) W1 (w7.setCell ⟨B,1,none⟩ (.slice A7 (steps.length+1) c7))/\(∀d',bM d'=true->ws=cz d'->b5=false/\n=d'.az/\steps++[(⟨kd,ky,vl⟩:aQ)]=d'.steps.take (steps++[(⟨kd,ky,vl⟩:aQ)]).length)):=by
        intro W5 kd ky vl b5 s5 k5 hst;have acK:∀d',bM d'=true->ws=cz d'->b5=false/\n=d'.az/\steps++[(⟨kd,ky,vl⟩:aQ)]=d'.steps.take (steps++[(⟨kd,ky,vl⟩:aQ)]).length:=fun d' hd he=>by obtain⟨_,e1,e2⟩:=QX.out d' hd he;have hy2:=HYW.out;rw[he,show 1+steps.length=steps.length+1 by omega]at hy2;simp only[cz,List.getElem?_cons_succ,List.getElem?_map]at hy2;obtain⟨o',ho',hyo⟩:=Option.map_eq_some_iff.1 hy2;obtain⟨q1,q2⟩:=hst o' (fu hd (List.mem_of_getElem? ho')) (by rw[List.head?_cons,<-hyo]);refine⟨q2,e1,?_⟩;rw[List.length_append,List.length_singleton,ah ho',<-e2,q1]
        have hPB:=HPN.out;have hBP:=hPB.symm;have DJ:=dM nV.out k5 (fun k hk=>TB.ne (TB.dm nV.out hk) Ut.out.tb (by decide));have zZ:P<W5.heap.size:=by obtain⟨_,_,h⟩:=s5.tb;exact(Array.getElem?_eq_some_iff.1 h).1
        obtain⟨v',w7,hrun,hp⟩:=iP W5.heap.size rfl Tryz.underlying46 kG rfl (by omega) DJ (Ext.refl _) ⟨kd,ky,vl⟩ (fun j=>sK _ j) #[.int .i64 kd,.int .i64 ky,.int .i64 vl] rfl (by omega) (by omega) (by omega);have ZP:=iR DJ hp (bH.out (Ext.refl W1) (hb.trans k5) (fun i e=>(by rw[e,HP.out];omega))) (by rw[HP.out];omega);obtain⟨A7,c7,rfl,_⟩:=id hp.1.cell.1;rw[show (steps++[(⟨kd,ky,vl⟩:aQ)]).length=steps.length+1 by simp]at hp hrun;have abq:=k5.heap Ih.out (by simpa using hBP);have D7:=ZP.heap abq (fun e=>TB.ne (TB.dm DJ e) ⟨_,_,abq⟩ (by decide) rfl);have Ze:=s5.far ZP (fun q e=>⟨_,TB.dm DJ e,by decide,by decide⟩);have hBW:P<=B:=by rw[<-HBQ.out];exact Nat.le_of_lt (by obtain⟨_,_,h⟩:=L6.out.tb;exact(Array.getElem?_eq_some_iff.1 h).1)
        have b51:W5.cell? ⟨B,1,none⟩=some (.slice A5 steps.length c5):=by simp[World.cell?,abq]
        refine⟨A7,c7,w7,b51,((Ext.refl _).alloc _).cell b51,hrun,by simp[World.cell?,D7],by simp[World.frozen?,D7],Ze.other ⟨_,_,D7⟩ (by decide) _ _,heap_set D7 _,?_,?_,acK⟩
        ·exact dM hp.1 (bH.setCell (X:=fun k=>k=B) (bH.refl _ _) (.inl rfl) _) (fun k hk=>TB.ne (TB.dm hp.1 hk) ⟨_,_,D7⟩ (by decide))
        ·exact((hb.trans k5).more ZP (fun i e=>.inr (by rw[HP.out];exact(iU DJ e).1))).setCell (.inr (by rw[HP.out];exact hBW)) _
       clear hb hKW
       gi_wp2_with fail
       refine D9 (S:=fun _=>True) (by kernel_rfl) (by kernel_rfl) trivial (fun hHeld=>?_);refine eu 0 (.pointer (some ⟨B,1,none⟩)) rfl (Or.inl ⟨by rfl,fun V _=>by go_simp⟩) trivial ?_ (hQ:=je _ _);try go_frame
       refine eu 2 (.pointer (some ⟨P,0,none⟩)) rfl (Or.inl ⟨by rfl,fun V _=>by go_simp⟩) trivial ?_ (hQ:=je _ _);try go_frame
       refine wpAnyH_ready (rs:=[1,3]) (by kernel_rfl) (by simp) ?_;refine AllReadyH.cons rfl (fun K hK=>?_) (AllReadyH.cons rfl (fun K hK=>?_) AllReadyH.nil)
       ·go_simp;refine hK.out _ _ trivial (fun _=>?_);clear hK K;try go_frame
        refine wpAnyH_ready (rs:=[3]) (by kernel_rfl) (by simp) ?_;refine AllReadyH.cons rfl (fun K hK=>?_) AllReadyH.nil;go_simp
        refine(iA.out wr.drew (show Scan P wr.drew (y :: r) false from Ut.out)).mono ?_
        rintro e W5 ⟨⟨kd,ky,vl⟩,b5,rfl,s5,k5,hst⟩;obtain⟨A7,c7,w7,b51,b52,hrun,g1,gf,q1,q2,q3,q4,q5⟩:=jl.out W5 kd ky vl b5 s5 (bH.trans (bH.aT (Ext.refl wr).drew) k5) hst;have HQ:=aa (And.intro q1 (And.intro q2 (And.intro q3 (And.intro q4 q5))));have aU:=aa hrun;clear s5 k5 hst q1 q2 q3 q4 q5 hrun
        dsimp only[fP]
        refine hK.out _ _ trivial (fun _=>?_);clear hK K;try go_frame
        refine wpAnyH_ready (rs:=[4]) (by kernel_rfl) (by simp) ?_;refine AllReadyH.cons rfl (fun K hK=>?_) AllReadyH.nil;go_simp;refine hK.out _ _ trivial (fun _=>?_);clear hK K;try go_frame
        refine wpAnyH_ready (rs:=[5]) (by kernel_rfl) (by simp) ?_;refine AllReadyH.cons rfl (fun K hK=>?_) AllReadyH.nil;refine aJ (by rfl) (by rfl) (by rfl) (by rfl) aU.out ?_;refine hK.out _ _ trivial (fun _=>?_);clear hK K;try go_frame
        refine wpAnyH_ready (rs:=[6]) (by kernel_rfl) (by simp) ?_;refine AllReadyH.cons rfl (fun K hK=>?_) AllReadyH.nil;go_simp;refine hK.out _ _ trivial (fun _=>?_);clear hK K;try go_frame
        refine wpAnyH_ready (rs:=[7]) (by kernel_rfl) (by simp) ?_;refine AllReadyH.cons rfl (fun K hK=>?_) AllReadyH.nil;go_simp;refine hK.out _ _ trivial (fun _=>?_);clear hK K;try go_frame
        refine wpAnyH_done (by kernel_rfl) ⟨rfl,?_⟩ _;clear jl iA aU;go_roundw;case rel=>refine⟨_,_,_,_,_,_,_,_,_,_,_,_,_,_,_,_,_,_,_,_,⟨HQ.out.2.2.2.1,b5,r,steps++[⟨kd,ky,vl⟩],_,HQ.out.1,HQ.out.2.1,HQ.out.2.2.1,HQ.out.2.2.2.2,by rw[List.length_append];exact hr2.out,by simp;omega⟩,rfl⟩
        case measure=>
         rw[NI.out]
         have:=HQ.out.1.left
         simp only[List.length_cons];omega
       ·go_simp
        refine(iA.out wr.drew (show Scan P wr.drew (y :: r) false from Ut.out)).mono ?_
        rintro e W5 ⟨⟨kd,ky,vl⟩,b5,rfl,s5,k5,hst⟩;obtain⟨A7,c7,w7,b51,b52,hrun,g1,gf,q1,q2,q3,q4,q5⟩:=jl.out W5 kd ky vl b5 s5 (bH.trans (bH.aT (Ext.refl wr).drew) k5) hst;have HQ:=aa (And.intro q1 (And.intro q2 (And.intro q3 (And.intro q4 q5))));have aU:=aa hrun;clear s5 k5 hst q1 q2 q3 q4 q5 hrun
        dsimp only[fP]
        refine hK.out _ _ trivial (fun _=>?_);clear hK K;try go_frame
        refine wpAnyH_ready (rs:=[1,4]) (by kernel_rfl) (by simp) ?_;refine AllReadyH.cons rfl (fun K hK=>?_) (AllReadyH.cons rfl (fun K hK=>?_) AllReadyH.nil)
        ·go_simp;refine hK.out _ _ trivial (fun _=>?_);clear hK K;try go_frame
         refine wpAnyH_ready (rs:=[4]) (by kernel_rfl) (by simp) ?_;refine AllReadyH.cons rfl (fun K hK=>?_) AllReadyH.nil;go_simp;refine hK.out _ _ trivial (fun _=>?_);clear hK K;try go_frame
         refine wpAnyH_ready (rs:=[5]) (by kernel_rfl) (by simp) ?_;refine AllReadyH.cons rfl (fun K hK=>?_) AllReadyH.nil;refine aJ (by rfl) (by rfl) (by rfl) (by rfl) aU.out ?_;refine hK.out _ _ trivial (fun _=>?_);clear hK K;try go_frame
         refine wpAnyH_ready (rs:=[6]) (by kernel_rfl) (by simp) ?_;refine AllReadyH.cons rfl (fun K hK=>?_) AllReadyH.nil;go_simp;refine hK.out _ _ trivial (fun _=>?_);clear hK K;try go_frame
         refine wpAnyH_ready (rs:=[7]) (by kernel_rfl) (by simp) ?_;refine AllReadyH.cons rfl (fun K hK=>?_) AllReadyH.nil;go_simp;refine hK.out _ _ trivial (fun _=>?_);clear hK K;try go_frame
         refine wpAnyH_done (by kernel_rfl) ⟨rfl,?_⟩ _;clear jl iA aU;go_roundw;case rel=>refine⟨_,_,_,_,_,_,_,_,_,_,_,_,_,_,_,_,_,_,_,_,⟨HQ.out.2.2.2.1,b5,r,steps++[⟨kd,ky,vl⟩],_,HQ.out.1,HQ.out.2.1,HQ.out.2.2.1,HQ.out.2.2.2.2,by rw[List.length_append];exact hr2.out,by simp;omega⟩,rfl⟩
         case measure=>
          rw[NI.out]
          have:=HQ.out.1.left
          simp only[List.length_cons];omega
        ·go_simp;refine hK.out _ _ trivial (fun _=>?_);clear hK K;try go_frame
         refine wpAnyH_ready (rs:=[1]) (by kernel_rfl) (by simp) ?_;refine AllReadyH.cons rfl (fun K hK=>?_) AllReadyH.nil;go_simp;refine hK.out _ _ trivial (fun _=>?_);clear hK K;try go_frame
         refine wpAnyH_ready (rs:=[5]) (by kernel_rfl) (by simp) ?_;refine AllReadyH.cons rfl (fun K hK=>?_) AllReadyH.nil;refine aJ (by rfl) (by rfl) (by rfl) (by rfl) aU.out ?_;refine hK.out _ _ trivial (fun _=>?_);clear hK K;try go_frame
         refine wpAnyH_ready (rs:=[6]) (by kernel_rfl) (by simp) ?_;refine AllReadyH.cons rfl (fun K hK=>?_) AllReadyH.nil;go_simp;refine hK.out _ _ trivial (fun _=>?_);clear hK K;try go_frame
         refine wpAnyH_ready (rs:=[7]) (by kernel_rfl) (by simp) ?_;refine AllReadyH.cons rfl (fun K hK=>?_) AllReadyH.nil;go_simp;refine hK.out _ _ trivial (fun _=>?_);clear hK K;try go_frame
         refine wpAnyH_done (by kernel_rfl) ⟨rfl,?_⟩ _;clear jl iA aU;go_roundw;case rel=>refine⟨_,_,_,_,_,_,_,_,_,_,_,_,_,_,_,_,_,_,_,_,⟨HQ.out.2.2.2.1,b5,r,steps++[⟨kd,ky,vl⟩],_,HQ.out.1,HQ.out.2.1,HQ.out.2.2.1,HQ.out.2.2.2.2,by rw[List.length_append];exact hr2.out,by simp;omega⟩,rfl⟩
         case measure=>
          rw[NI.out]
          have:=HQ.out.1.left
          simp only[List.length_cons];omega
 case done=>
  rintro D xs W hD hS ⟨⟨h1,h2,h3,v,ds,h4,h5,h6,h7⟩,-⟩ hK;have hxl:xs.length=(dS l).length:=by rw[<-hS,List.length_map]
  have hsome:∀p',dQ p'=true->jq p'=l->ds=p':=fun p' hp' he=>by
   have hne:p'≠[]:=fun e=>HL.out.2 (by rw[<-he,e];rfl);have hsp:=sQ hp' hne;rw[he]at hsp;have hm':xs.map (·.1)=p'.map dU:=by rw[hS];exact hsp
   have hl':xs.length=p'.length:=by have:=congrArg List.length hm';simpa using this
   have:=h7 p' hp' (by rw[hm',List.take_of_length_le (by simp;omega)])
   rw[this,List.take_of_length_le (by omega)]
  have hlen:ds.length<=2097152:=by
   have:=FI l
   have:=HL.out.1
   omega
  have hst:∀d∈ds,d.steps.length<=2097152:=fun d hd=>by
   obtain⟨rs,e1,_,e3⟩:=h5;obtain⟨i,hi,hid⟩:=List.getElem_of_mem hd
   exact(e3 i (rs[i]'(by omega)) d (List.getElem?_eq_getElem _) (by rw[List.getElem?_eq_getElem hi,hid])).2.2.2
  have hvs:∃A c,v=.slice A ds.length c/\ds.length<=c/\c<=9223372036854775807:=by
   obtain⟨rs,e1,e2,_⟩:=h5;obtain⟨A,c,e3,_⟩:=id e2.cell.1
   have:=e2.cap _ _ _ e3
   rw[e1]at e3 this;exact⟨A,c,e3,this⟩
  obtain⟨Av,cv,rfl,hcap⟩:=hvs;have HV:=aa (pX W h5.pla hlen hst);have HT:=aa (fun W' (k:Ext W W')=>Ja W' (h5.pla.ext k) hlen hst);have c4:=h4.cell;have HH:=aa (And.intro h1 (And.intro h2 (And.intro h3 (And.intro h4 h5))));have HK:=aa hK;clear h1 h2 h3 h4 h5 h6 h7 hst hK hsb bA bB bC bP bS bE bV;by_cases hv:dQ ds=true
  ·have Oe:=HV.out;rw[hv]at Oe;have HT2:=HT.out;rw[hv,if_pos rfl]at HT2;by_cases he:jq ds=l
   ·rw[he,HZ.out]at HT2;have HTQ:=aa HT2;have hyes:Hid (aV l=some ds):=jB.2 ⟨hv,he⟩;clear hv HV HT HT2 hsome he
    gi_wp2_with fail
    refine⟨trivial,(callsIn_wide.2 Oe).mono ?_⟩;rintro e W1 ⟨rfl,b1⟩;have c4:=b1.cell c4
    gi_wp2_with fail
    refine⟨trivial,(callsIn_wide.2 (HTQ.out _ b1)).mono ?_⟩;rintro e W2 ⟨rfl,b12⟩;have b2:Ext W W2:=b1.trans b12;have c4:=b12.cell c4;have k2:=aL HH.out.2.1 b2;have k3:=aL HH.out.2.2.1 b2;have cr0:=k2.cell;have fr0:=k2.frozen;have cr1:=k3.cell;have fr1:=k3.frozen
    gi_wp2_with fail
    refine⟨trivial,(callsIn_wide.2 (Pt Av ds.length cv W2 hcap)).mono ?_⟩;rintro e w' ⟨rfl,rfl⟩
    gi_wp2
    have hK3:=(KeepsOthers.setCell (W2.setCell ⟨w.heap.size,0,none⟩ (.slice Av ds.length ds.length)) ⟨w.heap.size+1,0,none⟩ (.bool true)).same D _ ((KeepsOthers.setCell W2 ⟨w.heap.size,0,none⟩ (.slice Av ds.length ds.length)).same D _ (oL b2 |>.same D _ HK.out rfl) rfl) rfl;refine⟨by simp,.inl ⟨_,_,rfl,run_takeDeferred hK3,?_⟩⟩;have Xz:=cell_kept (jf (k2.set (.slice Av ds.length ds.length)) (a:=⟨w.heap.size+1,0,none⟩) (by simp) (.bool true)).cell (grownBy_putObj' _ D (.deferred none)) (fun r e=>by cases e;exact⟨_,hK3,rfl⟩);have hc6:=cell_kept ((jf k3 (a:=⟨w.heap.size,0,none⟩) (by simp) (.slice Av ds.length ds.length)).set (.bool true)).cell (grownBy_putObj' _ D (.deferred none)) (fun r e=>by cases e;exact⟨_,hK3,rfl⟩);have q1:=HH.out.2.2.2.2.away (bH.aT (X:=fun _=>False) b2) (fun _ h=>h.elim);have q2:=q1.frX (X:=fun q=>q=w.heap.size∨q=w.heap.size+1) (((bH.refl _ _).setCell (p:=⟨w.heap.size,0,none⟩) (.inl (.inl rfl)) (.slice Av ds.length ds.length)).setCell (p:=⟨w.heap.size+1,0,none⟩) (.inl (.inr rfl)) (.bool true)) (fun q hq _ e=>e.elim (TB.ne hq (gF k2) (by decide)) (TB.ne hq (gF k3) (by decide))) (fun q hq e=>e.elim (TB.ne hq (gF k2) (by decide)) (TB.ne hq (gF k3) (by decide)));have q3:=q2.away (pU (grownBy_putObj' _ D (.deferred none))) (fun q e=>.inl ⟨_,(by cases e;exact hK3),rfl⟩);refine⟨.tuple #[.slice Av ds.length ds.length,.bool true],by simp[results,Tryz.f102,go_sem,Xz,hc6],ds,_,by rw[hyes.out];rfl,q3.pla.clip,by rw[hyes.out];rfl,?_⟩;exact Below.trans (((HH.out.1.trans b2).setCell (Nat.le_refl _) _).setCell (by simp) _) (belowK_b (w:=w) (Nat.le_refl _) _ D _ _ (by omega) hK3 rfl rfl)
   ·obtain⟨z2,hz2⟩:∃z2,tx (jq ds)=z2:=⟨_,rfl⟩;rw[hz2]at HT2;have HTQ:=aa HT2;have hq:(z2.toList==z.toList)=false:=by rw[<-hz2,<-HZ.out,eD,eD];simpa using he
    have hno:Hid (aV l=none):=kH fun p' hp' he'=>he (by rw[hsome p' hp' he'];exact he');clear hv HV HT HT2 hsome he hz2
    gi_wp2_with fail
    refine⟨trivial,(callsIn_wide.2 Oe).mono ?_⟩;rintro e W1 ⟨rfl,b1⟩;have c4:=b1.cell c4
    gi_wp2_with fail
    refine⟨trivial,(callsIn_wide.2 (HTQ.out _ b1)).mono ?_⟩;rintro e W2 ⟨rfl,b12⟩;have b2:Ext W W2:=b1.trans b12;have k2:=aL HH.out.2.1 b2;have k3:=aL HH.out.2.2.1 b2;have cr0:=k2.cell;have fr0:=k2.frozen;have cr1:=k3.cell;have fr1:=k3.frozen
    gi_wp2
    have hK3:=(KeepsOthers.setCell (W2.setCell ⟨w.heap.size,0,none⟩ (.slice none 0 0)) ⟨w.heap.size+1,0,none⟩ (.bool false)).same D _ ((KeepsOthers.setCell W2 ⟨w.heap.size,0,none⟩ (.slice none 0 0)).same D _ (oL b2 |>.same D _ HK.out rfl) rfl) rfl;refine⟨by simp,.inl ⟨_,_,rfl,run_takeDeferred hK3,?_⟩⟩;have Xz:=cell_kept (jf (k2.set (.slice none 0 0)) (a:=⟨w.heap.size+1,0,none⟩) (by simp) (.bool false)).cell (grownBy_putObj' _ D (.deferred none)) (fun r e=>by cases e;exact⟨_,hK3,rfl⟩);have hc6:=cell_kept ((jf k3 (a:=⟨w.heap.size,0,none⟩) (by simp) (.slice none 0 0)).set (.bool false)).cell (grownBy_putObj' _ D (.deferred none)) (fun r e=>by cases e;exact⟨_,hK3,rfl⟩);refine⟨.tuple #[.slice none 0 0,.bool false],by simp[results,Tryz.f102,go_sem,Xz,hc6],BI (((HH.out.1.trans b2).setCell (Nat.le_refl _) _).setCell (by simp) _) (by omega) hK3 hno.out⟩
  ·have hv':dQ ds=false:=by simpa using hv
   have hno:Hid (aV l=none):=kH fun p' hp' he=>hv (by rw[hsome p' hp' he];exact hp');have Oe:=HV.out;rw[hv']at Oe;clear hv hv' HV hsome
   gi_wp2_with fail
   refine⟨trivial,(callsIn_wide.2 Oe).mono ?_⟩;rintro e W2 ⟨rfl,b2⟩;have k2:=aL HH.out.2.1 b2;have k3:=aL HH.out.2.2.1 b2;have cr0:=k2.cell;have fr0:=k2.frozen;have cr1:=k3.cell;have fr1:=k3.frozen
   gi_wp2
   refine⟨trivial,?_⟩
   gi_wp2
   have hK3:=(KeepsOthers.setCell (W2.setCell ⟨w.heap.size,0,none⟩ (.slice none 0 0)) ⟨w.heap.size+1,0,none⟩ (.bool false)).same D _ ((KeepsOthers.setCell W2 ⟨w.heap.size,0,none⟩ (.slice none 0 0)).same D _ (oL b2 |>.same D _ HK.out rfl) rfl) rfl;refine⟨by simp,.inl ⟨_,_,rfl,run_takeDeferred hK3,?_⟩⟩;have Xz:=cell_kept (jf (k2.set (.slice none 0 0)) (a:=⟨w.heap.size+1,0,none⟩) (by simp) (.bool false)).cell (grownBy_putObj' _ D (.deferred none)) (fun r e=>by cases e;exact⟨_,hK3,rfl⟩);have hc6:=cell_kept ((jf k3 (a:=⟨w.heap.size,0,none⟩) (by simp) (.slice none 0 0)).set (.bool false)).cell (grownBy_putObj' _ D (.deferred none)) (fun r e=>by cases e;exact⟨_,hK3,rfl⟩);refine⟨.tuple #[.slice none 0 0,.bool false],by simp[results,Tryz.f102,go_sem,Xz,hc6],BI (((HH.out.1.trans b2).setCell (Nat.le_refl _) _).setCell (by simp) _) (by omega) hK3 hno.out⟩
 case stop=>
  rintro D pre W hD ⟨r,hr⟩ ⟨h1,h2,h3,h4⟩ hK;have hno:Hid (aV l=none):=kH fun p' hp' he=>by have hne:p'≠[]:=fun e=>HL.out.2 (by rw[<-he,e];rfl);have hsp:=sQ hp' hne;rw[he]at hsp;refine h4 p' hp' ?_;rw[<-hsp];show _=(dS l).take pre.length;rw[show dS l=pre.map (·.1)++r from hr,List.take_left' (by simp)]
  gi_wp2
  have hK3:=hK;refine⟨by simp,.inl ⟨_,_,rfl,run_takeDeferred hK3,?_⟩⟩;have Xz:=cell_kept h2.cell (grownBy_putObj' _ D (.deferred none)) (fun r e=>by cases e;exact⟨_,hK3,rfl⟩);have hc6:=cell_kept h3.cell (grownBy_putObj' _ D (.deferred none)) (fun r e=>by cases e;exact⟨_,hK3,rfl⟩);refine⟨.tuple #[.slice none 0 0,.bool false],by simp[results,Tryz.f102,go_sem,Xz,hc6],BI h1 (by omega) hK3 hno.out⟩
end
def tK(base:Nat)(W:World)(v:Value)(ds:List eH):Prop:=∃rs:List NA,rs.length=ds.length/\Row 78 2 fM base W v rs /\
 (∀(i:Nat) r d,rs[i]? =some r->ds[i]? =some d->r.az=d.az/\Row 71 3 aj base W r.iF d.steps) /\
 ∀(i j:Nat) r s g,rs[i]? =some r->rs[j]? =some s->r.iF.ownBlock=some g->s.iF.ownBlock=some g->i=j
theorem tK.nil(W:World):tK W.heap.size (W.alloc (.cells #[] 78)) (.slice (some ⟨W.heap.size,0,none⟩) 0 0) []:=
 ⟨[],rfl,bT (w:=W),fun i r d h=>by simp at h,fun i j r s g h=>by simp at h⟩
theorem tK.ext{base:Nat}{W W':World}{v:Value}{ds:List eH}(h:tK base W v ds)(hb:Ext W W'):tK base W' v ds:=by obtain⟨rs,h1,h2,h3,h4⟩:=h;exact⟨rs,h1,h2.ext hb,fun i r d hr hd=>⟨(h3 i r d hr hd).1,(h3 i r d hr hd).2.ext hb⟩,h4⟩
theorem tK.pla{base:Nat}{W:World}{v:Value}{ds:List eH}(h:tK base W v ds):xZ W v ds:=by obtain⟨rs,h1,h2,h3,_⟩:=h;exact⟨rs,h1,h2.cell.1,fun i r d hr hd=>⟨(h3 i r d hr hd).1,(h3 i r d hr hd).2.cell.1⟩⟩
theorem tK.slice{base:Nat}{W:World}{v:Value}{ds:List eH}(h:tK base W v ds):∃A c,v=.slice A ds.length c:=by obtain⟨rs,h1,h2,_⟩:=h;obtain⟨A,c,e,_⟩:=id h2.cell.1;exact⟨A,c,by rw[<-h1];exact e⟩
theorem tK.push{base:Nat}{w W0 w1:World}{v:Value}{ds:List eH}(q:Nat)(hq:w1.heap.size=q)(H:tK base W0 v ds)(hb0:Ext w W0)(hwb:w.heap.size<=base)(hx:Ext W0 w1)(s:Int)(hbs:base<=W0.heap.size)(hn:ds.length+1<=4194304) :
 ∃A n c w',(Builtin.append_ #[54,54] 54 #[v,.slice (some ⟨q,0,none⟩) 1 1]).run Tryz.prog (w1.alloc (.cells #[.int .i64 s,.slice none 0 0] 78))=.ok (.slice A n c) w'/\tK base w' (.slice A n c) (ds++[⟨s,[]⟩])/\Ext w w'/\(∀q,TB 9 W0 q->w'.heap[q]? =W0.heap[q]?):=by
 subst hq;obtain⟨rs,h1,h2,h3,h4⟩:=H.ext hx;obtain⟨v',w',hrun,hrow,hg⟩:=rG (P:=Tryz.prog) (t:=54) (ty:=54) (e:=78) Tryz.underlying54 Dv rfl (by omega) h2 (⟨s,.slice none 0 0⟩:NA) (fun j=>by cases j<;>rfl) (by omega) (by omega) (Nat.le_trans hbs hx.size)
 have hcs:(aI 2 fM (⟨s,.slice none 0 0⟩:NA)).toArray=#[.int .i64 s,.slice none 0 0]:=rfl;rw[hcs]at hrun hg;have hfx:bH (fun q=>v.ownBlock=some q) w1 w':=(bH.aT ((Ext.refl w1).alloc _)).grown hg (fun i e=>.inl e);obtain⟨A,n,c,rfl⟩:=iK hrow;refine⟨A,n,c,w',hrun,⟨rs++[⟨s,.slice none 0 0⟩],by simp[h1],hrow,fun i r d hr hd=>?_,fun i j r t g hr ht eg eg'=>?_⟩,?_⟩
 ·rw[List.getElem?_append]at hr hd;split at hr
  ·rename_i hi;rw[if_pos (by omega)]at hd;obtain⟨a,b⟩:=h3 i r d hr hd;exact⟨a,dM b hfx (fun k e e'=>TB.ne (TB.dm h2 e') (TB.dm b e) (by decide) rfl)⟩
  ·rename_i hi;rw[if_neg (by omega)]at hd;rw[h1]at hr
   cases hj:i-ds.length with
   | zero=>rw[hj]at hr hd;simp at hr hd;subst hr hd;exact⟨rfl,Row.nil⟩
   | succ m=>rw[hj]at hr;simp at hr
 ·have key:∀(i:Nat) (r:NA),(rs++[⟨s,.slice none 0 0⟩])[i]? =some r->r.iF.ownBlock=some g->rs[i]? =some r:=fun i r hr eg=>by
   rw[List.getElem?_append]at hr;split at hr
   ·exact hr
   ·cases hj:i-rs.length with
    | zero=>rw[hj]at hr;simp at hr;subst hr;cases eg
    | succ m=>rw[hj]at hr;simp at hr
  exact h4 i j r t g (key i r hr eg) (key j t ht eg') eg eg'
 ·refine⟨bH.out (hb0.trans hx) hfx (fun i e=>Nat.le_trans hwb (h2.block i e)),fun q hq=>?_⟩;obtain⟨cs,fr,hg0⟩:=hq;have hlt:=(Array.getElem?_eq_some_iff.1 hg0).1;have hg1:w1.heap[q]? = _:=(Below.block hx q hlt).trans hg0;rw[hfx.heap hg1 (fun e=>TB.ne (TB.dm h2 e) ⟨cs,fr,hg1⟩ (by decide) rfl),hg0]
theorem Jj{x x':NA}(h0:fM x' 0=fM x 0):∀(xs:List NA) (k:Nat),xs[k]? =some x->(xs.flatMap (aI 2 fM)).set (k*2+1) (fM x' 1)=(xs.set k x').flatMap (aI 2 fM)
 | [],k,h=>by simp at h
 | y :: ys,0,h=>by simp at h;subst h;show ([fM y 0,fM y 1]++ys.flatMap (aI 2 fM)).set 1 (fM x' 1)=[fM x' 0,fM x' 1]++ys.flatMap (aI 2 fM);rw[h0];rfl
 | y :: ys,k+1,h=>by have ih:=Jj h0 ys k (by simpa using h);show ([fM y 0,fM y 1]++ys.flatMap (aI 2 fM)).set ((k+1)*2+1) (fM x' 1)=[fM y 0,fM y 1]++(ys.set k x').flatMap (aI 2 fM);rw[<-ih,show (k+1)*2+1=(k*2+1)+2 by omega];rfl
theorem Row.aba{e:TypeId}{base:Nat}{w:World}{v:Value}{xs:List NA}(h:Row e 2 fM base w v xs){k:Nat}{x:NA}(hk:xs[k]? =some x)(u:Value) :
 ∃g c,v=.slice (some ⟨g,0,none⟩) xs.length c/\v.ownBlock=some g/\base<=g/\(∀i,w.frozen? ⟨g,i,none⟩=false)/\w.cell? ⟨g,k*2+1,none⟩=some x.iF/\Row e 2 fM base (w.setCell ⟨g,k*2+1,none⟩ u) v (xs.set k ⟨x.az,u⟩):=by
 have hlt:=(List.getElem?_eq_some_iff.1 hk).1;have hcell:=h.cell.1;obtain⟨h1,h2⟩:=h;rcases h2 with ⟨rfl,h0⟩|⟨g,cap,cur,rfl,hb,hg,hnc,hcm,hcs,ht⟩
 ·omega
 ·refine⟨g,cap,rfl,by simp[Value.ownBlock],hb,fun i=>by simp[World.frozen?,hg],?_,?_⟩
  ·obtain⟨A',c',e,hc⟩:=hcell;obtain⟨b,off,e',hlt',hcc⟩:=hc (by omega);obtain rfl:=(Value.slice.inj e).1;obtain⟨rfl,rfl⟩:b=g/\off=0:=by simpa using e'.symm
   have:=hcc k x hk 1 (by omega)
   simpa[fM] using this
  ·have hlen:(xs.flatMap (aI 2 fM)).length=xs.length*2:=ji xs;refine⟨?_,.inr ⟨g,cap,cur.setIfInBounds (k*2+1) u,?_,hb,?_,?_,hcm,?_,?_⟩⟩
   ·rw[ji]
   ·rw[List.length_set]
   ·simp[World.setCell,Array.getElem?_modify,hg]
   ·rw[List.length_set];exact hnc
   ·rw[Array.size_setIfInBounds];exact hcs
   ·rw[<-Jj (x:=x) (x':=⟨x.az,u⟩) rfl xs k hk,Array.toList_setIfInBounds,List.length_set,<-ht,List.take_set];rfl
theorem tK.last{base:Nat}{W:World}{v:Value}{ds:List eH}(H:tK base W v ds){s:Int}{os:List aQ}{ds0:List eH}(hd:ds=ds0++[⟨s,os⟩]) :
 ∃g c sv,v=.slice (some ⟨g,0,none⟩) ds.length c/\W.cell? ⟨g,ds0.length*2+1,none⟩=some sv/\Row 71 3 aj base W sv os:=by
 obtain⟨rs,h1,h2,h3,h4⟩:=H;subst hd;obtain⟨r,hr⟩:=af (show ds0.length<rs.length by rw[h1];simp);obtain⟨g,c,hv,_,_,_,hc,_⟩:=Row.aba h2 hr .nilFunc;exact⟨g,c,r.iF,by rw[<-h1];exact hv,hc,(h3 _ r ⟨s,os⟩ hr (by simp)).2⟩
theorem IU{base:Nat}{w:World}{v:Value}{xs:List aQ}(H:Row 71 3 aj base w v xs)(o:aQ)(hb:base<=w.heap.size)(hn:xs.length+1<=4194304) :
 ∃v' w',(Builtin.append_ #[46,46] 46 #[v,.slice (some ⟨w.heap.size,0,none⟩) 1 1]).run Tryz.prog (w.alloc (.cells #[.int .i64 o.kind,.int .i64 o.key,.int .i64 o.value] 71))=.ok v' w'/\Row 71 3 aj base w' v' (xs++[o]) /\
  (w.alloc (.cells #[.int .i64 o.kind,.int .i64 o.key,.int .i64 o.value] 71)).grownBy w' v.ownBlock/\(v'.ownBlock=v.ownBlock∨∃k,v'.ownBlock=some k/\w.heap.size<=k):=by
 obtain⟨i,hi,hz,hs,hby⟩:=oq kG;have hl:(aI 3 aj o).length=1*3:=by simp[aI]
 have hcs:(aI 3 aj o).toArray=#[.int .i64 o.kind,.int .i64 o.key,.int .i64 o.value]:=rfl;rw[<-hcs];obtain⟨v',w',hrun,hown,hg,_,hat⟩:=run_append_own_at (P:=Tryz.prog) (w:=w.alloc (.cells (aI 3 aj o).toArray 71)) base 46 46 71 i _ 3 _ Tryz.underlying46 hi hz hs hby rfl (by omega) v xs.length _ (World.ownsRow.alloc H _)
  ⟨w.heap.size,0,none⟩ 1 1 (aI 3 aj o) hl
  (fun j u hu=>by
   have hadd:(⟨w.heap.size,0,none⟩:Addr).add j=⟨w.heap.size,j,none⟩:=by unfold Addr.add;split<;>simp_all
   rw[hadd,cell_of_row _ _ j _ _ (0,0) (heap_alloc_new w _)];simpa using hu)
  (fun u hu=>by simp[aI]at hu;obtain⟨j,_,rfl⟩:=hu;exact sK o j) (by simp only[maxLen];omega)
  (by omega) (by simp;omega)
 refine⟨v',w',hrun,?_,hg,?_⟩
 ·unfold Row;rw[List.flatMap_append,List.length_append];simpa using hown
 ·rcases hat with h|h
  ·exact .inl h
  ·exact .inr ⟨_,h,by simp⟩
theorem tK.grow{base:Nat}{w W0 w1:World}{v sv:Value}{ds0:List eH}{s:Int}{os:List aQ}{g cc:Nat}(q:Nat)(hq:w1.heap.size=q)(H:tK base W0 v (ds0++[⟨s,os⟩]))(hv:v=.slice (some ⟨g,0,none⟩) (ds0++[(⟨s,os⟩:eH)]).length cc)(hsv:W0.cell? ⟨g,ds0.length*2+1,none⟩=some sv)(hb0:Ext w W0)(hwb:w.heap.size<=base)(hx:Ext W0 w1)(o:aQ)(hbs:base<=W0.heap.size)(hn:os.length+1<=4194304) :
 ∃A n c w',(Builtin.append_ #[46,46] 46 #[sv,.slice (some ⟨q,0,none⟩) 1 1]).run Tryz.prog (w1.alloc (.cells #[.int .i64 o.kind,.int .i64 o.key,.int .i64 o.value] 71))=.ok (.slice A n c) w' /\
  w'.cell? ⟨g,ds0.length*2+1,none⟩=some sv/\w'.frozen? ⟨g,ds0.length*2+1,none⟩=false /\
  tK base (w'.setCell ⟨g,ds0.length*2+1,none⟩ (.slice A n c)) v (ds0++[⟨s,os++[o]⟩])/\Ext w (w'.setCell ⟨g,ds0.length*2+1,none⟩ (.slice A n c))/\(∀q,TB 9 W0 q->(w'.setCell ⟨g,ds0.length*2+1,none⟩ (.slice A n c)).heap[q]? =W0.heap[q]?):=by
 subst hq;have hsv:=hx.cell hsv;obtain⟨rs,h1,h2,h3,h4⟩:=H.ext hx;obtain⟨r,hr⟩:=af (show ds0.length<rs.length by rw[h1];simp);obtain⟨g',c',hv',hob,hbg,_,hc,_⟩:=Row.aba h2 hr .nilFunc;rw[hv]at hv';obtain rfl:g=g':=by simpa using (Value.slice.inj hv').1
 rw[hsv]at hc;obtain rfl:sv=r.iF:=Option.some.inj hc;obtain⟨hrs,hro⟩:=h3 _ r ⟨s,os⟩ hr (by simp);simp only at hrs hro;obtain⟨v',w',hrun,hrow,hg,hat⟩:=IU hro o (Nat.le_trans hbs hx.size) hn;have hfx:bH (fun q=>r.iF.ownBlock=some q) w1 w':=(bH.aT ((Ext.refl w1).alloc _)).grown hg (fun i e=>.inl e);have hdb:TB 78 w1 g:=TB.dm h2 hob;have hng:¬r.iF.ownBlock=some g:=fun e=>TB.ne hdb (TB.dm hro e) (by decide) rfl;have h2':Row 78 2 fM base w' v rs:=dM h2 hfx (fun k e e'=>TB.ne (TB.dm h2 e) (TB.dm hro e') (by decide) rfl);obtain⟨A,n,c,rfl⟩:=iK hrow;obtain⟨g2,c2,hv2,_,_,hfz,hc2,hset⟩:=Row.aba h2' hr (.slice A n c);rw[hv]at hv2;obtain rfl:g=g2:=by simpa using (Value.slice.inj hv2).1
 have hlr:=(List.getElem?_eq_some_iff.1 hr).1;have adl:TB 78 w' g:=hdb.frX hfx hng;have hgs:bH (fun q=>q=g) w' (w'.setCell ⟨g,ds0.length*2+1,none⟩ (.slice A n c)):=bH.setCell (X:=fun q=>q=g) (bH.refl _ _) (p:=⟨g,ds0.length*2+1,none⟩) (.inl rfl) _;have hop:∀(u:Value) (xs:List aQ),Row 71 3 aj base w' u xs->Row 71 3 aj base (w'.setCell ⟨g,ds0.length*2+1,none⟩ (.slice A n c)) u xs:=fun u xs h=>
  dM h hgs (fun k e e'=>TB.ne (TB.dm h e) (e'▸adl) (by decide) rfl)
 have key:∀(i:Nat) (y:NA),(rs.set ds0.length ⟨r.az,.slice A n c⟩)[i]? =some y->(i=ds0.length/\y=⟨r.az,.slice A n c⟩)∨(i≠ds0.length/\rs[i]? =some y):=fun i y hy=>by
  by_cases e:ds0.length=i
  ·subst e;rw[List.getElem?_set_self hlr]at hy;exact .inl ⟨rfl,(Option.some.inj hy).symm⟩
  ·rw[List.getElem?_set_ne e]at hy;exact .inr ⟨fun e'=>e e'.symm,hy⟩
 have hnew:∀(j:Nat) (z:NA) (k:Nat),j≠ds0.length->rs[j]? =some z->(Value.slice A n c).ownBlock=some k->z.iF.ownBlock=some k->False:=fun j z k hj hz ek ez=>by
  rcases hat with h|⟨m,h,hm⟩
  ·rw[h]at ek;exact hj (h4 j _ z r k hz hr ez ek)
  ·rw[h]at ek;obtain rfl:=Option.some.inj ek;obtain⟨d,hd⟩:=af (show j<(ds0++[(⟨s,os⟩:eH)]).length by rw[<-h1];exact(List.getElem?_eq_some_iff.1 hz).1);obtain⟨cs,fr,hb⟩:=TB.dm (h3 j z d hz hd).2 ez
   have:=(Array.getElem?_eq_some_iff.1 hb).1
   omega
 refine⟨A,n,c,w',hrun,hc2,hfz _,⟨rs.set ds0.length ⟨r.az,.slice A n c⟩,by rw[List.length_set,h1];simp,hset,fun i y d hy hd=>?_,fun i j y z k hy hz ey ez=>?_⟩,?_⟩
 ·rcases key i y hy with ⟨rfl,rfl⟩|⟨hne,hy⟩
  ·rw[List.getElem?_append_right (Nat.le_refl _),Nat.sub_self]at hd;simp at hd;subst hd;exact⟨hrs,hop _ _ hrow⟩
  ·have hil:=(List.getElem?_eq_some_iff.1 hy).1;rw[h1]at hil;simp at hil;rw[List.getElem?_append_left (by omega)]at hd;obtain⟨a,b⟩:=h3 i y d hy (by rw[List.getElem?_append_left (by omega)];exact hd);exact⟨a,hop _ _ (dM b hfx (fun k e e'=>hne (h4 i _ y r k hy hr e e')))⟩
 ·rcases key i y hy with ⟨rfl,rfl⟩|⟨hne,hy⟩<;>rcases key j z hz with ⟨rfl,rfl⟩|⟨hne',hz⟩
  ·rfl
  ·exact(hnew j z k hne' hz ey ez).elim
  ·exact(hnew i y k hne hy ez ey).elim
  ·exact h4 i j y z k hy hz ey ez
 ·refine⟨(bH.out (hb0.trans hx) hfx (fun i e=>Nat.le_trans hwb (hro.block i e))).setCell (p:=⟨g,ds0.length*2+1,none⟩) (Nat.le_trans hwb hbg) _,fun q hq=>?_⟩;obtain⟨cs,fr,hg0⟩:=hq;have hlt:=(Array.getElem?_eq_some_iff.1 hg0).1;have hg1:w1.heap[q]? = _:=(Below.block hx q hlt).trans hg0;have hg2:=hfx.heap hg1 (fun e=>TB.ne (TB.dm hro e) ⟨cs,fr,hg1⟩ (by decide) rfl);rw[hgs.heap hg2 (fun e=>TB.ne adl ⟨cs,fr,e▸hg2⟩ (by decide) rfl),hg0]
def Iq(X:Nat->Prop)(v:Value):Prop:=∀a n c,v=.slice (some a) n c->0<n->¬X a.block
theorem Iq.own{X:Nat->Prop}{lo:Nat}{w:World}{v:Value}(h:Own lo w v)(hX:∀q,X q->q<lo):Iq X v:=fun a n c hv hn hx=>by have:=(h a n c hv hn).1;have:=hX _ hx;omega
def jJ(X:Nat->Prop)(w:World)(v:Value)(h:List aA):Prop:=∃rs,jI w v rs h/\Iq X v/\∀(i:Nat) r,rs[i]? =some r->Iq X r.aY
theorem jJ.his{X:Nat->Prop}{w:World}{v:Value}{h:List aA}(H:jJ X w v h):gL w v h:=let ⟨rs,H,_⟩:=H;⟨rs,H⟩
theorem jJ.ext{X:Nat->Prop}{w w':World}{v:Value}{h:List aA}(H:jJ X w v h)(hb:Ext w w'):jJ X w' v h:=let ⟨rs,H,a,b⟩:=H;⟨rs,H.ext hb,a,b⟩
theorem jJ.slice{X:Nat->Prop}{w:World}{v:Value}{h:List aA}(H:jJ X w v h):∃A c,v=.slice A h.length c:=H.his.slice
theorem jJ.KH{X:Nat->Prop}{lo:Nat}{w:World}{v:Value}{rs:List iX}{h:List aA}(H:jI w v rs h)(O:iZ lo w v rs)(hX:∀q,X q->q<lo):jJ X w v h:=⟨rs,H,Iq.own O.1 hX,fun i r hr=>Iq.own (O.2.1 i r hr).1 hX⟩
def qI(X:Nat->Prop)(w:World)(r:List aA × List UInt8)(e:Ending)(w':World):Prop:=∃v,e=.returned (.tuple #[v,.string (tx r.2)])/\jJ X w' v r.1/\Ext w w'
theorem Km{X:Nat->Prop}{v u:Value}{h g:List aA}(ok:Bool)(w:World)(H:jJ X w v h)(G:jJ X w u g)(hlen:g.length<=2097152)(hM:ok=true->∀t∈g,t.ops.length<=2097152) :
 Calls Tryz.prog 75 #[v,u,.bool ok] w (qI X w (if (ok&&aC g)=true then (g,Nl) else (h,Df))):=by
 obtain⟨A,c,rfl⟩:=H.slice;obtain⟨A',c',rfl⟩:=G.slice;have HH:=aa (And.intro H G)
 cases ok with
 | false=>
   clear H G hlen hM;go_enter Tryz.func75,Tryz.ntmps75;go_wp2;go_returns;exact⟨_,rfl,HH.out.1,Ext.refl _⟩
 | true=>
   have HV:=aa (bN w G.his hlen (hM rfl));clear H G hlen hM
   cases hk:aC g with
   | false=>
     rw[hk]at HV;go_enter Tryz.func75,Tryz.ntmps75;go_wp2_with (go_at_call 34;refine HV.out.mono ?_;rintro e w1 ⟨rfl,b1⟩)
     go_returns;exact⟨_,rfl,HH.out.1.ext b1,b1⟩
   | true=>
     rw[hk]at HV;go_enter Tryz.func75,Tryz.ntmps75;go_wp2_with (go_at_call 34;refine HV.out.mono ?_;rintro e w1 ⟨rfl,b1⟩)
     go_returns;exact⟨_,rfl,HH.out.2.ext b1,b1⟩
theorem LA{v:Value}{xs:List iX}(w:World)(h:aF 3 iT w v xs)(hlen:xs.length<=2097152)(h1:∀x∈xs,∃A n c,x.aY=.slice A n c) :
 Calls Tryz.prog 101 #[v] w fun e w'=>∃v',e=.returned v'/\Row 48 3 iT w.heap.size w' v' xs/\Ext w w':=by
 obtain⟨A,c,rfl,h'⟩:=id h;have heq:=fun W=>Lib.run_eql_slice_nil (P:=Tryz.prog) W 24 48 A xs.length c 0 0 Tryz.underlying24
 cases A with
 | none=>
   have hx:xs=[]:=by
    rcases Nat.eq_zero_or_pos xs.length with h0|h0
    ·exact List.eq_nil_of_length_eq_zero h0
    ·obtain⟨b,off,hA,_⟩:=h' h0;cases hA
   subst hx;clear h h';simp only[List.length_nil]at heq ⊢;go_enter Tryz.func101,Tryz.ntmps101;go_wp2;go_returns;exact⟨_,rfl,Row.nil,Ext.refl _⟩
 | some ad=>
   have hrow:Row 48 3 iT w.heap.size (w.alloc (.cells #[] 48)) (.slice (some ⟨w.heap.size,0,none⟩) 0 0) ([]:List iX):=World.ownsRow_made w #[] 0 (Nat.le_refl _) (by simp[maxLen]) (by simp);obtain⟨v',w',hrun,hrow',hgrow⟩:=kL (P:=Tryz.prog) (t:=24) (ty:=24) (e:=48) Tryz.underlying24 mq rfl (by omega) hrow (h.ext ((Ext.refl w).alloc (.cells #[] 48))) (fun x hx j=>EC x (h1 x hx) j) (by simp;omega) (by omega) (by simp);have VX:=aa hrow';have hg:=aa (Ext.grown ((Ext.refl w).alloc (.cells #[] 48)) hgrow (fun k hk=>by simp[Value.ownBlock]at hk;omega));have UX:=aa hrun;clear h h' hrow hrow' hgrow hrun;go_enter Tryz.func101,Tryz.ntmps101;go_wp2_with (at_builtin;refine wpList_append_run rfl rfl rfl rfl UX.out ?_)
   go_returns;exact⟨_,rfl,by simpa using VX.out,hg.out⟩
theorem Xm{X:Nat->Prop}{base:Nat}{w w':World}{v':Value}{rs:List iX}{h:List aA}{r:iX}{t:aA}(hl:rs.length=h.length)(H:∀(i:Nat) r t,rs[i]? =some r->h[i]? =some t->Bu w r t)(hu:Bu w r t)
 (hrow:Row 48 3 iT base w' v' (rs++[r])) (hb:∀r t,Bu w r t->Bu w' r t) (hX:∀q,X q->q<base) (hf:∀(i:Nat) r,rs[i]? =some r->Iq X r.aY) (hr:Iq X r.aY):jJ X w' v' (h++[t]):=by
 refine⟨rs++[r],⟨by simp[hl],hrow.cell.1,fun i y s hy hs=>?_⟩,fun a n c hv hn e=>?_,fun i y hy=>?_⟩
 rotate_left
 ·obtain⟨g,cap,e2,_⟩:=mK hrow (by simp);rw[hv]at e2;injection e2 with e2 _ _;injection e2 with e2
  have:=(iU hrow (k:=g) (by rw[hv,e2];rfl)).1
  rw[e2]at e
  have:=hX _ e
  simp only at this;omega
 ·rw[List.getElem?_append]at hy;split at hy
  ·exact hf i y hy
  ·have hi0:i-rs.length=0:=by
    have:=(List.getElem?_eq_some_iff.1 hy).1
    simp at this;omega
   rw[hi0]at hy;simp at hy;subst hy;exact hr
 rw[List.getElem?_append]at hy hs;split at hy
 ·rename_i hi;rw[if_pos (by rw[<-hl];exact hi)]at hs;exact hb _ _ (H i y s hy hs)
 ·rename_i hi;rw[if_neg (by rw[<-hl];exact hi)]at hs;have hi0:i-rs.length=0:=by
   have:=(List.getElem?_eq_some_iff.1 hy).1
   simp at this;omega
  rw[hi0]at hy;rw[<-hl,hi0]at hs;simp at hy hs;subst hy hs;exact hb _ _ hu
theorem Rq(h:List aA)(r:List UInt8)(t:aA)(ht:∀t',dh r=some t'->t=t'):Bc h r=if ((dh r).isSome&&aC (h++[t]))=true then (h++[t],Nl) else (h,Df):=by
 unfold Bc
 cases e:dh r with
 | none=>simp
 | some t'=>rw[<-ht t' e];simp
theorem Qt(W:World)(s:Int)(ov:Value)(d:Bool):aF 3 iT (W.alloc (.cells #[.int .i64 s,ov,.bool d] 48)) (.slice (some ⟨W.heap.size,0,none⟩) 1 1) [⟨s,ov,d⟩]:=by
 refine⟨_,_,rfl,fun _=>⟨_,0,rfl,by simp,fun i x hx j hj=>?_⟩⟩;obtain rfl:i=0:=by have:=(List.getElem?_eq_some_iff.1 hx).1;simp at this;omega
 simp at hx;subst hx;refine av ?_
 match j,hj with
 | 0,_=>rfl
 | 1,_=>rfl
 | 2,_=>rfl
theorem Row.slice'{α:Type}{e:TypeId}{m:Nat}{enc:α->Nat->Value}{base:Nat}{W:World}{v:Value}{xs:List α}(h:Row e m enc base W v xs):∃A n c,v=.slice A n c:=by obtain⟨A,c,e,_⟩:=h.cell.1;exact⟨_,_,_,e⟩
theorem Yw{X:Nat->Prop}{v:Value}{h:List aA}(l:List UInt8)(w:World)(hX:∀q,X q->q<w.heap.size)(H:jJ X w v h)(hok:aC h=true)(hE:Env w)(hl:l.length<=1048576)(hne:l≠[]) :
 Calls Tryz.prog 70 #[v,.string (tx l)] w (qI X w (Bc h l)):=by
 obtain⟨A,c,rfl⟩:=H.slice;have Ig:=aa (KL l w hE hl hne);have HH:=aa H;have dO:=aa hok;obtain⟨z,hz⟩:∃z,tx l=z:=⟨_,rfl⟩;rw[hz]at Ig ⊢;clear H hok hE hl hne hz;go_enter Tryz.func70,Tryz.ntmps70;go_wp2_with fail
 refine Ig.out.mono ?_;rintro e W1 ⟨t,ov,rfl,hso,hcap,ht,hfr,b1⟩;obtain⟨A3,c3,rfl,_⟩:=id hso;obtain⟨ok,BO⟩:∃ok,(dh l).isSome=ok:=⟨_,rfl⟩;have HP:Hid (Bc h l=if (ok&&aC (h++[t]))=true then (h++[t],Nl) else (h,Df)):=by rw[<-BO];exact Rq h l t ht
 have HM:Hid (ok=true->t.ops.length<=2097152):=fun e=>by
  obtain⟨t',ht'⟩:=Option.isSome_iff_exists.1 (BO.trans e)
  have:=bU (mU.1 ht').1
  rw[ht t' ht'];omega
 rw[BO];unfold ng;have HB1:=aa b1;obtain⟨rs,⟨hlr,hs,hi⟩,hoff,ZB⟩:=HH.out.ext b1;have hlen:rs.length<=6:=by rw[hlr];exact aM dO.out
 have hops:∀x∈rs,∃A n c,x.aY=.slice A n c:=fun x hx=>by obtain⟨i,hi1,hi2⟩:=List.getElem_of_mem hx;obtain⟨A,c,e,_⟩:=(hi i x (h[i]'(by omega)) (by rw[List.getElem?_eq_getElem hi1,hi2]) (List.getElem?_eq_getElem _)).2.2.1;exact⟨A,_,c,e⟩
 have HCL:Hid (∀W,Ext W1 W->Calls Tryz.prog 101 #[.slice A h.length c] W fun e w'=>∃v',e=.returned v'/\Row 48 3 iT W1.heap.size w' v' rs/\Ext W1 w'/\Ext W w'):=fun W k=>by
  refine(LA W (hs.ext k) (by omega) hops).mono ?_
  rintro e w' ⟨v',rfl,hr,b⟩;exact⟨v',rfl,hr.low k.size,k.trans b,b⟩
 have jl:Hid (∀(W5:World) (v':Value) (q:Nat),Row 48 3 iT W1.heap.size W5 v' rs->aF 3 iT W5 (.slice (some ⟨q,0,none⟩) 1 1) [⟨t.az,.slice A3 t.ops.length c3,t.done⟩]->Ext W1 W5 ->
  ∃A7 n7 c7 w7,(Builtin.append_ #[24,24] 24 #[v',.slice (some ⟨q,0,none⟩) 1 1]).run Tryz.prog W5=.ok (.slice A7 n7 c7) w7 /\
   Calls Tryz.prog 75 #[.slice A h.length c,.slice A7 n7 c7,.bool ok] w7 (qI X w7 (Bc h l))/\Ext W1 w7):=fun W5 v' q hr ho hx=>by
  obtain⟨v7,w7,hrun,hrow,hg⟩:=kL (P:=Tryz.prog) (t:=24) (ty:=24) (e:=48) Tryz.underlying24 mq rfl (by omega) hr ho (fun x hx j=>EC x (by simp at hx;subst hx;exact⟨_,_,_,rfl⟩) j) (by simp;omega) (by omega) hx.size;have b7:Ext W1 w7:=Ext.grown hx hg (fun k hk=>(iU hr hk).1);obtain⟨A7,n7,c7,rfl⟩:=Row.slice' hrow;refine⟨A7,n7,c7,w7,hrun,?_,b7⟩;rw[HP.out];have aeh:=hso.ext b7;refine Km ok w7 ((HH.out.ext b1).ext b7) ?_ (by have:=aM dO.out;simp;omega) (fun e s hs=>?_)
  ·exact Xm (w:=w7) hlr (fun i r s h1 h2=>(hi i r s h1 h2).ext b7) ⟨rfl,rfl,aeh,hcap⟩ hrow (fun _ _ h=>h) (fun q hq=>Nat.lt_of_lt_of_le (hX q hq) HB1.out.size) ZB (fun a n c hv hn hx=>by have:=hfr a n c hv hn;have:=hX _ hx;omega)
  ·rcases List.mem_append.1 hs with hs|hs
   ·exact aD dO.out s hs
   ·rw[List.mem_singleton]at hs;subst hs;exact HM.out e
 clear hso hcap ht BO b1 hs hi hops hfr hoff ZB hX;obtain⟨B,hB⟩:∃B,W1.heap.size=B:=⟨_,rfl⟩;have c0:(W1.alloc (.cells #[.int .i64 t.az,.slice A3 t.ops.length c3,.bool t.done] 48)).drew.cell? ⟨B,0,none⟩=some (.int .i64 t.az):=by rw[<-hB];exact av rfl
 have c1:(W1.alloc (.cells #[.int .i64 t.az,.slice A3 t.ops.length c3,.bool t.done] 48)).drew.cell? ⟨B,1,none⟩=some (.slice A3 t.ops.length c3):=by rw[<-hB];exact av rfl
 have c2:(W1.alloc (.cells #[.int .i64 t.az,.slice A3 t.ops.length c3,.bool t.done] 48)).drew.cell? ⟨B,2,none⟩=some (.bool t.done):=by rw[<-hB];exact av rfl
 go_wp2_with fail
 refine wp_region_held_drew (S:=fun _=>True) (by kernel_rfl) trivial (fun hHeld=>?_);refine eu 0 (.slice A h.length c) rfl (Or.inl ⟨by rfl,fun V _=>by go_simp⟩) trivial ?_;try go_frame
 refine eu 1 (.slice A h.length c) rfl (Or.inl ⟨by rfl,fun V _=>by go_simp⟩) trivial ?_;try go_frame
 refine eu 6 (.bool ok) rfl (Or.inl ⟨by rfl,fun V _=>by go_simp⟩) trivial ?_;try go_frame
 refine wpAnyH_ready (rs:=[2,3]) (by kernel_rfl) (by simp) ?_;refine AllReadyH.cons rfl (fun K hK=>?_) (AllReadyH.cons rfl (fun K hK=>?_) AllReadyH.nil)
 ·go_simp
  refine(HCL.out (W1.alloc (.cells #[.int .i64 t.az,.slice A3 t.ops.length c3,.bool t.done] 48)).drew ((Ext.refl _).alloc _).drew).mono ?_
  rintro e W3 ⟨v',rfl,hrow,b3,b13⟩;obtain⟨An,nn,cn,rfl⟩:=hrow.slice';have c0:=b13.cell c0;have c1:=b13.cell c1;have c2:=b13.cell c2;refine hK.out _ _ trivial (fun _=>?_);clear hK K;try go_frame
  refine wpAnyH_ready (rs:=[3]) (by kernel_rfl) (by simp) ?_;refine AllReadyH.cons rfl (fun K hK=>?_) AllReadyH.nil;go_simp;refine hK.out _ _ trivial (fun _=>?_);clear hK K;try go_frame
  refine wpAnyH_ready (rs:=[4]) (by kernel_rfl) (by simp) ?_;refine AllReadyH.cons rfl (fun K hK=>?_) AllReadyH.nil;go_simp;refine hK.out _ _ trivial (fun _=>?_);clear hK K;try go_frame
  have Du:=Row.ext hrow ((Ext.refl W3).alloc (.cells #[.int .i64 t.az,.slice A3 t.ops.length c3,.bool t.done] 48));have YX:=Qt W3 t.az (.slice A3 t.ops.length c3) t.done;have Oi:=b3.alloc (.cells #[.int .i64 t.az,.slice A3 t.ops.length c3,.bool t.done] 48);obtain⟨A7,n7,c7,w7,hrun,hyes,b7⟩:=jl.out _ _ _ Du YX Oi;have Em:=aa hyes;have aU:=aa hrun;have Ec:=aa b7;clear hrun hyes b7 Du YX Oi;refine wpAnyH_ready (rs:=[5]) (by kernel_rfl) (by simp) ?_;refine AllReadyH.cons rfl (fun K hK=>?_) AllReadyH.nil;refine aJ (by rfl) (by rfl) (by rfl) (by rfl) aU.out ?_;refine hK.out _ _ trivial (fun _=>?_);clear hK K;try go_frame
  refine wpAnyH_ready (rs:=[7]) (by kernel_rfl) (by simp) ?_;refine AllReadyH.cons rfl (fun K hK=>?_) AllReadyH.nil;go_simp;refine Em.out.mono ?_;rintro e w8 ⟨vv,rfl,hh,b8⟩;have ZZ:=aa (And.intro hh b8);clear hh b8;refine hK.out _ _ trivial (fun _=>?_);clear hK K;try go_frame
  refine eu 8 vv rfl (Or.inl ⟨by rfl,fun V _=>by go_simp⟩) trivial ?_;try go_frame
  refine eu 9 (.string (tx (Bc h l).2)) rfl (Or.inl ⟨by rfl,fun V _=>by go_simp⟩) trivial ?_;try go_frame
  refine wpAnyH_ready (rs:=[10]) (by kernel_rfl) (by simp) ?_;refine AllReadyH.cons rfl (fun K hK=>?_) AllReadyH.nil;go_simp;refine hK.out _ _ trivial (fun _=>?_);clear hK K;try go_frame
  refine wpAnyH_ready (rs:=[11]) (by kernel_rfl) (by simp) ?_;refine AllReadyH.cons rfl (fun K hK=>?_) AllReadyH.nil;go_simp;refine hK.out _ _ trivial (fun _=>?_);clear hK K;try go_frame
  refine wpAnyH_done (by kernel_rfl) ?_ _;go_wp2;go_returns;exact⟨_,rfl,ZZ.out.1,(HB1.out.trans Ec.out).trans ZZ.out.2⟩
 ·go_simp;refine hK.out _ _ trivial (fun _=>?_);clear hK K;try go_frame
  refine wpAnyH_ready (rs:=[2,4]) (by kernel_rfl) (by simp) ?_;refine AllReadyH.cons rfl (fun K hK=>?_) (AllReadyH.cons rfl (fun K hK=>?_) AllReadyH.nil)
  ·go_simp
   refine(HCL.out (W1.alloc (.cells #[.int .i64 t.az,.slice A3 t.ops.length c3,.bool t.done] 48)).drew ((Ext.refl _).alloc _).drew).mono ?_
   rintro e W3 ⟨v',rfl,hrow,b3,b13⟩;obtain⟨An,nn,cn,rfl⟩:=hrow.slice';refine hK.out _ _ trivial (fun _=>?_);clear hK K;try go_frame
   refine wpAnyH_ready (rs:=[4]) (by kernel_rfl) (by simp) ?_;refine AllReadyH.cons rfl (fun K hK=>?_) AllReadyH.nil;go_simp;refine hK.out _ _ trivial (fun _=>?_);clear hK K;try go_frame
   have Du:=Row.ext hrow ((Ext.refl W3).alloc (.cells #[.int .i64 t.az,.slice A3 t.ops.length c3,.bool t.done] 48));have YX:=Qt W3 t.az (.slice A3 t.ops.length c3) t.done;have Oi:=b3.alloc (.cells #[.int .i64 t.az,.slice A3 t.ops.length c3,.bool t.done] 48);obtain⟨A7,n7,c7,w7,hrun,hyes,b7⟩:=jl.out _ _ _ Du YX Oi;have Em:=aa hyes;have aU:=aa hrun;have Ec:=aa b7;clear hrun hyes b7 Du YX Oi;refine wpAnyH_ready (rs:=[5]) (by kernel_rfl) (by simp) ?_;refine AllReadyH.cons rfl (fun K hK=>?_) AllReadyH.nil;refine aJ (by rfl) (by rfl) (by rfl) (by rfl) aU.out ?_;refine hK.out _ _ trivial (fun _=>?_);clear hK K;try go_frame
   refine wpAnyH_ready (rs:=[7]) (by kernel_rfl) (by simp) ?_;refine AllReadyH.cons rfl (fun K hK=>?_) AllReadyH.nil;go_simp;refine Em.out.mono ?_;rintro e w8 ⟨vv,rfl,hh,b8⟩;have ZZ:=aa (And.intro hh b8);clear hh b8;refine hK.out _ _ trivial (fun _=>?_);clear hK K;try go_frame
   refine eu 8 vv rfl (Or.inl ⟨by rfl,fun V _=>by go_simp⟩) trivial ?_;try go_frame
   refine eu 9 (.string (tx (Bc h l).2)) rfl (Or.inl ⟨by rfl,fun V _=>by go_simp⟩) trivial ?_;try go_frame
   refine wpAnyH_ready (rs:=[10]) (by kernel_rfl) (by simp) ?_;refine AllReadyH.cons rfl (fun K hK=>?_) AllReadyH.nil;go_simp;refine hK.out _ _ trivial (fun _=>?_);clear hK K;try go_frame
   refine wpAnyH_ready (rs:=[11]) (by kernel_rfl) (by simp) ?_;refine AllReadyH.cons rfl (fun K hK=>?_) AllReadyH.nil;go_simp;refine hK.out _ _ trivial (fun _=>?_);clear hK K;try go_frame
   refine wpAnyH_done (by kernel_rfl) ?_ _;go_wp2;go_returns;exact⟨_,rfl,ZZ.out.1,(HB1.out.trans Ec.out).trans ZZ.out.2⟩
  ·go_simp;refine hK.out _ _ trivial (fun _=>?_);clear hK K;try go_frame
   refine wpAnyH_ready (rs:=[2]) (by kernel_rfl) (by simp) ?_;refine AllReadyH.cons rfl (fun K hK=>?_) AllReadyH.nil;go_simp
   refine(HCL.out ((W1.alloc (.cells #[.int .i64 t.az,.slice A3 t.ops.length c3,.bool t.done] 48)).drew.alloc (.cells #[.int .i64 t.az,.slice A3 t.ops.length c3,.bool t.done] 48)) (((Ext.refl _).alloc _).drew.alloc _)).mono ?_
   rintro e W3 ⟨v',rfl,hrow,b3,b13⟩;obtain⟨An,nn,cn,rfl⟩:=hrow.slice';refine hK.out _ _ trivial (fun _=>?_);clear hK K;try go_frame
   have Du:=hrow;have YX:=aF.ext (Qt (W1.alloc (.cells #[.int .i64 t.az,.slice A3 t.ops.length c3,.bool t.done] 48)).drew t.az (.slice A3 t.ops.length c3) t.done) b13;rw[show (W1.alloc (.cells #[.int .i64 t.az,.slice A3 t.ops.length c3,.bool t.done] 48)).drew.heap.size=B+1 by rw[<-hB];simp]at YX;have Oi:=b3;obtain⟨A7,n7,c7,w7,hrun,hyes,b7⟩:=jl.out _ _ _ Du YX Oi;have Em:=aa hyes;have aU:=aa hrun;have Ec:=aa b7;clear hrun hyes b7 Du YX Oi;refine wpAnyH_ready (rs:=[5]) (by kernel_rfl) (by simp) ?_;refine AllReadyH.cons rfl (fun K hK=>?_) AllReadyH.nil;refine aJ (by rfl) (by rfl) (by rfl) (by rfl) aU.out ?_;refine hK.out _ _ trivial (fun _=>?_);clear hK K;try go_frame
   refine wpAnyH_ready (rs:=[7]) (by kernel_rfl) (by simp) ?_;refine AllReadyH.cons rfl (fun K hK=>?_) AllReadyH.nil;go_simp;refine Em.out.mono ?_;rintro e w8 ⟨vv,rfl,hh,b8⟩;have ZZ:=aa (And.intro hh b8);clear hh b8;refine hK.out _ _ trivial (fun _=>?_);clear hK K;try go_frame
   refine eu 8 vv rfl (Or.inl ⟨by rfl,fun V _=>by go_simp⟩) trivial ?_;try go_frame
   refine eu 9 (.string (tx (Bc h l).2)) rfl (Or.inl ⟨by rfl,fun V _=>by go_simp⟩) trivial ?_;try go_frame
   refine wpAnyH_ready (rs:=[10]) (by kernel_rfl) (by simp) ?_;refine AllReadyH.cons rfl (fun K hK=>?_) AllReadyH.nil;go_simp;refine hK.out _ _ trivial (fun _=>?_);clear hK K;try go_frame
   refine wpAnyH_ready (rs:=[11]) (by kernel_rfl) (by simp) ?_;refine AllReadyH.cons rfl (fun K hK=>?_) AllReadyH.nil;go_simp;refine hK.out _ _ trivial (fun _=>?_);clear hK K;try go_frame
   refine wpAnyH_done (by kernel_rfl) ?_ _;go_wp2;go_returns;exact⟨_,rfl,ZZ.out.1,(HB1.out.trans Ec.out).trans ZZ.out.2⟩
def AL(n i j:Nat):List Nat:=(List.replicate i (List.range n)).flatten++List.range j
theorem Ti(n i j:Nat):AL n i j++[j]=AL n i (j+1):=by unfold AL;rw[List.append_assoc,List.range_succ]
theorem Vm(n i:Nat):AL n i n=AL n (i+1) 0:=by unfold AL;rw[List.replicate_succ'];simp
theorem U5(n:Nat):AL n 4 0=dF n:=by simp[AL,dF,List.replicate]
theorem Xb(n i j:Nat):(AL n i j).length=i*n+j:=by simp[AL]
theorem Zx{w:World}{v:Value}{xs:List Nat}(h:aF 1 (one gT) w v xs):rM encI w v (xs.map fun n:Nat=>(n:Int)):=by
 obtain⟨A,c,rfl,hc⟩:=h;refine⟨A,c,by rw[List.length_map],fun hn=>?_⟩;rw[List.length_map]at hn;obtain⟨b,off,hA,hlt,hx⟩:=hc hn;refine⟨b,off,hA,hlt,fun i x hi=>?_⟩;rw[List.getElem?_map]at hi;obtain⟨y,hy,rfl⟩:=Option.map_eq_some_iff.1 hi
 have:=hx i y hy 0 (by omega)
 simpa[one,gT,encI] using this
theorem Zd(h:List aA)(r:List UInt8):Fb h r=if ((aV r).isSome&&aC (AY ((aV r).getD [])))=true then (AY ((aV r).getD []),Nl) else (h,Df):=by
 unfold Fb
 cases e:aV r with
 | none=>simp
 | some p=>simp[Ey (jB.1 e).1]
theorem YL{X:Nat->Prop}{v:Value}{h:List aA}(l:List UInt8)(w:World)(hX:∀q,X q->q<w.heap.size)(H:jJ X w v h)(hok:aC h=true)(hE:Env w)(hl:l.length<=1048576)(hne:l≠[]) :
 Calls Tryz.prog 71 #[v,.string (tx l)] w (qI X w (Fb h l)):=by
 obtain⟨A,c,rfl⟩:=H.slice;have Ig:=aa (IW l w hE hl hne);have HH:=aa H;have dO:=aa hok;have ZG:=aa hX;obtain⟨z,hz⟩:∃z,tx l=z:=⟨_,rfl⟩;rw[hz]at Ig ⊢;clear H hok hE hl hne hz hX;go_enter Tryz.func71,Tryz.ntmps71;go_wp2_with fail
 refine Ig.out.mono ?_;rintro e W1 ⟨p,pv,rfl,hpl,hpe,b1⟩;obtain⟨ok,BO⟩:∃ok,(aV l).isSome=ok:=⟨_,rfl⟩;have HD:Hid (Fb h l=if (ok&&aC (AY p))=true then (AY p,Nl) else (h,Df)):=by rw[<-BO,hpe];exact Zd h l
 have hpk:dQ p=true:=by
  rw[hpe]
  cases e:aV l with
  | none=>rfl
  | some p'=>exact(jB.1 e).1
 rw[BO];have R6:=jF hpk;have HB1:=aa b1;have FO:=aa hpl;have HPK:=aa hpk;obtain⟨Ap,cp,rfl⟩:=hpl.slice;have Z7:Row 3 1 (one gT) W1.heap.size (W1.alloc (.cells #[] 3)) (.slice (some ⟨W1.heap.size,0,none⟩) 0 0) ([]:List Nat):=bT;have xw:=aa Z7;have hn0:(0:Int)<=(p.length:Int):=by omega
 have hn4:(p.length:Int)<=4:=by omega
 clear hpe BO hpk b1 hpl Z7;go_wp2_with fail
 go_loopw [8,16] (fun s i wr=>Ext W1 wr/\∃k:Nat,k<=4/\i=.int .i64 k/\Hid (Row 3 1 (one gT) W1.heap.size wr s (AL p.length k 0))) (fun _ i _=>4-(intOf i).toNat)
 case atStart=>exact⟨(Ext.refl _).alloc _,0,by omega,by rfl,xw.out⟩
 case round=>
  obtain⟨hb,k,hk,rfl,HR⟩:=hrel;obtain⟨A5,c5,rfl,_⟩:=id HR.out.cell.1;by_cases hlt:k<4
  ·have Vq:=aa hlt;have hd:decide ((k:Int)<4)=true:=decide_eq_true (by omega);clear hlt;go_wp2_with fail
   clear hd;go_loopw [8,20] (fun s j wr=>Ext W1 wr/\∃q:Nat,q<=p.length/\j=.int .i64 q/\Hid (Row 3 1 (one gT) W1.heap.size wr s (AL p.length k q))) (fun _ j _=>p.length-(intOf j).toNat)
   case atStart=>exact⟨hb,0,by omega,by rfl,HR.out⟩
   case round=>
    obtain⟨hb,q,hq,rfl,HR⟩:=hrel;obtain⟨A5,c5,rfl,_⟩:=id HR.out.cell.1;by_cases Kh:q<p.length
    ·obtain⟨v',w7,hrun,hp⟩:=LJ wr.heap.size rfl HR.out (Ext.refl _) q hb.size (by have h1:=Xb p.length k q;have h2:k*p.length<=4*4:=Nat.mul_le_mul (by omega) (by omega);omega);obtain⟨A7,c7,rfl,_⟩:=id hp.1.cell.1;have aU:=aa hrun;have HP:=aa hp;clear hrun hp;go_wp2_with (at_builtin;refine wpList_append_run rfl rfl rfl rfl aU.out ?_)
     go_roundw;case rel=>exact⟨HP.out.2.1 _ hb (Nat.le_refl _),q+1,by omega,by go_num,by rw[<-Ti];have:=HP.out.1;rw[show (AL p.length k q++[q]).length=(AL p.length k q).length+1 by simp]at this;exact this⟩
     case measure=>simp[intOf];omega
    ·obtain rfl:q=p.length:=by omega
     go_wp2;go_roundw;case rel=>exact⟨hb,k+1,by have:=Vq.out;omega,by go_num,by rw[<-Vm];exact HR.out⟩
     case measure=>have:=Vq.out;simp[intOf];omega
  ·obtain rfl:k=4:=by omega
   have Rk:=aa (zO wr (FO.out.ext hb) HPK.out (by rw[<-U5];exact Zx HR.out.cell.1));have HB2:=aa hb;go_wp2_with fail
   refine Rk.out.mono ?_;rintro e W3 ⟨vr,rs,rfl,hr,ho,b3⟩;have hxx:∀q,X q->q<wr.heap.size:=fun q hq=>by have:=HB1.out.size;have:=HB2.out.size;have:=ZG.out q hq;omega
   have hw3:=(HB1.out.trans HB2.out).trans b3;obtain⟨Ar,cr,rfl⟩:=gL.slice (show gL W3 vr (AY p) from ⟨rs,hr⟩);have XB:=Ey HPK.out;have HY:=aa (Km ok W3 (HH.out.ext hw3) (jJ.KH hr ho hxx) (by have:=aM XB;omega) (fun _=>aD XB));rw[<-HD.out]at HY;have HW3:=aa hw3;clear hr ho hxx b3 hw3 XB;go_wp2_with fail
   refine HY.out.mono ?_;rintro e W4 ⟨vv,rfl,hh,b4⟩;go_wp2;go_returns;exact⟨_,rfl,hh,HW3.out.trans b4⟩
theorem JK(l:List UInt8)(w:World):∃cap W1,(convert 9 111 (.string (tx l))).run Tryz.prog w=.ok (.slice (some ⟨w.heap.size,0,none⟩) l.length cap) W1/\Ext w W1/\∀(j:Nat) x,l[j]? =some x->W1.cell? ⟨w.heap.size,j,none⟩=some (.int .u8 (x.toNat:Int)):=by
 refine⟨_,Lib.bytesWorld w 5 (tx l),by rw[<-dH l];exact Lib.run_convert_string_bytes (P:=Tryz.prog) w 9 111 5 (tx l) Tryz.underlying9 Tryz.underlying111 Tryz.underlying5,⟨rfl,rfl,rfl,by rw[Lib.bytesWorld_size];omega,fun k hk=>Lib.bytesWorld_at_old w _ _ k hk⟩,fun j x hj=>?_⟩;have hlt:j<l.length:=(List.getElem?_eq_some_iff.1 hj).1;rw[Lib.bytesWorld_cell w _ _ j (by rw[dH];exact hlt)]
 have:(tx l).data.toList=l:=rfl
 rw[this,List.getD_eq_getElem?_getD,hj];rfl
theorem wrap_small{y:Int}(h1:0<=y)(h2:y<1000):wrap64 y=y:=by unfold wrap64;omega
theorem uB(l:List UInt8)(w:World)(h:l.length=0∨3<=l.length):Calls Tryz.prog 73 #[.string (tx l)] w fun e w'=>e=.returned (.tuple #[.int .i64 (((dD l).getD 0:Nat):Int),.bool (dD l).isSome])/\Ext w w':=by
 have hno:=aa (vC h);have hsz:=dH l;have hin:jR (l.length:Int) 1 2=false:=by
  rw[Bool.eq_false_iff];intro e
  have:=bL.1 e
  omega
 obtain⟨z,hz⟩:∃z,tx l=z:=⟨_,rfl⟩;rw[hz]at hsz ⊢;clear hz h;go_enter Tryz.func73,Tryz.ntmps73;go_wp2_with (go_at_call 105;refine(dN _ _ _ _).mono ?_;rintro e w' ⟨rfl,rfl⟩)
 go_returns;exact⟨by rw[hno.out];rfl,Ext.refl _⟩
theorem DC(a:UInt8)(w:World):Calls Tryz.prog 73 #[.string (tx [a])] w fun e w'=>e=.returned (.tuple #[.int .i64 (((dD [a]).getD 0:Nat):Int),.bool (dD [a]).isSome])/\Ext w w':=by
 obtain⟨cap,W1,hcv,hE,hC⟩:=JK [a] w;rw[show tx [a]=⟨#[a]⟩ from rfl]at hcv ⊢;have hsz:(⟨#[a]⟩:ByteArray).size=1:=rfl;have hin:jR 1 1 2=true:=by decide
 have HC:=aa hC;have HE:=aa hE;clear hC hE;go_enter Tryz.func73,Tryz.ntmps73;go_wp2_with (go_at_call 105;refine(dN _ _ _ _).mono ?_;rintro e w' ⟨rfl,rfl⟩)
 go_loopw [4,24] (fun n i wr=>wr=W1/\∃k:Nat,k<=1/\i=.int .i64 k/\n=.int .i64 ((numOf ([a].take k):Nat):Int)/\Hid (([a].take k).all fC=true/\numOf ([a].take k)<10 ^ k)) (fun _ i _=>1-(intOf i).toNat)
 case atStart=>exact⟨rfl,0,by omega,by rfl,by rfl,rfl,by simp[numOf]⟩
 case round=>
  obtain⟨rfl,k,hk,rfl,rfl,HA⟩:=hrel;by_cases hlt:k<1
  ·obtain⟨x,hx⟩:=af (xs:=[a]) (show k<1 from hlt);have hc:=HC.out k x hx;have HX:=aa hx;have hki:(k:Int)<1:=by omega
   have hk0:(0:Int)<=(k:Int):=by omega
   clear hx;by_cases hd:fC x=true
   ·have hd1:(48:Int)<=(x.toNat:Int)/\(x.toNat:Int)<=57:=by simp only[fC,Bool.and_eq_true,decide_eq_true_eq]at hd;omega
    have HD:=aa hd;obtain⟨d1,d2⟩:=hd1;clear hd;have hn:numOf ([a].take (k+1))=10*numOf ([a].take k)+(x.toNat-48):=by rw[ah HX.out,numOf,List.foldl_append];rfl
    have hb:numOf ([a].take k)<=9:=by
     have h1:=HA.out.2;obtain rfl|rfl:k=0∨k=1:=by omega
     ·exact Nat.le_trans (Nat.le_of_lt h1) (by decide)
     ·omega
    have HN:=aa (And.intro hn hb);clear hn hb;go_wp2;refine⟨⟨trivial,k+1,hlt,by simp,?_,?_,?_⟩,?_⟩
    ·rw[HN.out.1];have h1:=HN.out.2;rw[wrap_small (y:=10*((numOf ([a].take k):Nat):Int)) (by omega) (by omega),wrap_small (by omega) (by omega)];congr 1;omega
    ·rw[ah HX.out,List.all_append,HA.out.1];simp[HD.out]
    ·rw[HN.out.1,Nat.pow_succ];have h1:=HA.out.2;omega
    ·simp[intOf];omega
   ·have kg:Hid (dD [a]=none):=by
     show _ = _;have hall:[a].all fC=false:=by rw[Bool.eq_false_iff];intro h;exact hd (List.all_eq_true.1 h x (List.mem_of_getElem? HX.out))
     simp only[dD,lS,hall,Bool.and_false];rfl
    have hd1:(x.toNat:Int)<48∨57<(x.toNat:Int):=by simp only[fC,Bool.and_eq_true,decide_eq_true_eq]at hd;omega
    clear hd;rcases hd1 with d1|d1
    ·go_wp2;go_returns;exact⟨by rw[kg.out];rfl,HE.out⟩
    ·have d2:¬((x.toNat:Int)<48):=by omega
     go_wp2;go_returns;exact⟨by rw[kg.out];rfl,HE.out⟩
  ·obtain rfl:k=1:=by omega
   go_wp2;go_returns;have hs:dD [a]=some (numOf [a]):=by
    have:=HA.out.1
    rw[List.take_of_length_le (by simp)]at this;rw[dD,if_pos];simp only[lS,this,Bool.and_true];rfl
   refine⟨?_,HE.out⟩;rw[hs];show Ending.returned (.tuple #[.int .i64 ((numOf ([a].take 1):Nat):Int),.bool true]) = _;rw[List.take_of_length_le (by simp)];rfl
theorem D5(a b:UInt8)(w:World):Calls Tryz.prog 73 #[.string (tx [a,b])] w fun e w'=>e=.returned (.tuple #[.int .i64 (((dD [a,b]).getD 0:Nat):Int),.bool (dD [a,b]).isSome])/\Ext w w':=by
 obtain⟨cap,W1,hcv,hE,hC⟩:=JK [a,b] w;rw[show tx [a,b]=⟨#[a,b]⟩ from rfl]at hcv ⊢;have hsz:(⟨#[a,b]⟩:ByteArray).size=2:=rfl;have hin:jR 2 1 2=true:=by decide
 have HC:=aa hC;have HE:=aa hE;clear hC hE;by_cases ha:a=48
 ·subst ha;have hno:Hid (dD [48,b]=none):=by show _ = _;rw[tY,if_neg (by simp)]
  go_enter Tryz.func73,Tryz.ntmps73;go_wp2_with (go_at_call 105;refine(dN _ _ _ _).mono ?_;rintro e w' ⟨rfl,rfl⟩)
  go_returns;exact⟨by rw[hno.out];rfl,Ext.refl _⟩
 ·have h48:((a.toNat:Int)==48)=false:=by
   rw[beq_eq_false_iff_ne];intro e;have e':(a.toNat:Int)=48:=by simpa using e
   exact ha (UInt8.toNat_inj.1 (show a.toNat=(48:UInt8).toNat from Int.ofNat_inj.1 e'))
  have hz0:(⟨#[a,b]⟩:ByteArray)[0]'(by rw[hsz];decide)=a:=rfl;have aes:=aa ha;clear ha;go_enter Tryz.func73,Tryz.ntmps73;go_wp2_with (go_at_call 105;refine(dN _ _ _ _).mono ?_;rintro e w' ⟨rfl,rfl⟩)
  go_loopw [4,24] (fun n i wr=>wr=W1/\∃k:Nat,k<=2/\i=.int .i64 k/\n=.int .i64 ((numOf ([a,b].take k):Nat):Int)/\Hid (([a,b].take k).all fC=true/\numOf ([a,b].take k)<10 ^ k)) (fun _ i _=>2-(intOf i).toNat)
  case atStart=>exact⟨rfl,0,by omega,by rfl,by rfl,rfl,by simp[numOf]⟩
  case round=>
   obtain⟨rfl,k,hk,rfl,rfl,HA⟩:=hrel;by_cases hlt:k<2
   ·obtain⟨x,hx⟩:=af (xs:=[a,b]) (show k<2 from hlt);have hc:=HC.out k x hx;have HX:=aa hx;have hki:(k:Int)<2:=by omega
    have hk0:(0:Int)<=(k:Int):=by omega
    clear hx;by_cases hd:fC x=true
    ·have hd1:(48:Int)<=(x.toNat:Int)/\(x.toNat:Int)<=57:=by simp only[fC,Bool.and_eq_true,decide_eq_true_eq]at hd;omega
     have HD:=aa hd;obtain⟨d1,d2⟩:=hd1;clear hd;have hn:numOf ([a,b].take (k+1))=10*numOf ([a,b].take k)+(x.toNat-48):=by rw[ah HX.out,numOf,List.foldl_append];rfl
     have hb:numOf ([a,b].take k)<=9:=by
      have h1:=HA.out.2;obtain rfl|rfl:k=0∨k=1:=by omega
      ·exact Nat.le_trans (Nat.le_of_lt h1) (by decide)
      ·omega
     have HN:=aa (And.intro hn hb);clear hn hb;go_wp2;refine⟨⟨trivial,k+1,hlt,by simp,?_,?_,?_⟩,?_⟩
     ·rw[HN.out.1];have h1:=HN.out.2;rw[wrap_small (y:=10*((numOf ([a,b].take k):Nat):Int)) (by omega) (by omega),wrap_small (by omega) (by omega)];congr 1;omega
     ·rw[ah HX.out,List.all_append,HA.out.1];simp[HD.out]
     ·rw[HN.out.1,Nat.pow_succ];have h1:=HA.out.2;omega
     ·simp[intOf];omega
    ·have kg:Hid (dD [a,b]=none):=by
      show _ = _;have hall:[a,b].all fC=false:=by rw[Bool.eq_false_iff];intro h;exact hd (List.all_eq_true.1 h x (List.mem_of_getElem? HX.out))
      simp only[dD,lS,hall,Bool.and_false];rfl
     have hd1:(x.toNat:Int)<48∨57<(x.toNat:Int):=by simp only[fC,Bool.and_eq_true,decide_eq_true_eq]at hd;omega
     clear hd;rcases hd1 with d1|d1
     ·go_wp2;go_returns;exact⟨by rw[kg.out];rfl,HE.out⟩
     ·have d2:¬((x.toNat:Int)<48):=by omega
      go_wp2;go_returns;exact⟨by rw[kg.out];rfl,HE.out⟩
   ·obtain rfl:k=2:=by omega
    go_wp2;go_returns;have hs:dD [a,b]=some (numOf [a,b]):=by
     have:=HA.out.1
     rw[List.take_of_length_le (by simp)]at this;rw[dD,if_pos];simp only[lS,this,Bool.and_true];simp[aes.out]
    refine⟨?_,HE.out⟩;rw[hs];show Ending.returned (.tuple #[.int .i64 ((numOf ([a,b].take 2):Nat):Int),.bool true]) = _;rw[List.take_of_length_le (by simp)];rfl
theorem Ei(l:List UInt8)(w:World):Calls Tryz.prog 73 #[.string (tx l)] w fun e w'=>e=.returned (.tuple #[.int .i64 (((dD l).getD 0:Nat):Int),.bool (dD l).isSome])/\Ext w w':=by
 match l with
 | [a]=>exact DC a w
 | [a,b]=>exact D5 a b w
 | []=>exact uB [] w (.inl rfl)
 | a :: b :: c :: r=>exact uB _ w (.inr (by simp))
