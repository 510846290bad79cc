/- Lemmas. -/
import Derived.Test.YtcdopfdgknglfaaGreatDoorKAG
import Derived.Test.YtcdopfdgknglfaaGreatDoorKAH
import Derived.Lib.AppendZerosOnto
set_option maxHeartbeats 16000000
set_option maxRecDepth 8000
set_option linter.all false
namespace Go.Proofs.YtcdopfdgknglfaaGreatDoor
open Go.RowKit
section
def yF(T:TypeId)(w w':World):Prop:=w.heap.size<=w'.heap.size/\∀(k:Nat) (cs:Array Value) (t:TypeId) (fr:Nat × Nat),w.heap[k]? =some (Obj.cells cs t fr)->t≠T->w'.heap[k]? =w.heap[k]?
theorem yF.bK{T:TypeId}{w w':World}(h:Ext w w'):yF T w w':=
 ⟨h.size,λk _ _ _ hk _=>Below.block h k (fF.1 hk).1⟩
theorem yF.yK{α:Type}{e:TypeId}{m:Nat}{enc:α->Nat->Value}{base:Nat}{w0 w':World}{v v':Value}{zs xs:List α}(H:Row e m enc base w0 v zs)(hp:ni e m enc base w0 w' v v' xs):yF e w0 w':=
 ⟨by
  rcases eP w'.heap.size w0.heap.size with h|h
  ·exfalso;have hE:=hp.2.1 w0 (af _);rcases eP base w0.heap.size with h'|h';·
    by_cases hv:v.ownBlock=some (w0.heap.size-1)
    ·have h0:=hp.1;rcases hp.2.2.2 with h1|⟨k,h1,h2⟩
     ·rw[hv]at h1
      have:=(World.ownsRow.lt h0 _ h1).2
      omega
     ·have:=(World.ownsRow.lt h0 _ h1).2
      omega
    ·have:=hp.2.2.1 (w0.heap.size-1) (by omega) hv
     rw[DR (by omega),Array.getElem?_eq_getElem (by omega)]at this;cases this
   ·have:=(hE h').size
    omega
  ·exact h,λk cs t fr hk ht=>hp.2.2.1 k (fF.1 hk).1 (λe1=>by
  rcases H.2 with ⟨rfl,_⟩|⟨g,cap,cur,rfl,hb,hg,_⟩
  ·simp[Value.ownBlock]at e1
  ·simp[Value.ownBlock]at e1;subst e1;rw[hg]at hk;injection hk with hk;injection hk with _ h2 _;exact ht h2.symm)⟩
def ou{α:Type}(T:TypeId)(enc:α->Value)(w:World)(v:Value)(xs:List α):Prop:=oZ enc w v xs/\jD T w v/\tN v
theorem ou.ext{α:Type}{T:TypeId}{enc:α->Value}{w w':World}{v:Value}{xs:List α}(h:ou T enc w v xs)(hb:Ext w w'):ou T enc w' v xs:=⟨h.1.ext hb,h.2.1.ext hb,h.2.2⟩
theorem ou.keep{α:Type}{T T':TypeId}{enc:α->Value}{w w':World}{v:Value}{xs:List α}(h:ou T enc w v xs)(hk:yF T' w w')(hne:T≠T'):ou T enc w' v xs:=by
 obtain⟨⟨A,c,rfl,hc⟩,hi,hcp⟩:=h;refine⟨⟨A,c,rfl,λhn=>?_⟩,λa n c' e hn=>?_,hcp⟩
 ·obtain⟨b,off,rfl,hlt,hc⟩:=hc hn;obtain⟨cs,fr,hg⟩:=hi _ _ _ rfl hn;have hb:=hk.2 b cs T fr hg hne;exact⟨b,off,rfl,bR hlt hk.1,λi x hx=>by rw[<-hc i x hx];simp only[World.cell?,hb]⟩
 ·obtain⟨cs,fr,hg⟩:=hi a n c' e hn;exact⟨cs,fr,(hk.2 _ cs T fr hg hne).trans hg⟩
theorem ou.dS{α:Type}{T:TypeId}{enc:α->Value}{base:Nat}{w:World}{v:Value}{xs:List α}(h:Row T 1 (one enc) base w v xs):ou T enc w v xs:=⟨h.cell.1.to1,h.Gl,h.cap⟩
theorem ou.clip{α:Type}{T:TypeId}{enc:α->Value}{w:World}{A:Option Addr}{n c:Nat}{xs:List α}(h:ou T enc w (.slice A n c) xs):ou T enc w (.slice A n n) xs:=by
 obtain⟨h1,h2,h3⟩:=h
 have:=h3 A n c rfl
 exact⟨(rM h1.XQ n).to1,De h2 n,nG (av _) (by omega)⟩
theorem ou.slice{α:Type}{T:TypeId}{enc:α->Value}{w:World}{v:Value}{xs:List α}(h:ou T enc w v xs):∃A c,v=.slice A xs.length c/\xs.length<=c/\c<=9223372036854775807:=by obtain⟨⟨A,c,rfl,_⟩,_,hc⟩:=h;exact⟨A,c,rfl,hc _ _ _ rfl⟩
theorem ou.cells{α:Type}{T:TypeId}{enc:α->Value}{w:World}{A:Option Addr}{n c:Nat}{xs:List α}(h:ou T enc w (.slice A n c) xs)(hn:0<xs.length):∃b off,A=some ⟨b,off,none⟩/\b<w.heap.size/\∀(i:Nat) x,xs[i]? =some x->w.cell? ⟨b,off+i,none⟩=some (enc x):=by obtain⟨⟨A',c',e,hc⟩,_,_⟩:=h;injection e with e1 e2 e3;subst e1;exact hc hn
structure uC (T:TypeId) {β:Type} (P:World->Value->β->Prop):Prop where
 keep:∀w w' u x,P w u x->yF T w w'->P w' u x
 sl:∀w u x,P w u x->∃A n c,u=.slice A n c
def Ls(T:TypeId){β:Type}(P:World->Value->β->Prop)(w:World)(v:Value)(xs:List β):Prop:=
 ∃us:List Value,ou T RO w v us/\us.length=xs.length/\∀(i:Nat) u x,us[i]? =some u->xs[i]? =some x->P w u x
def Bs(T:TypeId){β:Type}(P:World->Value->β->Prop)(base:Nat)(w:World)(v:Value)(xs:List β):Prop:=
 ∃us:List Value,Row T 1 (one RO) base w v us/\us.length=xs.length/\∀(i:Nat) u x,us[i]? =some u->xs[i]? =some x->P w u x
section
variable{T:TypeId}{β:Type}{P:World->Value->β->Prop}{w w' w0:World}{v:Value}{xs:List β}{base:Nat}
theorem Bs.done(h:Bs T P base w v xs):Ls T P w v xs:=let ⟨us,h1,h2,h3⟩:=h;⟨us,.dS h1,h2,h3⟩
theorem Bs.ext(h:Bs T P base w v xs){T':TypeId}(hP:uC T' P)(hb:Ext w w'):Bs T P base w' v xs:=by obtain⟨us,h1,h2,h3⟩:=h;exact⟨us,h1.ext hb,h2,λi u x hu hx=>hP.keep _ _ _ _ (h3 i u x hu hx) (.bK hb)⟩
theorem Bs.slice(h:Bs T P base w v xs):∃A c,v=.slice A xs.length c/\xs.length<=c/\c<=9223372036854775807:=by obtain⟨us,h1,h2,h3⟩:=h;obtain⟨A,c,rfl,h4,h5⟩:=(ou.dS h1).slice;exact⟨A,c,by rw[h2],by omega,h5⟩
theorem Ls.ext(h:Ls T P w v xs){T':TypeId}(hP:uC T' P)(hb:Ext w w'):Ls T P w' v xs:=by obtain⟨us,h1,h2,h3⟩:=h;exact⟨us,h1.ext hb,h2,λi u x hu hx=>hP.keep _ _ _ _ (h3 i u x hu hx) (.bK hb)⟩
theorem Ls.keep{T':TypeId}(h:Ls T P w v xs)(hP:uC T' P)(hk:yF T' w w')(hne:T≠T'):Ls T P w' v xs:=by obtain⟨us,h1,h2,h3⟩:=h;exact⟨us,h1.keep hk hne,h2,λi u x hu hx=>hP.keep _ _ _ _ (h3 i u x hu hx) hk⟩
theorem Ls.slice(h:Ls T P w v xs):∃A c,v=.slice A xs.length c/\xs.length<=c/\c<=9223372036854775807:=by obtain⟨us,h1,h2,h3⟩:=h;obtain⟨A,c,rfl,h4,h5⟩:=h1.slice;exact⟨A,c,by rw[h2],by omega,h5⟩
theorem Ls.clip{A:Option Addr}{n c:Nat}(h:Ls T P w (.slice A n c) xs):Ls T P w (.slice A n n) xs:=let ⟨us,h1,h2,h3⟩:=h;⟨us,h1.clip,h2,h3⟩
theorem Ls.cells{A:Option Addr}{n c:Nat}(h:Ls T P w (.slice A n c) xs)(hn:0<xs.length):∃b off,A=some ⟨b,off,none⟩/\b<w.heap.size/\∀(i:Nat) x,xs[i]? =some x->∃u,w.cell? ⟨b,off+i,none⟩=some u/\P w u x:=by obtain⟨us,h1,h2,h3⟩:=h;obtain⟨b,off,hA,hb,hc⟩:=h1.cells (by omega);refine⟨b,off,hA,hb,λi x hx=>?_⟩;obtain⟨u,hu⟩:=ah (show i<us.length by rw[h2];exact(bG.1 hx).1);exact⟨u,hc i u hu,h3 i u x hu hx⟩
theorem Ls.same{T':TypeId}{b off n c:Nat}(h:Ls T P w (.slice (some ⟨b,off,none⟩) n c) xs)(hn:0<xs.length)(hb:w'.heap[b]? =w.heap[b]?)(hP:uC T' P)(hk:yF T' w w'):Ls T P w' (.slice (some ⟨b,off,none⟩) n c) xs:=by
 obtain⟨us,⟨⟨A,c',e,hc⟩,hi,hcp⟩,h2,h3⟩:=h;injection e with e1 e2 e3;subst e1 e2 e3;refine⟨us,⟨⟨_,_,rfl,λhu=>?_⟩,λa n' c2 e hn'=>?_,hcp⟩,h2,λi u x hu hx=>hP.keep _ _ _ _ (h3 i u x hu hx) hk⟩
 ·obtain⟨b',off',e,hlt,hcl⟩:=hc hu;injection e with e;injection e with e1 e2;subst e1 e2;exact⟨b,off,rfl,bR hlt hk.1,λi x hx=>by rw[<-hcl i x hx];simp only[World.cell?,hb]⟩
 ·obtain⟨cs,fr,hg⟩:=hi a n' c2 e hn';injection e with e1 _ _;injection e1 with e1;subst e1;exact⟨cs,fr,hb.trans hg⟩
theorem Ls.stays{T':TypeId}(hP:uC T' P)(hne:T≠T'):uC T' (Ls T P):=
 ⟨λ_ _ _ _ h hk=>h.keep hP hk hne,λ_ _ _ h=>let ⟨A,c,e,_⟩:=h.slice;⟨A,_,c,e⟩⟩
theorem Bs.push{t:TypeId}{z:Value}{b:Nat}(q:Nat){w1:World}(hq:w1.heap.size=q)(ht:Tryz.prog.underlying t=some (.slice T))(hinfo:(Tryz.prog.info? T).map (λi=>(i.zero,i.size,i.bytes))=some (some z,1,b))(hzs:z.cells.size=1)(hP:uC T P)
 (H:Bs T P base w0 v xs) (hx:Ext w0 w1) {u:Value} {x:β} (hu:P w1 u x) (hb:base<=w0.heap.size) (hn:xs.length+1<=4194304) (hbb:b<=64) :
 ∃v' w',(Builtin.append_ #[t,t] t #[v,.slice (some ⟨q,0,none⟩) 1 1]).run Tryz.prog (w1.alloc (.cells #[u] T))=.ok v' w'/\Bs T P base w' v' (xs++[x])/\(∀U:World,Ext U w0->U.heap.size<=base->Ext U w')/\yF T w0 w'/\(∀k,k<w0.heap.size->v.ownBlock≠some k->w'.heap[k]? =w0.heap[k]?)/\(v'.ownBlock=v.ownBlock∨∃k,v'.ownBlock=some k/\w0.heap.size<=k):=by
 obtain⟨us,h1,h2,h3⟩:=H;obtain⟨A,n,c,rfl⟩:=hP.sl _ _ _ hu;obtain⟨v',w',hrun,hp⟩:=jY q hq ht hinfo hzs (by omega) h1 hx (.slice A n c) (λj=>rfl) _ rfl hb (by omega) hbb;have hk:yF T w0 w':=yF.yK h1 hp;have hk1:yF T w1 w':=by obtain⟨v2,w2,mG,hp2⟩:=jY q hq ht hinfo hzs (by omega) (h1.ext hx) (af w1) (.slice A n c) (λj=>rfl) _ rfl (aX hb hx.size) (by omega) hbb;rw[mG]at hrun;injection hrun with e1 e2;subst e1 e2;exact yF.yK (h1.ext hx) hp2
 refine⟨v',w',hrun,⟨us++[.slice A n c],hp.1,by simp[h2],λi y s hy hs=>?_⟩,hp.2.1,hk,hp.2.2.1,hp.2.2.2⟩;rw[MS]at hy hs;split at hy
 ·rename_i hi;rw[aj (by rw[<-h2];exact hi)]at hs;exact hP.keep _ _ _ _ (h3 i y s hy hs) hk
 ·rename_i hi;rw[au (by rw[<-h2];exact hi)]at hs;have hi0:i-us.length=0:=by
   have:=(bG.1 hy).1
   simp at this;omega
  rw[hi0]at hy;rw[<-h2,hi0]at hs;simp at hy hs;subst hy hs;exact hP.keep _ _ _ _ hu hk1
theorem Bs.nil(w:World):Bs T P w.heap.size (w.alloc (.cells #[] T)) (.slice (some ⟨w.heap.size,0,none⟩) 0 0) ([]:List β):=⟨[],dD,rfl,λ_ _ _ h=>by simp at h⟩
theorem Bs.room(w:World)(cs:Array Value)(cap:Nat)(hm:cap<=maxLen)(hs:cs.size=cap*1):Bs T P w.heap.size (w.alloc (.cells cs T)) (.slice (some ⟨w.heap.size,0,none⟩) 0 cap) ([]:List β):=⟨[],lC cs cap hm hs,rfl,λ_ _ _ h=>by simp at h⟩
theorem Bs.low{base':Nat}(h:Bs T P base w v xs)(hb:base'<=base):Bs T P base' w v xs:=let ⟨us,h1,h2,h3⟩:=h;⟨us,h1.low hb,h2,h3⟩
end
def I1(w:World)(v:Value)(xs:List Int):Prop:=ou 3 encI w v xs
theorem fT{T:TypeId}(hne:3≠T):uC T I1:=⟨λ_ _ _ _ h hk=>ou.keep h hk hne,λ_ _ _ h=>let ⟨A,c,e,_⟩:=ou.slice h;⟨A,_,c,e⟩⟩
def I2:World->Value->List (List Int)->Prop:=Ls 56 I1
def I3:World->Value->List (List (List Int))->Prop:=Ls 101 I2
theorem uI:uC 101 I2:=Ls.stays (fT (by decide)) (by decide)
theorem vN:(Tryz.prog.info? 56).map (λi=>(i.zero,i.size,i.bytes))=some (some (.slice none 0 0),1,24):=by kernel_rfl
theorem PO:(Tryz.prog.info? 101).map (λi=>(i.zero,i.size,i.bytes))=some (some (.slice none 0 0),1,24):=by kernel_rfl
theorem Hq{base:Nat}{w0 w:World}(q:Nat)(hq:w.heap.size=q){v:Value}{xs:List Int}(H:Row 3 1 (one encI) base w0 v xs)(hx:Ext w0 w)(n:Int)(hb:base<=w0.heap.size)(hn:xs.length+1<=4194304) :
 ∃v' w',(Builtin.append_ #[56,56] 56 #[v,.slice (some ⟨q,0,none⟩) 1 1]).run Tryz.prog (w.alloc (.cells #[.int .i64 n] 3))=.ok v' w'/\ni 3 1 (one encI) base w0 w' v v' (xs++[n]):=
 jY q hq Mm dx rfl (by omega) H hx n (λj=>rfl) _ rfl hb hn (by omega)
theorem Dr{base:Nat}{w0 w:World}(q:Nat)(hq:w.heap.size=q){v:Value}{xss:List (List Int)}(H:Bs 56 I1 base w0 v xss)(hx:Ext w0 w){u:Value}{xs:List Int}(hu:I1 w u xs)(hb:base<=w0.heap.size)(hn:xss.length+1<=4194304) :
 ∃v' w',(Builtin.append_ #[101,101] 101 #[v,.slice (some ⟨q,0,none⟩) 1 1]).run Tryz.prog (w.alloc (.cells #[u] 56))=.ok v' w'/\Bs 56 I1 base w' v' (xss++[xs])/\(∀U:World,Ext U w0->U.heap.size<=base->Ext U w')/\yF 56 w0 w'/\(∀k,k<w0.heap.size->v.ownBlock≠some k->w'.heap[k]? =w0.heap[k]?)/\(v'.ownBlock=v.ownBlock∨∃k,v'.ownBlock=some k/\w0.heap.size<=k):=
 Bs.push q hq Tryz.underlying101 vN rfl (fT (by decide)) H hx hu hb hn (by omega)
theorem TD{base:Nat}{w0 w:World}(q:Nat)(hq:w.heap.size=q){v:Value}{abF:List (List (List Int))}(H:Bs 101 I2 base w0 v abF)(hx:Ext w0 w){u:Value}{xss:List (List Int)}(hu:I2 w u xss)(hb:base<=w0.heap.size)(hn:abF.length+1<=4194304) :
 ∃v' w',(Builtin.append_ #[107,107] 107 #[v,.slice (some ⟨q,0,none⟩) 1 1]).run Tryz.prog (w.alloc (.cells #[u] 101))=.ok v' w'/\Bs 101 I2 base w' v' (abF++[xss])/\(∀U:World,Ext U w0->U.heap.size<=base->Ext U w')/\yF 101 w0 w'/\(∀k,k<w0.heap.size->v.ownBlock≠some k->w'.heap[k]? =w0.heap[k]?)/\(v'.ownBlock=v.ownBlock∨∃k,v'.ownBlock=some k/\w0.heap.size<=k):=
 Bs.push q hq Tryz.underlying107 PO rfl uI H hx hu hb hn (by omega)
end
def earlyTo(ops:List aV)(k:Nat):Bool:=(List.range k).any λi=>match ops[i]? with
 | some o=>oH o&&(ops.drop (i+1)).any λl=>decide (l.kind=2/\l.key=o.key/\l.value=o.value)
 | none=>false
theorem Mk{ops:List aV}{k:Nat}{o:aV}(ho:ops[k]? =some o):earlyTo ops (k+1)=(earlyTo ops k || (oH o&&(ops.drop (k+1)).any λl=>decide (l.kind=2/\l.key=o.key/\l.value=o.value))):=by unfold earlyTo;rw[vU,List.any_append];simp[ho]
theorem Sj{ops:List aV}{k n:Nat}(h:earlyTo ops k=true)(hk:k<=n):earlyTo ops n=true:=by unfold earlyTo at *;rw[jF]at *;obtain⟨i,hi,h⟩:=h;exact⟨i,by simp at *;omega,h⟩
theorem Vt{o:aV}(h:oH o=true):(o.kind==2)=false:=by unfold oH at h;simp at h;simp[h]
theorem Si(s:Int)(d:Bool){ov:Value}{ops:List aV}(w:World)(h:aL 3 encOpr w ov ops)(hcp:tN ov)(hlen:ops.length<=6) :
 Calls Tryz.prog 243 #[.agg #[.int .i64 s,ov,.bool d]] w λe w'=>e=.returned (.bool (uj ops))/\Ext w w':=by
 obtain⟨A0,c0,rfl,_⟩:=id h;have hcap:=hcp _ _ _ rfl;have HS:=aa h;have hg:=BD;clear h hcp;go_enter Tryz.func243,Tryz.ntmps243;go_wp2;go_loopw [10] (λi wr=>Ext (w.alloc (.cells #[.int .i64 s,.slice A0 ops.length c0,.bool d] 48)) wr/\∃k:Nat,k<=ops.length/\i=.int .i64 k/\Hid (earlyTo ops k=false)) (λi _=>ops.length-(intOf i).toNat)
 case atStart=>exact⟨af _,0,aT _,rfl,rfl⟩
 case round=>
  obtain⟨hb,k,hk,rfl,HI⟩:=hrel;have hbb:=((af w).alloc _).trans hb;by_cases hlt:k<ops.length
  ·have hSx:=HS.out.ext hbb;obtain⟨A2,c2,hA2,hcc⟩:=id hSx;injection hA2 with e1 e2 e3;subst e1 e3;obtain⟨b,off,rfl,hbl,hcc⟩:=hcc (by omega);obtain⟨o,ho⟩:=ah hlt;have d0:wr.cell? ⟨b,off+k*3,none⟩=some (.int .i64 o.kind):=hcc k o ho 0 (by omega);have d1:wr.cell? ⟨b,off+k*3+1,none⟩=some (.int .i64 o.key):=hcc k o ho 1 (by omega);have d2:wr.cell? ⟨b,off+k*3+2,none⟩=some (.int .i64 o.value):=hcc k o ho 2 (by omega);have f1:wr.cell? ⟨w.heap.size,1,none⟩=some (.slice (some ⟨b,off,none⟩) ops.length c0):=hb.cell (aF rfl);have f1n:w.heap.size<wr.heap.size:=by have:=hb.size;simp at this;omega
   obtain⟨AV,hcut,hpart⟩:∃AV,(∀W,(Instr.slice 46 (.slice (some ⟨b,off,none⟩) ops.length c0) (some (.int .i64 ((k:Int)+1))) none none).run Tryz.prog W=.ok (.slice AV (ops.length-(k+1)) (c0-(k+1))) W)/\aL 3 encOpr wr (.slice AV (ops.length-(k+1)) (c0-(k+1))) (part ops (k+1) ops.length):=
    ⟨_,mK (P:=Tryz.prog) (A:=some ⟨b,off,none⟩) (n:=ops.length) (c:=c0) eG mq (k+1) (by omega),(aL.part hSx (k+1) ops.length (by omega) (av _) hcap.1).1⟩
   have HP:=aa hpart;have hpl:(part ops (k+1) ops.length).length=ops.length-(k+1):=rZ (av _);have Ho:=aa ho;have hnx:=aa (Mk ho);have hpt:part ops (k+1) ops.length=ops.drop (k+1):=by unfold part;rw[bM]
   rw[hpt]at HP hpl;have HB:=aa hb;have Ju:=aa hpl;obtain⟨q,hq⟩:∃q,ops.length-(k+1)=q:=⟨_,rfl⟩;have HQ:=aa hq;have hq6:q<=6:=by omega
   rw[hq]at hcut HP;clear hcc ho e2 hpart hSx hpt hpl hq hbb;obtain⟨wo,rfl⟩:∃wo:World,wo=wr:=⟨_,rfl⟩;go_wp2;clear hcut;go_loopw [21] (λi wr=>Ext (wo.alloc (.cells #[.int .i64 o.kind,.int .i64 o.key,.int .i64 o.value] 67)) wr/\∃j:Nat,j<=q/\i=.int .i64 j/\Hid (∀i l,i<j->(ops.drop (k+1))[i]? =some l->(oH o&&decide (l.kind=2/\l.key=o.key/\l.value=o.value))=false)) (λi _=>q-(intOf i).toNat)
   case atStart=>exact⟨af _,0,aT _,rfl,λi l hi=>absurd hi (gu i)⟩
   case round=>
    obtain⟨hb2,j,hj,rfl,HJ⟩:=hrel;have NM:=((af wo).alloc _).trans hb2;have hww:=HB.out.trans NM;by_cases hjq:j<q
    ·obtain⟨l,hl⟩:=ah (show j<(ops.drop (k+1)).length by rw[Ju.out,HQ.out];exact hjq);obtain⟨A3,c3,hA3,hcl⟩:=HP.out.ext NM;injection hA3 with e1 e2 e3;subst e1 e3;obtain⟨b3,Cz,rfl,adN,hcl⟩:=hcl (by rw[Ju.out,HQ.out];omega);have g0:wr.cell? ⟨b3,Cz+j*3,none⟩=some (.int .i64 l.kind):=hcl j l hl 0 (by omega);have g1:wr.cell? ⟨b3,Cz+j*3+1,none⟩=some (.int .i64 l.key):=hcl j l hl 1 (by omega);have g2:wr.cell? ⟨b3,Cz+j*3+2,none⟩=some (.int .i64 l.value):=hcl j l hl 2 (by omega);have x0:wr.cell? ⟨wo.heap.size,0,none⟩=some (.int .i64 o.kind):=hb2.cell (aF rfl);have x1:wr.cell? ⟨wo.heap.size,1,none⟩=some (.int .i64 o.key):=hb2.cell (aF rfl);have x2:wr.cell? ⟨wo.heap.size,2,none⟩=some (.int .i64 o.value):=hb2.cell (aF rfl);have xs:wo.heap.size<wr.heap.size:=by have:=hb2.size;simp at this;omega
     have he:=λW=>sw l.kind l.key l.value 2 o.key o.value W;have hE:Hid (Ext (wo.alloc (.cells #[.int .i64 o.kind,.int .i64 o.key,.int .i64 o.value] 67)) ((wr.alloc (.cells #[.int .i64 l.kind,.int .i64 l.key,.int .i64 l.value] 67)).alloc (.cells #[.int .i64 o.kind,.int .i64 o.key,.int .i64 o.value] 67))):=(hb2.alloc _).alloc _;have HL:=aa hl;have HO:=aa NM;have HX:Hid (∀r,decide (l.kind=2/\l.key=o.key/\l.value=o.value)=r->(oH o&&r)=false->∀i l',i<j+1->(ops.drop (k+1))[i]? =some l'->(oH o&&decide (l'.kind=2/\l'.key=o.key/\l'.value=o.value))=false):=λr hr hf i l' hi hl'=>by
      rcases eP i j with h'|h'
      ·exact HJ.out i l' h' hl'
      ·obtain rfl:i=j:=by omega
       rw[hl]at hl';cases hl';rw[hr];exact hf
     clear hl hcl e2 NM
     cases hr:(o.kind==1) with
     | false=>
       have sV:=aa (HX.out _ rfl (by simp[oH,hr]));go_wp2_with (go_at_call 118;refine(iA _ _ _ _).mono ?_;rw[hr];rintro e w' ⟨rfl,rfl⟩)
       go_roundw;case rel=>exact⟨hE.out,j+1,by omega,by go_num,sV.out⟩
       case measure=>simp[intOf];omega
     | true=>
       cases hm:decide (l.kind=2/\l.key=o.key/\l.value=o.value) with
       | false=>
         rw[hm]at he;have sV:=aa (HX.out _ hm (by simp));clear hm;go_wp2_with (go_at_call 118;refine(iA _ _ _ _).mono ?_;rw[hr];rintro e w' ⟨rfl,rfl⟩)
         go_roundw;case rel=>exact⟨hE.out,j+1,by omega,by go_num,sV.out⟩
         case measure=>simp[intOf];omega
       | true=>
         rw[hm]at he;have hyes:Hid (uj ops=true):=by show _ = _;refine Sj (k:=k+1) ?_ (by omega);rw[hnx.out,show oH o=true from hr];rw[Bool.true_and,show (ops.drop (k+1)).any (λl=>decide (l.kind=2/\l.key=o.key/\l.value=o.value))=true by rw[jF];exact⟨l,aM HL.out,hm⟩,Bool.or_true]
         clear hm;go_wp2_with (go_at_call 118;refine(iA _ _ _ _).mono ?_;rw[hr];rintro e w' ⟨rfl,rfl⟩)
         go_returns;exact⟨aS hyes.out.symm,((af w).alloc _).trans ((hww.alloc _).alloc _)⟩
    ·obtain rfl:j=q:=by omega
     have hno:Hid (earlyTo ops (k+1)=false):=by
      show _ = _;rw[hnx.out,HI.out,Bool.false_or]
      cases hr:oH o with
      | false=>rfl
      | true=>
        rw[Bool.true_and,List.any_eq_false];intro l hl;obtain⟨i,hi,rfl⟩:=jq hl
        have:=HJ.out i _ (by rw[<-HQ.out,<-Ju.out];exact hi) (dJ hi)
        rw[hr,Bool.true_and]at this;rw[this];simp
     have HB2:=aa (hb.trans NM);go_wp2;go_roundw;case rel=>exact⟨HB2.out,k+1,by omega,by go_num,hno.out⟩
     case measure=>simp[intOf];omega
  ·obtain rfl:k=ops.length:=by omega
   go_wp2;go_returns;exact⟨aS HI.out.symm,hbb⟩
theorem xU{h:List aG}{k:Nat}(h1:1<=k)(h4:k<=4)(hb:iF h (k:Int)=true):jc h=false:=by
 have:k=1∨k=2∨k=3∨k=4:=by omega
 rcases this with rfl|rfl|rfl|rfl<;>(
  unfold jc
  first
  | rw[show iF h 1=true from hb]
  | rw[show iF h 2=true from hb]
  | rw[show iF h 3=true from hb]
  | rw[show iF h 4=true from hb]
  simp)
def qw(h:List aG)(m:Nat):Bool:=((aN h).take m).any λn=>uj (opsOf h n)
theorem LV{h:List aG}{m n:Nat}(hm:(aN h)[m]? =some n):qw h (m+1)=(qw h m || uj (opsOf h n)):=by unfold qw;rw[ak hm,List.any_append];simp
theorem Gn{h:List aG}(hok:aD h=true)(hb:∀k:Nat,1<=k->k<=4->iF h (k:Int)=false):jc h = !qw h (aN h).length:=by have b1:iF h 1=false:=hb 1 (by omega) (by omega);have b2:iF h 2=false:=hb 2 (by omega) (by omega);have b3:iF h 3=false:=hb 3 (by omega) (by omega);have b4:iF h 4=false:=hb 4 (by omega) (by omega);unfold jc qw;rw[hok,b1,b2,b3,b4,bM,EK];simp
theorem FC{v:Value}{h:List aG}(w:World)(H:iM w v h)(hok:aD h=true) :
 Calls Tryz.prog 210 #[v] w λe w'=>e=.returned (.bool (jc h))/\Ext w w':=by
 obtain⟨A,c,rfl⟩:=H.slice;have HH:=aa H;have fu:=aa hok;have hlen:=aR hok;have hdl:=lK h;clear H hok;go_enter Tryz.func210,Tryz.ntmps210;go_wp2_with fail
 refine(bZ _ HH.out (by omega) (aJ fu.out)).mono ?_
 rw[fu.out];rintro e w1 ⟨rfl,b1⟩;go_wp2;go_loopw [3] (λi wr=>Ext w wr/\∃k:Nat,1<=k/\k<=5/\i=.int .i64 k/\Hid (∀j:Nat,1<=j->j<k->iF h (j:Int)=false)) (λi _=>5-(intOf i).toNat)
 case atStart=>exact⟨b1,1,av _,by omega,rfl,λj h1 h2=>by omega⟩
 case round=>
  obtain⟨hb,k,hk1,hk5,rfl,HI⟩:=hrel;by_cases hlt:k<=4
  ·go_wp2_with fail
   refine(Ky (k:Int) _ (HH.out.ext hb) fu.out (by omega)).mono ?_
   rintro e w2 ⟨A2,n,c2,rfl,hn,hn2,b2⟩
   cases hba:iF h (k:Int) with
   | true=>
     have hr:=aa (xU hk1 hlt hba);rw[hba]at hn;have hn0:0<n:=by simpa using hn
     clear hba hn;go_wp2;go_returns;exact⟨aS hr.out.symm,hb.trans b2⟩
   | false=>
     rw[hba]at hn;have hn0:n=0:=by simpa using hn
     subst hn0;have HBA:=aa hba;clear hba hn;go_wp2;go_roundw;case rel=>exact⟨hb.trans b2,k+1,by omega,by omega,by go_num,λj h1 h2=>by
      rcases eP j k with h'|h'
      ·exact HI.out j h1 h'
      ·obtain rfl:j=k:=by omega
       exact HBA.out⟩
     case measure=>simp[intOf];omega
  ·obtain rfl:k=5:=by omega
   have hend:=aa (Gn fu.out (λj h1 h2=>HI.out j h1 (by omega)));go_wp2_with fail
   refine(uG _ (HH.out.ext hb) (by omega)).mono ?_
   rintro e w2 ⟨vd,rfl,rd,b2⟩;have RD:=aa rd;obtain⟨Ad,cd,rfl,_⟩:=id rd.cell.1;have HB2:=aa (hb.trans b2);clear rd b2 hb b1 HI;go_wp2;go_loopw [21] (λi wr=>Ext w2 wr/\∃m:Nat,m<=(aN h).length/\i=.int .i64 m/\Hid (qw h m=false)) (λi _=>(aN h).length-(intOf i).toNat)
   case atStart=>exact⟨af _,0,aT _,rfl,rfl⟩
   case round=>
    obtain⟨hb,m,hm,rfl,HJ⟩:=hrel;have hbb:=HB2.out.trans hb;by_cases hmt:m<(aN h).length
    ·obtain⟨n,hn⟩:=ah hmt;obtain⟨hnl,hnd⟩:=qg (aM hn);obtain⟨-,bd,UU,rfl,hbd,hcd⟩:=Gf (RD.out.ext hb) (by omega);have cn:=hcd m n hn;obtain⟨b,off,rfl,hbl,hc⟩:=HH.out.aa0 (by omega);obtain⟨t,ht⟩:=ah hnl;obtain⟨ov,c0,c1,c2,hs,hcp⟩:=hc n t ht;replace c0:=hbb.cell c0;replace c1:=hbb.cell c1;replace c2:=hbb.cell c2;have hol:=dF (dH fu.out (aM ht));have HS:=aa (aB (hs.ext hbb) hcp);have hnx:=LV hn;rw[dV ht]at hnx;have jC:=aa hnx;clear hn hnd hc ht hs hcp hcd hnx;go_wp2_with fail
     refine(Si t.az t.done _ HS.out.1 HS.out.2 hol).mono ?_
     cases he:uj t.ops with
     | true=>
       rintro e w3 ⟨rfl,b3⟩;have hr:Hid (jc h=false):=by
        show _ = _;rw[hend.out];have h1:qw h (m+1)=true:=by rw[jC.out,he,Bool.or_true]
        have h2:qw h (aN h).length=true:=by unfold qw at h1 ⊢;rw[bM];rw[jF]at h1 ⊢;obtain⟨x,hx,h3⟩:=h1;exact⟨x,oI hx,h3⟩
        rw[h2];rfl
       clear he;go_wp2;go_returns;exact⟨aS hr.out.symm,hbb.trans b3⟩
     | false=>
       rintro e w3 ⟨rfl,b3⟩;have hr:Hid (qw h (m+1)=false):=by show _ = _;rw[jC.out,HJ.out,he];rfl
       clear he;go_wp2;go_roundw;case rel=>exact⟨hb.trans b3,m+1,by omega,by go_num,hr.out⟩
       case measure=>simp[intOf];omega
    ·obtain rfl:m=(aN h).length:=by omega
     go_wp2;go_returns;exact⟨aS (by rw[hend.out,HJ.out];rfl),hbb⟩
theorem I1.part{w:World}{A:Option Addr}{n c:Nat}{xs:List Int}(h:I1 w (.slice A n c) xs)(lo hi:Nat)(hlo:lo<=hi)(hhi:hi<=xs.length):I1 w (.slice (if c=lo then A else A.map (·.add (lo*1))) (hi-lo) (c-lo)) (part xs lo hi):=by
 obtain⟨h1,h2,h3⟩:=h;have hc:=h3 A n c rfl;have hl:n=xs.length:=by obtain⟨A',c',e,_⟩:=h1;injection e
 refine⟨((aL.part h1.XQ lo hi hlo hhi (by omega)).1).to1,λa n' c' e hn=>?_,nG (by omega) (by omega)⟩;injection e with e1 e2 e3;by_cases hcl:c=lo
 ·rw[aj hcl]at e1;exact h2 a n c (by rw[e1]) (by omega)
 ·rw[au hcl]at e1
  cases A with
  | none=>simp at e1
  | some ad=>
    simp at e1;obtain⟨cs,fr,hg⟩:=h2 ad n c rfl (by omega)
    have:a.block=ad.block:=by rw[<-e1];unfold Addr.add;split<;>rfl
    exact⟨cs,fr,by rw[this];exact hg⟩
theorem Aj{P:Program}{w w':World}{ops:Array Oper}{rest:List Oper}{o:Oper}{a:Act}{Q:Exit->Act->World->Prop}{s x:Operand}{t tn:TypeId}{v u v':Value}(hgd:o.guard=none)
 (ho:o.op=.call { callee:=.builtin .append,args:=#[s,x],argTypes:=#[t,tn] }) (hs:a.eval s=v) (hx:a.eval x=u) (hrun:(Builtin.append_ #[t,tn] o.type #[v,u]).run P w=.ok v' w')
 (h:wpList P ops Q rest (a.put o.dst v') w'):wpList P ops Q (o :: rest) a w:=
 wpList_plain hgd λK hK=>by unfold Oper.wp execOp;simp only[ho,resolve,invoke,builtin,Sem.run_bind,Sem.run_pure,Result.andThen_ok,List.map_toArray,qc,kN,hs,hx,hrun];exact hK _ _ h
theorem OE(q:Nat)(hq:q<=1000)(w:World) :
 Calls Tryz.prog 229 #[.slice none 0 0,.int .i64 (q:Int)] w λe w'=>∃v,e=.returned v/\Row 3 1 (one encI) w.heap.size w' v ([]:List Int)/\Ext w w':=by
 rcases Nat.eq_zero_or_pos q with rfl|hpos
 ·go_enter Tryz.func229,Tryz.ntmps229;go_wp2;go_returns;exact⟨_,rfl,Row.nil,af _⟩
 ·obtain⟨i,hi,hz,hs,hby⟩:=qo dx;have hrun:=Lib.run_append_grow_zeros w 56 3 56 3 i (.int .i64 0) .i64 .i64 Mm agC hi hz none 0 0 [] (by exact run_firstCells_none _ _ 0 0 0) q (by omega) (by omega) (by omega) (by omega) (by rw[hby];omega) (by rw[hby];exact growslice_fits (by omega) (by omega));have hG1:=grownCap_ge w (0+q) 0 3;have hG2:=grownCap_le_maxLen w (0+q) 0 3 (by unfold maxLen;omega);generalize grownCap w (0+q) 0 3=G at hrun hG1 hG2;have hsz:((([]:List Value).toArray++Builtin.zeroCells (Value.int .i64 0).cells q++Builtin.zeroCells (Value.int .i64 0).cells (G-(0+q)))).size=G*1:=by simp[Builtin.zeroCells,Value.cells];omega
  generalize (([]:List Value).toArray++Builtin.zeroCells (Value.int .i64 0).cells q++Builtin.zeroCells (Value.int .i64 0).cells (G-(0+q)))=cs at hrun hsz;rw[ig]at hrun hG1;have bH:=aa hrun;have hG3:G<=9223372036854775807:=by unfold maxLen at hG2;omega
  clear hrun hi hz hs hby;have HR:Hid (Row 3 1 (one encI) w.heap.size (w.drew.alloc (.cells cs 3)) (.slice (some ⟨w.heap.size,0,none⟩) 0 G) ([]:List Int)):=lC (w:=w.drew) cs G hG2 hsz;have HE:Hid (Ext w (w.drew.alloc (.cells cs 3))):=((af w).drew).alloc _;clear hsz;go_enter Tryz.func229,Tryz.ntmps229;go_wp2_with (at_builtin;refine Aj rfl rfl rfl rfl bH.out ?_)
  go_returns;exact⟨_,rfl,HR.out,HE.out⟩
theorem LD{xss:List (List Int)}{k:Nat}{xs:List Int}(h:xss[k]? =some xs):(xss.take (k+1)).flatten=(xss.take k).flatten++xs:=by rw[ak h,List.flatten_append];simp
theorem QO{v:Value}{xss:List (List Int)}(w:World)(h:Ls 56 I1 w v xss)(hlen:xss.length<=100)(htot:xss.flatten.length<=1000) :
 Calls Tryz.prog 199 #[v] w λe w'=>∃v',e=.returned v'/\Row 3 1 (one encI) w.heap.size w' v' xss.flatten/\Ext w w':=by
 obtain⟨A,c,rfl,hc1,hc2⟩:=h.slice;have H:=aa h;have hst:=fT (T:=101) (by decide);have hle:∀k,(xss.take k).flatten.length<=1000:=λk=>by
  have e:xss.flatten=(xss.take k).flatten++(xss.drop k).flatten:=by rw[<-List.flatten_append,List.take_append_drop]
  rw[e,dw]at htot;omega
 have Wn:=aa hle;clear h hle htot;go_enter Tryz.func199,Tryz.ntmps199;go_wp2;go_loopw [3,11] (λm i wr=>w=wr/\∃k:Nat,k<=xss.length/\i=.int .i64 k/\m=.int .i64 (((xss.take k).flatten.length:Nat):Int)) (λ_ i _=>xss.length-(intOf i).toNat)
 case atStart=>exact⟨rfl,0,aT _,rfl,rfl⟩
 case round=>
  obtain⟨rfl,k,hk,rfl,rfl⟩:=hrel;have hlk:=Wn.out k;by_cases hlt:k<xss.length
  ·obtain⟨xs,hx⟩:=ah hlt;obtain⟨b,off,rfl,hb,hc⟩:=H.out.cells (by omega);obtain⟨u,hu,hP⟩:=hc k xs hx;obtain⟨Au,cu,rfl,_⟩:=hP.slice;have hnx:Hid ((xss.take (k+1)).flatten.length=(xss.take k).flatten.length+xs.length):=by show _ = _;rw[LD hx,dw]
   have hlk2:=Wn.out (k+1);rw[hnx.out]at hlk2;have H2:=aa hP;obtain⟨q,hq⟩:∃q,(xss.take k).flatten.length=q:=⟨_,rfl⟩;rw[hq]at hlk hlk2 ⊢;have HQ:=aa hq;clear hx hc hP hq;go_wp2;go_roundw;case rel=>exact⟨trivial,k+1,by omega,by go_num,by rw[hnx.out,HQ.out];go_num⟩
   case measure=>simp[intOf];omega
  ·obtain rfl:k=xss.length:=by omega
   rw[bM]at hlk ⊢;obtain⟨q,hq⟩:∃q,xss.flatten.length=q:=⟨_,rfl⟩;rw[hq]at hlk ⊢;have HQ:=aa hq;clear hq;go_wp2_with fail
   refine(OE q hlk _).mono ?_
   rintro e w1 ⟨v1,rfl,r1,b1⟩;have R1:=aa r1;have B1:=aa b1;clear r1 b1;go_wp2;go_loopw [6,27] (λo i wr=>Ext w wr/\∃k:Nat,k<=xss.length/\i=.int .i64 k/\Hid (Row 3 1 (one encI) w.heap.size wr o (xss.take k).flatten)) (λ_ i _=>xss.length-(intOf i).toNat)
   case atStart=>exact⟨B1.out,0,aT _,rfl,R1.out⟩
   case round=>
    obtain⟨hb,k,hk,rfl,HI⟩:=hrel;have hbw:w.heap.size<=wr.heap.size:=hb.size;by_cases hlt:k<xss.length
    ·obtain⟨xs,hx⟩:=ah hlt;obtain⟨b,off,rfl,hb2,hc⟩:=(H.out.ext hst hb).cells (by omega);obtain⟨u,hu,hP⟩:=hc k xs hx;obtain⟨Au,cu,rfl,_⟩:=hP.slice;have hnx:=aa (LD hx);have hl2:=Wn.out (k+1);rw[hnx.out,dw]at hl2;obtain⟨v4,w4,hrun,hrow4,hg4⟩:=lX (P:=Tryz.prog) (t:=56) (ty:=56) (e:=3) Mm dx rfl (by omega) HI.out (hP.1.XQ) (λx _ j=>rfl) (by omega) (by omega) hbw;have bH:=aa hrun;have rA:=aa hrow4;have sU:=aa (Ext.grown hb hg4 (λk hk=>HI.out.block k hk));clear hx hc hP hrun hrow4 hg4 hl2;go_wp2_with (at_builtin;refine wpList_append_run rfl rfl rfl rfl bH.out ?_)
     go_roundw;case rel=>exact⟨sU.out,k+1,by omega,by go_num,by rw[hnx.out];exact rA.out⟩
     case measure=>simp[intOf];omega
    ·obtain rfl:k=xss.length:=by omega
     have hr:=HI.out;rw[bM]at hr;have HR:=aa hr;obtain⟨A',c',rfl,_⟩:=hr.cell.1;clear hr HI;go_wp2;go_returns;exact⟨_,rfl,HR.out,hb⟩
theorem Qd(xs:List Int):0<(perms xs).length:=by
 rw[oG];generalize xs.length=n
 induction n with
 | zero=>exact Nat.zero_lt_one
 | succ n ih=>exact Nat.mul_pos ih (Nat.succ_pos n)
theorem D6(xs:List Int)(k:Nat):[part xs 0 k,part xs (k+1) xs.length].flatten=xs.eraseIdx k:=by simp[part,List.eraseIdx_eq_take_drop_succ]
theorem Bs.afS{T:TypeId}{β:Type}{P:World->Value->β->Prop}{T':TypeId}(hP:uC T' P)(w:World){u1 u2:Value}{x1 x2:β}(h1:P w u1 x1)(h2:P w u2 x2) :
 Bs T P w.heap.size (w.alloc (.cells #[u1,u2] T)) (.slice (some ⟨w.heap.size,0,none⟩) 2 2) [x1,x2]:=by
 refine⟨[u1,u2],Row.lit (m:=1) (enc:=one RO) w #[u1,u2] T [u1,u2] (by simp[aH,one,RO]) (by simp),rfl,λi u x hu hx=>?_⟩;have hE:Ext w (w.alloc (.cells #[u1,u2] T)):=(af _).alloc _
 match i with
 | 0=>simp at hu hx;subst hu hx;exact hP.keep _ _ _ _ h1 (.bK hE)
 | 1=>simp at hu hx;subst hu hx;exact hP.keep _ _ _ _ h2 (.bK hE)
 | i+2=>simp at hu
theorem Bs.aau{T:TypeId}{β:Type}{P:World->Value->β->Prop}{T':TypeId}(hP:uC T' P)(w:World){u1:Value}{x1:β}(h1:P w u1 x1) :
 Bs T P w.heap.size (w.alloc (.cells #[u1] T)) (.slice (some ⟨w.heap.size,0,none⟩) 1 1) [x1]:=by
 refine⟨[u1],Row.lit (m:=1) (enc:=one RO) w #[u1] T [u1] (by simp[aH,one,RO]) (by simp),rfl,λi u x hu hx=>?_⟩;have hE:Ext w (w.alloc (.cells #[u1] T)):=(af _).alloc _
 match i with
 | 0=>simp at hu hx;subst hu hx;exact hP.keep _ _ _ _ h1 (.bK hE)
 | i+1=>simp at hu
theorem Bs.own{T:TypeId}{β:Type}{P:World->Value->β->Prop}{base:Nat}{w:World}{v:Value}{xs:List β}(h:Bs T P base w v xs):∀k,v.ownBlock=some k->base<=k/\k<w.heap.size:=λk hk=>let ⟨_,h1,_⟩:=h;World.ownsRow.lt h1 k hk
theorem I8:∀n,n<=5->fact n<=120
 | 0,_=>by decide
 | 1,_=>by decide
 | 2,_=>by decide
 | 3,_=>by decide
 | 4,_=>by decide
 | 5,_=>by decide
 | n+6,h=>by omega
theorem He{xs:List Int}(h:xs.length<=6):∀k,k<=xs.length->(iL xs k).length<=k*120:=by
 intro k
 induction k with
 | zero=>intro _;simp[iL]
 | succ k ih=>
   intro hk
   have:=ih (by omega)
   have h2:(perms (xs.eraseIdx k)).length<=120:=by rw[oG];exact I8 _ (by rw[agE,aj (by omega)];omega)
   rw[vG,dw,dX];omega
def TT(w w':World)(v':Value)(xs:List Int):Prop:=I2 w' v' (perms xs)/\(∀k,v'.ownBlock=some k->w.heap.size<=k)/\Ext w w'
theorem Mc:∀(n:Nat) (v:Value) (xs:List Int) (w:World),xs.length=n->n<=6->I1 w v xs ->
 Calls Tryz.prog 165 #[v] w λe w'=>∃v',e=.returned v'/\TT w w' v' xs:=by
 intro n
 induction n with
 | zero=>
   intro v xs w hx _ h;obtain rfl:xs=[]:=mZ hx;obtain⟨A,c,rfl,_⟩:=h.slice;clear h;have h0:I1 (w.alloc (.cells #[] 3)) (.slice (some ⟨w.heap.size,0,none⟩) 0 0) []:=.dS (dD);have h1:=(Bs.aau (T:=56) (fT (T:=101) (by decide)) _ h0);have H1:=aa h1;clear h0 h1;go_enter Tryz.func165,Tryz.ntmps165;go_wp2;go_returns;have ho:∀k,(Value.slice (some ⟨(w.alloc (.cells #[] 3)).heap.size,0,none⟩) 1 1).ownBlock=some k->w.heap.size<=k:=λk hk=>aX ((af w).alloc (.cells #[] 3)).size (H1.out.own k hk).1;have hd:=H1.out.done;have hsz:(w.alloc (.cells #[] 3)).heap.size=w.heap.size+1:=by simp
   rw[hsz]at ho hd;exact⟨_,rfl,hd,ho,((af _).alloc _).alloc _⟩
 | succ n ih=>
   intro v xs w hx hn h;obtain⟨A,c,rfl,hc1,hc2⟩:=h.slice;have H:=aa h;have HIH:=aa ih;have hpos:0<xs.length:=by omega
   have HX:=aa hx;have h6:xs.length<=6:=by omega
   have hz:((xs.length:Int)==0)=false:=fU.2 (by omega);have hst:=fT (T:=101) (by decide);clear h ih hx;go_enter Tryz.func165,Tryz.ntmps165;go_wp2;go_loopw [3,17] (λo i wr=>Ext w wr/\∃k:Nat,k<=xs.length/\i=.int .i64 k/\Hid (Bs 56 I1 w.heap.size wr o (iL xs k))) (λ_ i _=>xs.length-(intOf i).toNat)
   case atStart=>exact⟨(af _).alloc _,0,aT _,rfl,Bs.nil w⟩
   case round=>
    obtain⟨hb,k,hk,rfl,HI⟩:=hrel;have hbw:w.heap.size<=wr.heap.size:=hb.size;by_cases hlt:k<xs.length
    ·obtain⟨x,hx⟩:=ah hlt;have hI:=H.out.ext hb;obtain⟨b,off,rfl,hb2,hc⟩:=hI.cells (by omega);have c0:=hc k x hx;simp only[encI]at c0;obtain⟨V1,Cf,hp1⟩:∃V,(∀W,(Instr.slice 56 (.slice (some ⟨b,off,none⟩) xs.length c) none (some (.int .i64 (k:Int))) none).run Tryz.prog W=.ok (.slice V (k-0) (c-0)) W)/\I1 wr (.slice V (k-0) (c-0)) (part xs 0 k):=
      ⟨_,mW (P:=Tryz.prog) (A:=some ⟨b,off,none⟩) (n:=xs.length) (c:=c) Mm dx k (by omega),I1.part hI 0 k (by omega) (by omega)⟩
     obtain⟨V2,EB,hp2⟩:∃V,(∀W,(Instr.slice 56 (.slice (some ⟨b,off,none⟩) xs.length c) (some (.int .i64 ((k:Int)+1))) none none).run Tryz.prog W=.ok (.slice V (xs.length-(k+1)) (c-(k+1))) W)/\I1 wr (.slice V (xs.length-(k+1)) (c-(k+1))) (part xs (k+1) xs.length):=
      ⟨_,mK (P:=Tryz.prog) (A:=some ⟨b,off,none⟩) (n:=xs.length) (c:=c) Mm dx (k+1) (by omega),I1.part hI (k+1) xs.length (by omega) (av _)⟩
     simp only[Nat.sub_zero]at Cf hp1;have hwrap:IntKind.i64.wrap ((k:Int)+1)=(k:Int)+1:=dL _ (by omega);have HLS:=aa (Bs.afS (T:=56) hst wr.drew (hp1.ext (((af _).drew))) (hp2.ext (((af _).drew)))).done;have hfl:=D6 xs k;have hle:(xs.eraseIdx k).length=n:=by rw[agE,aj hlt];have:=HX.out;omega
     have htot:[part xs 0 k,part xs (k+1) xs.length].flatten.length<=1000:=by rw[hfl,hle];omega
     have YC:=aa hfl;have aes:=aa htot;have HXK:Hid (xs.getD k 0=x):=by show _ = _;simp[List.getD,hx]
     have Ju:=aa (aX (Nat.le_of_eq (oG (xs.eraseIdx k))) (I8 _ (by rw[hle];omega)));have HPT:=aa (aX (He h6 k hk) (show k*120<=720 by omega));clear hc hp1 hp2 hI hx hfl htot;go_wp2;go_region_held3 (λ_=>True) (trivial) ((go_at_call 199;refine(QO _ HLS.out (by simp) aes.out).mono ?_;rintro e w1 ⟨v1,rfl,r1,b1⟩))
     have hp1':I1 w1 v1 (xs.eraseIdx k):=by have:=ou.dS r1;rw[YC.out]at this;exact this
     have b1':Ext wr w1:=((((af wr).drew).alloc _)).trans b1;have HP:=aa hp1';have HB1:=aa b1';have hl1:=HIH.out v1 (xs.eraseIdx k) w1 hle (by omega) hp1';have HC:=aa hl1;clear r1 b1 hp1' b1' hl1;go_wp2_with (go_at_call 165;refine HC.out.mono ?_;rintro e w2 ⟨v2,rfl,hres⟩;obtain⟨hr1,hr2,hr3⟩:=hres;obtain⟨A2,c2,rfl,hd1,hd2⟩:=hr1.slice;have HR:=aa hr1;have HR2:=aa hr2;have HR3:=aa hr3;clear hr1 hr2 hr3)
     have hpl:=Ju.out;have hpp:=Qd (xs.eraseIdx k);generalize hps:perms (xs.eraseIdx k)=ps at HR hd1 hd2 hpl hpp;obtain⟨b3,Cz,rfl,hb3,hcc⟩:=HR.out.cells hpp;have hb4:wr.heap.size<=b3:=aX HB1.out.size (HR2.out b3 rfl);have b2:Ext wr w2:=HB1.out.trans HR3.out;clear hcc HB1 HR2 HR3;obtain⟨wo,rfl⟩:∃wo:World,wo=wr:=⟨_,rfl⟩;obtain⟨Ao,co,rfl,ho1,ho2⟩:=HI.out.slice;have HI2:Hid (Bs 56 I1 w.heap.size w2 (.slice Ao (iL xs k).length co) (iL xs k)):=HI.out.ext hst b2;have HOW:Hid ((Value.slice Ao (iL xs k).length co).ownBlock≠some b3):=λe=>by have:=(HI.out.own _ e).2;omega
     clear HI;go_loopw [3,34] (λo i wr=>Ext w wr/\∃j:Nat,j<=ps.length/\i=.int .i64 j/\Hid (Bs 56 I1 w.heap.size wr o (iL xs k++(ps.take j).map (x :: ·))/\o.ownBlock≠some b3)/\Hid (b3<wr.heap.size)/\Hid (I2 wr (.slice (some ⟨b3,Cz,none⟩) ps.length c2) ps)) (λ_ i _=>ps.length-(intOf i).toNat)
     case atStart=>exact⟨hb.trans b2,0,aT _,rfl,⟨by simpa using HI2.out,HOW.out⟩,hb3,HR.out⟩
     case round=>
      obtain⟨hb,j,hj,rfl,HJ,HB3,HR⟩:=hrel;by_cases hlt2:j<ps.length
      ·obtain⟨p,hp⟩:=ah hlt2;have hb3:=HB3.out;obtain⟨b',off',e,_,hcc⟩:=HR.out.cells (by omega);injection e with e;injection e with e1 e2;subst e1 e2;obtain⟨u,hu,hP⟩:=hcc j p hp;obtain⟨Au,cu,rfl,hu1,hu2⟩:=ou.slice hP;have Qc:p.length<=6:=by
        have:=(pY (xs:=xs.eraseIdx k) (p:=p) (by rw[hps];exact aM hp)).length_eq
        omega
       have r1:Row 3 1 (one encI) wr.heap.size (wr.alloc (.cells #[.int .i64 x] 3)) (.slice (some ⟨wr.heap.size,0,none⟩) 1 1) [x]:=Row.lit wr #[.int .i64 x] 3 [x] (by simp[aH,one,encI]) (by simp);have hE0:Ext wr (wr.alloc (.cells #[.int .i64 x] 3)):=(af _).alloc _;obtain⟨v3,w3,mX,hrow3,hg3⟩:=lX (P:=Tryz.prog) (t:=56) (ty:=56) (e:=3) Mm dx rfl (by omega) r1 ((hP.ext hE0).1.XQ) (λx _ j=>rfl) (by simp;omega) (by omega) hE0.size;obtain⟨cx,hcx⟩:∃cx,cx=[x]++p:=⟨_,rfl⟩;rw[<-hcx]at hrow3;obtain⟨A3,c3,rfl,_⟩:=(ou.dS hrow3).slice;have b3':Ext wr w3:=Ext.grown hE0 hg3 (λk hk=>r1.block k hk);have Pk:(iL xs k++(ps.take j).map (x :: ·)).length+1<=4194304:=by
        have:=HPT.out
        simp;omega
       obtain⟨cur,kJ⟩:∃cur,cur=iL xs k++(ps.take j).map (x :: ·):=⟨_,rfl⟩;have ZW:=HJ.out;rw[<-kJ]at Pk ZW;obtain⟨Ao,co,rfl,_⟩:=ZW.1.slice;obtain⟨v4,w4,mG,hB4,VX,hK4,hS4,hO4⟩:=Dr w3.heap.size rfl ZW.1 b3' (ou.dS hrow3) hb.size Pk;have H4:Hid (Bs 56 I1 w.heap.size w4 v4 (iL xs k++(ps.take (j+1)).map (x :: ·))/\v4.ownBlock≠some b3):=by
        refine⟨?_,?_⟩
        ·rw[ak hp,rR,<-jM,<-kJ];rw[hcx]at hB4;exact hB4
        ·rcases hO4 with h|⟨kk,h,h'⟩
         ·rw[h];exact HJ.out.2
         ·rw[h];intro e;injection e with e;omega
       have HR4:Hid (I2 w4 (.slice (some ⟨b3,Cz,none⟩) ps.length c2) ps):=Ls.same HR.out (by omega) (hS4 _ hb3 HJ.out.2) (fT (by decide)) hK4;have uW:Hid (b3<w4.heap.size):=bR hb3 hK4.1;have sU:=aa (VX w hb (av _));have oq:=aa mX;have qV:=aa mG;clear hcc hP hp ZW kJ hcx r1 hrow3 hg3 mX mG hB4 VX hK4 hS4 hO4 HJ HR hE0;go_wp2_with (first|(at_builtin;refine wpList_append_run rfl rfl rfl rfl oq.out ?_;clear oq)|(at_builtin;refine wpList_append_run rfl rfl rfl rfl qV.out ?_;clear qV))
       go_roundw;case rel=>exact⟨sU.out,j+1,by omega,by go_num,H4.out,uW.out,HR4.out⟩
       case measure=>simp[intOf];omega
      ·obtain rfl:j=ps.length:=by omega
       have hJ0:=HJ.out.1;rw[bM,<-hps,<-HXK.out,<-vG]at hJ0;have HJ':=aa hJ0;clear hJ0;clear HJ HR;go_wp2;go_roundw;case rel=>exact⟨hb,k+1,by omega,by go_num,HJ'.out⟩
       case measure=>simp[intOf];omega
    ·obtain rfl:k=xs.length:=by omega
     have HI':=HI;obtain⟨A',c',rfl,_⟩:=HI.out.slice;clear HI;go_wp2;go_returns;rw[<-Dx hpos]at HI';rw[<-Dx hpos];have hd:=HI'.out.done;have ho:=HI'.out.own;exact⟨_,rfl,hd,λk hk=>(ho k hk).1,hb⟩
def Aside(u o:Value)(w0 w:World):Prop:=∀k,u.ownBlock=some k->k<w0.heap.size/\w.heap[k]? =w0.heap[k]?/\o.ownBlock≠some k
theorem Aside.lt{u o:Value}{w0 w:World}(h:Aside u o w0 w){k:Nat}(hk:u.ownBlock=some k):k<w.heap.size:=by
 obtain⟨h1,h2,_⟩:=h k hk;rw[Array.getElem?_eq_getElem h1]at h2
 exact(fF.1 h2).1
theorem Aside.ext{u o:Value}{w0 w w':World}(h:Aside u o w0 w)(hb:Ext w w'):Aside u o w0 w':=λk hk=>
 ⟨(h k hk).1,(Below.block hb k (h.lt hk)).trans (h k hk).2.1,(h k hk).2.2⟩
theorem Aside.pushed{α:Type}{e:TypeId}{m:Nat}{enc:α->Nat->Value}{base:Nat}{u o o':Value}{xs:List α}{w0 w w':World}(h:Aside u o w0 w)(hp:ni e m enc base w w' o o' xs):Aside u o' w0 w':=λk hk=>
 ⟨(h k hk).1,(hp.2.2.1 k (h.lt hk) (h k hk).2.2).trans (h k hk).2.1,by
   rcases hp.2.2.2 with h1|⟨j,h1,h2⟩
   ·rw[h1];exact(h k hk).2.2
   ·rw[h1];intro e;injection e with e;have:=h.lt hk;omega⟩
theorem Aside.row{α:Type}{e:TypeId}{m:Nat}{enc:α->Nat->Value}{base:Nat}{u o:Value}{xs:List α}{w0 w:World}(h:Aside u o w0 w)(hr:Row e m enc base w0 u xs):Row e m enc base w u xs:=hr.same λk hk=>(h k hk).2.1
theorem EJ(ops:List aV):(bQ ops).length<=3:=by rw[<-lU];exact nN _ _
theorem IC(ops:List aV)(key:Int):pE ops key (bQ ops).length=qh ops key:=by unfold pE qh;rw[bM]
theorem xX{v:Value}{h:List aG}(key:Int)(w:World)(H:iM w v h)(hok:aD h=true)(hk:lH key 0 2=true) :
 Calls Tryz.prog 198 #[v,.int .i64 key] w λe w'=>∃v',e=.returned v'/\Row 3 1 (one encI) w.heap.size w' v' (aW h key)/\Ext w w':=by
 obtain⟨A,c,rfl⟩:=H.slice;have HH:=aa H;have fu:=aa hok;have hlen:=aR hok;have hdl:=lK h;obtain⟨cs,hmk,hcs⟩:∃cs,(∀W:World,(Instr.makeSlice 56 (.int .i64 0) (.int .i64 (h.length:Int))).run Tryz.prog W=.ok (.slice (some ⟨W.heap.size,0,none⟩) 0 h.length) (W.alloc (.cells cs 3)))/\cs.size=h.length*1:=
  ⟨_,jo (P:=Tryz.prog) 56 3 Mm dx h.length (by omega) (by omega),size_madeCells _ _⟩
 clear H hok;go_enter Tryz.func198,Tryz.ntmps198;go_wp2_with fail
 refine(bZ _ HH.out (by omega) (aJ fu.out)).mono ?_
 rw[fu.out];rintro e w1 ⟨rfl,b1⟩;go_wp2_with (go_at_call 119;refine(DC _ _).mono ?_;rw[hk];rintro e w' ⟨rfl,rfl⟩)
 have hE1:Hid (Ext w (w1.alloc (.cells cs 3))):=b1.alloc _
 refine(uG _ (HH.out.ext hE1.out) (by omega)).mono ?_
 rintro e w2 ⟨vd,rfl,rd,b2⟩;have RD:=aa rd;obtain⟨Ad,cd,rfl,_⟩:=id rd.cell.1;have HB2:=aa (hE1.out.trans b2);have hR:Row 3 1 (one encI) w1.heap.size (w1.alloc (.cells cs 3)) (.slice (some ⟨w1.heap.size,0,none⟩) 0 h.length) ([]:List Int):=lC _ h.length (by unfold maxLen;omega) hcs;have HAP:Hid (Aside (.slice Ad (aN h).length cd) (.slice (some ⟨w1.heap.size,0,none⟩) 0 h.length) w2 w2):=λk hk=>by have h1:=World.ownsRow.lt rd k hk;refine⟨h1.2,rfl,λe=>?_⟩;have h2:=World.ownsRow.lt hR k e;have h3:=h1.1;omega
 have HR:=aa ((hR.low b1.size).ext b2);clear hR rd b1 b2 hmk;go_wp2;go_loopw [5,24] (λo i wr=>Ext w wr/\∃m:Nat,m<=(aN h).length/\i=.int .i64 m/\Hid (Row 3 1 (one encI) w.heap.size wr o (uh h key m)/\Aside (.slice Ad (aN h).length cd) o w2 wr)) (λ_ i _=>(aN h).length-(intOf i).toNat)
 case atStart=>exact⟨HB2.out,0,aT _,rfl,HR.out,HAP.out⟩
 case round=>
  obtain⟨hb,m,hm,rfl,HI⟩:=hrel;have hbw:w.heap.size<=wr.heap.size:=hb.size;by_cases hlt:m<(aN h).length
  ·obtain⟨n,hn⟩:=ah hlt;obtain⟨hnl,hnd⟩:=qg (aM hn);obtain⟨-,bd,UU,rfl,hbd,hcd⟩:=Gf (HI.out.2.row RD.out) (by omega);have cn:=hcd m n hn;obtain⟨b,off,rfl,hbl,hc⟩:=HH.out.head (by omega);obtain⟨t,ht⟩:=ah hnl;obtain⟨ov,c0,c1,c2,hs⟩:=hc n t ht;replace c0:=hb.cell c0;replace c1:=hb.cell c1;replace c2:=hb.cell c2;have hto:=dH fu.out (aM ht);have hol:=dF hto;have HS:=aa hs;have hnx:=PT (key:=key) hn;rw[dV ht]at hnx;have jC:=aa hnx;have hl3:=EJ t.ops;have hlu:=IZ h key m;clear hn hnd hc ht hs hto hcd hnx;go_wp2_with fail
   refine(l8 t.az t.done _ (HS.out.ext hb) (by omega)).mono ?_
   rintro e w3 ⟨v3,rfl,r3,b3⟩;obtain⟨A3,c3,rfl,_⟩:=id r3.cell.1;have R3:=aa r3;have HJ:Hid (Row 3 1 (one encI) w.heap.size w3 _ (uh h key m++pE t.ops key 0)/\Aside _ _ w2 w3):=⟨by simpa[pE] using HI.out.1.ext b3,HI.out.2.ext b3⟩;have HB3:=aa (hb.trans b3);clear r3 b3 HI;go_wp2;go_loopw [5,34] (λo i wr=>Ext w wr/\∃j:Nat,j<=(bQ t.ops).length/\i=.int .i64 j/\Hid (Row 3 1 (one encI) w.heap.size wr o (uh h key m++pE t.ops key j)/\Aside (.slice (some ⟨bd,UU,none⟩) (aN h).length cd) o w2 wr/\Row 67 3 encOpr w.heap.size wr (.slice A3 (bQ t.ops).length c3) (bQ t.ops))) (λ_ i _=>(bQ t.ops).length-(intOf i).toNat)
   case atStart=>exact⟨HB3.out,0,aT _,rfl,HJ.out.1,HJ.out.2,R3.out.low hbw⟩
   case round=>
    obtain⟨hb2,j,hj,rfl,HK⟩:=hrel;have hbw2:w.heap.size<=wr.heap.size:=hb2.size;by_cases hjt:j<(bQ t.ops).length
    ·obtain⟨A',c',hA',hcc⟩:=HK.out.2.2.cell.1;injection hA' with e1 e2 e3;subst e1 e3;obtain⟨b',off',rfl,ru,hcc⟩:=hcc (by omega);obtain⟨o,ho⟩:=ah hjt;have d0:wr.cell? ⟨b',off'+j*3,none⟩=some (.int .i64 o.kind):=hcc j o ho 0 (by omega);have d1:wr.cell? ⟨b',off'+j*3+1,none⟩=some (.int .i64 o.key):=hcc j o ho 1 (by omega);have d2:wr.cell? ⟨b',off'+j*3+2,none⟩=some (.int .i64 o.value):=hcc j o ho 2 (by omega);have hE2:Hid (Ext wr (wr.alloc (.cells #[.int .i64 o.kind,.int .i64 o.key,.int .i64 o.value] 67))):=(af _).alloc _;have hn2:=En (key:=key) ho;have hlt2:=Jc t.ops key j;by_cases hkk:o.key=key
     ·rw[aj hkk]at hn2;have vT:=aa hn2;have hkb:(o.key==key)=true:=by simp[hkk]
      obtain⟨v',w4,hrun,hP⟩:=Hq (wr.heap.size+1) (by simp) HK.out.1 hE2.out o.value hbw2 (by rw[dw];omega);have bH:=aa hrun;have HP:=aa hP;have HR4:=aa (HK.out.2.2.pushed HK.out.1 (by decide) hP);have HA4:=aa (HK.out.2.1.pushed hP);have sU:=aa (hP.2.1 w hb2 (av _));clear hcc ho e2 hn2 hrun hP HK hkk;go_wp2_with (at_builtin;refine wpList_append_run rfl rfl rfl rfl bH.out ?_)
      go_roundw;case rel=>exact⟨sU.out,j+1,by omega,by go_num,by rw[vT.out,<-jM];exact HP.out.1,HA4.out,HR4.out⟩
      case measure=>simp[intOf];omega
     ·rw[au hkk,jh]at hn2;have vT:=aa hn2;have hkb:(o.key==key)=false:=by simp[hkk]
      clear hcc ho e2 hn2 hkk;go_wp2;go_roundw;case rel=>exact⟨hb2.trans hE2.out,j+1,by omega,by go_num,by rw[vT.out];exact HK.out.1.ext hE2.out,HK.out.2.1.ext hE2.out,HK.out.2.2.ext hE2.out⟩
      case measure=>simp[intOf];omega
    ·obtain rfl:j=(bQ t.ops).length:=by omega
     go_wp2;go_roundw;case rel=>exact⟨hb2,m+1,by omega,by go_num,by rw[jC.out,<-IC];exact HK.out.1,HK.out.2.1⟩
     case measure=>simp[intOf];omega
  ·obtain rfl:m=(aN h).length:=by omega
   have hr:=HI.out.1;rw[GD]at hr;have Zh:=aa hr;clear hr HI;go_wp2;go_returns;exact⟨_,rfl,Zh.out,hb⟩
def qp(h:List aG)(k:Nat):List (List Int):=(List.range k).map λ(i:Nat)=>aW h (i:Int)
theorem Ny(h:List aG)(k:Nat):qp h (k+1)=qp h k++[aW h (k:Int)]:=by simp[qp,vU]
theorem tO(h:List aG)(k:Nat):(qp h k).length=k:=by simp[qp]
theorem Ei:(Tryz.prog.info? 56).map (λi=>(i.zero,i.size,i.bytes))=some (some (.slice none 0 0),1,24):=vN
theorem Dt{v:Value}{h:List aG}(w:World)(H:iM w v h)(hok:aD h=true) :
 Calls Tryz.prog 164 #[v] w λe w'=>∃v',e=.returned v'/\Bs 56 I1 w.heap.size w' v' (qp h 3)/\Ext w w':=by
 obtain⟨A,c,rfl⟩:=H.slice;have HH:=aa H;have fu:=aa hok;have hlen:=aR hok;obtain⟨cs,hmk,hcs⟩:∃cs,(∀W:World,(Instr.makeSlice 101 (.int .i64 0) (.int .i64 ((3:Nat):Int))).run Tryz.prog W=.ok (.slice (some ⟨W.heap.size,0,none⟩) 0 3) (W.alloc (.cells cs 56)))/\cs.size=3*1:=
  ⟨_,jo (P:=Tryz.prog) 101 56 Tryz.underlying101 Ei 3 (by omega) (by omega),size_madeCells _ _⟩
 have hmk':∀W:World,(Instr.makeSlice 101 (.int .i64 0) (.int .i64 3)).run Tryz.prog W=.ok (.slice (some ⟨W.heap.size,0,none⟩) 0 3) (W.alloc (.cells cs 56)):=hmk;have hst:=fT (T:=101) (by decide);clear H hok hmk;go_enter Tryz.func164,Tryz.ntmps164;go_wp2_with fail
 refine(bZ _ HH.out (by omega) (aJ fu.out)).mono ?_
 rw[fu.out];rintro e w1 ⟨rfl,b1⟩;have HR:Hid (Bs 56 I1 w.heap.size (w1.alloc (.cells cs 56)) (.slice (some ⟨w1.heap.size,0,none⟩) 0 3) (qp h 0)):=Bs.low (T:=56) (P:=I1) (Bs.room w1 cs 3 (by unfold maxLen;omega) hcs) b1.size;have HB1:Hid (Ext w (w1.alloc (.cells cs 56))):=b1.alloc _;clear b1;go_wp2;go_loopw [3,9] (λo i wr=>Ext w wr/\∃k:Nat,k<=3/\i=.int .i64 k/\Hid (Bs 56 I1 w.heap.size wr o (qp h k))) (λ_ i _=>3-(intOf i).toNat)
 case atStart=>exact⟨HB1.out,0,by omega,rfl,HR.out⟩
 case round=>
  obtain⟨hb,k,hk,rfl,HI⟩:=hrel;have hbw:w.heap.size<=wr.heap.size:=hb.size;by_cases hlt:k<3
  ·go_wp2_with fail
   refine(xX (k:Int) _ (HH.out.ext hb) fu.out (cK.2 (by omega))).mono ?_
   rintro e w3 ⟨v3,rfl,r3,b3⟩;have hs3:=ou.dS r3;obtain⟨A3,c3,rfl,_⟩:=hs3.slice;obtain⟨Ao,co,rfl,_⟩:=HI.out.slice;obtain⟨v4,w4,hrun,hB4,VX,_⟩:=Dr w3.heap.size rfl HI.out b3 hs3 hbw (by rw[tO];omega);have bH:=aa hrun;have uW:=aa hB4;have sU:=aa (VX w hb (av _));clear hrun hB4 VX HI r3 hs3;go_wp2_with (at_builtin;refine wpList_append_run rfl rfl rfl rfl bH.out ?_)
   go_roundw;case rel=>exact⟨sU.out,k+1,by omega,by go_num,by rw[Ny];exact uW.out⟩
   case measure=>simp[intOf];omega
  ·obtain rfl:k=3:=by omega
   have HI':=HI;obtain⟨A',c',rfl,_⟩:=HI.out.slice;clear HI;go_wp2;go_returns;exact⟨_,rfl,HI'.out,hb⟩
theorem Xx:(Tryz.prog.info? 3).map (λi=>(i.zero,i.size,i.bytes))=some (some (.int .i64 0),1,8):=by kernel_rfl
theorem abT(x:Int)(j:Nat):((one encI) x j).oneCell'=true:=by first|rfl|(unfold one;split<;>rfl)
theorem zL{v:Value}{xs:List Int}(w:World)(h:aL 1 (one encI) w v xs)(hlen:xs.length<=2097152) :
 Calls Tryz.prog 166 #[v] w λe w'=>∃v',e=.returned v'/\Row 3 1 (one encI) w.heap.size w' v' xs/\Ext w w':=by
 obtain⟨A,c,rfl,h'⟩:=id h;have heq:=λW=>Lib.run_eql_slice_nil (P:=Tryz.prog) W 56 3 A xs.length c 0 0 Mm
 cases A with
 | none=>
   have hx:xs=[]:=by
    rcases Nat.eq_zero_or_pos xs.length with h0|h0
    ·exact mZ h0
    ·obtain⟨b,off,hA,_⟩:=h' h0;cases hA
   subst hx;clear h h';simp only[iJ]at heq ⊢;go_enter Tryz.func166,Tryz.ntmps166;go_wp2;go_returns;exact⟨_,rfl,Row.nil,af _⟩
 | some ad=>
   have hrow:Row 3 1 (one encI) w.heap.size (w.alloc (.cells #[] 3)) (.slice (some ⟨w.heap.size,0,none⟩) 0 0) ([]:List Int):=World.ownsRow_made w #[] 0 (av _) (by simp[maxLen]) (by simp);obtain⟨v',w',hrun,hrow',hgrow⟩:=lX (P:=Tryz.prog) (t:=56) (ty:=56) (e:=3) Mm Xx rfl (by omega) hrow (h.ext ((af w).alloc (.cells #[] 3))) (λx _ j=>abT x j) (by simp;omega) (by omega) (by simp);have Wt:=aa hrow';have hg:=aa (Ext.grown ((af w).alloc (.cells #[] 3)) hgrow (λk hk=>by simp[Value.ownBlock]at hk;omega));have XP:=aa hrun;clear h h' hrow hrow' hgrow hrun;go_enter Tryz.func166,Tryz.ntmps166;go_wp2_with (at_builtin;refine wpList_append_run rfl rfl rfl rfl XP.out ?_)
   go_returns;exact⟨_,rfl,by simpa using Wt.out,hg.out⟩
theorem uZ(A:Option Addr)(n c:Nat)(w:World)(h:n<=c/\c<=9223372036854775807) :
 Calls Tryz.prog 167 #[.slice A n c] w λe w'=>e=.returned (.slice A n n)/\w=w':=by
 go_enter Tryz.func167,Tryz.ntmps167;go_wp2;go_returns;exact⟨rfl,rfl⟩
theorem Jp(A:Option Addr)(n c:Nat)(w:World)(h:n<=c/\c<=9223372036854775807) :
 Calls Tryz.prog 168 #[.slice A n c] w λe w'=>e=.returned (.slice A n n)/\w=w':=by
 go_enter Tryz.func168,Tryz.ntmps168;go_wp2;go_returns;exact⟨rfl,rfl⟩
def prodTo(h:List aG):Nat->Nat
 | 0=>1
 | k+1=>prodTo h k*fact (aW h (k:Int)).length
theorem qY(h:List aG):prodTo h 3=jB h:=by unfold jB;rw[prodTo,prodTo,prodTo,prodTo];simp
theorem Pb:∀n,1<=fact n
 | 0=>av _
 | n+1=>Nat.mul_pos (Pb n) (Nat.succ_pos n)
theorem Ct(h:List aG):∀k,(bY h k).length=prodTo h k:=by
 intro k
 induction k with
 | zero=>rfl
 | succ k ih=>
   rw[bY,wK,prodTo,<-ih];simp only[dX,oG];generalize fact (aW h (k:Int)).length=F;generalize bY h k=l
   induction l with
   | nil=>simp
   | cons a l ih2=>simp[Nat.add_mul,ih2];omega
theorem Qa{h:List aG}{k m:Nat}(hk:k<=m):prodTo h k<=prodTo h m:=by
 induction m with
 | zero=>obtain rfl:k=0:=by omega
         exact av _
 | succ m ih=>
   rcases eP m k with h1|h1
   ·obtain rfl:k=m+1:=by omega
    exact av _
   ·exact aX (ih h1) (Nat.le_mul_of_pos_right _ (Pb _))
theorem uK{h:List aG}(hl:∀k:Int,(aW h k).length<=6):∀k,prodTo h k<=720 ^ k
 | 0=>av _
 | k+1=>Nat.mul_le_mul (uK hl k) (BC (hl _))
theorem nD{h:List aG}:∀{k:Nat} {x:List (List Int)},x∈bY h k->x.length=k
 | 0,x,hx=>by simp[bY]at hx;subst hx;rfl
 | k+1,x,hx=>by simp only[bY,List.mem_flatMap,fV]at hx;obtain⟨b,hb,o,_,rfl⟩:=hx;simp[nD hb]
def grownBy(ps:List (List Int))(b:List (List Int)):List (List (List Int)):=ps.map λo=>b++[o]
def iI(h:List aG)(k j:Nat):List (List (List Int)):=((bY h k).take j).flatMap (grownBy (perms (aW h (k:Int))))
theorem wm{h:List aG}{k j:Nat}{b:List (List Int)}(hb:(bY h k)[j]? =some b):iI h k (j+1)=iI h k j++grownBy (perms (aW h (k:Int))) b:=by unfold iI;rw[ak hb,lq];simp
theorem Ev(h:List aG)(k:Nat):iI h k (bY h k).length=bY h (k+1):=by unfold iI;rw[bM];rfl
theorem NT(h:List aG)(k j:Nat)(hj:j<=(bY h k).length):(iI h k j).length=j*fact (aW h (k:Int)).length:=by
 induction j with
 | zero=>simp[iI]
 | succ j ih=>
   obtain⟨b,hb⟩:=ah (show j<(bY h k).length by omega);rw[wm hb,dw,ih (by omega),grownBy,dX,oG,Nat.succ_mul]
theorem Iq{h:List aG}{k j i:Nat}(hk:k<3)(hm:jB h<=200)(hj:j<(bY h k).length)(hi:i<=fact (aW h (k:Int)).length):(iI h k j).length+i<=200:=by
 rw[NT h k j (by omega)];have h1:j*fact (aW h (k:Int)).length+fact (aW h (k:Int)).length<=prodTo h (k+1):=by rw[<-Nat.succ_mul,prodTo,<-Ct];exact Nat.mul_le_mul_right _ hj
 have h2:=Qa (h:=h) (show k+1<=3 by omega);rw[qY]at h2;omega
theorem sS{h:List aG}:∀{k:Nat} {x:List (List Int)},x∈bY h k->∀y∈x,y.length<=h.length
 | 0,x,hx=>by simp[bY]at hx;subst hx;intro y hy;cases hy
 | k+1,x,hx=>by
   simp only[bY,List.mem_flatMap,fV]at hx;obtain⟨b,hb,o,ho,rfl⟩:=hx;intro y hy;rcases iR.1 hy with h1|h1
   ·exact sS hb y h1
   ·simp at h1;subst h1;rw[(pY ho).length_eq];exact je _ _
theorem Cr{ps:List (List Int)}{b:List (List Int)}{i:Nat}{p:List Int}(hp:ps[i]? =some p):grownBy (ps.take (i+1)) b=grownBy (ps.take i) b++[b++[p]]:=by unfold grownBy;rw[ak hp,rR];simp
theorem Ls.ae1{T:TypeId}{β:Type}{P:World->Value->β->Prop}{w:World}:Ls T P w (.slice none 0 0) ([]:List β):=⟨[],.dS (base:=0) Row.nil,rfl,λ_ _ _ h=>by simp at h⟩
theorem Gx{v:Value}{h:List aG}(w:World)(H:iM w v h)(hok:aD h=true) :
 Calls Tryz.prog 127 #[v] w λe w'=>∃v',e=.returned v'/\I3 w' v' (gJ h)/\Ext w w':=by
 obtain⟨A,c,rfl⟩:=H.slice;have HH:=aa H;have fu:=aa hok;have hlen:=aR hok;have hil:∀k:Int,(aW h k).length<=6:=λk=>aX (je h k) (by omega);have HIL:=aa hil;clear H hok hil;go_enter Tryz.func127,Tryz.ntmps127;go_wp2_with fail
 refine(Dt _ HH.out fu.out).mono ?_
 rintro e w1 ⟨v1,rfl,r1,b1⟩;have hd1:=r1.done;obtain⟨A1,c1,rfl,_⟩:=hd1.slice;obtain⟨bf,off,rfl,hbf,hcf⟩:=hd1.cells (by rw[tO];omega);rw[tO]at hd1;have HF:Hid (∀i:Nat,i<3->∃u,w1.cell? ⟨bf,off+i,none⟩=some u/\I1 w1 u (aW h (i:Int))):=λi hi=>by
  have:(qp h 3)[i]? =some (aW h (i:Int)):=by
   match i,hi with
   | 0,_=>rfl
   | 1,_=>rfl
   | 2,_=>rfl
   | i+3,hi=>omega
  exact hcf i _ this
 have heq:=λW=>Lib.run_eql_slice_nil (P:=Tryz.prog) W 101 56 (some ⟨bf,off,none⟩) (qp h 3).length c1 0 0 Tryz.underlying101;rw[tO]at heq ⊢;have HB1:=aa b1;clear r1 b1 hd1 hcf;go_wp2;go_loopw [4,25] (λp i wr=>w1=wr/\∃k:Nat,k<=3/\i=.int .i64 k/\p=.int .i64 (prodTo h k:Nat)) (λ_ i _=>3-(intOf i).toNat)
 case atStart=>exact⟨rfl,0,by omega,rfl,rfl⟩
 case round=>
  obtain⟨rfl,k,hk,rfl,rfl⟩:=hrel;by_cases hlt:k<3
  ·obtain⟨u,hu,hP⟩:=HF.out k hlt;obtain⟨Au,cu,rfl,_⟩:=ou.slice hP;have TA:=HIL.out (k:Int);have hq:=uK HIL.out k;have hq2:720 ^ k<=518400:=(show k=0∨k=1∨k=2 by omega).elim (by rintro rfl;decide) λh=>h.elim (by rintro rfl;decide) (by rintro rfl;decide);have hnx:Hid (prodTo h (k+1)=prodTo h k*fact (aW h (k:Int)).length):=rfl;obtain⟨p,hp⟩:∃p,prodTo h k=p:=⟨_,rfl⟩;rw[hp]at hq hnx ⊢;obtain⟨n,hn⟩:∃n,(aW h (k:Int)).length=n:=⟨_,rfl⟩;rw[hn]at hu TA hnx;clear hP hp;go_wp2;go_loopw [4,31] (λq i wr=>w1=wr/\∃j:Nat,j<=n/\i=.int .i64 j/\q=.int .i64 ((p*fact j:Nat):Int)) (λ_ i _=>n-(intOf i).toNat)
   case atStart=>exact⟨rfl,0,by omega,rfl,by simp[fact]⟩
   case round=>
    obtain⟨rfl,j,hj,rfl,rfl⟩:=hrel;by_cases hjt:j<n
    ·have hf:p*fact j<=518400*720:=Nat.mul_le_mul (aX hq hq2) (BC (by omega));have hf2:p*fact (j+1)<=518400*720:=Nat.mul_le_mul (aX hq hq2) (BC (by omega));have he:Hid (p*fact (j+1)=p*fact j*(j+1)):=by show _ = _;rw[fact,Nat.mul_assoc]
     have hwrap:IntKind.i64.wrap (((p*fact j:Nat):Int)*((j:Int)+1))=((p*fact (j+1):Nat):Int):=by rw[he.out];rw[he.out]at hf2;rw[show ((p*fact j:Nat):Int)*((j:Int)+1)=((p*fact j*(j+1):Nat):Int) by rw[Int.natCast_mul (p*fact j)];rfl];exact dL _ (by omega)
     obtain⟨q,hq3⟩:∃q,p*fact j=q:=⟨_,rfl⟩;obtain⟨q',hq4⟩:∃q',p*fact (j+1)=q':=⟨_,rfl⟩;rw[hq3,hq4]at hwrap;rw[hq3];have HQ4:=aa hq4;clear hq3 hq4 hf hf2 he hq;go_wp2;go_roundw;case rel=>exact⟨trivial,j+1,by omega,by go_num,by rw[HQ4.out]⟩
     case measure=>simp[intOf];omega
    ·obtain rfl:j=n:=by omega
     go_wp2;go_roundw;case rel=>exact⟨trivial,k+1,by omega,by go_num,by rw[hnx.out]⟩
     case measure=>simp[intOf];omega
  ·obtain rfl:k=3:=by omega
   have hq:=uK HIL.out 3;rw[qY]at hq ⊢;rw[show ((3:Nat):Int)=3 from rfl];clear hlt hk;by_cases hm:jB h<=200
   ·have HR:Hid (gJ h=bY h 3):=aj ⟨fu.out,hm⟩;have HM:=aa hm;have h0:I2 (w1.alloc (.cells #[] 56)) (.slice (some ⟨w1.heap.size,0,none⟩) 0 0) []:=(Bs.nil w1).done;have H0:=aa (Bs.aau (T:=101) uI _ h0).done;have hs1:(w1.alloc (.cells #[] 56)).heap.size=w1.heap.size+1:=by simp
    rw[hs1]at H0;clear h0 hs1 heq;obtain⟨m,hm2⟩:∃m,jB h=m:=⟨_,rfl⟩;rw[hm2]at hq hm ⊢;clear hm2;go_wp2;clear hq hm;go_loopw [8,46] (λo i wr=>Ext w1 wr/\∃k:Nat,k<=3/\i=.int .i64 k/\Hid (I3 wr o (bY h k))) (λ_ i _=>3-(intOf i).toNat)
    case atStart=>exact⟨((af _).alloc _).alloc _,0,by omega,rfl,H0.out⟩
    case round=>
     obtain⟨hb,k,hk,rfl,HI⟩:=hrel;by_cases hlt:k<3
     ·obtain⟨u,hu,hP⟩:=HF.out k hlt;replace hu:=hb.cell hu;have HP:=aa (ou.ext hP hb);obtain⟨Au,cu,rfl,_⟩:=ou.slice hP;obtain⟨Ao,co,rfl,_⟩:=HI.out.slice;obtain⟨wo,rfl⟩:∃wo:World,wo=wr:=⟨_,rfl⟩;have HN:Hid (Bs 101 I2 wo.heap.size (wo.alloc (.cells #[] 101)) (.slice (some ⟨wo.heap.size,0,none⟩) 0 0) (iI h k 0)):=by
       show Bs _ _ _ _ _ _
       have:=Bs.nil (T:=101) (P:=I2) wo
       simpa[iI] using this
      have HB:=aa hb;have hlt3:(k:Int)<3:=by omega
      clear hP hb;go_wp2;go_loopw [11,53] (λo i wr=>Ext wo wr/\∃j:Nat,j<=(bY h k).length/\i=.int .i64 j/\Hid (Bs 101 I2 wo.heap.size wr o (iI h k j))) (λ_ i _=>(bY h k).length-(intOf i).toNat)
      case atStart=>exact⟨(af _).alloc _,0,by omega,rfl,HN.out⟩
      case round=>
       obtain⟨hb2,j,hj,rfl,HJ⟩:=hrel;by_cases hjt:j<(bY h k).length
       ·have hi3:=HI.out.ext (T':=107) (Ls.stays (fT (by decide)) (by decide)) hb2;obtain⟨b2,off2,rfl,_,hc2⟩:=hi3.cells (by omega);obtain⟨bg,hbg⟩:=ah hjt;obtain⟨ub,hub,hPb⟩:=hc2 j bg hbg;obtain⟨Ab,cb,rfl,_⟩:=Ls.slice hPb;have JX:=aa hPb;have hbl:=nD (aM hbg);have adN:bg.length<=2:=by omega
        clear hbl;have HBL:=aa (sS (aM hbg));have HGN:=aa (wm hbg);obtain⟨An,cn,rfl,_⟩:=HJ.out.slice;have hroom:=λi hi=>Iq (i:=i) hlt HM.out hjt hi;have XA:=aa hroom;have TA:=HIL.out (k:Int);clear hc2 hPb hbg hi3 hroom;go_wp2_with fail
        refine(Mc _ _ (aW h (k:Int)) _ rfl TA (ou.ext HP.out hb2)).mono ?_
        rintro e w2 ⟨v2,rfl,hr1,-,hr3⟩;have hpl:=oG (aW h (k:Int));obtain⟨ps,hps⟩:∃ps,perms (aW h (k:Int))=ps:=⟨_,rfl⟩;rw[hps]at hr1 hpl HGN;obtain⟨Ap,cp,rfl,_⟩:=Ls.slice hr1;have HR2:=aa hr1;have HJ2:Hid (Bs 101 I2 wo.heap.size w2 (.slice An (iI h k j).length cn) (iI h k j++grownBy (ps.take 0) bg)):=by show Bs _ _ _ _ _ _;rw[show grownBy (ps.take 0) bg=[] by simp[grownBy],jh];exact HJ.out.ext (T':=101) uI hr3
        have aev:=aa (Ls.ext JX.out (T':=101) (fT (by decide)) hr3);have HB2:=aa (hb2.trans hr3);have Ju:=aa hpl;clear hr1 hr3 hb2 HJ JX hpl;have Qc:∀p∈ps,p.length<=6:=λp hp=>by rw[<-hps]at hp;rw[(pY hp).length_eq];exact TA
        have abW:=aa Qc;clear hps Qc hub;obtain⟨wq,rfl⟩:∃wq:World,wq=wr:=⟨_,rfl⟩;go_wp2;go_loopw [11,60] (λo i wr=>Ext wo wr/\True/\∃i':Nat,i'<=ps.length/\i=.int .i64 i'/\Hid (Bs 101 I2 wo.heap.size wr o (iI h k j++grownBy (ps.take i') bg))/\Hid (I2 wr (.slice Ap ps.length cp) ps/\I2 wr (.slice Ab bg.length cb) bg)) (λ_ i _=>ps.length-(intOf i).toNat)
        case atStart=>exact⟨HB2.out,trivial,0,by omega,rfl,HJ2.out,HR2.out,aev.out⟩
        case round=>
         obtain⟨hb3,-,i,hi,rfl,HK,HL⟩:=hrel;by_cases hit:i<ps.length
         ·obtain⟨p,hp⟩:=ah hit;obtain⟨bp,XY,rfl,_,hcp⟩:=Ls.cells HL.out.1 (by omega);obtain⟨up,hup,hPp⟩:=hcp i p hp;obtain⟨Aq,cq,rfl,hq1,hq2⟩:=ou.slice hPp;have hp6:=abW.out p (aM hp);have HPP:=aa (ou.clip hPp);have YY:=aa (Cr (b:=bg) hp);have HP:=aa hp;obtain⟨nx,hnx⟩:∃nx,nx=iI h k j++grownBy (ps.take i) bg:=⟨_,rfl⟩;have hK:=HK.out;rw[<-hnx]at hK;have hnl:nx.length<=200:=by
           have:=XA.out i (by have:=Ju.out;omega)
           rw[hnx,dw,grownBy,dX,eY];omega
          obtain⟨An,cn,rfl,_⟩:=hK.slice;have jC:=aa hnx;have HK2:=aa hK;obtain⟨cs,hmk,hcs⟩:∃cs,(∀W:World,(Instr.makeSlice 101 (.int .i64 0) (.int .i64 ((3:Nat):Int))).run Tryz.prog W=.ok (.slice (some ⟨W.heap.size,0,none⟩) 0 3) (W.alloc (.cells cs 56)))/\cs.size=3*1:=
           ⟨_,jo (P:=Tryz.prog) 101 56 Tryz.underlying101 Ei 3 (by omega) (by omega),size_madeCells _ _⟩
          have hmk':∀W:World,(Instr.makeSlice 101 (.int .i64 0) (.int .i64 3)).run Tryz.prog W=.ok (.slice (some ⟨W.heap.size,0,none⟩) 0 3) (W.alloc (.cells cs 56)):=hmk;obtain⟨wp,rfl⟩:∃wp:World,wp=wr:=⟨_,rfl⟩;have HC0:Hid (Bs 56 I1 wp.heap.size (wp.alloc (.cells cs 56)) (.slice (some ⟨wp.heap.size,0,none⟩) 0 3) (bg.take 0)):=Bs.room wp cs 3 (by unfold maxLen;omega) hcs;clear hmk hcs hcp hPp hp hK hnx HK;go_wp2;go_loopw [16,67] (λo i wr=>Ext wp wr/\∃d:Nat,d<=bg.length/\i=.int .i64 d/\Hid (Bs 56 I1 wp.heap.size wr o (bg.take d))) (λ_ i _=>bg.length-(intOf i).toNat)
          case atStart=>exact⟨(af _).alloc _,0,by omega,rfl,HC0.out⟩
          case round=>
           obtain⟨hb4,d,hd,rfl,HC⟩:=hrel;by_cases hdt:d<bg.length
           ·obtain⟨x,hx⟩:=ah hdt;obtain⟨bx,af9,rfl,_,hcx⟩:=Ls.cells (Ls.ext HL.out.2 (T':=101) (fT (by decide)) hb4) (by omega);obtain⟨ux,hux,hPx⟩:=hcx d x hx;obtain⟨Ax,cx,rfl,_⟩:=ou.slice hPx;have hx6:=HBL.out x (aM hx);have R8:=aa (ak hx);have HPX:=aa hPx;have hC:=HC.out;obtain⟨cur,kJ⟩:∃cur,cur=bg.take d:=⟨_,rfl⟩;have hcl:cur.length<=2:=by rw[kJ,eY];omega
            rw[<-kJ]at hC;obtain⟨Ao2,co2,rfl,_⟩:=hC.slice;have HCU:=aa kJ;have WC:=aa hC;clear hcx hPx hx hC kJ HC;go_wp2_with fail
            refine(zL _ HPX.out.1.XQ (by omega)).mono ?_
            rintro e w5 ⟨v5,rfl,r5,b5⟩;have hs5:=ou.dS r5;obtain⟨A5,c5,rfl,_⟩:=hs5.slice;obtain⟨v6,w6,hrun,NS,hE6,_⟩:=Dr w5.heap.size rfl WC.out b5 hs5 hb4.size (by omega);have bH:=aa hrun;have zi:=aa NS;have Wp:=aa (hE6 wp hb4 (av _));clear hrun NS hE6 WC r5 hs5;go_wp2_with (at_builtin;refine wpList_append_run rfl rfl rfl rfl bH.out ?_)
            go_roundw;case rel=>exact⟨Wp.out,d+1,by omega,by go_num,by rw[R8.out,<-HCU.out];exact zi.out⟩
            case measure=>simp[intOf];omega
           ·obtain rfl:d=bg.length:=by omega
            have hC:=HC.out;rw[bM]at hC;obtain⟨Ao2,co2,rfl,_⟩:=hC.slice;obtain⟨v6,w6,hrun,NS,hE6,_⟩:=Dr wr.heap.size rfl hC (af wr) (ou.ext HPP.out hb4) hb4.size (by omega);have b6:=hE6 wp hb4 (av _);obtain⟨fin,hfin⟩:∃fin,fin=bg++[p]:=⟨_,rfl⟩;rw[<-hfin]at NS;have hD6:=NS.done;obtain⟨A6,c6,rfl,_⟩:=hD6.slice;obtain⟨v7,w7,aaS,FJ,GI,hK7,_⟩:=TD w6.heap.size rfl HK2.out b6 hD6 hb3.size (by omega);have oq:=aa hrun;have qV:=aa aaS;have JK:=aa FJ;have Ak:=aa (GI wo hb3 (av _));have HR7:=aa (uI.keep _ _ _ _ HL.out.1 hK7);have afj:=aa (uI.keep _ _ _ _ HL.out.2 hK7);have jR:=aa hfin;clear hrun aaS NS FJ hE6 GI hK7 hC HC hD6 hfin HK2 HL;go_wp2_with (first|(go_at_call 167;refine(uZ _ _ _ _ ⟨hq1,hq2⟩).mono ?_;rintro e w8 ⟨rfl,rfl⟩)|(at_builtin;refine wpList_append_run rfl rfl rfl rfl oq.out ?_;clear oq)|(at_builtin;refine wpList_append_run rfl rfl rfl rfl qV.out ?_;clear qV))
            go_roundw;case rel=>exact⟨Ak.out,trivial,i+1,by omega,by go_num,by rw[YY.out,<-jM,<-jC.out,<-jR.out];exact JK.out,HR7.out,afj.out⟩
            case measure=>simp[intOf];omega
         ·obtain rfl:i=ps.length:=by omega
          have hk:=HK.out;rw[bM,<-HGN.out]at hk;have HK':=aa hk;clear HK hk;go_wp2;go_roundw;case rel=>exact⟨hb3,j+1,by omega,by go_num,HK'.out⟩
          case measure=>simp[intOf];omega
       ·obtain rfl:j=(bY h k).length:=by omega
        have hd:=HJ.out.done;rw[Ev]at hd;have HD:=aa hd;clear HJ hd;go_wp2;go_roundw;case rel=>exact⟨HB.out.trans hb2,k+1,by omega,by go_num,HD.out⟩
        case measure=>simp[intOf];omega
     ·obtain rfl:k=3:=by omega
      obtain⟨Ao,co,rfl,hc1,hc2⟩:=HI.out.slice;have HD:=aa (Ls.clip HI.out);go_wp2_with fail
      refine(Jp _ _ _ _ ⟨hc1,hc2⟩).mono ?_
      rintro e w3 ⟨rfl,rfl⟩;go_wp2;go_returns;exact⟨_,rfl,by rw[HR.out];exact HD.out,HB1.out.trans hb⟩
   ·have HR:Hid (gJ h=[]):=au λhc=>hm hc.2;obtain⟨m,hm2⟩:∃m,jB h=m:=⟨_,rfl⟩;rw[hm2]at hq hm ⊢;clear hm2 heq;go_wp2;go_returns;exact⟨_,rfl,by rw[HR.out];exact Ls.ae1,HB1.out⟩
theorem Nh{base:Nat}{w0 w:World}(q:Nat)(hq:w.heap.size=q){v:Value}{xs:List Nat}(H:Row 3 1 (one jl) base w0 v xs)(hx:Ext w0 w)(n:Nat)(hb:base<=w0.heap.size)(hn:xs.length+1<=4194304) :
 ∃v' w',(Builtin.append_ #[56,56] 56 #[v,.slice (some ⟨q,0,none⟩) 1 1]).run Tryz.prog (w.alloc (.cells #[.int .i64 (n:Int)] 3))=.ok v' w'/\ni 3 1 (one jl) base w0 w' v v' (xs++[n]):=
 jY q hq Mm dx rfl (by omega) H hx n (λj=>rfl) _ rfl hb hn (by omega)
theorem jV{α:Type}{e:TypeId}{m:Nat}{enc:α->Nat->Value}{base:Nat}{u w0 w':World}{v v':Value}{xs zs:List α}(H:Row e m enc base w0 v zs)(hp:ni e m enc base w0 w' v v' xs)(hu:Ext u w0)(hl:u.heap.size<=base):dz (λk=>v.ownBlock=some k) w0 w':=by have h1:Below u.heap.size u w0:=hu;have h2:Below u.heap.size u w':=hp.2.1 u hu hl;exact⟨h2.os.trans h1.os.symm,h2.tape.trans h1.tape.symm,h2.output.trans h1.output.symm,(yF.yK H hp).1,λk hk hx=>hp.2.2.1 k hk hx⟩
theorem ZM{α:Type}{e:TypeId}{m:Nat}{enc:α->Nat->Value}{base:Nat}{w:World}{A:Option Addr}{n c:Nat}{xs:List α}(h:Row e m enc base w (.slice A n c) xs)(p:Nat)(hp:p<=xs.length):Row e m enc base w (.slice A p c) (xs.take p):=by
 have hl:(xs.take p).length=p:=by rw[eY];omega
 refine⟨kG _,?_⟩;rcases h.2 with ⟨hv,hn⟩|⟨g,cap,cur,hv,h1,h2,h3,h4,h5,h6⟩
 ·injection hv with e1 e2 e3;subst e1 e2 e3;left
  have:p=0:=by omega
  subst this;exact⟨rfl,by simp⟩
 ·injection hv with e1 e2 e3;subst e1 e2 e3;right;refine⟨g,c,cur,by rw[hl],h1,h2,by omega,h4,h5,?_⟩;have hcs:(xs.take p).flatMap (aH m enc)=(xs.flatMap (aH m enc)).take (p*m):=by
   have hsp:xs.flatMap (aH m enc)=(xs.take p).flatMap (aH m enc)++(xs.drop p).flatMap (aH m enc):=by rw[<-lq,List.take_append_drop]
   have hl2:((xs.take p).flatMap (aH m enc)).length=p*m:=by rw[kG,hl]
   rw[hsp,<-hl2,List.take_left]
  rw[hl,hcs,<-h6,List.take_take];congr 1
  exact(rC (Nat.mul_le_mul_right _ hp)).symm
theorem S9{T:TypeId}{base:Nat}{w:World}{v:Value}{xs:List Nat}:Row T 1 (one encI) base w v (xs.map λn:Nat=>(n:Int))↔Row T 1 (one jl) base w v xs:=by unfold Row;rw[dX,List.flatMap_map];exact Iff.rfl
theorem abD{w:World}{v:Value}{xs:List Nat}(h:aL 1 (one jl) w v xs):aL 1 (one encI) w v (xs.map λn:Nat=>(n:Int)):=by obtain⟨A,c,rfl,h⟩:=h;refine⟨A,c,by rw[dX],λhn=>?_⟩;obtain⟨b,off,e,hb,hc⟩:=h (by simpa using hn);refine⟨b,off,e,hb,λi x hx j hj=>?_⟩;rw[jT,kL]at hx;obtain⟨y,hy,rfl⟩:=hx;exact hc i y hy j hj
theorem Jy(a b:Value)(w:World):Calls Tryz.prog 130 #[a,b] w λe w'=>e=.returned (.bool true)/\w=w':=by go_enter Tryz.func130,Tryz.ntmps130;go_wp2;go_returns;exact⟨rfl,rfl⟩
theorem SY{FB KB bo:Nat}{v fv:Value}{cur:List Nat}{W:World}(hr:Row 3 1 (one jl) bo W v cur)(hf:Boxed W FB 56 fv)(hk:Boxed W KB 4 (.bool false))(hne:FB≠KB)(hl:cur.length<=2097152)(NM:bo<=W.heap.size) :
 Calls Tryz.prog 173 #[v,.pointer (some ⟨FB,0,none⟩),.pointer (some ⟨KB,0,none⟩)] W λe W'=>e=.returned (.bool false)/\dz (λk=>k=FB∨k=KB) W W'/\Boxed W' KB 4 (.bool true)/\∃u,Boxed W' FB 56 u/\Row 3 1 (one jl) bo W' u cur:=by
 obtain⟨A,c,rfl,_⟩:=id hr.cell.1;have HR:=aa (abD hr.cell.1);have HF:=aa hf;have HK:=aa hk;have HL:=aa hl;have HB:=aa NM;clear hr hf hk hl NM;go_enter Tryz.func173,Tryz.ntmps173;go_wp2_with fail
 refine(zL (xs:=cur.map λn:Nat=>(n:Int)) W HR.out (by rw[dX];exact HL.out)).mono ?_
 rintro e w1 ⟨u,rfl,hu,b1⟩;have HU:=aa (S9.1 hu);obtain⟨A',c',rfl,_⟩:=id (S9.1 hu).cell.1;have f1:=aQ HF.out b1;have k1:=aQ HK.out b1;have HF1:=aa f1;have HK1:=aa k1;have cf:=f1.cell;have zf:=f1.frozen;have ck:=k1.cell;have zk:=k1.frozen;clear hu f1 k1;go_wp2;go_returns;have q1:=(HF1.out.set (.slice A' cur.length c'));have q2:=kr HK1.out (a:=⟨FB,0,none⟩) hne (.slice A' cur.length c');refine⟨rfl,((dz.bK b1).setCell (.inl (.inl rfl)) _).setCell (.inl (.inr rfl)) _,q2.set _,_,kr q1 (a:=⟨KB,0,none⟩) (λe=>hne e.symm) _,?_⟩;have hrow:=HU.out.low HB.out;have n1:=Boxed.not_row HF1.out (e:=3) (by decide) HU.out;have n2:=Boxed.not_row HK1.out (e:=3) (by decide) HU.out;have r1:=World.ownsRow.kept hrow (grownBy_setCell' _ FB (.slice A' cur.length c')) (.inr (λe=>n1 e.symm));exact World.ownsRow.kept r1 (grownBy_setCell' _ KB (.bool true)) (.inr (λe=>n2 e.symm))
