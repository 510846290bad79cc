/- Lemmas. -/
import Derived.Test.YtcdopfdgknglfaaGreatDoorCAH
import Derived.Lib.AppendZerosOnto
set_option maxHeartbeats 16000000
set_option maxRecDepth 8000
set_option linter.all false
namespace Go.Proofs.YtcdopfdgknglfaaGreatDoor
open Go.RowKit
section
def sH(T:TypeId)(w w':World):Prop:=w.heap.size<=w'.heap.size/\∀(k:Nat) (cs:Array Value) (t:TypeId) (fr:Nat × Nat),w.heap[k]? =some (Obj.cells cs t fr)->t≠T->w'.heap[k]? =w.heap[k]?
theorem sH.aO{T:TypeId}{w w':World}(h:Ext w w'):sH T w w':=
 ⟨h.size,λk _ _ _ hk _=>Below.block h k (dB.1 hk).1⟩
theorem sH.vO{α:Type}{e:TypeId}{m:Nat}{enc:α->Nat->Value}{base:Nat}{w0 w':World}{v v':Value}{zs xs:List α}(H:Row e m enc base w0 v zs)(hp:lF e m enc base w0 w' v v' xs):sH e w0 w':=
 ⟨by
  rcases eX w'.heap.size w0.heap.size with h|h
  ·exfalso;have hE:=hp.2.1 w0 (af _);rcases eX base w0.heap.size with h'|h';·
    by_cases hv:v.ownBlock=some (w0.heap.size-1)
    ·have h0:=hp.1;rcases hp.2.2.2 with h1|⟨k,h1,h2⟩
     ·rw[hv]at h1
      have:=(World.ownsRow.lt h0 _ h1).2
      omega
     ·have:=(World.ownsRow.lt h0 _ h1).2
      omega
    ·have:=hp.2.2.1 (w0.heap.size-1) (by omega) hv
     rw[oJ (by omega),Array.getElem?_eq_getElem (by omega)]at this;cases this
   ·have:=(hE h').size
    omega
  ·exact h,λk cs t fr hk ht=>hp.2.2.1 k (dB.1 hk).1 (λe1=>by
  rcases H.2 with ⟨rfl,_⟩|⟨g,cap,cur,rfl,hb,hg,_⟩
  ·simp[Value.ownBlock]at e1
  ·simp[Value.ownBlock]at e1;subst e1;rw[hg]at hk;injection hk with hk;injection hk with _ h2 _;exact ht h2.symm)⟩
def nR{α:Type}(T:TypeId)(enc:α->Value)(w:World)(v:Value)(xs:List α):Prop:=mD enc w v xs/\fT T w v/\qM v
theorem nR.ext{α:Type}{T:TypeId}{enc:α->Value}{w w':World}{v:Value}{xs:List α}(h:nR T enc w v xs)(hb:Ext w w'):nR T enc w' v xs:=⟨h.1.ext hb,h.2.1.ext hb,h.2.2⟩
theorem nR.keep{α:Type}{T T':TypeId}{enc:α->Value}{w w':World}{v:Value}{xs:List α}(h:nR T enc w v xs)(hk:sH T' w w')(hne:T≠T'):nR T enc w' v xs:=by
 obtain⟨⟨A,c,rfl,hc⟩,hi,hcp⟩:=h;refine⟨⟨A,c,rfl,λhn=>?_⟩,λa n c' e hn=>?_,hcp⟩
 ·obtain⟨b,off,rfl,hlt,hc⟩:=hc hn;obtain⟨cs,fr,hg⟩:=hi _ _ _ rfl hn;have hb:=hk.2 b cs T fr hg hne;exact⟨b,off,rfl,dJ hlt hk.1,λi x hx=>by rw[<-hc i x hx];simp only[World.cell?,hb]⟩
 ·obtain⟨cs,fr,hg⟩:=hi a n c' e hn;exact⟨cs,fr,(hk.2 _ cs T fr hg hne).trans hg⟩
theorem nR.fu{α:Type}{T:TypeId}{enc:α->Value}{base:Nat}{w:World}{v:Value}{xs:List α}(h:Row T 1 (one enc) base w v xs):nR T enc w v xs:=⟨h.cell.1.Si,h.Ng,h.cap⟩
theorem nR.clip{α:Type}{T:TypeId}{enc:α->Value}{w:World}{A:Option Addr}{n c:Nat}{xs:List α}(h:nR T enc w (.slice A n c) xs):nR T enc w (.slice A n n) xs:=by
 obtain⟨h1,h2,h3⟩:=h
 have:=h3 A n c rfl
 exact⟨(ny h1.SI n).Si,wh h2 n,jP (ay _) (by omega)⟩
theorem nR.slice{α:Type}{T:TypeId}{enc:α->Value}{w:World}{v:Value}{xs:List α}(h:nR T enc w v xs):∃A c,v=.slice A xs.length c/\xs.length<=c/\c<=9223372036854775807:=by obtain⟨⟨A,c,rfl,_⟩,_,hc⟩:=h;exact⟨A,c,rfl,hc _ _ _ rfl⟩
theorem nR.cells{α:Type}{T:TypeId}{enc:α->Value}{w:World}{A:Option Addr}{n c:Nat}{xs:List α}(h:nR T enc w (.slice A n c) xs)(hn:0<xs.length):∃b off,A=some ⟨b,off,none⟩/\b<w.heap.size/\∀(i:Nat) x,xs[i]? =some x->w.cell? ⟨b,off+i,none⟩=some (enc x):=by obtain⟨⟨A',c',e,hc⟩,_,_⟩:=h;injection e with e1 e2 e3;subst e1;exact hc hn
structure qR (T:TypeId) {β:Type} (P:World->Value->β->Prop):Prop where
 keep:∀w w' u x,P w u x->sH T w w'->P w' u x
 sl:∀w u x,P w u x->∃A n c,u=.slice A n c
def Ls(T:TypeId){β:Type}(P:World->Value->β->Prop)(w:World)(v:Value)(xs:List β):Prop:=
 ∃us:List Value,nR T KP w v us/\us.length=xs.length/\∀(i:Nat) u x,us[i]? =some u->xs[i]? =some x->P w u x
def Bs(T:TypeId){β:Type}(P:World->Value->β->Prop)(base:Nat)(w:World)(v:Value)(xs:List β):Prop:=
 ∃us:List Value,Row T 1 (one KP) base w v us/\us.length=xs.length/\∀(i:Nat) u x,us[i]? =some u->xs[i]? =some x->P w u x
section
variable{T:TypeId}{β:Type}{P:World->Value->β->Prop}{w w' w0:World}{v:Value}{xs:List β}{base:Nat}
theorem Bs.done(h:Bs T P base w v xs):Ls T P w v xs:=let ⟨us,h1,h2,h3⟩:=h;⟨us,.fu h1,h2,h3⟩
theorem Bs.ext(h:Bs T P base w v xs){T':TypeId}(hP:qR T' P)(hb:Ext w w'):Bs T P base w' v xs:=by obtain⟨us,h1,h2,h3⟩:=h;exact⟨us,h1.ext hb,h2,λi u x hu hx=>hP.keep _ _ _ _ (h3 i u x hu hx) (.aO hb)⟩
theorem Bs.slice(h:Bs T P base w v xs):∃A c,v=.slice A xs.length c/\xs.length<=c/\c<=9223372036854775807:=by obtain⟨us,h1,h2,h3⟩:=h;obtain⟨A,c,rfl,h4,h5⟩:=(nR.fu h1).slice;exact⟨A,c,by rw[h2],by omega,h5⟩
theorem Ls.ext(h:Ls T P w v xs){T':TypeId}(hP:qR T' P)(hb:Ext w w'):Ls T P w' v xs:=by obtain⟨us,h1,h2,h3⟩:=h;exact⟨us,h1.ext hb,h2,λi u x hu hx=>hP.keep _ _ _ _ (h3 i u x hu hx) (.aO hb)⟩
theorem Ls.keep{T':TypeId}(h:Ls T P w v xs)(hP:qR T' P)(hk:sH T' w w')(hne:T≠T'):Ls T P w' v xs:=by obtain⟨us,h1,h2,h3⟩:=h;exact⟨us,h1.keep hk hne,h2,λi u x hu hx=>hP.keep _ _ _ _ (h3 i u x hu hx) hk⟩
theorem Ls.slice(h:Ls T P w v xs):∃A c,v=.slice A xs.length c/\xs.length<=c/\c<=9223372036854775807:=by obtain⟨us,h1,h2,h3⟩:=h;obtain⟨A,c,rfl,h4,h5⟩:=h1.slice;exact⟨A,c,by rw[h2],by omega,h5⟩
theorem Ls.clip{A:Option Addr}{n c:Nat}(h:Ls T P w (.slice A n c) xs):Ls T P w (.slice A n n) xs:=let ⟨us,h1,h2,h3⟩:=h;⟨us,h1.clip,h2,h3⟩
theorem Ls.cells{A:Option Addr}{n c:Nat}(h:Ls T P w (.slice A n c) xs)(hn:0<xs.length):∃b off,A=some ⟨b,off,none⟩/\b<w.heap.size/\∀(i:Nat) x,xs[i]? =some x->∃u,w.cell? ⟨b,off+i,none⟩=some u/\P w u x:=by obtain⟨us,h1,h2,h3⟩:=h;obtain⟨b,off,hA,hb,hc⟩:=h1.cells (by omega);refine⟨b,off,hA,hb,λi x hx=>?_⟩;obtain⟨u,hu⟩:=au (show i<us.length by rw[h2];exact(aS.1 hx).1);exact⟨u,hc i u hu,h3 i u x hu hx⟩
theorem Ls.same{T':TypeId}{b off n c:Nat}(h:Ls T P w (.slice (some ⟨b,off,none⟩) n c) xs)(hn:0<xs.length)(hb:w'.heap[b]? =w.heap[b]?)(hP:qR T' P)(hk:sH T' w w'):Ls T P w' (.slice (some ⟨b,off,none⟩) n c) xs:=by
 obtain⟨us,⟨⟨A,c',e,hc⟩,hi,hcp⟩,h2,h3⟩:=h;injection e with e1 e2 e3;subst e1 e2 e3;refine⟨us,⟨⟨_,_,rfl,λhu=>?_⟩,λa n' c2 e hn'=>?_,hcp⟩,h2,λi u x hu hx=>hP.keep _ _ _ _ (h3 i u x hu hx) hk⟩
 ·obtain⟨b',off',e,hlt,hcl⟩:=hc hu;injection e with e;injection e with e1 e2;subst e1 e2;exact⟨b,off,rfl,dJ hlt hk.1,λi x hx=>by rw[<-hcl i x hx];simp only[World.cell?,hb]⟩
 ·obtain⟨cs,fr,hg⟩:=hi a n' c2 e hn';injection e with e1 _ _;injection e1 with e1;subst e1;exact⟨cs,fr,hb.trans hg⟩
theorem Ls.stays{T':TypeId}(hP:qR T' P)(hne:T≠T'):qR T' (Ls T P):=
 ⟨λ_ _ _ _ h hk=>h.keep hP hk hne,λ_ _ _ h=>let ⟨A,c,e,_⟩:=h.slice;⟨A,_,c,e⟩⟩
theorem Bs.push{t:TypeId}{z:Value}{b:Nat}(q:Nat){w1:World}(hq:w1.heap.size=q)(ht:Tryz.prog.underlying t=some (.slice T))(hinfo:(Tryz.prog.info? T).map (λi=>(i.zero,i.size,i.bytes))=some (some z,1,b))(hzs:z.cells.size=1)(hP:qR T P)
 (H:Bs T P base w0 v xs) (hx:Ext w0 w1) {u:Value} {x:β} (hu:P w1 u x) (hb:base<=w0.heap.size) (hn:xs.length+1<=4194304) (hbb:b<=64) :
 ∃v' w',(Builtin.append_ #[t,t] t #[v,.slice (some ⟨q,0,none⟩) 1 1]).run Tryz.prog (w1.alloc (.cells #[u] T))=.ok v' w'/\Bs T P base w' v' (xs++[x])/\(∀U:World,Ext U w0->U.heap.size<=base->Ext U w')/\sH T w0 w'/\(∀k,k<w0.heap.size->v.ownBlock≠some k->w'.heap[k]? =w0.heap[k]?)/\(v'.ownBlock=v.ownBlock∨∃k,v'.ownBlock=some k/\w0.heap.size<=k):=by
 obtain⟨us,h1,h2,h3⟩:=H;obtain⟨A,n,c,rfl⟩:=hP.sl _ _ _ hu;obtain⟨v',w',hrun,hp⟩:=jQ q hq ht hinfo hzs (by omega) h1 hx (.slice A n c) (λj=>rfl) _ rfl hb (by omega) hbb;have hk:sH T w0 w':=sH.vO h1 hp;have hk1:sH T w1 w':=by obtain⟨v2,w2,JX,hp2⟩:=jQ q hq ht hinfo hzs (by omega) (h1.ext hx) (af w1) (.slice A n c) (λj=>rfl) _ rfl (aR hb hx.size) (by omega) hbb;rw[JX]at hrun;injection hrun with e1 e2;subst e1 e2;exact sH.vO (h1.ext hx) hp2
 refine⟨v',w',hrun,⟨us++[.slice A n c],hp.1,by simp[h2],λi y s hy hs=>?_⟩,hp.2.1,hk,hp.2.2.1,hp.2.2.2⟩;rw[oQ]at hy hs;split at hy
 ·rename_i hi;rw[ah (by rw[<-h2];exact hi)]at hs;exact hP.keep _ _ _ _ (h3 i y s hy hs) hk
 ·rename_i hi;rw[ak (by rw[<-h2];exact hi)]at hs;have hi0:i-us.length=0:=by
   have:=(aS.1 hy).1
   simp at this;omega
  rw[hi0]at hy;rw[<-h2,hi0]at hs;simp at hy hs;subst hy hs;exact hP.keep _ _ _ _ hu hk1
theorem Bs.nil(w:World):Bs T P w.heap.size (w.alloc (.cells #[] T)) (.slice (some ⟨w.heap.size,0,none⟩) 0 0) ([]:List β):=⟨[],nk,rfl,λ_ _ _ h=>by simp at h⟩
theorem Bs.room(w:World)(cs:Array Value)(cap:Nat)(hm:cap<=maxLen)(hs:cs.size=cap*1):Bs T P w.heap.size (w.alloc (.cells cs T)) (.slice (some ⟨w.heap.size,0,none⟩) 0 cap) ([]:List β):=⟨[],iX cs cap hm hs,rfl,λ_ _ _ h=>by simp at h⟩
theorem Bs.low{base':Nat}(h:Bs T P base w v xs)(hb:base'<=base):Bs T P base' w v xs:=let ⟨us,h1,h2,h3⟩:=h;⟨us,h1.low hb,h2,h3⟩
end
def I1(w:World)(v:Value)(xs:List Int):Prop:=nR 3 encI w v xs
theorem gH{T:TypeId}(hne:3≠T):qR T I1:=⟨λ_ _ _ _ h hk=>nR.keep h hk hne,λ_ _ _ h=>let ⟨A,c,e,_⟩:=nR.slice h;⟨A,_,c,e⟩⟩
def I2:World->Value->List (List Int)->Prop:=Ls 56 I1
def I3:World->Value->List (List (List Int))->Prop:=Ls 101 I2
theorem qX:qR 101 I2:=Ls.stays (gH (by decide)) (by decide)
theorem Bh:(Tryz.prog.info? 56).map (λi=>(i.zero,i.size,i.bytes))=some (some (.slice none 0 0),1,24):=by kernel_rfl
theorem FE:(Tryz.prog.info? 101).map (λi=>(i.zero,i.size,i.bytes))=some (some (.slice none 0 0),1,24):=by kernel_rfl
theorem QT{base:Nat}{w0 w:World}(q:Nat)(hq:w.heap.size=q){v:Value}{xs:List Int}(H:Row 3 1 (one encI) base w0 v xs)(hx:Ext w0 w)(n:Int)(hb:base<=w0.heap.size)(hn:xs.length+1<=4194304) :
 ∃v' w',(Builtin.append_ #[56,56] 56 #[v,.slice (some ⟨q,0,none⟩) 1 1]).run Tryz.prog (w.alloc (.cells #[.int .i64 n] 3))=.ok v' w'/\lF 3 1 (one encI) base w0 w' v v' (xs++[n]):=
 jQ q hq Tryz.underlying56 iI rfl (by omega) H hx n (λj=>rfl) _ rfl hb hn (by omega)
theorem C8{base:Nat}{w0 w:World}(q:Nat)(hq:w.heap.size=q){v:Value}{xss:List (List Int)}(H:Bs 56 I1 base w0 v xss)(hx:Ext w0 w){u:Value}{xs:List Int}(hu:I1 w u xs)(hb:base<=w0.heap.size)(hn:xss.length+1<=4194304) :
 ∃v' w',(Builtin.append_ #[101,101] 101 #[v,.slice (some ⟨q,0,none⟩) 1 1]).run Tryz.prog (w.alloc (.cells #[u] 56))=.ok v' w'/\Bs 56 I1 base w' v' (xss++[xs])/\(∀U:World,Ext U w0->U.heap.size<=base->Ext U w')/\sH 56 w0 w'/\(∀k,k<w0.heap.size->v.ownBlock≠some k->w'.heap[k]? =w0.heap[k]?)/\(v'.ownBlock=v.ownBlock∨∃k,v'.ownBlock=some k/\w0.heap.size<=k):=
 Bs.push q hq Tryz.underlying101 Bh rfl (gH (by decide)) H hx hu hb hn (by omega)
theorem O6{base:Nat}{w0 w:World}(q:Nat)(hq:w.heap.size=q){v:Value}{Rc:List (List (List Int))}(H:Bs 101 I2 base w0 v Rc)(hx:Ext w0 w){u:Value}{xss:List (List Int)}(hu:I2 w u xss)(hb:base<=w0.heap.size)(hn:Rc.length+1<=4194304) :
 ∃v' w',(Builtin.append_ #[107,107] 107 #[v,.slice (some ⟨q,0,none⟩) 1 1]).run Tryz.prog (w.alloc (.cells #[u] 101))=.ok v' w'/\Bs 101 I2 base w' v' (Rc++[xss])/\(∀U:World,Ext U w0->U.heap.size<=base->Ext U w')/\sH 101 w0 w'/\(∀k,k<w0.heap.size->v.ownBlock≠some k->w'.heap[k]? =w0.heap[k]?)/\(v'.ownBlock=v.ownBlock∨∃k,v'.ownBlock=some k/\w0.heap.size<=k):=
 Bs.push q hq Tryz.underlying107 FE rfl qX H hx hu hb hn (by omega)
end
def earlyTo(ops:List aJ)(k:Nat):Bool:=(List.range k).any λi=>match ops[i]? with
 | some o=>mh o&&(ops.drop (i+1)).any λl=>decide (l.kind=2/\l.key=o.key/\l.value=o.value)
 | none=>false
theorem Dz{ops:List aJ}{k:Nat}{o:aJ}(ho:ops[k]? =some o):earlyTo ops (k+1)=(earlyTo ops k || (mh o&&(ops.drop (k+1)).any λl=>decide (l.kind=2/\l.key=o.key/\l.value=o.value))):=by unfold earlyTo;rw[kD,List.any_append];simp[ho]
theorem IB{ops:List aJ}{k n:Nat}(h:earlyTo ops k=true)(hk:k<=n):earlyTo ops n=true:=by unfold earlyTo at *;rw[gN]at *;obtain⟨i,hi,h⟩:=h;exact⟨i,by simp at *;omega,h⟩
theorem Ib(s:Int)(d:Bool){ov:Value}{ops:List aJ}(w:World)(h:aI 3 encOpr w ov ops)(hcp:qM ov)(hlen:ops.length<=6) :
 Calls Tryz.prog 243 #[.agg #[.int .i64 s,ov,.bool d]] w λe w'=>e=.returned (.bool (qU ops))/\Ext w w':=by
 obtain⟨A0,c0,rfl,_⟩:=id h;have hcap:=hcp _ _ _ rfl;have HS:=aa h;have hg:=Fz;clear h hcp;go_enter Tryz.func243,Tryz.ntmps243;go_wp2;go_loopw [10] (λi wr=>Ext (w.alloc (.cells #[.int .i64 s,.slice A0 ops.length c0,.bool d] 48)) wr/\∃k:Nat,k<=ops.length/\i=.int .i64 k/\Hid (earlyTo ops k=false)) (λi _=>ops.length-(intOf i).toNat)
 case atStart=>exact⟨af _,0,bR _,rfl,rfl⟩
 case round=>
  obtain⟨hb,k,hk,rfl,HI⟩:=hrel;have hbb:=((af w).alloc _).trans hb;by_cases hlt:k<ops.length
  ·have XV:=HS.out.ext hbb;obtain⟨A2,c2,hA2,hcc⟩:=id XV;injection hA2 with e1 e2 e3;subst e1 e3;obtain⟨b,off,rfl,hbl,hcc⟩:=hcc (by omega);obtain⟨o,ho⟩:=au hlt;have d0:wr.cell? ⟨b,off+k*3,none⟩=some (.int .i64 o.kind):=hcc k o ho 0 (by omega);have d1:wr.cell? ⟨b,off+k*3+1,none⟩=some (.int .i64 o.key):=hcc k o ho 1 (by omega);have d2:wr.cell? ⟨b,off+k*3+2,none⟩=some (.int .i64 o.value):=hcc k o ho 2 (by omega);have f1:wr.cell? ⟨w.heap.size,1,none⟩=some (.slice (some ⟨b,off,none⟩) ops.length c0):=hb.cell (az rfl);have f1n:w.heap.size<wr.heap.size:=by have:=hb.size;simp at this;omega
   obtain⟨AV,hcut,hpart⟩:∃AV,(∀W,(Instr.slice 46 (.slice (some ⟨b,off,none⟩) ops.length c0) (some (.int .i64 ((k:Int)+1))) none none).run Tryz.prog W=.ok (.slice AV (ops.length-(k+1)) (c0-(k+1))) W)/\aI 3 encOpr wr (.slice AV (ops.length-(k+1)) (c0-(k+1))) (part ops (k+1) ops.length):=
    ⟨_,nT (P:=Tryz.prog) (A:=some ⟨b,off,none⟩) (n:=ops.length) (c:=c0) Tryz.underlying46 lq (k+1) (by omega),(aI.part XV (k+1) ops.length (by omega) (ay _) hcap.1).1⟩
   have HP:=aa hpart;have hpl:(part ops (k+1) ops.length).length=ops.length-(k+1):=yx (ay _);have Ho:=aa ho;have hnx:=aa (Dz ho);have hpt:part ops (k+1) ops.length=ops.drop (k+1):=by unfold part;rw[bY]
   rw[hpt]at HP hpl;have HB:=aa hb;have Jn:=aa hpl;obtain⟨q,hq⟩:∃q,ops.length-(k+1)=q:=⟨_,rfl⟩;have HQ:=aa hq;have Wj:q<=6:=by omega
   rw[hq]at hcut HP;clear hcc ho e2 hpart XV hpt hpl hq hbb;obtain⟨wo,rfl⟩:∃wo:World,wo=wr:=⟨_,rfl⟩;go_wp2;clear hcut;go_loopw [21] (λi wr=>Ext (wo.alloc (.cells #[.int .i64 o.kind,.int .i64 o.key,.int .i64 o.value] 67)) wr/\∃j:Nat,j<=q/\i=.int .i64 j/\Hid (∀i l,i<j->(ops.drop (k+1))[i]? =some l->(mh o&&decide (l.kind=2/\l.key=o.key/\l.value=o.value))=false)) (λi _=>q-(intOf i).toNat)
   case atStart=>exact⟨af _,0,bR _,rfl,λi l hi=>absurd hi (oF i)⟩
   case round=>
    obtain⟨hb2,j,hj,rfl,HJ⟩:=hrel;have Eu:=((af wo).alloc _).trans hb2;have hww:=HB.out.trans Eu;by_cases hjq:j<q
    ·obtain⟨l,hl⟩:=au (show j<(ops.drop (k+1)).length by rw[Jn.out,HQ.out];exact hjq);obtain⟨A3,c3,hA3,hcl⟩:=HP.out.ext Eu;injection hA3 with e1 e2 e3;subst e1 e3;obtain⟨b3,Fx,rfl,Xc,hcl⟩:=hcl (by rw[Jn.out,HQ.out];omega);have g0:wr.cell? ⟨b3,Fx+j*3,none⟩=some (.int .i64 l.kind):=hcl j l hl 0 (by omega);have g1:wr.cell? ⟨b3,Fx+j*3+1,none⟩=some (.int .i64 l.key):=hcl j l hl 1 (by omega);have g2:wr.cell? ⟨b3,Fx+j*3+2,none⟩=some (.int .i64 l.value):=hcl j l hl 2 (by omega);have x0:wr.cell? ⟨wo.heap.size,0,none⟩=some (.int .i64 o.kind):=hb2.cell (az rfl);have x1:wr.cell? ⟨wo.heap.size,1,none⟩=some (.int .i64 o.key):=hb2.cell (az rfl);have x2:wr.cell? ⟨wo.heap.size,2,none⟩=some (.int .i64 o.value):=hb2.cell (az rfl);have xs:wo.heap.size<wr.heap.size:=by have:=hb2.size;simp at this;omega
     have he:=λW=>tQ l.kind l.key l.value 2 o.key o.value W;have hE:Hid (Ext (wo.alloc (.cells #[.int .i64 o.kind,.int .i64 o.key,.int .i64 o.value] 67)) ((wr.alloc (.cells #[.int .i64 l.kind,.int .i64 l.key,.int .i64 l.value] 67)).alloc (.cells #[.int .i64 o.kind,.int .i64 o.key,.int .i64 o.value] 67))):=(hb2.alloc _).alloc _;have HL:=aa hl;have HO:=aa Eu;have HX:Hid (∀r,decide (l.kind=2/\l.key=o.key/\l.value=o.value)=r->(mh o&&r)=false->∀i l',i<j+1->(ops.drop (k+1))[i]? =some l'->(mh o&&decide (l'.kind=2/\l'.key=o.key/\l'.value=o.value))=false):=λr hr hf i l' hi hl'=>by
      rcases eX i j with h'|h'
      ·exact HJ.out i l' h' hl'
      ·obtain rfl:i=j:=by omega
       rw[hl]at hl';cases hl';rw[hr];exact hf
     clear hl hcl e2 Eu
     cases hr:(o.kind==1) with
     | false=>
       have Ni:=aa (HX.out _ rfl (by simp[mh,hr]));go_wp2_with (go_at_call 118;refine(dL _ _ _ _).mono ?_;rw[hr];rintro e w' ⟨rfl,rfl⟩)
       go_roundw;case rel=>exact⟨hE.out,j+1,by omega,by go_num,Ni.out⟩
       case measure=>simp[intOf];omega
     | true=>
       cases hm:decide (l.kind=2/\l.key=o.key/\l.value=o.value) with
       | false=>
         rw[hm]at he;have Ni:=aa (HX.out _ hm (by simp));clear hm;go_wp2_with (go_at_call 118;refine(dL _ _ _ _).mono ?_;rw[hr];rintro e w' ⟨rfl,rfl⟩)
         go_roundw;case rel=>exact⟨hE.out,j+1,by omega,by go_num,Ni.out⟩
         case measure=>simp[intOf];omega
       | true=>
         rw[hm]at he;have hyes:Hid (qU ops=true):=by show _ = _;refine IB (k:=k+1) ?_ (by omega);rw[hnx.out,show mh o=true from hr];rw[Bool.true_and,show (ops.drop (k+1)).any (λl=>decide (l.kind=2/\l.key=o.key/\l.value=o.value))=true by rw[gN];exact⟨l,aN HL.out,hm⟩,Bool.or_true]
         clear hm;go_wp2_with (go_at_call 118;refine(dL _ _ _ _).mono ?_;rw[hr];rintro e w' ⟨rfl,rfl⟩)
         go_returns;exact⟨aU hyes.out.symm,((af w).alloc _).trans ((hww.alloc _).alloc _)⟩
    ·obtain rfl:j=q:=by omega
     have hno:Hid (earlyTo ops (k+1)=false):=by
      show _ = _;rw[hnx.out,HI.out,Bool.false_or]
      cases hr:mh o with
      | false=>rfl
      | true=>
        rw[Bool.true_and,List.any_eq_false];intro l hl;obtain⟨i,hi,rfl⟩:=jw hl
        have:=HJ.out i _ (by rw[<-HQ.out,<-Jn.out];exact hi) (dz hi)
        rw[hr,Bool.true_and]at this;rw[this];simp
     have HB2:=aa (hb.trans Eu);go_wp2;go_roundw;case rel=>exact⟨HB2.out,k+1,by omega,by go_num,hno.out⟩
     case measure=>simp[intOf];omega
  ·obtain rfl:k=ops.length:=by omega
   go_wp2;go_returns;exact⟨aU HI.out.symm,hbb⟩
theorem Az{h:List aF}{k:Nat}(h1:1<=k)(h4:k<=4)(hb:gT h (k:Int)=true):gP h=false:=by
 have:k=1∨k=2∨k=3∨k=4:=by omega
 rcases this with rfl|rfl|rfl|rfl<;>(
  unfold gP
  first
  | rw[show gT h 1=true from hb]
  | rw[show gT h 2=true from hb]
  | rw[show gT h 3=true from hb]
  | rw[show gT h 4=true from hb]
  simp)
def lM(h:List aF)(m:Nat):Bool:=((aB h).take m).any λn=>qU (opsOf h n)
theorem Eg{h:List aF}{m n:Nat}(hm:(aB h)[m]? =some n):lM h (m+1)=(lM h m || qU (opsOf h n)):=by unfold lM;rw[aj hm,List.any_append];simp
theorem yH{h:List aF}(hok:aH h=true)(hb:∀k:Nat,1<=k->k<=4->gT h (k:Int)=false):gP h = !lM h (aB h).length:=by have b1:gT h 1=false:=hb 1 (by omega) (by omega);have b2:gT h 2=false:=hb 2 (by omega) (by omega);have b3:gT h 3=false:=hb 3 (by omega) (by omega);have b4:gT h 4=false:=hb 4 (by omega) (by omega);unfold gP lM;rw[hok,b1,b2,b3,b4,bY,xu];simp
theorem xH{v:Value}{h:List aF}(w:World)(H:lV w v h)(hok:aH h=true) :
 Calls Tryz.prog 210 #[v] w λe w'=>e=.returned (.bool (gP h))/\Ext w w':=by
 obtain⟨A,c,rfl⟩:=H.slice;have HH:=aa H;have jh:=aa hok;have hlen:=aT hok;have hdl:=jA h;clear H hok;go_enter Tryz.func210,Tryz.ntmps210;go_wp2_with fail
 refine(aZ _ HH.out (by omega) (bD jh.out)).mono ?_
 rw[jh.out];rintro e w1 ⟨rfl,b1⟩;go_wp2;go_loopw [3] (λi wr=>Ext w wr/\∃k:Nat,1<=k/\k<=5/\i=.int .i64 k/\Hid (∀j:Nat,1<=j->j<k->gT h (j:Int)=false)) (λi _=>5-(intOf i).toNat)
 case atStart=>exact⟨b1,1,ay _,by omega,rfl,λj h1 h2=>by omega⟩
 case round=>
  obtain⟨hb,k,hk1,hk5,rfl,HI⟩:=hrel;by_cases hlt:k<=4
  ·go_wp2_with fail
   refine(BD (k:Int) _ (HH.out.ext hb) jh.out (by omega)).mono ?_
   rintro e w2 ⟨A2,n,c2,rfl,hn,hn2,b2⟩
   cases hba:gT h (k:Int) with
   | true=>
     have hr:=aa (Az hk1 hlt hba);rw[hba]at hn;have hn0:0<n:=by simpa using hn
     clear hba hn;go_wp2;go_returns;exact⟨aU hr.out.symm,hb.trans b2⟩
   | false=>
     rw[hba]at hn;have hn0:n=0:=by simpa using hn
     subst hn0;have HBA:=aa hba;clear hba hn;go_wp2;go_roundw;case rel=>exact⟨hb.trans b2,k+1,by omega,by omega,by go_num,λj h1 h2=>by
      rcases eX j k with h'|h'
      ·exact HI.out j h1 h'
      ·obtain rfl:j=k:=by omega
       exact HBA.out⟩
     case measure=>simp[intOf];omega
  ·obtain rfl:k=5:=by omega
   have hend:=aa (yH jh.out (λj h1 h2=>HI.out j h1 (by omega)));go_wp2_with fail
   refine(pg _ (HH.out.ext hb) (by omega)).mono ?_
   rintro e w2 ⟨vd,rfl,rd,b2⟩;have RD:=aa rd;obtain⟨Ad,cd,rfl,_⟩:=id rd.cell.1;have HB2:=aa (hb.trans b2);clear rd b2 hb b1 HI;go_wp2;go_loopw [21] (λi wr=>Ext w2 wr/\∃m:Nat,m<=(aB h).length/\i=.int .i64 m/\Hid (lM h m=false)) (λi _=>(aB h).length-(intOf i).toNat)
   case atStart=>exact⟨af _,0,bR _,rfl,rfl⟩
   case round=>
    obtain⟨hb,m,hm,rfl,HJ⟩:=hrel;have hbb:=HB2.out.trans hb;by_cases hmt:m<(aB h).length
    ·obtain⟨n,hn⟩:=au hmt;obtain⟨hnl,hnd⟩:=nE (aN hn);obtain⟨-,bd,Kl,rfl,hbd,hcd⟩:=xY (RD.out.ext hb) (by omega);have cn:=hcd m n hn;obtain⟨b,off,rfl,hbl,hc⟩:=HH.out.PZ (by omega);obtain⟨t,ht⟩:=au hnl;obtain⟨ov,c0,c1,c2,hs,hcp⟩:=hc n t ht;replace c0:=hbb.cell c0;replace c1:=hbb.cell c1;replace c2:=hbb.cell c2;have hol:=eY (dW jh.out (aN ht));have HS:=aa (aL (hs.ext hbb) hcp);have hnx:=Eg hn;rw[dM ht]at hnx;have lZ:=aa hnx;clear hn hnd hc ht hs hcp hcd hnx;go_wp2_with fail
     refine(Ib t.aD t.done _ HS.out.1 HS.out.2 hol).mono ?_
     cases he:qU t.ops with
     | true=>
       rintro e w3 ⟨rfl,b3⟩;have hr:Hid (gP h=false):=by
        show _ = _;rw[hend.out];have h1:lM h (m+1)=true:=by rw[lZ.out,he,Bool.or_true]
        have h2:lM h (aB h).length=true:=by unfold lM at h1 ⊢;rw[bY];rw[gN]at h1 ⊢;obtain⟨x,hx,h3⟩:=h1;exact⟨x,uA hx,h3⟩
        rw[h2];rfl
       clear he;go_wp2;go_returns;exact⟨aU hr.out.symm,hbb.trans b3⟩
     | false=>
       rintro e w3 ⟨rfl,b3⟩;have hr:Hid (lM h (m+1)=false):=by show _ = _;rw[lZ.out,HJ.out,he];rfl
       clear he;go_wp2;go_roundw;case rel=>exact⟨hb.trans b3,m+1,by omega,by go_num,hr.out⟩
       case measure=>simp[intOf];omega
    ·obtain rfl:m=(aB h).length:=by omega
     go_wp2;go_returns;exact⟨aU (by rw[hend.out,HJ.out];rfl),hbb⟩
theorem I1.part{w:World}{A:Option Addr}{n c:Nat}{xs:List Int}(h:I1 w (.slice A n c) xs)(lo hi:Nat)(hlo:lo<=hi)(hhi:hi<=xs.length):I1 w (.slice (if c=lo then A else A.map (·.add (lo*1))) (hi-lo) (c-lo)) (part xs lo hi):=by
 obtain⟨h1,h2,h3⟩:=h;have hc:=h3 A n c rfl;have hl:n=xs.length:=by obtain⟨A',c',e,_⟩:=h1;injection e
 refine⟨((aI.part h1.SI lo hi hlo hhi (by omega)).1).Si,λa n' c' e hn=>?_,jP (by omega) (by omega)⟩;injection e with e1 e2 e3;by_cases hcl:c=lo
 ·rw[ah hcl]at e1;exact h2 a n c (by rw[e1]) (by omega)
 ·rw[ak hcl]at e1
  cases A with
  | none=>simp at e1
  | some ad=>
    simp at e1;obtain⟨cs,fr,hg⟩:=h2 ad n c rfl (by omega)
    have:a.block=ad.block:=by rw[<-e1];unfold Addr.add;split<;>rfl
    exact⟨cs,fr,by rw[this];exact hg⟩
theorem uz{P:Program}{w w':World}{ops:Array Oper}{rest:List Oper}{o:Oper}{a:Act}{Q:Exit->Act->World->Prop}{s x:Operand}{t tn:TypeId}{v u v':Value}(hgd:o.guard=none)
 (ho:o.op=.call { callee:=.builtin .append,args:=#[s,x],argTypes:=#[t,tn] }) (hs:a.eval s=v) (hx:a.eval x=u) (hrun:(Builtin.append_ #[t,tn] o.type #[v,u]).run P w=.ok v' w')
 (h:wpList P ops Q rest (a.put o.dst v') w'):wpList P ops Q (o :: rest) a w:=
 wpList_plain hgd λK hK=>by unfold Oper.wp execOp;simp only[ho,resolve,invoke,builtin,Sem.run_bind,Sem.run_pure,Result.andThen_ok,List.map_toArray,iF,nH,hs,hx,hrun];exact hK _ _ h
theorem FO(q:Nat)(hq:q<=1000)(w:World) :
 Calls Tryz.prog 229 #[.slice none 0 0,.int .i64 (q:Int)] w λe w'=>∃v,e=.returned v/\Row 3 1 (one encI) w.heap.size w' v ([]:List Int)/\Ext w w':=by
 rcases Nat.eq_zero_or_pos q with rfl|hpos
 ·go_enter Tryz.func229,Tryz.ntmps229;go_wp2;go_returns;exact⟨_,rfl,Row.nil,af _⟩
 ·obtain⟨i,hi,hz,hs,hby⟩:=mQ iI;have hrun:=Lib.run_append_grow_zeros w 56 3 56 3 i (.int .i64 0) .i64 .i64 Tryz.underlying56 Tryz.underlying3 hi hz none 0 0 [] (by exact run_firstCells_none _ _ 0 0 0) q (by omega) (by omega) (by omega) (by omega) (by rw[hby];omega) (by rw[hby];exact growslice_fits (by omega) (by omega));have hG1:=grownCap_ge w (0+q) 0 3;have hG2:=grownCap_le_maxLen w (0+q) 0 3 (by unfold maxLen;omega);generalize grownCap w (0+q) 0 3=G at hrun hG1 hG2;have hsz:((([]:List Value).toArray++Builtin.zeroCells (Value.int .i64 0).cells q++Builtin.zeroCells (Value.int .i64 0).cells (G-(0+q)))).size=G*1:=by simp[Builtin.zeroCells,Value.cells];omega
  generalize (([]:List Value).toArray++Builtin.zeroCells (Value.int .i64 0).cells q++Builtin.zeroCells (Value.int .i64 0).cells (G-(0+q)))=cs at hrun hsz;rw[kP]at hrun hG1;have cz:=aa hrun;have hG3:G<=9223372036854775807:=by unfold maxLen at hG2;omega
  clear hrun hi hz hs hby;have HR:Hid (Row 3 1 (one encI) w.heap.size (w.drew.alloc (.cells cs 3)) (.slice (some ⟨w.heap.size,0,none⟩) 0 G) ([]:List Int)):=iX (w:=w.drew) cs G hG2 hsz;have HE:Hid (Ext w (w.drew.alloc (.cells cs 3))):=((af w).drew).alloc _;clear hsz;go_enter Tryz.func229,Tryz.ntmps229;go_wp2_with (at_builtin;refine uz rfl rfl rfl rfl cz.out ?_)
  go_returns;exact⟨_,rfl,HR.out,HE.out⟩
theorem BZ{xss:List (List Int)}{k:Nat}{xs:List Int}(h:xss[k]? =some xs):(xss.take (k+1)).flatten=(xss.take k).flatten++xs:=by rw[aj h,List.flatten_append];simp
theorem I7{v:Value}{xss:List (List Int)}(w:World)(h:Ls 56 I1 w v xss)(hlen:xss.length<=100)(htot:xss.flatten.length<=1000) :
 Calls Tryz.prog 199 #[v] w λe w'=>∃v',e=.returned v'/\Row 3 1 (one encI) w.heap.size w' v' xss.flatten/\Ext w w':=by
 obtain⟨A,c,rfl,hc1,hc2⟩:=h.slice;have H:=aa h;have hst:=gH (T:=101) (by decide);have hle:∀k,(xss.take k).flatten.length<=1000:=λk=>by
  have e:xss.flatten=(xss.take k).flatten++(xss.drop k).flatten:=by rw[<-List.flatten_append,List.take_append_drop]
  rw[e,bN]at htot;omega
 have JP:=aa hle;clear h hle htot;go_enter Tryz.func199,Tryz.ntmps199;go_wp2;go_loopw [3,11] (λm i wr=>w=wr/\∃k:Nat,k<=xss.length/\i=.int .i64 k/\m=.int .i64 (((xss.take k).flatten.length:Nat):Int)) (λ_ i _=>xss.length-(intOf i).toNat)
 case atStart=>exact⟨rfl,0,bR _,rfl,rfl⟩
 case round=>
  obtain⟨rfl,k,hk,rfl,rfl⟩:=hrel;have hlk:=JP.out k;by_cases hlt:k<xss.length
  ·obtain⟨xs,hx⟩:=au hlt;obtain⟨b,off,rfl,hb,hc⟩:=H.out.cells (by omega);obtain⟨u,hu,hP⟩:=hc k xs hx;obtain⟨Au,cu,rfl,_⟩:=hP.slice;have hnx:Hid ((xss.take (k+1)).flatten.length=(xss.take k).flatten.length+xs.length):=by show _ = _;rw[BZ hx,bN]
   have hlk2:=JP.out (k+1);rw[hnx.out]at hlk2;have H2:=aa hP;obtain⟨q,hq⟩:∃q,(xss.take k).flatten.length=q:=⟨_,rfl⟩;rw[hq]at hlk hlk2 ⊢;have HQ:=aa hq;clear hx hc hP hq;go_wp2;go_roundw;case rel=>exact⟨trivial,k+1,by omega,by go_num,by rw[hnx.out,HQ.out];go_num⟩
   case measure=>simp[intOf];omega
  ·obtain rfl:k=xss.length:=by omega
   rw[bY]at hlk ⊢;obtain⟨q,hq⟩:∃q,xss.flatten.length=q:=⟨_,rfl⟩;rw[hq]at hlk ⊢;have HQ:=aa hq;clear hq;go_wp2_with fail
   refine(FO q hlk _).mono ?_
   rintro e w1 ⟨v1,rfl,r1,b1⟩;have R1:=aa r1;have B1:=aa b1;clear r1 b1;go_wp2;go_loopw [6,27] (λo i wr=>Ext w wr/\∃k:Nat,k<=xss.length/\i=.int .i64 k/\Hid (Row 3 1 (one encI) w.heap.size wr o (xss.take k).flatten)) (λ_ i _=>xss.length-(intOf i).toNat)
   case atStart=>exact⟨B1.out,0,bR _,rfl,R1.out⟩
   case round=>
    obtain⟨hb,k,hk,rfl,HI⟩:=hrel;have hbw:w.heap.size<=wr.heap.size:=hb.size;by_cases hlt:k<xss.length
    ·obtain⟨xs,hx⟩:=au hlt;obtain⟨b,off,rfl,hb2,hc⟩:=(H.out.ext hst hb).cells (by omega);obtain⟨u,hu,hP⟩:=hc k xs hx;obtain⟨Au,cu,rfl,_⟩:=hP.slice;have hnx:=aa (BZ hx);have hl2:=JP.out (k+1);rw[hnx.out,bN]at hl2;obtain⟨v4,w4,hrun,hrow4,hg4⟩:=mU (P:=Tryz.prog) (t:=56) (ty:=56) (e:=3) Tryz.underlying56 iI rfl (by omega) HI.out (hP.1.SI) (λx _ j=>rfl) (by omega) (by omega) hbw;have cz:=aa hrun;have mI:=aa hrow4;have JW:=aa (Ext.grown hb hg4 (λk hk=>HI.out.block k hk));clear hx hc hP hrun hrow4 hg4 hl2;go_wp2_with (at_builtin;refine wpList_append_run rfl rfl rfl rfl cz.out ?_)
     go_roundw;case rel=>exact⟨JW.out,k+1,by omega,by go_num,by rw[hnx.out];exact mI.out⟩
     case measure=>simp[intOf];omega
    ·obtain rfl:k=xss.length:=by omega
     have hr:=HI.out;rw[bY]at hr;have HR:=aa hr;obtain⟨A',c',rfl,_⟩:=hr.cell.1;clear hr HI;go_wp2;go_returns;exact⟨_,rfl,HR.out,hb⟩
theorem Mk(xs:List Int):0<(perms xs).length:=by
 rw[ni];generalize xs.length=n
 induction n with
 | zero=>exact Nat.zero_lt_one
 | succ n ih=>exact Nat.mul_pos ih (Nat.succ_pos n)
theorem Fg(xs:List Int)(k:Nat):[part xs 0 k,part xs (k+1) xs.length].flatten=xs.eraseIdx k:=by simp[part,List.eraseIdx_eq_take_drop_succ]
theorem Bs.Ya{T:TypeId}{β:Type}{P:World->Value->β->Prop}{T':TypeId}(hP:qR T' P)(w:World){u1 u2:Value}{x1 x2:β}(h1:P w u1 x1)(h2:P w u2 x2) :
 Bs T P w.heap.size (w.alloc (.cells #[u1,u2] T)) (.slice (some ⟨w.heap.size,0,none⟩) 2 2) [x1,x2]:=by
 refine⟨[u1,u2],Row.lit (m:=1) (enc:=one KP) w #[u1,u2] T [u1,u2] (by simp[aG,one,KP]) (by simp),rfl,λi u x hu hx=>?_⟩;have hE:Ext w (w.alloc (.cells #[u1,u2] T)):=(af _).alloc _
 match i with
 | 0=>simp at hu hx;subst hu hx;exact hP.keep _ _ _ _ h1 (.aO hE)
 | 1=>simp at hu hx;subst hu hx;exact hP.keep _ _ _ _ h2 (.aO hE)
 | i+2=>simp at hu
theorem Bs.Ty{T:TypeId}{β:Type}{P:World->Value->β->Prop}{T':TypeId}(hP:qR T' P)(w:World){u1:Value}{x1:β}(h1:P w u1 x1) :
 Bs T P w.heap.size (w.alloc (.cells #[u1] T)) (.slice (some ⟨w.heap.size,0,none⟩) 1 1) [x1]:=by
 refine⟨[u1],Row.lit (m:=1) (enc:=one KP) w #[u1] T [u1] (by simp[aG,one,KP]) (by simp),rfl,λi u x hu hx=>?_⟩;have hE:Ext w (w.alloc (.cells #[u1] T)):=(af _).alloc _
 match i with
 | 0=>simp at hu hx;subst hu hx;exact hP.keep _ _ _ _ h1 (.aO hE)
 | i+1=>simp at hu
theorem Bs.own{T:TypeId}{β:Type}{P:World->Value->β->Prop}{base:Nat}{w:World}{v:Value}{xs:List β}(h:Bs T P base w v xs):∀k,v.ownBlock=some k->base<=k/\k<w.heap.size:=λk hk=>let ⟨_,h1,_⟩:=h;World.ownsRow.lt h1 k hk
theorem EU:∀n,n<=5->fact n<=120
 | 0,_=>by decide
 | 1,_=>by decide
 | 2,_=>by decide
 | 3,_=>by decide
 | 4,_=>by decide
 | 5,_=>by decide
 | n+6,h=>by omega
theorem I6{xs:List Int}(h:xs.length<=6):∀k,k<=xs.length->(iT xs k).length<=k*120:=by
 intro k
 induction k with
 | zero=>intro _;simp[iT]
 | succ k ih=>
   intro hk
   have:=ih (by omega)
   have h2:(perms (xs.eraseIdx k)).length<=120:=by rw[ni];exact EU _ (by rw[qx,ah (by omega)];omega)
   rw[uE,bN,dF];omega
def O9(w w':World)(v':Value)(xs:List Int):Prop:=I2 w' v' (perms xs)/\(∀k,v'.ownBlock=some k->w.heap.size<=k)/\Ext w w'
theorem DN:∀(n:Nat) (v:Value) (xs:List Int) (w:World),xs.length=n->n<=6->I1 w v xs ->
 Calls Tryz.prog 165 #[v] w λe w'=>∃v',e=.returned v'/\O9 w w' v' xs:=by
 intro n
 induction n with
 | zero=>
   intro v xs w hx _ h;obtain rfl:xs=[]:=kZ hx;obtain⟨A,c,rfl,_⟩:=h.slice;clear h;have h0:I1 (w.alloc (.cells #[] 3)) (.slice (some ⟨w.heap.size,0,none⟩) 0 0) []:=.fu (nk);have h1:=(Bs.Ty (T:=56) (gH (T:=101) (by decide)) _ h0);have H1:=aa h1;clear h0 h1;go_enter Tryz.func165,Tryz.ntmps165;go_wp2;go_returns;have ho:∀k,(Value.slice (some ⟨(w.alloc (.cells #[] 3)).heap.size,0,none⟩) 1 1).ownBlock=some k->w.heap.size<=k:=λk hk=>aR ((af w).alloc (.cells #[] 3)).size (H1.out.own k hk).1;have hd:=H1.out.done;have hsz:(w.alloc (.cells #[] 3)).heap.size=w.heap.size+1:=by simp
   rw[hsz]at ho hd;exact⟨_,rfl,hd,ho,((af _).alloc _).alloc _⟩
 | succ n ih=>
   intro v xs w hx hn h;obtain⟨A,c,rfl,hc1,hc2⟩:=h.slice;have H:=aa h;have XZ:=aa ih;have hpos:0<xs.length:=by omega
   have HX:=aa hx;have h6:xs.length<=6:=by omega
   have hz:((xs.length:Int)==0)=false:=oO.2 (by omega);have hst:=gH (T:=101) (by decide);clear h ih hx;go_enter Tryz.func165,Tryz.ntmps165;go_wp2;go_loopw [3,17] (λo i wr=>Ext w wr/\∃k:Nat,k<=xs.length/\i=.int .i64 k/\Hid (Bs 56 I1 w.heap.size wr o (iT xs k))) (λ_ i _=>xs.length-(intOf i).toNat)
   case atStart=>exact⟨(af _).alloc _,0,bR _,rfl,Bs.nil w⟩
   case round=>
    obtain⟨hb,k,hk,rfl,HI⟩:=hrel;have hbw:w.heap.size<=wr.heap.size:=hb.size;by_cases hlt:k<xs.length
    ·obtain⟨x,hx⟩:=au hlt;have hI:=H.out.ext hb;obtain⟨b,off,rfl,hb2,hc⟩:=hI.cells (by omega);have c0:=hc k x hx;simp only[encI]at c0;obtain⟨V1,UE,hp1⟩:∃V,(∀W,(Instr.slice 56 (.slice (some ⟨b,off,none⟩) xs.length c) none (some (.int .i64 (k:Int))) none).run Tryz.prog W=.ok (.slice V (k-0) (c-0)) W)/\I1 wr (.slice V (k-0) (c-0)) (part xs 0 k):=
      ⟨_,qh (P:=Tryz.prog) (A:=some ⟨b,off,none⟩) (n:=xs.length) (c:=c) Tryz.underlying56 iI k (by omega),I1.part hI 0 k (by omega) (by omega)⟩
     obtain⟨V2,PY,hp2⟩:∃V,(∀W,(Instr.slice 56 (.slice (some ⟨b,off,none⟩) xs.length c) (some (.int .i64 ((k:Int)+1))) none none).run Tryz.prog W=.ok (.slice V (xs.length-(k+1)) (c-(k+1))) W)/\I1 wr (.slice V (xs.length-(k+1)) (c-(k+1))) (part xs (k+1) xs.length):=
      ⟨_,nT (P:=Tryz.prog) (A:=some ⟨b,off,none⟩) (n:=xs.length) (c:=c) Tryz.underlying56 iI (k+1) (by omega),I1.part hI (k+1) xs.length (by omega) (ay _)⟩
     simp only[Nat.sub_zero]at UE hp1;have hwrap:IntKind.i64.wrap ((k:Int)+1)=(k:Int)+1:=jI _ (by omega);have HLS:=aa (Bs.Ya (T:=56) hst wr.drew (hp1.ext (((af _).drew))) (hp2.ext (((af _).drew)))).done;have hfl:=Fg xs k;have hle:(xs.eraseIdx k).length=n:=by rw[qx,ah hlt];have:=HX.out;omega
     have htot:[part xs 0 k,part xs (k+1) xs.length].flatten.length<=1000:=by rw[hfl,hle];omega
     have Za:=aa hfl;have Wz:=aa htot;have HXK:Hid (xs.getD k 0=x):=by show _ = _;simp[List.getD,hx]
     have Jn:=aa (aR (Nat.le_of_eq (ni (xs.eraseIdx k))) (EU _ (by rw[hle];omega)));have HPT:=aa (aR (I6 h6 k hk) (show k*120<=720 by omega));clear hc hp1 hp2 hI hx hfl htot;go_wp2;go_region_held3 (λ_=>True) (trivial) ((go_at_call 199;refine(I7 _ HLS.out (by simp) Wz.out).mono ?_;rintro e w1 ⟨v1,rfl,r1,b1⟩))
     have hp1':I1 w1 v1 (xs.eraseIdx k):=by have:=nR.fu r1;rw[Za.out]at this;exact this
     have b1':Ext wr w1:=((((af wr).drew).alloc _)).trans b1;have HP:=aa hp1';have HB1:=aa b1';have hl1:=XZ.out v1 (xs.eraseIdx k) w1 hle (by omega) hp1';have HC:=aa hl1;clear r1 b1 hp1' b1' hl1;go_wp2_with (go_at_call 165;refine HC.out.mono ?_;rintro e w2 ⟨v2,rfl,hres⟩;obtain⟨hr1,hr2,hr3⟩:=hres;obtain⟨A2,c2,rfl,hd1,hd2⟩:=hr1.slice;have HR:=aa hr1;have HR2:=aa hr2;have HR3:=aa hr3;clear hr1 hr2 hr3)
     have hpl:=Jn.out;have ZZ:=Mk (xs.eraseIdx k);generalize hps:perms (xs.eraseIdx k)=ps at HR hd1 hd2 hpl ZZ;obtain⟨b3,Fx,rfl,hb3,hcc⟩:=HR.out.cells ZZ;have hb4:wr.heap.size<=b3:=aR HB1.out.size (HR2.out b3 rfl);have b2:Ext wr w2:=HB1.out.trans HR3.out;clear hcc HB1 HR2 HR3;obtain⟨wo,rfl⟩:∃wo:World,wo=wr:=⟨_,rfl⟩;obtain⟨Ao,co,rfl,ho1,ho2⟩:=HI.out.slice;have HI2:Hid (Bs 56 I1 w.heap.size w2 (.slice Ao (iT xs k).length co) (iT xs k)):=HI.out.ext hst b2;have HOW:Hid ((Value.slice Ao (iT xs k).length co).ownBlock≠some b3):=λe=>by have:=(HI.out.own _ e).2;omega
     clear HI;go_loopw [3,34] (λo i wr=>Ext w wr/\∃j:Nat,j<=ps.length/\i=.int .i64 j/\Hid (Bs 56 I1 w.heap.size wr o (iT xs k++(ps.take j).map (x :: ·))/\o.ownBlock≠some b3)/\Hid (b3<wr.heap.size)/\Hid (I2 wr (.slice (some ⟨b3,Fx,none⟩) ps.length c2) ps)) (λ_ i _=>ps.length-(intOf i).toNat)
     case atStart=>exact⟨hb.trans b2,0,bR _,rfl,⟨by simpa using HI2.out,HOW.out⟩,hb3,HR.out⟩
     case round=>
      obtain⟨hb,j,hj,rfl,HJ,HB3,HR⟩:=hrel;by_cases hlt2:j<ps.length
      ·obtain⟨p,hp⟩:=au hlt2;have hb3:=HB3.out;obtain⟨b',off',e,_,hcc⟩:=HR.out.cells (by omega);injection e with e;injection e with e1 e2;subst e1 e2;obtain⟨u,hu,hP⟩:=hcc j p hp;obtain⟨Au,cu,rfl,hu1,hu2⟩:=nR.slice hP;have Q9:p.length<=6:=by
        have:=(pU (xs:=xs.eraseIdx k) (p:=p) (by rw[hps];exact aN hp)).length_eq
        omega
       have r1:Row 3 1 (one encI) wr.heap.size (wr.alloc (.cells #[.int .i64 x] 3)) (.slice (some ⟨wr.heap.size,0,none⟩) 1 1) [x]:=Row.lit wr #[.int .i64 x] 3 [x] (by simp[aG,one,encI]) (by simp);have hE0:Ext wr (wr.alloc (.cells #[.int .i64 x] 3)):=(af _).alloc _;obtain⟨v3,w3,PV,hrow3,hg3⟩:=mU (P:=Tryz.prog) (t:=56) (ty:=56) (e:=3) Tryz.underlying56 iI rfl (by omega) r1 ((hP.ext hE0).1.SI) (λx _ j=>rfl) (by simp;omega) (by omega) hE0.size;obtain⟨cx,hcx⟩:∃cx,cx=[x]++p:=⟨_,rfl⟩;rw[<-hcx]at hrow3;obtain⟨A3,c3,rfl,_⟩:=(nR.fu hrow3).slice;have b3':Ext wr w3:=Ext.grown hE0 hg3 (λk hk=>r1.block k hk);have Px:(iT xs k++(ps.take j).map (x :: ·)).length+1<=4194304:=by
        have:=HPT.out
        simp;omega
       obtain⟨cur,qY⟩:∃cur,cur=iT xs k++(ps.take j).map (x :: ·):=⟨_,rfl⟩;have VL:=HJ.out;rw[<-qY]at Px VL;obtain⟨Ao,co,rfl,_⟩:=VL.1.slice;obtain⟨v4,w4,JX,hB4,NW,hK4,Zd,hO4⟩:=C8 w3.heap.size rfl VL.1 b3' (nR.fu hrow3) hb.size Px;have H4:Hid (Bs 56 I1 w.heap.size w4 v4 (iT xs k++(ps.take (j+1)).map (x :: ·))/\v4.ownBlock≠some b3):=by
        refine⟨?_,?_⟩
        ·rw[aj hp,j3,<-jN,<-qY];rw[hcx]at hB4;exact hB4
        ·rcases hO4 with h|⟨kk,h,h'⟩
         ·rw[h];exact HJ.out.2
         ·rw[h];intro e;injection e with e;omega
       have HR4:Hid (I2 w4 (.slice (some ⟨b3,Fx,none⟩) ps.length c2) ps):=Ls.same HR.out (by omega) (Zd _ hb3 HJ.out.2) (gH (by decide)) hK4;have Jt:Hid (b3<w4.heap.size):=dJ hb3 hK4.1;have JW:=aa (NW w hb (ay _));have Ey:=aa PV;have FD:=aa JX;clear hcc hP hp VL qY hcx r1 hrow3 hg3 PV JX hB4 NW hK4 Zd hO4 HJ HR hE0;go_wp2_with (first|(at_builtin;refine wpList_append_run rfl rfl rfl rfl Ey.out ?_;clear Ey)|(at_builtin;refine wpList_append_run rfl rfl rfl rfl FD.out ?_;clear FD))
       go_roundw;case rel=>exact⟨JW.out,j+1,by omega,by go_num,H4.out,Jt.out,HR4.out⟩
       case measure=>simp[intOf];omega
      ·obtain rfl:j=ps.length:=by omega
       have hJ0:=HJ.out.1;rw[bY,<-hps,<-HXK.out,<-uE]at hJ0;have Xt:=aa hJ0;clear hJ0;clear HJ HR;go_wp2;go_roundw;case rel=>exact⟨hb,k+1,by omega,by go_num,Xt.out⟩
       case measure=>simp[intOf];omega
    ·obtain rfl:k=xs.length:=by omega
     have Rp:=HI;obtain⟨A',c',rfl,_⟩:=HI.out.slice;clear HI;go_wp2;go_returns;rw[<-Ci hpos]at Rp;rw[<-Ci hpos];have hd:=Rp.out.done;have ho:=Rp.out.own;exact⟨_,rfl,hd,λk hk=>(ho k hk).1,hb⟩
def Aside(u o:Value)(w0 w:World):Prop:=∀k,u.ownBlock=some k->k<w0.heap.size/\w.heap[k]? =w0.heap[k]?/\o.ownBlock≠some k
theorem Aside.lt{u o:Value}{w0 w:World}(h:Aside u o w0 w){k:Nat}(hk:u.ownBlock=some k):k<w.heap.size:=by
 obtain⟨h1,h2,_⟩:=h k hk;rw[Array.getElem?_eq_getElem h1]at h2
 exact(dB.1 h2).1
theorem Aside.ext{u o:Value}{w0 w w':World}(h:Aside u o w0 w)(hb:Ext w w'):Aside u o w0 w':=λk hk=>
 ⟨(h k hk).1,(Below.block hb k (h.lt hk)).trans (h k hk).2.1,(h k hk).2.2⟩
theorem Aside.pushed{α:Type}{e:TypeId}{m:Nat}{enc:α->Nat->Value}{base:Nat}{u o o':Value}{xs:List α}{w0 w w':World}(h:Aside u o w0 w)(hp:lF e m enc base w w' o o' xs):Aside u o' w0 w':=λk hk=>
 ⟨(h k hk).1,(hp.2.2.1 k (h.lt hk) (h k hk).2.2).trans (h k hk).2.1,by
   rcases hp.2.2.2 with h1|⟨j,h1,h2⟩
   ·rw[h1];exact(h k hk).2.2
   ·rw[h1];intro e;injection e with e;have:=h.lt hk;omega⟩
theorem Aside.row{α:Type}{e:TypeId}{m:Nat}{enc:α->Nat->Value}{base:Nat}{u o:Value}{xs:List α}{w0 w:World}(h:Aside u o w0 w)(hr:Row e m enc base w0 u xs):Row e m enc base w u xs:=hr.same λk hk=>(h k hk).2.1
theorem Fy(ops:List aJ):(aV ops).length<=3:=by rw[<-kR];exact nD _ _
theorem IL(ops:List aJ)(key:Int):oH ops key (aV ops).length=nO ops key:=by unfold oH nO;rw[bY]
theorem qG{v:Value}{h:List aF}(key:Int)(w:World)(H:lV w v h)(hok:aH h=true)(hk:kV key 0 2=true) :
 Calls Tryz.prog 198 #[v,.int .i64 key] w λe w'=>∃v',e=.returned v'/\Row 3 1 (one encI) w.heap.size w' v' (aP h key)/\Ext w w':=by
 obtain⟨A,c,rfl⟩:=H.slice;have HH:=aa H;have jh:=aa hok;have hlen:=aT hok;have hdl:=jA h;obtain⟨cs,hmk,hcs⟩:∃cs,(∀W:World,(Instr.makeSlice 56 (.int .i64 0) (.int .i64 (h.length:Int))).run Tryz.prog W=.ok (.slice (some ⟨W.heap.size,0,none⟩) 0 h.length) (W.alloc (.cells cs 3)))/\cs.size=h.length*1:=
  ⟨_,fM (P:=Tryz.prog) 56 3 Tryz.underlying56 iI h.length (by omega) (by omega),size_madeCells _ _⟩
 clear H hok;go_enter Tryz.func198,Tryz.ntmps198;go_wp2_with fail
 refine(aZ _ HH.out (by omega) (bD jh.out)).mono ?_
 rw[jh.out];rintro e w1 ⟨rfl,b1⟩;go_wp2_with (go_at_call 119;refine(vS _ _).mono ?_;rw[hk];rintro e w' ⟨rfl,rfl⟩)
 have hE1:Hid (Ext w (w1.alloc (.cells cs 3))):=b1.alloc _
 refine(pg _ (HH.out.ext hE1.out) (by omega)).mono ?_
 rintro e w2 ⟨vd,rfl,rd,b2⟩;have RD:=aa rd;obtain⟨Ad,cd,rfl,_⟩:=id rd.cell.1;have HB2:=aa (hE1.out.trans b2);have hR:Row 3 1 (one encI) w1.heap.size (w1.alloc (.cells cs 3)) (.slice (some ⟨w1.heap.size,0,none⟩) 0 h.length) ([]:List Int):=iX _ h.length (by unfold maxLen;omega) hcs;have HAP:Hid (Aside (.slice Ad (aB h).length cd) (.slice (some ⟨w1.heap.size,0,none⟩) 0 h.length) w2 w2):=λk hk=>by have h1:=World.ownsRow.lt rd k hk;refine⟨h1.2,rfl,λe=>?_⟩;have h2:=World.ownsRow.lt hR k e;have h3:=h1.1;omega
 have HR:=aa ((hR.low b1.size).ext b2);clear hR rd b1 b2 hmk;go_wp2;go_loopw [5,24] (λo i wr=>Ext w wr/\∃m:Nat,m<=(aB h).length/\i=.int .i64 m/\Hid (Row 3 1 (one encI) w.heap.size wr o (ow h key m)/\Aside (.slice Ad (aB h).length cd) o w2 wr)) (λ_ i _=>(aB h).length-(intOf i).toNat)
 case atStart=>exact⟨HB2.out,0,bR _,rfl,HR.out,HAP.out⟩
 case round=>
  obtain⟨hb,m,hm,rfl,HI⟩:=hrel;have hbw:w.heap.size<=wr.heap.size:=hb.size;by_cases hlt:m<(aB h).length
  ·obtain⟨n,hn⟩:=au hlt;obtain⟨hnl,hnd⟩:=nE (aN hn);obtain⟨-,bd,Kl,rfl,hbd,hcd⟩:=xY (HI.out.2.row RD.out) (by omega);have cn:=hcd m n hn;obtain⟨b,off,rfl,hbl,hc⟩:=HH.out.head (by omega);obtain⟨t,ht⟩:=au hnl;obtain⟨ov,c0,c1,c2,hs⟩:=hc n t ht;replace c0:=hb.cell c0;replace c1:=hb.cell c1;replace c2:=hb.cell c2;have hto:=dW jh.out (aN ht);have hol:=eY hto;have HS:=aa hs;have hnx:=Gn (key:=key) hn;rw[dM ht]at hnx;have lZ:=aa hnx;have hl3:=Fy t.ops;have hlu:=yQ h key m;clear hn hnd hc ht hs hto hcd hnx;go_wp2_with fail
   refine(iY t.aD t.done _ (HS.out.ext hb) (by omega)).mono ?_
   rintro e w3 ⟨v3,rfl,r3,b3⟩;obtain⟨A3,c3,rfl,_⟩:=id r3.cell.1;have R3:=aa r3;have HJ:Hid (Row 3 1 (one encI) w.heap.size w3 _ (ow h key m++oH t.ops key 0)/\Aside _ _ w2 w3):=⟨by simpa[oH] using HI.out.1.ext b3,HI.out.2.ext b3⟩;have HB3:=aa (hb.trans b3);clear r3 b3 HI;go_wp2;go_loopw [5,34] (λo i wr=>Ext w wr/\∃j:Nat,j<=(aV t.ops).length/\i=.int .i64 j/\Hid (Row 3 1 (one encI) w.heap.size wr o (ow h key m++oH t.ops key j)/\Aside (.slice (some ⟨bd,Kl,none⟩) (aB h).length cd) o w2 wr/\Row 67 3 encOpr w.heap.size wr (.slice A3 (aV t.ops).length c3) (aV t.ops))) (λ_ i _=>(aV t.ops).length-(intOf i).toNat)
   case atStart=>exact⟨HB3.out,0,bR _,rfl,HJ.out.1,HJ.out.2,R3.out.low hbw⟩
   case round=>
    obtain⟨hb2,j,hj,rfl,HK⟩:=hrel;have hbw2:w.heap.size<=wr.heap.size:=hb2.size;by_cases hjt:j<(aV t.ops).length
    ·obtain⟨A',c',hA',hcc⟩:=HK.out.2.2.cell.1;injection hA' with e1 e2 e3;subst e1 e3;obtain⟨b',off',rfl,DF,hcc⟩:=hcc (by omega);obtain⟨o,ho⟩:=au hjt;have d0:wr.cell? ⟨b',off'+j*3,none⟩=some (.int .i64 o.kind):=hcc j o ho 0 (by omega);have d1:wr.cell? ⟨b',off'+j*3+1,none⟩=some (.int .i64 o.key):=hcc j o ho 1 (by omega);have d2:wr.cell? ⟨b',off'+j*3+2,none⟩=some (.int .i64 o.value):=hcc j o ho 2 (by omega);have hE2:Hid (Ext wr (wr.alloc (.cells #[.int .i64 o.kind,.int .i64 o.key,.int .i64 o.value] 67))):=(af _).alloc _;have hn2:=Gf (key:=key) ho;have hlt2:=Ii t.ops key j;by_cases hkk:o.key=key
     ·rw[ah hkk]at hn2;have sw:=aa hn2;have hkb:(o.key==key)=true:=by simp[hkk]
      obtain⟨v',w4,hrun,hP⟩:=QT (wr.heap.size+1) (by simp) HK.out.1 hE2.out o.value hbw2 (by rw[bN];omega);have cz:=aa hrun;have HP:=aa hP;have HR4:=aa (HK.out.2.2.pushed HK.out.1 (by decide) hP);have HA4:=aa (HK.out.2.1.pushed hP);have JW:=aa (hP.2.1 w hb2 (ay _));clear hcc ho e2 hn2 hrun hP HK hkk;go_wp2_with (at_builtin;refine wpList_append_run rfl rfl rfl rfl cz.out ?_)
      go_roundw;case rel=>exact⟨JW.out,j+1,by omega,by go_num,by rw[sw.out,<-jN];exact HP.out.1,HA4.out,HR4.out⟩
      case measure=>simp[intOf];omega
     ·rw[ak hkk,oP]at hn2;have sw:=aa hn2;have hkb:(o.key==key)=false:=by simp[hkk]
      clear hcc ho e2 hn2 hkk;go_wp2;go_roundw;case rel=>exact⟨hb2.trans hE2.out,j+1,by omega,by go_num,by rw[sw.out];exact HK.out.1.ext hE2.out,HK.out.2.1.ext hE2.out,HK.out.2.2.ext hE2.out⟩
      case measure=>simp[intOf];omega
    ·obtain rfl:j=(aV t.ops).length:=by omega
     go_wp2;go_roundw;case rel=>exact⟨hb2,m+1,by omega,by go_num,by rw[lZ.out,<-IL];exact HK.out.1,HK.out.2.1⟩
     case measure=>simp[intOf];omega
  ·obtain rfl:m=(aB h).length:=by omega
   have hr:=HI.out.1;rw[Ay]at hr;have HR':=aa hr;clear hr HI;go_wp2;go_returns;exact⟨_,rfl,HR'.out,hb⟩
def lT(h:List aF)(k:Nat):List (List Int):=(List.range k).map λ(i:Nat)=>aP h (i:Int)
theorem Ei(h:List aF)(k:Nat):lT h (k+1)=lT h k++[aP h (k:Int)]:=by simp[lT,kD]
theorem om(h:List aF)(k:Nat):(lT h k).length=k:=by simp[lT]
theorem wK:(Tryz.prog.info? 56).map (λi=>(i.zero,i.size,i.bytes))=some (some (.slice none 0 0),1,24):=Bh
theorem vK{v:Value}{h:List aF}(w:World)(H:lV w v h)(hok:aH h=true) :
 Calls Tryz.prog 164 #[v] w λe w'=>∃v',e=.returned v'/\Bs 56 I1 w.heap.size w' v' (lT h 3)/\Ext w w':=by
 obtain⟨A,c,rfl⟩:=H.slice;have HH:=aa H;have jh:=aa hok;have hlen:=aT hok;obtain⟨cs,hmk,hcs⟩:∃cs,(∀W:World,(Instr.makeSlice 101 (.int .i64 0) (.int .i64 ((3:Nat):Int))).run Tryz.prog W=.ok (.slice (some ⟨W.heap.size,0,none⟩) 0 3) (W.alloc (.cells cs 56)))/\cs.size=3*1:=
  ⟨_,fM (P:=Tryz.prog) 101 56 Tryz.underlying101 wK 3 (by omega) (by omega),size_madeCells _ _⟩
 have hmk':∀W:World,(Instr.makeSlice 101 (.int .i64 0) (.int .i64 3)).run Tryz.prog W=.ok (.slice (some ⟨W.heap.size,0,none⟩) 0 3) (W.alloc (.cells cs 56)):=hmk;have hst:=gH (T:=101) (by decide);clear H hok hmk;go_enter Tryz.func164,Tryz.ntmps164;go_wp2_with fail
 refine(aZ _ HH.out (by omega) (bD jh.out)).mono ?_
 rw[jh.out];rintro e w1 ⟨rfl,b1⟩;have HR:Hid (Bs 56 I1 w.heap.size (w1.alloc (.cells cs 56)) (.slice (some ⟨w1.heap.size,0,none⟩) 0 3) (lT h 0)):=Bs.low (T:=56) (P:=I1) (Bs.room w1 cs 3 (by unfold maxLen;omega) hcs) b1.size;have HB1:Hid (Ext w (w1.alloc (.cells cs 56))):=b1.alloc _;clear b1;go_wp2;go_loopw [3,9] (λo i wr=>Ext w wr/\∃k:Nat,k<=3/\i=.int .i64 k/\Hid (Bs 56 I1 w.heap.size wr o (lT h k))) (λ_ i _=>3-(intOf i).toNat)
 case atStart=>exact⟨HB1.out,0,by omega,rfl,HR.out⟩
 case round=>
  obtain⟨hb,k,hk,rfl,HI⟩:=hrel;have hbw:w.heap.size<=wr.heap.size:=hb.size;by_cases hlt:k<3
  ·go_wp2_with fail
   refine(qG (k:Int) _ (HH.out.ext hb) jh.out (cK.2 (by omega))).mono ?_
   rintro e w3 ⟨v3,rfl,r3,b3⟩;have hs3:=nR.fu r3;obtain⟨A3,c3,rfl,_⟩:=hs3.slice;obtain⟨Ao,co,rfl,_⟩:=HI.out.slice;obtain⟨v4,w4,hrun,hB4,NW,_⟩:=C8 w3.heap.size rfl HI.out b3 hs3 hbw (by rw[om];omega);have cz:=aa hrun;have Jt:=aa hB4;have JW:=aa (NW w hb (ay _));clear hrun hB4 NW HI r3 hs3;go_wp2_with (at_builtin;refine wpList_append_run rfl rfl rfl rfl cz.out ?_)
   go_roundw;case rel=>exact⟨JW.out,k+1,by omega,by go_num,by rw[Ei];exact Jt.out⟩
   case measure=>simp[intOf];omega
  ·obtain rfl:k=3:=by omega
   have Rp:=HI;obtain⟨A',c',rfl,_⟩:=HI.out.slice;clear HI;go_wp2;go_returns;exact⟨_,rfl,Rp.out,hb⟩
theorem M4:(Tryz.prog.info? 3).map (λi=>(i.zero,i.size,i.bytes))=some (some (.int .i64 0),1,8):=by kernel_rfl
theorem Q5(x:Int)(j:Nat):((one encI) x j).oneCell'=true:=by first|rfl|(unfold one;split<;>rfl)
theorem sN{v:Value}{xs:List Int}(w:World)(h:aI 1 (one encI) w v xs)(hlen:xs.length<=2097152) :
 Calls Tryz.prog 166 #[v] w λe w'=>∃v',e=.returned v'/\Row 3 1 (one encI) w.heap.size w' v' xs/\Ext w w':=by
 obtain⟨A,c,rfl,h'⟩:=id h;have heq:=λW=>Lib.run_eql_slice_nil (P:=Tryz.prog) W 56 3 A xs.length c 0 0 Tryz.underlying56
 cases A with
 | none=>
   have hx:xs=[]:=by
    rcases Nat.eq_zero_or_pos xs.length with h0|h0
    ·exact kZ h0
    ·obtain⟨b,off,hA,_⟩:=h' h0;cases hA
   subst hx;clear h h';simp only[jK]at heq ⊢;go_enter Tryz.func166,Tryz.ntmps166;go_wp2;go_returns;exact⟨_,rfl,Row.nil,af _⟩
 | some ad=>
   have hrow:Row 3 1 (one encI) w.heap.size (w.alloc (.cells #[] 3)) (.slice (some ⟨w.heap.size,0,none⟩) 0 0) ([]:List Int):=World.ownsRow_made w #[] 0 (ay _) (by simp[maxLen]) (by simp);obtain⟨v',w',hrun,hrow',hgrow⟩:=mU (P:=Tryz.prog) (t:=56) (ty:=56) (e:=3) Tryz.underlying56 M4 rfl (by omega) hrow (h.ext ((af w).alloc (.cells #[] 3))) (λx _ j=>Q5 x j) (by simp;omega) (by omega) (by simp);have Ma:=aa hrow';have hg:=aa (Ext.grown ((af w).alloc (.cells #[] 3)) hgrow (λk hk=>by simp[Value.ownBlock]at hk;omega));have Mc:=aa hrun;clear h h' hrow hrow' hgrow hrun;go_enter Tryz.func166,Tryz.ntmps166;go_wp2_with (at_builtin;refine wpList_append_run rfl rfl rfl rfl Mc.out ?_)
   go_returns;exact⟨_,rfl,by simpa using Ma.out,hg.out⟩
theorem pO(A:Option Addr)(n c:Nat)(w:World)(h:n<=c/\c<=9223372036854775807) :
 Calls Tryz.prog 167 #[.slice A n c] w λe w'=>e=.returned (.slice A n n)/\w=w':=by
 go_enter Tryz.func167,Tryz.ntmps167;go_wp2;go_returns;exact⟨rfl,rfl⟩
theorem AR(A:Option Addr)(n c:Nat)(w:World)(h:n<=c/\c<=9223372036854775807) :
 Calls Tryz.prog 168 #[.slice A n c] w λe w'=>e=.returned (.slice A n n)/\w=w':=by
 go_enter Tryz.func168,Tryz.ntmps168;go_wp2;go_returns;exact⟨rfl,rfl⟩
def prodTo(h:List aF):Nat->Nat
 | 0=>1
 | k+1=>prodTo h k*fact (aP h (k:Int)).length
theorem pY(h:List aF):prodTo h 3=iP h:=by unfold iP;rw[prodTo,prodTo,prodTo,prodTo];simp
theorem Fe:∀n,1<=fact n
 | 0=>ay _
 | n+1=>Nat.mul_pos (Fe n) (Nat.succ_pos n)
theorem uQ(h:List aF):∀k,(bq h k).length=prodTo h k:=by
 intro k
 induction k with
 | zero=>rfl
 | succ k ih=>
   rw[bq,Ee,prodTo,<-ih];simp only[dF,ni];generalize fact (aP h (k:Int)).length=F;generalize bq h k=l
   induction l with
   | nil=>simp
   | cons a l ih2=>simp[Nat.add_mul,ih2];omega
theorem Fu{h:List aF}{k m:Nat}(hk:k<=m):prodTo h k<=prodTo h m:=by
 induction m with
 | zero=>obtain rfl:k=0:=by omega
         exact ay _
 | succ m ih=>
   rcases eX m k with h1|h1
   ·obtain rfl:k=m+1:=by omega
    exact ay _
   ·exact aR (ih h1) (Nat.le_mul_of_pos_right _ (Fe _))
theorem vI{h:List aF}(hl:∀k:Int,(aP h k).length<=6):∀k,prodTo h k<=720 ^ k
 | 0=>ay _
 | k+1=>Nat.mul_le_mul (vI hl k) (Ed (hl _))
theorem lN{h:List aF}:∀{k:Nat} {x:List (List Int)},x∈bq h k->x.length=k
 | 0,x,hx=>by simp[bq]at hx;subst hx;rfl
 | k+1,x,hx=>by simp only[bq,List.mem_flatMap,dX]at hx;obtain⟨b,hb,o,_,rfl⟩:=hx;simp[lN hb]
def grownBy(ps:List (List Int))(b:List (List Int)):List (List (List Int)):=ps.map λo=>b++[o]
def iU(h:List aF)(k j:Nat):List (List (List Int)):=((bq h k).take j).flatMap (grownBy (perms (aP h (k:Int))))
theorem vB{h:List aF}{k j:Nat}{b:List (List Int)}(hb:(bq h k)[j]? =some b):iU h k (j+1)=iU h k j++grownBy (perms (aP h (k:Int))) b:=by unfold iU;rw[aj hb,kI];simp
theorem FU(h:List aF)(k:Nat):iU h k (bq h k).length=bq h (k+1):=by unfold iU;rw[bY];rfl
theorem Fw(h:List aF)(k j:Nat)(hj:j<=(bq h k).length):(iU h k j).length=j*fact (aP h (k:Int)).length:=by
 induction j with
 | zero=>simp[iU]
 | succ j ih=>
   obtain⟨b,hb⟩:=au (show j<(bq h k).length by omega);rw[vB hb,bN,ih (by omega),grownBy,dF,ni,Nat.succ_mul]
theorem Ih{h:List aF}{k j i:Nat}(hk:k<3)(hm:iP h<=200)(hj:j<(bq h k).length)(hi:i<=fact (aP h (k:Int)).length):(iU h k j).length+i<=200:=by
 rw[Fw h k j (by omega)];have h1:j*fact (aP h (k:Int)).length+fact (aP h (k:Int)).length<=prodTo h (k+1):=by rw[<-Nat.succ_mul,prodTo,<-uQ];exact Nat.mul_le_mul_right _ hj
 have h2:=Fu (h:=h) (show k+1<=3 by omega);rw[pY]at h2;omega
theorem ru{h:List aF}:∀{k:Nat} {x:List (List Int)},x∈bq h k->∀y∈x,y.length<=h.length
 | 0,x,hx=>by simp[bq]at hx;subst hx;intro y hy;cases hy
 | k+1,x,hx=>by
   simp only[bq,List.mem_flatMap,dX]at hx;obtain⟨b,hb,o,ho,rfl⟩:=hx;intro y hy;rcases iR.1 hy with h1|h1
   ·exact ru hb y h1
   ·simp at h1;subst h1;rw[(pU ho).length_eq];exact jd _ _
theorem Dq{ps:List (List Int)}{b:List (List Int)}{i:Nat}{p:List Int}(hp:ps[i]? =some p):grownBy (ps.take (i+1)) b=grownBy (ps.take i) b++[b++[p]]:=by unfold grownBy;rw[aj hp,j3];simp
theorem Ls.YH{T:TypeId}{β:Type}{P:World->Value->β->Prop}{w:World}:Ls T P w (.slice none 0 0) ([]:List β):=⟨[],.fu (base:=0) Row.nil,rfl,λ_ _ _ h=>by simp at h⟩
theorem zW{v:Value}{h:List aF}(w:World)(H:lV w v h)(hok:aH h=true) :
 Calls Tryz.prog 127 #[v] w λe w'=>∃v',e=.returned v'/\I3 w' v' (gD h)/\Ext w w':=by
 obtain⟨A,c,rfl⟩:=H.slice;have HH:=aa H;have jh:=aa hok;have hlen:=aT hok;have hil:∀k:Int,(aP h k).length<=6:=λk=>aR (jd h k) (by omega);have VT:=aa hil;clear H hok hil;go_enter Tryz.func127,Tryz.ntmps127;go_wp2_with fail
 refine(vK _ HH.out jh.out).mono ?_
 rintro e w1 ⟨v1,rfl,r1,b1⟩;have hd1:=r1.done;obtain⟨A1,c1,rfl,_⟩:=hd1.slice;obtain⟨bf,off,rfl,hbf,hcf⟩:=hd1.cells (by rw[om];omega);rw[om]at hd1;have HF:Hid (∀i:Nat,i<3->∃u,w1.cell? ⟨bf,off+i,none⟩=some u/\I1 w1 u (aP h (i:Int))):=λi hi=>by
  have:(lT h 3)[i]? =some (aP h (i:Int)):=by
   match i,hi with
   | 0,_=>rfl
   | 1,_=>rfl
   | 2,_=>rfl
   | i+3,hi=>omega
  exact hcf i _ this
 have heq:=λW=>Lib.run_eql_slice_nil (P:=Tryz.prog) W 101 56 (some ⟨bf,off,none⟩) (lT h 3).length c1 0 0 Tryz.underlying101;rw[om]at heq ⊢;have HB1:=aa b1;clear r1 b1 hd1 hcf;go_wp2;go_loopw [4,25] (λp i wr=>w1=wr/\∃k:Nat,k<=3/\i=.int .i64 k/\p=.int .i64 (prodTo h k:Nat)) (λ_ i _=>3-(intOf i).toNat)
 case atStart=>exact⟨rfl,0,by omega,rfl,rfl⟩
 case round=>
  obtain⟨rfl,k,hk,rfl,rfl⟩:=hrel;by_cases hlt:k<3
  ·obtain⟨u,hu,hP⟩:=HF.out k hlt;obtain⟨Au,cu,rfl,_⟩:=nR.slice hP;have RG:=VT.out (k:Int);have hq:=vI VT.out k;have hq2:720 ^ k<=518400:=(show k=0∨k=1∨k=2 by omega).elim (by rintro rfl;decide) λh=>h.elim (by rintro rfl;decide) (by rintro rfl;decide);have hnx:Hid (prodTo h (k+1)=prodTo h k*fact (aP h (k:Int)).length):=rfl;obtain⟨p,hp⟩:∃p,prodTo h k=p:=⟨_,rfl⟩;rw[hp]at hq hnx ⊢;obtain⟨n,hn⟩:∃n,(aP h (k:Int)).length=n:=⟨_,rfl⟩;rw[hn]at hu RG hnx;clear hP hp;go_wp2;go_loopw [4,31] (λq i wr=>w1=wr/\∃j:Nat,j<=n/\i=.int .i64 j/\q=.int .i64 ((p*fact j:Nat):Int)) (λ_ i _=>n-(intOf i).toNat)
   case atStart=>exact⟨rfl,0,by omega,rfl,by simp[fact]⟩
   case round=>
    obtain⟨rfl,j,hj,rfl,rfl⟩:=hrel;by_cases hjt:j<n
    ·have hf:p*fact j<=518400*720:=Nat.mul_le_mul (aR hq hq2) (Ed (by omega));have hf2:p*fact (j+1)<=518400*720:=Nat.mul_le_mul (aR hq hq2) (Ed (by omega));have he:Hid (p*fact (j+1)=p*fact j*(j+1)):=by show _ = _;rw[fact,Nat.mul_assoc]
     have hwrap:IntKind.i64.wrap (((p*fact j:Nat):Int)*((j:Int)+1))=((p*fact (j+1):Nat):Int):=by rw[he.out];rw[he.out]at hf2;rw[show ((p*fact j:Nat):Int)*((j:Int)+1)=((p*fact j*(j+1):Nat):Int) by rw[Int.natCast_mul (p*fact j)];rfl];exact jI _ (by omega)
     obtain⟨q,hq3⟩:∃q,p*fact j=q:=⟨_,rfl⟩;obtain⟨q',hq4⟩:∃q',p*fact (j+1)=q':=⟨_,rfl⟩;rw[hq3,hq4]at hwrap;rw[hq3];have HQ4:=aa hq4;clear hq3 hq4 hf hf2 he hq;go_wp2;go_roundw;case rel=>exact⟨trivial,j+1,by omega,by go_num,by rw[HQ4.out]⟩
     case measure=>simp[intOf];omega
    ·obtain rfl:j=n:=by omega
     go_wp2;go_roundw;case rel=>exact⟨trivial,k+1,by omega,by go_num,by rw[hnx.out]⟩
     case measure=>simp[intOf];omega
  ·obtain rfl:k=3:=by omega
   have hq:=vI VT.out 3;rw[pY]at hq ⊢;rw[show ((3:Nat):Int)=3 from rfl];clear hlt hk;by_cases hm:iP h<=200
   ·have HR:Hid (gD h=bq h 3):=ah ⟨jh.out,hm⟩;have HM:=aa hm;have h0:I2 (w1.alloc (.cells #[] 56)) (.slice (some ⟨w1.heap.size,0,none⟩) 0 0) []:=(Bs.nil w1).done;have H0:=aa (Bs.Ty (T:=101) qX _ h0).done;have hs1:(w1.alloc (.cells #[] 56)).heap.size=w1.heap.size+1:=by simp
    rw[hs1]at H0;clear h0 hs1 heq;obtain⟨m,hm2⟩:∃m,iP h=m:=⟨_,rfl⟩;rw[hm2]at hq hm ⊢;clear hm2;go_wp2;clear hq hm;go_loopw [8,46] (λo i wr=>Ext w1 wr/\∃k:Nat,k<=3/\i=.int .i64 k/\Hid (I3 wr o (bq h k))) (λ_ i _=>3-(intOf i).toNat)
    case atStart=>exact⟨((af _).alloc _).alloc _,0,by omega,rfl,H0.out⟩
    case round=>
     obtain⟨hb,k,hk,rfl,HI⟩:=hrel;by_cases hlt:k<3
     ·obtain⟨u,hu,hP⟩:=HF.out k hlt;replace hu:=hb.cell hu;have HP:=aa (nR.ext hP hb);obtain⟨Au,cu,rfl,_⟩:=nR.slice hP;obtain⟨Ao,co,rfl,_⟩:=HI.out.slice;obtain⟨wo,rfl⟩:∃wo:World,wo=wr:=⟨_,rfl⟩;have HN:Hid (Bs 101 I2 wo.heap.size (wo.alloc (.cells #[] 101)) (.slice (some ⟨wo.heap.size,0,none⟩) 0 0) (iU h k 0)):=by
       show Bs _ _ _ _ _ _
       have:=Bs.nil (T:=101) (P:=I2) wo
       simpa[iU] using this
      have HB:=aa hb;have hlt3:(k:Int)<3:=by omega
      clear hP hb;go_wp2;go_loopw [11,53] (λo i wr=>Ext wo wr/\∃j:Nat,j<=(bq h k).length/\i=.int .i64 j/\Hid (Bs 101 I2 wo.heap.size wr o (iU h k j))) (λ_ i _=>(bq h k).length-(intOf i).toNat)
      case atStart=>exact⟨(af _).alloc _,0,by omega,rfl,HN.out⟩
      case round=>
       obtain⟨hb2,j,hj,rfl,HJ⟩:=hrel;by_cases hjt:j<(bq h k).length
       ·have hi3:=HI.out.ext (T':=107) (Ls.stays (gH (by decide)) (by decide)) hb2;obtain⟨b2,off2,rfl,_,hc2⟩:=hi3.cells (by omega);obtain⟨bg,hbg⟩:=au hjt;obtain⟨ub,hub,hPb⟩:=hc2 j bg hbg;obtain⟨Ab,cb,rfl,_⟩:=Ls.slice hPb;have Zn:=aa hPb;have hbl:=lN (aN hbg);have Xc:bg.length<=2:=by omega
        clear hbl;have HBL:=aa (ru (aN hbg));have HGN:=aa (vB hbg);obtain⟨An,cn,rfl,_⟩:=HJ.out.slice;have hroom:=λi hi=>Ih (i:=i) hlt HM.out hjt hi;have Ti:=aa hroom;have RG:=VT.out (k:Int);clear hc2 hPb hbg hi3 hroom;go_wp2_with fail
        refine(DN _ _ (aP h (k:Int)) _ rfl RG (nR.ext HP.out hb2)).mono ?_
        rintro e w2 ⟨v2,rfl,hr1,-,hr3⟩;have hpl:=ni (aP h (k:Int));obtain⟨ps,hps⟩:∃ps,perms (aP h (k:Int))=ps:=⟨_,rfl⟩;rw[hps]at hr1 hpl HGN;obtain⟨Ap,cp,rfl,_⟩:=Ls.slice hr1;have HR2:=aa hr1;have HJ2:Hid (Bs 101 I2 wo.heap.size w2 (.slice An (iU h k j).length cn) (iU h k j++grownBy (ps.take 0) bg)):=by show Bs _ _ _ _ _ _;rw[show grownBy (ps.take 0) bg=[] by simp[grownBy],oP];exact HJ.out.ext (T':=101) qX hr3
        have Xz:=aa (Ls.ext Zn.out (T':=101) (gH (by decide)) hr3);have HB2:=aa (hb2.trans hr3);have Jn:=aa hpl;clear hr1 hr3 hb2 HJ Zn hpl;have Q9:∀p∈ps,p.length<=6:=λp hp=>by rw[<-hps]at hp;rw[(pU hp).length_eq];exact RG
        have WX:=aa Q9;clear hps Q9 hub;obtain⟨wq,rfl⟩:∃wq:World,wq=wr:=⟨_,rfl⟩;go_wp2;go_loopw [11,60] (λo i wr=>Ext wo wr/\True/\∃i':Nat,i'<=ps.length/\i=.int .i64 i'/\Hid (Bs 101 I2 wo.heap.size wr o (iU h k j++grownBy (ps.take i') bg))/\Hid (I2 wr (.slice Ap ps.length cp) ps/\I2 wr (.slice Ab bg.length cb) bg)) (λ_ i _=>ps.length-(intOf i).toNat)
        case atStart=>exact⟨HB2.out,trivial,0,by omega,rfl,HJ2.out,HR2.out,Xz.out⟩
        case round=>
         obtain⟨hb3,-,i,hi,rfl,HK,HL⟩:=hrel;by_cases hit:i<ps.length
         ·obtain⟨p,hp⟩:=au hit;obtain⟨bp,aaB,rfl,_,hcp⟩:=Ls.cells HL.out.1 (by omega);obtain⟨up,hup,YZ⟩:=hcp i p hp;obtain⟨Aq,cq,rfl,hq1,hq2⟩:=nR.slice YZ;have hp6:=WX.out p (aN hp);have HPP:=aa (nR.clip YZ);have PO:=aa (Dq (b:=bg) hp);have HP:=aa hp;obtain⟨nx,hnx⟩:∃nx,nx=iU h k j++grownBy (ps.take i) bg:=⟨_,rfl⟩;have hK:=HK.out;rw[<-hnx]at hK;have hnl:nx.length<=200:=by
           have:=Ti.out i (by have:=Jn.out;omega)
           rw[hnx,bN,grownBy,dF,ig];omega
          obtain⟨An,cn,rfl,_⟩:=hK.slice;have lZ:=aa hnx;have HK2:=aa hK;obtain⟨cs,hmk,hcs⟩:∃cs,(∀W:World,(Instr.makeSlice 101 (.int .i64 0) (.int .i64 ((3:Nat):Int))).run Tryz.prog W=.ok (.slice (some ⟨W.heap.size,0,none⟩) 0 3) (W.alloc (.cells cs 56)))/\cs.size=3*1:=
           ⟨_,fM (P:=Tryz.prog) 101 56 Tryz.underlying101 wK 3 (by omega) (by omega),size_madeCells _ _⟩
          have hmk':∀W:World,(Instr.makeSlice 101 (.int .i64 0) (.int .i64 3)).run Tryz.prog W=.ok (.slice (some ⟨W.heap.size,0,none⟩) 0 3) (W.alloc (.cells cs 56)):=hmk;obtain⟨wp,rfl⟩:∃wp:World,wp=wr:=⟨_,rfl⟩;have Zi:Hid (Bs 56 I1 wp.heap.size (wp.alloc (.cells cs 56)) (.slice (some ⟨wp.heap.size,0,none⟩) 0 3) (bg.take 0)):=Bs.room wp cs 3 (by unfold maxLen;omega) hcs;clear hmk hcs hcp YZ hp hK hnx HK;go_wp2;go_loopw [16,67] (λo i wr=>Ext wp wr/\∃d:Nat,d<=bg.length/\i=.int .i64 d/\Hid (Bs 56 I1 wp.heap.size wr o (bg.take d))) (λ_ i _=>bg.length-(intOf i).toNat)
          case atStart=>exact⟨(af _).alloc _,0,by omega,rfl,Zi.out⟩
          case round=>
           obtain⟨hb4,d,hd,rfl,HC⟩:=hrel;by_cases hdt:d<bg.length
           ·obtain⟨x,hx⟩:=au hdt;obtain⟨bx,aau,rfl,_,hcx⟩:=Ls.cells (Ls.ext HL.out.2 (T':=101) (gH (by decide)) hb4) (by omega);obtain⟨ux,hux,hPx⟩:=hcx d x hx;obtain⟨Ax,cx,rfl,_⟩:=nR.slice hPx;have hx6:=HBL.out x (aN hx);have Sj:=aa (aj hx);have HPX:=aa hPx;have hC:=HC.out;obtain⟨cur,qY⟩:∃cur,cur=bg.take d:=⟨_,rfl⟩;have hcl:cur.length<=2:=by rw[qY,ig];omega
            rw[<-qY]at hC;obtain⟨Ao2,Wm,rfl,_⟩:=hC.slice;have HCU:=aa qY;have ZT:=aa hC;clear hcx hPx hx hC qY HC;go_wp2_with fail
            refine(sN _ HPX.out.1.SI (by omega)).mono ?_
            rintro e w5 ⟨v5,rfl,r5,b5⟩;have hs5:=nR.fu r5;obtain⟨A5,c5,rfl,_⟩:=hs5.slice;obtain⟨v6,w6,hrun,QG,Us,_⟩:=C8 w5.heap.size rfl ZT.out b5 hs5 hb4.size (by omega);have cz:=aa hrun;have CJ:=aa QG;have HE6:=aa (Us wp hb4 (ay _));clear hrun QG Us ZT r5 hs5;go_wp2_with (at_builtin;refine wpList_append_run rfl rfl rfl rfl cz.out ?_)
            go_roundw;case rel=>exact⟨HE6.out,d+1,by omega,by go_num,by rw[Sj.out,<-HCU.out];exact CJ.out⟩
            case measure=>simp[intOf];omega
           ·obtain rfl:d=bg.length:=by omega
            have hC:=HC.out;rw[bY]at hC;obtain⟨Ao2,Wm,rfl,_⟩:=hC.slice;obtain⟨v6,w6,hrun,QG,Us,_⟩:=C8 wr.heap.size rfl hC (af wr) (nR.ext HPP.out hb4) hb4.size (by omega);have b6:=Us wp hb4 (ay _);obtain⟨fin,hfin⟩:∃fin,fin=bg++[p]:=⟨_,rfl⟩;rw[<-hfin]at QG;have hD6:=QG.done;obtain⟨A6,c6,rfl,_⟩:=hD6.slice;obtain⟨v7,w7,PR,RY,Zr,Yv,_⟩:=O6 w6.heap.size rfl HK2.out b6 hD6 hb3.size (by omega);have Ey:=aa hrun;have FD:=aa PR;have LA:=aa RY;have HE7:=aa (Zr wo hb3 (ay _));have HR7:=aa (qX.keep _ _ _ _ HL.out.1 Yv);have Yg:=aa (qX.keep _ _ _ _ HL.out.2 Yv);have nP:=aa hfin;clear hrun PR QG RY Us Zr Yv hC HC hD6 hfin HK2 HL;go_wp2_with (first|(go_at_call 167;refine(pO _ _ _ _ ⟨hq1,hq2⟩).mono ?_;rintro e w8 ⟨rfl,rfl⟩)|(at_builtin;refine wpList_append_run rfl rfl rfl rfl Ey.out ?_;clear Ey)|(at_builtin;refine wpList_append_run rfl rfl rfl rfl FD.out ?_;clear FD))
            go_roundw;case rel=>exact⟨HE7.out,trivial,i+1,by omega,by go_num,by rw[PO.out,<-jN,<-lZ.out,<-nP.out];exact LA.out,HR7.out,Yg.out⟩
            case measure=>simp[intOf];omega
         ·obtain rfl:i=ps.length:=by omega
          have hk:=HK.out;rw[bY,<-HGN.out]at hk;have HK':=aa hk;clear HK hk;go_wp2;go_roundw;case rel=>exact⟨hb3,j+1,by omega,by go_num,HK'.out⟩
          case measure=>simp[intOf];omega
       ·obtain rfl:j=(bq h k).length:=by omega
        have hd:=HJ.out.done;rw[FU]at hd;have HD:=aa hd;clear HJ hd;go_wp2;go_roundw;case rel=>exact⟨HB.out.trans hb2,k+1,by omega,by go_num,HD.out⟩
        case measure=>simp[intOf];omega
     ·obtain rfl:k=3:=by omega
      obtain⟨Ao,co,rfl,hc1,hc2⟩:=HI.out.slice;have HD:=aa (Ls.clip HI.out);go_wp2_with fail
      refine(AR _ _ _ _ ⟨hc1,hc2⟩).mono ?_
      rintro e w3 ⟨rfl,rfl⟩;go_wp2;go_returns;exact⟨_,rfl,by rw[HR.out];exact HD.out,HB1.out.trans hb⟩
   ·have HR:Hid (gD h=[]):=ak λhc=>hm hc.2;obtain⟨m,hm2⟩:∃m,iP h=m:=⟨_,rfl⟩;rw[hm2]at hq hm ⊢;clear hm2 heq;go_wp2;go_returns;exact⟨_,rfl,by rw[HR.out];exact Ls.YH,HB1.out⟩
theorem JC{base:Nat}{w0 w:World}(q:Nat)(hq:w.heap.size=q){v:Value}{xs:List Nat}(H:Row 3 1 (one jE) base w0 v xs)(hx:Ext w0 w)(n:Nat)(hb:base<=w0.heap.size)(hn:xs.length+1<=4194304) :
 ∃v' w',(Builtin.append_ #[56,56] 56 #[v,.slice (some ⟨q,0,none⟩) 1 1]).run Tryz.prog (w.alloc (.cells #[.int .i64 (n:Int)] 3))=.ok v' w'/\lF 3 1 (one jE) base w0 w' v v' (xs++[n]):=
 jQ q hq Tryz.underlying56 iI rfl (by omega) H hx n (λj=>rfl) _ rfl hb hn (by omega)
theorem jY{α:Type}{e:TypeId}{m:Nat}{enc:α->Nat->Value}{base:Nat}{u w0 w':World}{v v':Value}{xs zs:List α}(H:Row e m enc base w0 v zs)(hp:lF e m enc base w0 w' v v' xs)(hu:Ext u w0)(hl:u.heap.size<=base):bF (λk=>v.ownBlock=some k) w0 w':=by have h1:Below u.heap.size u w0:=hu;have h2:Below u.heap.size u w':=hp.2.1 u hu hl;exact⟨h2.os.trans h1.os.symm,h2.tape.trans h1.tape.symm,h2.output.trans h1.output.symm,(sH.vO H hp).1,λk hk hx=>hp.2.2.1 k hk hx⟩
theorem Ph{α:Type}{e:TypeId}{m:Nat}{enc:α->Nat->Value}{base:Nat}{w:World}{A:Option Addr}{n c:Nat}{xs:List α}(h:Row e m enc base w (.slice A n c) xs)(p:Nat)(hp:p<=xs.length):Row e m enc base w (.slice A p c) (xs.take p):=by
 have hl:(xs.take p).length=p:=by rw[ig];omega
 refine⟨kT _,?_⟩;rcases h.2 with ⟨hv,hn⟩|⟨g,cap,cur,hv,h1,h2,h3,h4,h5,h6⟩
 ·injection hv with e1 e2 e3;subst e1 e2 e3;left
  have:p=0:=by omega
  subst this;exact⟨rfl,by simp⟩
 ·injection hv with e1 e2 e3;subst e1 e2 e3;right;refine⟨g,c,cur,by rw[hl],h1,h2,by omega,h4,h5,?_⟩;have hcs:(xs.take p).flatMap (aG m enc)=(xs.flatMap (aG m enc)).take (p*m):=by
   have hsp:xs.flatMap (aG m enc)=(xs.take p).flatMap (aG m enc)++(xs.drop p).flatMap (aG m enc):=by rw[<-kI,List.take_append_drop]
   have hl2:((xs.take p).flatMap (aG m enc)).length=p*m:=by rw[kT,hl]
   rw[hsp,<-hl2,List.take_left]
  rw[hl,hcs,<-h6,List.take_take];congr 1
  exact(yf (Nat.mul_le_mul_right _ hp)).symm
theorem JS{T:TypeId}{base:Nat}{w:World}{v:Value}{xs:List Nat}:Row T 1 (one encI) base w v (xs.map λn:Nat=>(n:Int))↔Row T 1 (one jE) base w v xs:=by unfold Row;rw[dF,List.flatMap_map];exact Iff.rfl
theorem Ql{w:World}{v:Value}{xs:List Nat}(h:aI 1 (one jE) w v xs):aI 1 (one encI) w v (xs.map λn:Nat=>(n:Int)):=by obtain⟨A,c,rfl,h⟩:=h;refine⟨A,c,by rw[dF],λhn=>?_⟩;obtain⟨b,off,e,hb,hc⟩:=h (by simpa using hn);refine⟨b,off,e,hb,λi x hx j hj=>?_⟩;rw[jM,qi]at hx;obtain⟨y,hy,rfl⟩:=hx;exact hc i y hy j hj
theorem zb(a b:Value)(w:World):Calls Tryz.prog 130 #[a,b] w λe w'=>e=.returned (.bool true)/\w=w':=by go_enter Tryz.func130,Tryz.ntmps130;go_wp2;go_returns;exact⟨rfl,rfl⟩
theorem GL{FB KB bo:Nat}{v fv:Value}{cur:List Nat}{W:World}(hr:Row 3 1 (one jE) bo W v cur)(hf:Boxed W FB 56 fv)(hk:Boxed W KB 4 (.bool false))(hne:FB≠KB)(hl:cur.length<=2097152)(Eu:bo<=W.heap.size) :
 Calls Tryz.prog 173 #[v,.pointer (some ⟨FB,0,none⟩),.pointer (some ⟨KB,0,none⟩)] W λe W'=>e=.returned (.bool false)/\bF (λk=>k=FB∨k=KB) W W'/\Boxed W' KB 4 (.bool true)/\∃u,Boxed W' FB 56 u/\Row 3 1 (one jE) bo W' u cur:=by
 obtain⟨A,c,rfl,_⟩:=id hr.cell.1;have HR:=aa (Ql hr.cell.1);have HF:=aa hf;have HK:=aa hk;have HL:=aa hl;have HB:=aa Eu;clear hr hf hk hl Eu;go_enter Tryz.func173,Tryz.ntmps173;go_wp2_with fail
 refine(sN (xs:=cur.map λn:Nat=>(n:Int)) W HR.out (by rw[dF];exact HL.out)).mono ?_
 rintro e w1 ⟨u,rfl,hu,b1⟩;have HU:=aa (JS.1 hu);obtain⟨A',c',rfl,_⟩:=id (JS.1 hu).cell.1;have f1:=aC HF.out b1;have k1:=aC HK.out b1;have Z0:=aa f1;have U7:=aa k1;have cf:=f1.cell;have zf:=f1.frozen;have ck:=k1.cell;have zk:=k1.frozen;clear hu f1 k1;go_wp2;go_returns;have q1:=(Z0.out.set (.slice A' cur.length c'));have q2:=gu U7.out (a:=⟨FB,0,none⟩) hne (.slice A' cur.length c');refine⟨rfl,((bF.aO b1).setCell (.inl (.inl rfl)) _).setCell (.inl (.inr rfl)) _,q2.set _,_,gu q1 (a:=⟨KB,0,none⟩) (λe=>hne e.symm) _,?_⟩;have hrow:=HU.out.low HB.out;have n1:=Boxed.not_row Z0.out (e:=3) (by decide) HU.out;have n2:=Boxed.not_row U7.out (e:=3) (by decide) HU.out;have r1:=World.ownsRow.kept hrow (grownBy_setCell' _ FB (.slice A' cur.length c')) (.inr (λe=>n1 e.symm));exact World.ownsRow.kept r1 (grownBy_setCell' _ KB (.bool true)) (.inr (λe=>n2 e.symm))
