/- Lemmas. -/
import Derived.Test.YtomkjlklninhpaaGreatDoorKAJ
set_option maxHeartbeats 16000000
set_option maxRecDepth 8000
set_option linter.all false
namespace Go.Proofs.YtomkjlklninhpaaGreatDoor
open Go.RowKit
section
def uS(T:TypeId)(w w':World):Prop:=w.heap.size<=w'.heap.size/\∀(k:Nat) (cs:Array Value) (t:TypeId) (fr:Nat × Nat),w.heap[k]? =some (Obj.cells cs t fr)->t≠T->w'.heap[k]? =w.heap[k]?
theorem uS.aT{T:TypeId}{w w':World}(h:Ext w w'):uS T w w':=
 ⟨h.size,fun k _ _ _ hk _=>Below.block h k (Array.getElem?_eq_some_iff.1 hk).1⟩
theorem uS.wX{α:Type}{e:TypeId}{m:Nat}{enc:α->Nat->Value}{base:Nat}{w0 w':World}{v v':Value}{zs xs:List α}(H:Row e m enc base w0 v zs)(hp:lI e m enc base w0 w' v v' xs):uS e w0 w':=
 ⟨by
  rcases Nat.lt_or_ge w'.heap.size w0.heap.size with h|h
  ·exfalso;have hE:=hp.2.1 w0 (Ext.refl _);rcases Nat.lt_or_ge base w0.heap.size with h'|h';·
    by_cases hv:v.ownBlock=some (w0.heap.size-1)
    ·have h0:=hp.1;rcases hp.2.2.2 with h1|⟨k,h1,h2⟩
     ·rw[hv]at h1
      have:=(World.ownsRow.lt h0 _ h1).2
      omega
     ·have:=(World.ownsRow.lt h0 _ h1).2
      omega
    ·have:=hp.2.2.1 (w0.heap.size-1) (by omega) hv
     rw[Array.getElem?_eq_none (by omega),Array.getElem?_eq_getElem (by omega)]at this;cases this
   ·have:=(hE h').size
    omega
  ·exact h,fun k cs t fr hk ht=>hp.2.2.1 k (Array.getElem?_eq_some_iff.1 hk).1 (fun e1=>by
  rcases H.2 with ⟨rfl,_⟩|⟨g,cap,cur,rfl,hb,hg,_⟩
  ·simp[Value.ownBlock]at e1
  ·simp[Value.ownBlock]at e1;subst e1;rw[hg]at hk;injection hk with hk;injection hk with _ h2 _;exact ht h2.symm)⟩
def mo{α:Type}(T:TypeId)(enc:α->Value)(w:World)(v:Value)(xs:List α):Prop:=rM enc w v xs/\iY T w v/\qL v
theorem mo.ext{α:Type}{T:TypeId}{enc:α->Value}{w w':World}{v:Value}{xs:List α}(h:mo T enc w v xs)(hb:Ext w w'):mo T enc w' v xs:=⟨h.1.ext hb,h.2.1.ext hb,h.2.2⟩
theorem mo.keep{α:Type}{T T':TypeId}{enc:α->Value}{w w':World}{v:Value}{xs:List α}(h:mo T enc w v xs)(hk:uS T' w w')(hne:T≠T'):mo T enc w' v xs:=by
 obtain⟨⟨A,c,rfl,hc⟩,hi,hcp⟩:=h;refine⟨⟨A,c,rfl,fun hn=>?_⟩,fun a n c' e hn=>?_,hcp⟩
 ·obtain⟨b,off,rfl,hlt,hc⟩:=hc hn;obtain⟨cs,fr,hg⟩:=hi _ _ _ rfl hn;have hb:=hk.2 b cs T fr hg hne;exact⟨b,off,rfl,Nat.lt_of_lt_of_le hlt hk.1,fun i x hx=>by rw[<-hc i x hx];simp only[World.cell?,hb]⟩
 ·obtain⟨cs,fr,hg⟩:=hi a n c' e hn;exact⟨cs,fr,(hk.2 _ cs T fr hg hne).trans hg⟩
theorem mo.dm{α:Type}{T:TypeId}{enc:α->Value}{base:Nat}{w:World}{v:Value}{xs:List α}(h:Row T 1 (one enc) base w v xs):mo T enc w v xs:=⟨h.cell.1.YB,h.KQ,h.cap⟩
theorem mo.clip{α:Type}{T:TypeId}{enc:α->Value}{w:World}{A:Option Addr}{n c:Nat}{xs:List α}(h:mo T enc w (.slice A n c) xs):mo T enc w (.slice A n n) xs:=by
 obtain⟨h1,h2,h3⟩:=h
 have:=h3 A n c rfl
 exact⟨(pO h1.U1 n).YB,Bp h2 n,mQ (Nat.le_refl _) (by omega)⟩
theorem mo.slice{α:Type}{T:TypeId}{enc:α->Value}{w:World}{v:Value}{xs:List α}(h:mo T enc w v xs):∃A c,v=.slice A xs.length c/\xs.length<=c/\c<=9223372036854775807:=by obtain⟨⟨A,c,rfl,_⟩,_,hc⟩:=h;exact⟨A,c,rfl,hc _ _ _ rfl⟩
theorem mo.cells{α:Type}{T:TypeId}{enc:α->Value}{w:World}{A:Option Addr}{n c:Nat}{xs:List α}(h:mo T enc w (.slice A n c) xs)(hn:0<xs.length):∃b off,A=some ⟨b,off,none⟩/\b<w.heap.size/\∀(i:Nat) x,xs[i]? =some x->w.cell? ⟨b,off+i,none⟩=some (enc x):=by obtain⟨⟨A',c',e,hc⟩,_,_⟩:=h;injection e with e1 e2 e3;subst e1;exact hc hn
structure rR (T:TypeId) {β:Type} (P:World->Value->β->Prop):Prop where
 keep:∀w w' u x,P w u x->uS T w w'->P w' u x
 sl:∀w u x,P w u x->∃A n c,u=.slice A n c
def Ls(T:TypeId){β:Type}(P:World->Value->β->Prop)(w:World)(v:Value)(xs:List β):Prop:=
 ∃us:List Value,mo T QD w v us/\us.length=xs.length/\∀(i:Nat) u x,us[i]? =some u->xs[i]? =some x->P w u x
def Bs(T:TypeId){β:Type}(P:World->Value->β->Prop)(base:Nat)(w:World)(v:Value)(xs:List β):Prop:=
 ∃us:List Value,Row T 1 (one QD) base w v us/\us.length=xs.length/\∀(i:Nat) u x,us[i]? =some u->xs[i]? =some x->P w u x
section
variable{T:TypeId}{β:Type}{P:World->Value->β->Prop}{w w' w0:World}{v:Value}{xs:List β}{base:Nat}
theorem Bs.done(h:Bs T P base w v xs):Ls T P w v xs:=let ⟨us,h1,h2,h3⟩:=h;⟨us,.dm h1,h2,h3⟩
theorem Bs.ext(h:Bs T P base w v xs){T':TypeId}(hP:rR T' P)(hb:Ext w w'):Bs T P base w' v xs:=by obtain⟨us,h1,h2,h3⟩:=h;exact⟨us,h1.ext hb,h2,fun i u x hu hx=>hP.keep _ _ _ _ (h3 i u x hu hx) (.aT hb)⟩
theorem Bs.slice(h:Bs T P base w v xs):∃A c,v=.slice A xs.length c/\xs.length<=c/\c<=9223372036854775807:=by obtain⟨us,h1,h2,h3⟩:=h;obtain⟨A,c,rfl,h4,h5⟩:=(mo.dm h1).slice;exact⟨A,c,by rw[h2],by omega,h5⟩
theorem Ls.ext(h:Ls T P w v xs){T':TypeId}(hP:rR T' P)(hb:Ext w w'):Ls T P w' v xs:=by obtain⟨us,h1,h2,h3⟩:=h;exact⟨us,h1.ext hb,h2,fun i u x hu hx=>hP.keep _ _ _ _ (h3 i u x hu hx) (.aT hb)⟩
theorem Ls.keep{T':TypeId}(h:Ls T P w v xs)(hP:rR T' P)(hk:uS T' w w')(hne:T≠T'):Ls T P w' v xs:=by obtain⟨us,h1,h2,h3⟩:=h;exact⟨us,h1.keep hk hne,h2,fun i u x hu hx=>hP.keep _ _ _ _ (h3 i u x hu hx) hk⟩
theorem Ls.slice(h:Ls T P w v xs):∃A c,v=.slice A xs.length c/\xs.length<=c/\c<=9223372036854775807:=by obtain⟨us,h1,h2,h3⟩:=h;obtain⟨A,c,rfl,h4,h5⟩:=h1.slice;exact⟨A,c,by rw[h2],by omega,h5⟩
theorem Ls.clip{A:Option Addr}{n c:Nat}(h:Ls T P w (.slice A n c) xs):Ls T P w (.slice A n n) xs:=let ⟨us,h1,h2,h3⟩:=h;⟨us,h1.clip,h2,h3⟩
theorem Ls.cells{A:Option Addr}{n c:Nat}(h:Ls T P w (.slice A n c) xs)(hn:0<xs.length):∃b off,A=some ⟨b,off,none⟩/\b<w.heap.size/\∀(i:Nat) x,xs[i]? =some x->∃u,w.cell? ⟨b,off+i,none⟩=some u/\P w u x:=by obtain⟨us,h1,h2,h3⟩:=h;obtain⟨b,off,hA,hb,hc⟩:=h1.cells (by omega);refine⟨b,off,hA,hb,fun i x hx=>?_⟩;obtain⟨u,hu⟩:=af (show i<us.length by rw[h2];exact(List.getElem?_eq_some_iff.1 hx).1);exact⟨u,hc i u hu,h3 i u x hu hx⟩
theorem Ls.same{T':TypeId}{b off n c:Nat}(h:Ls T P w (.slice (some ⟨b,off,none⟩) n c) xs)(hn:0<xs.length)(hb:w'.heap[b]? =w.heap[b]?)(hP:rR T' P)(hk:uS T' w w'):Ls T P w' (.slice (some ⟨b,off,none⟩) n c) xs:=by
 obtain⟨us,⟨⟨A,c',e,hc⟩,hi,hcp⟩,h2,h3⟩:=h;injection e with e1 e2 e3;subst e1 e2 e3;refine⟨us,⟨⟨_,_,rfl,fun hu=>?_⟩,fun a n' c2 e hn'=>?_,hcp⟩,h2,fun i u x hu hx=>hP.keep _ _ _ _ (h3 i u x hu hx) hk⟩
 ·obtain⟨b',off',e,hlt,hcl⟩:=hc hu;injection e with e;injection e with e1 e2;subst e1 e2;exact⟨b,off,rfl,Nat.lt_of_lt_of_le hlt hk.1,fun i x hx=>by rw[<-hcl i x hx];simp only[World.cell?,hb]⟩
 ·obtain⟨cs,fr,hg⟩:=hi a n' c2 e hn';injection e with e1 _ _;injection e1 with e1;subst e1;exact⟨cs,fr,hb.trans hg⟩
theorem Ls.stays{T':TypeId}(hP:rR T' P)(hne:T≠T'):rR T' (Ls T P):=
 ⟨fun _ _ _ _ h hk=>h.keep hP hk hne,fun _ _ _ h=>let ⟨A,c,e,_⟩:=h.slice;⟨A,_,c,e⟩⟩
theorem Bs.push{t:TypeId}{z:Value}{b:Nat}(q:Nat){w1:World}(hq:w1.heap.size=q)(ht:Tryz.prog.underlying t=some (.slice T))(hinfo:(Tryz.prog.info? T).map (fun i=>(i.zero,i.size,i.bytes))=some (some z,1,b))(hzs:z.cells.size=1)(hP:rR T P)
 (H:Bs T P base w0 v xs) (hx:Ext w0 w1) {u:Value} {x:β} (hu:P w1 u x) (hb:base<=w0.heap.size) (hn:xs.length+1<=4194304) (hbb:b<=64) :
 ∃v' w',(Builtin.append_ #[t,t] t #[v,.slice (some ⟨q,0,none⟩) 1 1]).run Tryz.prog (w1.alloc (.cells #[u] T))=.ok v' w'/\Bs T P base w' v' (xs++[x])/\(∀U:World,Ext U w0->U.heap.size<=base->Ext U w')/\uS T w0 w'/\(∀k,k<w0.heap.size->v.ownBlock≠some k->w'.heap[k]? =w0.heap[k]?)/\(v'.ownBlock=v.ownBlock∨∃k,v'.ownBlock=some k/\w0.heap.size<=k):=by
 obtain⟨us,h1,h2,h3⟩:=H;obtain⟨A,n,c,rfl⟩:=hP.sl _ _ _ hu;obtain⟨v',w',hrun,hp⟩:=iP q hq ht hinfo hzs (by omega) h1 hx (.slice A n c) (fun j=>rfl) _ rfl hb (by omega) hbb;have hk:uS T w0 w':=uS.wX h1 hp;have hk1:uS T w1 w':=by obtain⟨v2,w2,kK,hp2⟩:=iP q hq ht hinfo hzs (by omega) (h1.ext hx) (Ext.refl w1) (.slice A n c) (fun j=>rfl) _ rfl (Nat.le_trans hb hx.size) (by omega) hbb;rw[kK]at hrun;injection hrun with e1 e2;subst e1 e2;exact uS.wX (h1.ext hx) hp2
 refine⟨v',w',hrun,⟨us++[.slice A n c],hp.1,by simp[h2],fun i y s hy hs=>?_⟩,hp.2.1,hk,hp.2.2.1,hp.2.2.2⟩;rw[List.getElem?_append]at hy hs;split at hy
 ·rename_i hi;rw[if_pos (by rw[<-h2];exact hi)]at hs;exact hP.keep _ _ _ _ (h3 i y s hy hs) hk
 ·rename_i hi;rw[if_neg (by rw[<-h2];exact hi)]at hs;have hi0:i-us.length=0:=by
   have:=(List.getElem?_eq_some_iff.1 hy).1
   simp at this;omega
  rw[hi0]at hy;rw[<-h2,hi0]at hs;simp at hy hs;subst hy hs;exact hP.keep _ _ _ _ hu hk1
theorem Bs.nil(w:World):Bs T P w.heap.size (w.alloc (.cells #[] T)) (.slice (some ⟨w.heap.size,0,none⟩) 0 0) ([]:List β):=⟨[],bT,rfl,fun _ _ _ h=>by simp at h⟩
theorem Bs.room(w:World)(cs:Array Value)(cap:Nat)(hm:cap<=maxLen)(hs:cs.size=cap*1):Bs T P w.heap.size (w.alloc (.cells cs T)) (.slice (some ⟨w.heap.size,0,none⟩) 0 cap) ([]:List β):=⟨[],jN cs cap hm hs,rfl,fun _ _ _ h=>by simp at h⟩
theorem Bs.low{base':Nat}(h:Bs T P base w v xs)(hb:base'<=base):Bs T P base' w v xs:=let ⟨us,h1,h2,h3⟩:=h;⟨us,h1.low hb,h2,h3⟩
end
def I1(w:World)(v:Value)(xs:List Int):Prop:=mo 3 encI w v xs
theorem dZ{T:TypeId}(hne:3≠T):rR T I1:=⟨fun _ _ _ _ h hk=>mo.keep h hk hne,fun _ _ _ h=>let ⟨A,c,e,_⟩:=mo.slice h;⟨A,_,c,e⟩⟩
def I2:World->Value->List (List Int)->Prop:=Ls 57 I1
def I3:World->Value->List (List (List Int))->Prop:=Ls 83 I2
theorem rE:rR 83 I2:=Ls.stays (dZ (by decide)) (by decide)
theorem tQ:(Tryz.prog.info? 57).map (fun i=>(i.zero,i.size,i.bytes))=some (some (.slice none 0 0),1,24):=by kernel_rfl
theorem NZ:(Tryz.prog.info? 83).map (fun i=>(i.zero,i.size,i.bytes))=some (some (.slice none 0 0),1,24):=by kernel_rfl
theorem FK{base:Nat}{w0 w:World}(q:Nat)(hq:w.heap.size=q){v:Value}{xs:List Int}(H:Row 3 1 (one encI) base w0 v xs)(hx:Ext w0 w)(n:Int)(hb:base<=w0.heap.size)(hn:xs.length+1<=4194304) :
 ∃v' w',(Builtin.append_ #[57,57] 57 #[v,.slice (some ⟨q,0,none⟩) 1 1]).run Tryz.prog (w.alloc (.cells #[.int .i64 n] 3))=.ok v' w'/\lI 3 1 (one encI) base w0 w' v v' (xs++[n]):=
 iP q hq Tryz.underlying57 bQ rfl (by omega) H hx n (fun j=>rfl) _ rfl hb hn (by omega)
theorem Cb{base:Nat}{w0 w:World}(q:Nat)(hq:w.heap.size=q){v:Value}{xss:List (List Int)}(H:Bs 57 I1 base w0 v xss)(hx:Ext w0 w){u:Value}{xs:List Int}(hu:I1 w u xs)(hb:base<=w0.heap.size)(hn:xss.length+1<=4194304) :
 ∃v' w',(Builtin.append_ #[83,83] 83 #[v,.slice (some ⟨q,0,none⟩) 1 1]).run Tryz.prog (w.alloc (.cells #[u] 57))=.ok v' w'/\Bs 57 I1 base w' v' (xss++[xs])/\(∀U:World,Ext U w0->U.heap.size<=base->Ext U w')/\uS 57 w0 w'/\(∀k,k<w0.heap.size->v.ownBlock≠some k->w'.heap[k]? =w0.heap[k]?)/\(v'.ownBlock=v.ownBlock∨∃k,v'.ownBlock=some k/\w0.heap.size<=k):=
 Bs.push q hq Tryz.underlying83 tQ rfl (dZ (by decide)) H hx hu hb hn (by omega)
theorem RV{base:Nat}{w0 w:World}(q:Nat)(hq:w.heap.size=q){v:Value}{aaK:List (List (List Int))}(H:Bs 83 I2 base w0 v aaK)(hx:Ext w0 w){u:Value}{xss:List (List Int)}(hu:I2 w u xss)(hb:base<=w0.heap.size)(hn:aaK.length+1<=4194304) :
 ∃v' w',(Builtin.append_ #[89,89] 89 #[v,.slice (some ⟨q,0,none⟩) 1 1]).run Tryz.prog (w.alloc (.cells #[u] 83))=.ok v' w'/\Bs 83 I2 base w' v' (aaK++[xss])/\(∀U:World,Ext U w0->U.heap.size<=base->Ext U w')/\uS 83 w0 w'/\(∀k,k<w0.heap.size->v.ownBlock≠some k->w'.heap[k]? =w0.heap[k]?)/\(v'.ownBlock=v.ownBlock∨∃k,v'.ownBlock=some k/\w0.heap.size<=k):=
 Bs.push q hq Tryz.underlying89 NZ rfl rE H hx hu hb hn (by omega)
end
