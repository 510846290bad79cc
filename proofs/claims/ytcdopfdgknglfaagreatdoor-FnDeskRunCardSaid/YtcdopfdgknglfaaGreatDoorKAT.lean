/- Lemmas. -/
import Derived.Test.YtcdopfdgknglfaaGreatDoorKAQ
import Derived.Test.YtcdopfdgknglfaaGreatDoorKAS
import Derived.Deep.DeepCutAuto
set_option maxHeartbeats 16000000
set_option maxRecDepth 8000
set_option linter.all false
namespace Go.Proofs.YtcdopfdgknglfaaGreatDoor
open Go.RowKit
structure Jj (base:Nat) (W:World) (hv:Value) (rs:List jg) (h:List aG):Prop where
 hl:rs.length=h.length
 hs:aL 3 encTxV W hv rs
 ho:Own base W hv
 hi:jD 48 W hv
 rows:∀(i:Nat) r t,rs[i]? =some r->h[i]? =some t->r.az=t.az/\r.done=t.done/\Row 67 3 encOpr base W r.dA t.ops
 apart:∀(i j:Nat) r r',i<j->rs[i]? =some r->rs[j]? =some r'->∀k,r.dA.ownBlock=some k->r'.dA.ownBlock≠some k
def ae5(hv:Value)(rs:List jg)(k:Nat):Prop:=(∃a n c,hv=.slice (some a) n c/\0<n/\a.block=k)∨∃(i:Nat) (r:jg),rs[i]? =some r/\r.dA.ownBlock=some k
theorem Jj.frX{base:Nat}{hv:Value}{X:Nat->Prop}{W W':World}{rs:List jg}{h:List aG}(H:Jj base W hv rs h)(k:dz X W W')(hx:∀i,ae5 hv rs i->¬X i):Jj base W' hv rs h where
 hl:=H.hl
 hs:=H.hs.frX k (λa n c e hn=>hx _ (.inl ⟨a,n,c,e,hn,rfl⟩))
 ho:=F6 H.ho k (λa n c e hn=>hx _ (.inl ⟨a,n,c,e,hn,rfl⟩))
 hi:=Pt H.hi k (λa n c e hn=>hx _ (.inl ⟨a,n,c,e,hn,rfl⟩))
 rows i r t hr ht:=let ⟨a,b,c⟩:=H.rows i r t hr ht;⟨a,b,eU c k (λj e=>hx _ (.inr ⟨i,r,hr,e⟩))⟩
 apart:=H.apart
theorem Jj.ext{base:Nat}{hv:Value}{W W':World}{rs:List jg}{h:List aG}(H:Jj base W hv rs h)(b:Ext W W'):Jj base W' hv rs h where
 hl:=H.hl
 hs:=H.hs.ext b
 ho:=H.ho.ext b
 hi:=H.hi.ext b
 rows i r t hr ht:=let ⟨a,b',c⟩:=H.rows i r t hr ht;⟨a,b',c.ext b⟩
 apart:=H.apart
theorem Jj.at{base:Nat}{W:World}{A:Option Addr}{n c:Nat}{rs:List jg}{h:List aG}(H:Jj base W (.slice A n c) rs h){k:Nat}{t:aG}(ht:h[k]? =some t) :
 ∃b off r,A=some ⟨b,off,none⟩/\b<W.heap.size/\base<=b/\rs[k]? =some r/\W.cell? ⟨b,off+k*3,none⟩=some (.int .i64 t.az)/\W.cell? ⟨b,off+k*3+1,none⟩=some r.dA/\W.cell? ⟨b,off+k*3+2,none⟩=some (.bool t.done)/\Row 67 3 encOpr base W r.dA t.ops/\(∀i,W.frozen? ⟨b,i,none⟩=false)/\∃cs fr,W.heap[b]? =some (.cells cs 48 fr):=by
 have hk:k<rs.length:=by rw[H.hl];exact(bG.1 ht).1
 obtain⟨r,hr⟩:=ah hk;obtain⟨A',c',hA,hc⟩:=H.hs;have hn:n=rs.length:=by injection hA
 obtain⟨b,off,hb,hlt,hcell⟩:=hc (by omega);have hA1:A=some ⟨b,off,none⟩:=by injection hA with e1 _ _;rw[e1,hb]
 subst hA1;obtain⟨e1,e2,e3⟩:=H.rows k r t hr ht;obtain⟨o1,o2,o3⟩:=H.ho _ _ _ rfl (by omega);refine⟨b,off,r,rfl,hlt,o1,hr,?_,hcell k r hr 1 (by omega),?_,e3,o3,H.hi _ _ _ rfl (by omega)⟩
 ·have:=hcell k r hr 0 (by omega);rw[<-e1];exact this
 ·have:=hcell k r hr 2 (by omega);rw[<-e2];exact this
theorem Jj.I4{base n:Nat}{W W3:World}{b off nn c:Nat}{rs:List jg}{h:List aG}{r:jg}{t:aG}{v3:Value}{o:aV}(H:Jj base W (.slice (some ⟨b,off,none⟩) nn c) rs h)(hr:rs[n]? =some r)(ht:h[n]? =some t)(hnn:0<nn)
 (P:dz (λk=>r.dA.ownBlock=some k) W W3) (hp:Row 67 3 encOpr base W3 v3 (t.ops++[o])) (hv:v3.ownBlock=r.dA.ownBlock∨∃k,v3.ownBlock=some k/\W.heap.size<=k) :
 Jj base (W3.setCell ⟨b,off+n*3+1,none⟩ v3) (.slice (some ⟨b,off,none⟩) nn c) (rs.set n ⟨r.az,v3,r.done⟩) (h.set n ⟨t.az,t.ops++[o],t.done⟩)/\mD W (W3.setCell ⟨b,off+n*3+1,none⟩ v3):=by
 obtain⟨e1,e2,hrow⟩:=H.rows n r t hr ht;obtain⟨YT,Wu,hgb⟩:=H.hi _ _ _ rfl hnn;simp only at hgb;have hbl:b<W.heap.size:=(fF.1 hgb).1;have nb:r.dA.ownBlock≠some b:=λe=>by obtain⟨cs,hg⟩:=dW hrow e;rw[hgb]at hg;injection hg with hg;injection hg with _ e _;exact absurd e (by decide)
 have ND:=P.heap hgb nb;have nb3:v3.ownBlock≠some b:=λe=>by obtain⟨cs,hg⟩:=dW hp e;rw[ND]at hg;injection hg with hg;injection hg with _ e _;exact absurd e (by decide)
 have S:dz (λk=>k=b) W3 (W3.setCell ⟨b,off+n*3+1,none⟩ v3):=(dz.refl (λk=>k=b) W3).setCell (p:=⟨b,off+n*3+1,none⟩) (.inl rfl) _;have hA:∀a n' c',(Value.slice (some ⟨b,off,none⟩) nn c)=.slice (some a) n' c'->0<n'->r.dA.ownBlock≠some a.block:=λa n' c' e _=>by injection e with e _ _;injection e with e;subst e;exact nb
 have hs3:=H.hs.frX P (λa n' c' e hn=>hA a n' c' e hn);have hn:n<rs.length:=(bG.1 hr).1;refine⟨⟨by rw[iE,iE];exact H.hl,?_,?_,?_,?_,?_⟩,?_⟩
 ·exact yQ hs3 hn (by omega) ⟨r.az,v3,r.done⟩ (λx hx i hi hne=>by
   rw[hr]at hx;cases hx
   match i,hi with
   | 0,_=>rfl
   | 1,_=>exact absurd rfl hne
   | 2,_=>rfl)
 ·have h3:=F6 H.ho P (λa n' c' e hn=>hA a n' c' e hn);intro a n' c' e hn';obtain⟨x1,x2,x3⟩:=h3 a n' c' e hn';refine⟨x1,by simpa[World.setCell] using x2,λi=>?_⟩;have h0:(0:Nat)<1:=by omega
  have:=(Only.setCell (a:=⟨b,0,none⟩) (n:=1) (c:=1) (w:=W3) h0 (off+n*3+1) v3).wY ⟨a.block,i,none⟩ x2
  rw[this];exact x3 i
 ·intro a n' c' e hn';injection e with e _ _;injection e with e;subst e;obtain⟨hlt,hk⟩:=fF.1 ND;refine⟨YT.setIfInBounds (off+n*3+1) v3,Wu,?_⟩;simp only[World.setCell,lW,ND];simp
 ·intro i x y hx hy;rw[iO]at hx hy;by_cases hi:n=i
  ·subst hi;rw[aj rfl,aj hn]at hx;rw[aj rfl,aj (by rw[<-H.hl];exact hn)]at hy;cases hx;cases hy;exact⟨e1,e2,eU hp S (λj e hj=>nb3 (by rw[e,hj]))⟩
  ·rw[au hi]at hx hy;obtain⟨d1,d2,d3⟩:=H.rows i x y hx hy;have hap:∀k,x.dA.ownBlock=some k->r.dA.ownBlock≠some k:=λk hk hk'=>by
    rcases eP n i with hlt|hge
    ·exact H.apart n i r x hlt hr hx k hk' hk
    ·exact H.apart i n x r (by omega) hx hr k hk hk'
   have d4:=eU d3 P hap;refine⟨d1,d2,eU d4 S (λj e hj=>?_)⟩;obtain⟨cs,hg⟩:=dW d3 e;rw[hj,hgb]at hg;injection hg with hg;injection hg with _ e _;exact absurd e (by decide)
 ·intro i j x y hij hx hy k hk hk';rw[iO]at hx hy;have old:∀(i:Nat) (x:jg),n≠i->rs[i]? =some x->∀k,x.dA.ownBlock=some k->v3.ownBlock≠some k:=λi x hne hx k hk hk'=>by
   obtain⟨y,hy⟩:=ah (show i<h.length by rw[<-H.hl];exact(bG.1 hx).1);have hrow':=(H.rows i x y hx hy).2.2;rcases hv with e|⟨q,e,hq⟩
   ·rw[e]at hk';rcases eP n i with hlt|hge
    ·exact H.apart n i r x hlt hr hx k hk' hk
    ·exact H.apart i n x r (by omega) hx hr k hk hk'
   ·rw[e]at hk';injection hk' with hk'
    have:=(jU hrow' hk).2
    omega
  by_cases hi:n=i
  ·subst hi;rw[aj rfl,aj hn]at hx;rw[au (by omega)]at hy;cases hx;exact old j y (by omega) hy k hk' hk
  ·rw[au hi]at hx;by_cases hj:n=j
   ·subst hj;rw[aj rfl,aj hn]at hy;cases hy;exact old i x hi hx k hk hk'
   ·rw[au hj]at hy;exact H.apart i j x y hij hx hy k hk hk'
 ·refine(mD.DU P (λk hk=>?_)).trans (mD.DU S (λk hk=>?_))
  ·obtain⟨cs,hg⟩:=dW hrow hk;exact⟨cs,_,_,hg,.inr rfl⟩
  ·subst hk;exact⟨YT,_,Wu,ND,.inl rfl⟩
theorem Jj.RS{base n:Nat}{W:World}{b off nn c:Nat}{rs:List jg}{h:List aG}{r:jg}{t:aG}(H:Jj base W (.slice (some ⟨b,off,none⟩) nn c) rs h)(hr:rs[n]? =some r)(ht:h[n]? =some t)(hnn:0<nn)(g:Bool) :
 Jj base (W.setCell ⟨b,off+n*3+2,none⟩ (.bool g)) (.slice (some ⟨b,off,none⟩) nn c) (rs.set n ⟨r.az,r.dA,g⟩) (h.set n ⟨t.az,t.ops,g⟩)/\mD W (W.setCell ⟨b,off+n*3+2,none⟩ (.bool g)):=by
 obtain⟨e1,e2,hrow⟩:=H.rows n r t hr ht;obtain⟨YT,Wu,hgb⟩:=H.hi _ _ _ rfl hnn;simp only at hgb;have S:dz (λk=>k=b) W (W.setCell ⟨b,off+n*3+2,none⟩ (.bool g)):=(dz.refl (λk=>k=b) W).setCell (p:=⟨b,off+n*3+2,none⟩) (.inl rfl) _;have hn:n<rs.length:=(bG.1 hr).1;have keep:∀{v:Value} {xs:List aV},Row 67 3 encOpr base W v xs->Row 67 3 encOpr base (W.setCell ⟨b,off+n*3+2,none⟩ (.bool g)) v xs:=λhro=>eU hro S (λj e hj=>by obtain⟨cs,hg⟩:=dW hro e;rw[hj,hgb]at hg;injection hg with hg;injection hg with _ e _;exact absurd e (by decide))
 refine⟨⟨by rw[iE,iE];exact H.hl,?_,?_,?_,?_,?_⟩,mD.DU S (λk hk=>by subst hk;exact⟨YT,_,Wu,hgb,.inl rfl⟩)⟩
 ·exact yQ H.hs hn (by omega) ⟨r.az,r.dA,g⟩ (λx hx i hi hne=>by
   rw[hr]at hx;cases hx
   match i,hi with
   | 0,_=>rfl
   | 1,_=>rfl
   | 2,_=>exact absurd rfl hne)
 ·intro a n' c' e hn';obtain⟨x1,x2,x3⟩:=H.ho a n' c' e hn';refine⟨x1,by simpa[World.setCell] using x2,λi=>?_⟩;have h0:(0:Nat)<1:=by omega
  have:=(Only.setCell (a:=⟨b,0,none⟩) (n:=1) (c:=1) (w:=W) h0 (off+n*3+2) (.bool g)).wY ⟨a.block,i,none⟩ x2
  rw[this];exact x3 i
 ·intro a n' c' e hn';injection e with e _ _;injection e with e;subst e;refine⟨YT.setIfInBounds (off+n*3+2) (.bool g),Wu,?_⟩;simp only[World.setCell,lW,hgb];simp
 ·intro i x y hx hy;rw[iO]at hx hy;by_cases hi:n=i
  ·subst hi;rw[aj rfl,aj hn]at hx;rw[aj rfl,aj (by rw[<-H.hl];exact hn)]at hy;cases hx;cases hy;exact⟨e1,rfl,keep hrow⟩
  ·rw[au hi]at hx hy;obtain⟨d1,d2,d3⟩:=H.rows i x y hx hy;exact⟨d1,d2,keep d3⟩
 ·intro i j x y hij hx hy k hk;have old:∀(i:Nat) (x:jg),(rs.set n ⟨r.az,r.dA,g⟩)[i]? =some x->∃z,rs[i]? =some z/\z.dA=x.dA:=λi x hx=>by
   rw[iO]at hx;by_cases hi:n=i
   ·subst hi;rw[aj rfl,aj hn]at hx;cases hx;exact⟨r,hr,rfl⟩
   ·rw[au hi]at hx;exact⟨x,hx,rfl⟩
  obtain⟨x',hx',ex⟩:=old i x hx;obtain⟨y',hy',ey⟩:=old j y hy;rw[<-ex]at hk;rw[<-ey];exact H.apart i j x' y' hij hx' hy' k hk
structure KA (base:Nat) (W:World) (hv:Value) (rs:List jg) (h:List aG):Prop where
 hl:rs.length=h.length
 hr:Row 48 3 encTxV base W hv rs
 rows:∀(i:Nat) r t,rs[i]? =some r->h[i]? =some t->r.az=t.az/\r.done=t.done/\Row 67 3 encOpr base W r.dA t.ops
 apart:∀(i j:Nat) r r',i<j->rs[i]? =some r->rs[j]? =some r'->∀k,r.dA.ownBlock=some k->r'.dA.ownBlock≠some k
theorem KA.done{base:Nat}{hv:Value}{W:World}{rs:List jg}{h:List aG}(H:KA base W hv rs h):Jj base W hv rs h:=
 ⟨H.hl,H.hr.cell.1,H.hr.cell.2,H.hr.Gl,H.rows,H.apart⟩
theorem KA.ext{base:Nat}{hv:Value}{W W':World}{rs:List jg}{h:List aG}(H:KA base W hv rs h)(b:Ext W W'):KA base W' hv rs h:=
 ⟨H.hl,H.hr.ext b,λi r t hr ht=>let ⟨a,b',c⟩:=H.rows i r t hr ht;⟨a,b',c.ext b⟩,H.apart⟩
theorem KA.push{base:Nat}{hv v':Value}{W w3:World}{rs:List jg}{h:List aG}{x:jg}{t:aG}(H:KA base W hv rs h)(hp:ni 48 3 encTxV base W w3 hv v' (rs++[x])){u:World}(hu:Ext u W)(hl:u.heap.size<=base)(hrow:Row 67 3 encOpr base W x.dA t.ops)(hx:x.az=t.az/\x.done=t.done)
 (hnew:∀(i:Nat) r,rs[i]? =some r->∀k,r.dA.ownBlock=some k->x.dA.ownBlock≠some k):KA base w3 v' (rs++[x]) (h++[t]):=by
 have P:=jV H.hr hp hu hl;have nvo:∀{v:Value} {xs:List aV},Row 67 3 encOpr base W v xs->∀k,v.ownBlock=some k->hv.ownBlock≠some k:=λhr k e e'=>by obtain⟨cs,hg⟩:=dW hr e;obtain⟨cs',hg'⟩:=dW H.hr e';rw[hg]at hg';injection hg' with hg';injection hg' with _ e _;exact absurd e (by decide)
 have keep:∀{v:Value} {xs:List aV},Row 67 3 encOpr base W v xs->Row 67 3 encOpr base w3 v xs:=λhr=>eU hr P (λk e e'=>nvo hr k e e');refine⟨by simp[H.hl],hp.1,?_,?_⟩
 ·intro i r y hr hy;rw[MS]at hr hy;split at hr
  ·rename_i hi;rw[aj (by rw[<-H.hl];exact hi)]at hy;obtain⟨a,b,c⟩:=H.rows i r y hr hy;exact⟨a,b,keep c⟩
  ·rename_i hi;have hi0:i-rs.length=0:=by
    have:=(bG.1 hr).1
    simp at this;omega
   rw[au (by rw[<-H.hl];exact hi),<-H.hl,hi0]at hy;rw[hi0]at hr;simp at hr hy;subst hr hy;exact⟨hx.1,hx.2,keep hrow⟩
 ·intro i j r r' hij hr hr';rw[MS]at hr hr';split at hr'
  ·rename_i hj;rw[aj (by omega)]at hr;exact H.apart i j r r' hij hr hr'
  ·rename_i hj;have hj0:j-rs.length=0:=by
    have:=(bG.1 hr').1
    simp at this;omega
   rw[hj0]at hr';simp at hr';subst hr';rw[aj (by omega)]at hr;exact hnew i r hr
section
theorem LX(n a:Nat)(w:World)(hn:n<4)(ha:a<4) :
 Calls Tryz.prog 73 #[.int .i64 (n:Int),.int .i64 (a:Int)] w λe w'=>e=.returned (.int .i64 (10*((n:Int)+1)+(a:Int)+1))/\w=w':=by
 have h1:IntKind.i64.wrap ((n:Int)+1)=(n:Int)+1:=dL _ (by omega);have h2:IntKind.i64.wrap (10*((n:Int)+1))=10*((n:Int)+1):=dL _ (by omega);have h3:IntKind.i64.wrap (10*((n:Int)+1)+(a:Int))=10*((n:Int)+1)+(a:Int):=dL _ (by omega);have h4:IntKind.i64.wrap (10*((n:Int)+1)+(a:Int)+1)=10*((n:Int)+1)+(a:Int)+1:=dL _ (by omega);go_enter Tryz.func73,Tryz.ntmps73;go_wp2;go_returns;exact⟨rfl,rfl⟩
theorem SH(s:Int)(d:Bool){ov:Value}{ops:List aV}(key other:Int)(w:World)(h:aL 3 encOpr w ov ops)(hlen:ops.length<=2097152)(h0:∀v,before ops key=some v->0<=v) :
 Calls Tryz.prog 72 #[.agg #[.int .i64 s,ov,.bool d],.int .i64 key,.int .i64 other] w λe w'=>e=.returned (.int .i64 ((before ops key).getD other))/\Ext w w':=by
 obtain⟨A0,c0,rfl,_⟩:=id h;have HB:=aa (λW (b:Ext w W)=>vk s d ops.length key W (h.ext b) hlen (av _));rw[bM]at HB;clear h
 cases hb:before ops key with
 | none=>
   rw[hb]at HB;have HB2:Hid (∀W,Ext w W->Calls Tryz.prog 111 #[.agg #[.int .i64 s,.slice A0 ops.length c0,.bool d],.int .i64 (ops.length:Int),.int .i64 key] W λe w'=>e=.returned (.int .i64 (-1))/\Ext W w'):=HB.out;have hg:Hid ((none:Option Int).getD other=other):=rfl;rw[hg.out];clear hb hg HB;go_enter Tryz.func72,Tryz.ntmps72;go_wp2_with (go_at_call 111;refine(HB2.out _ ((af _).alloc _)).mono ?_;rintro e w1 ⟨rfl,b1⟩)
   go_returns;exact⟨rfl,((af _).alloc _).trans b1⟩
 | some x=>
   have hx:=h0 x hb;rw[hb]at HB;have HB2:Hid (∀W,Ext w W->Calls Tryz.prog 111 #[.agg #[.int .i64 s,.slice A0 ops.length c0,.bool d],.int .i64 (ops.length:Int),.int .i64 key] W λe w'=>e=.returned (.int .i64 x)/\Ext W w'):=HB.out;have hg:Hid ((some x:Option Int).getD other=x):=rfl;rw[hg.out];clear hb hg HB h0;go_enter Tryz.func72,Tryz.ntmps72;go_wp2_with (go_at_call 111;refine(HB2.out _ ((af _).alloc _)).mono ?_;rintro e w1 ⟨rfl,b1⟩)
   go_returns;exact⟨rfl,((af _).alloc _).trans b1⟩
theorem Nt{pv:Value}{p:List fI}(W:World)(HP:yV W pv p)(TR:p.length<=4) :
 Calls Tryz.prog 71 #[pv] W λe W'=>∃hv rs,e=.returned hv/\Jj W.heap.size W' hv rs (iq p).h/\Ext W W':=by
 obtain⟨A,c,rfl⟩:=HP.slice;have HPH:=aa HP;have HM0:Hid (KA W.heap.size (W.alloc (.cells #[] 48)) (.slice (some ⟨W.heap.size,0,none⟩) 0 0) [] ((iq p).h.take 0)):=
  ⟨by simp,dD,λ_ _ _ h=>by simp at h,λ_ _ _ _ _ h=>by simp at h⟩
 clear HP;go_enter Tryz.func71,Tryz.ntmps71;go_wp2;go_loopw [3,4] (λo i wr=>Ext W wr/\∃k:Nat,k<=p.length/\i=.int .i64 (k:Int)/\Hid (∃rs,KA W.heap.size wr o rs ((iq p).h.take k))) (λ_ i _=>p.length-(intOf i).toNat)
 case atStart=>exact⟨(af _).alloc _,0,aT _,rfl,_,HM0.out⟩
 case round=>
  obtain⟨hb,k,hk,rfl,HI⟩:=hrel;obtain⟨rs,H⟩:=HI.out;obtain⟨Ah,nh,ch,rfl⟩:=jL H.hr;by_cases hlt:k<p.length
  ·obtain⟨b,off,rfl,hbl,hcc⟩:=(HPH.out.ext hb).head (by omega);obtain⟨d,hd⟩:=ah hlt;obtain⟨ov,c0,c1,hs⟩:=hcc k d hd;have hrl:rs.length<=4:=by rw[H.hl,eY];omega
   have b1:Ext wr (wr.alloc (.cells #[] 67)):=(af wr).alloc _;have hro:Row 67 3 encOpr W.heap.size (wr.alloc (.cells #[] 67)) (.slice (some ⟨wr.heap.size,0,none⟩) 0 0) []:=(dD (w:=wr)).low hb.size;obtain⟨v3,w3,hrun,hp⟩:=jY (wr.heap.size+1) (by simp) kC pW rfl (by omega) (H.ext b1).hr (af _) (⟨d.az,.slice (some ⟨wr.heap.size,0,none⟩) 0 0,false⟩:jg) (Gg _ ⟨_,_,_,rfl⟩) _ rfl (aX hb.size b1.size) (by omega) (by omega);have HN:=aa ((H.ext b1).push (t:=⟨d.az,[],false⟩) hp (hb.trans b1) (av _) hro ⟨rfl,rfl⟩ (λi r hr k2 hk e=>by
    obtain⟨y,hy⟩:=ah (show i<((iq p).h.take k).length by rw[<-H.hl];exact(bG.1 hr).1)
    have:=(jU (H.rows i r y hr hy).2.2 hk).2
    simp only[Value.ownBlock,Option.some.injEq]at e
    omega))
   have tF:=aa (hp.2.1 W (hb.trans b1) (av _));have R8:Hid ((iq p).h.take (k+1)=(iq p).h.take k++[⟨d.az,[],false⟩]):=ak (by simp[iq,hd]);have bH:=aa hrun;have i1:(k:Int)<(p.length:Int):=by omega
   have i2:(0:Int)<=(k:Int):=by omega
   clear hcc hd hs hrl b1 hro hrun hp H HI;go_wp2_with (at_builtin;refine wpList_append_run rfl rfl rfl rfl bH.out ?_)
   go_roundw;case rel=>exact⟨tF.out,k+1,by omega,by go_num,_,by rw[R8.out];exact HN.out⟩
   case measure=>simp[intOf];omega
  ·obtain rfl:k=p.length:=by omega
   have HD:=aa H.done;clear H HI;go_wp2;go_returns;have h1:=HD.out;rw[jX (by simp[iq])]at h1;exact⟨_,_,rfl,h1,hb⟩
def EO(bg:Nat->Bool)(sv:Nat->Value)(i:Nat):Value:=if bg i then sv i else .slice none 0 0
def um(bg:Nat->Bool)(lg:Nat->Nat)(i:Nat):Value:=if bg i then .slice (some ⟨lg i,0,none⟩) 3 3 else .slice none 0 0
def Ou(s:j3):Array Value:=#[.int .i64 (s 0),.int .i64 (s 1),.int .i64 (s 2)]
def FI(s:Int->Bool):Array Value:=#[.bool (s 0),.bool (s 1),.bool (s 2)]
theorem cell_of{w:World}{g:Nat}{cs:Array Value}{T:TypeId}{f:Nat × Nat}(h:w.heap[g]? =some (.cells cs T f))(i:Nat):w.cell? ⟨g,i,none⟩=cs[i]?:=by simp[World.cell?,h]
theorem Gd{w:World}{g:Nat}{cs:Array Value}{T:TypeId}(h:w.heap[g]? =some (.cells cs T (0,0)))(i:Nat):w.frozen? ⟨g,i,none⟩=false:=by simp[World.frozen?,h]
theorem M3{w:World}{g:Nat}{cs:Array Value}{T:TypeId}{f:Nat × Nat}(h:w.heap[g]? =some (.cells cs T f))(i:Nat)(u:Value):(w.setCell ⟨g,i,none⟩ u).heap[g]? =some (.cells (cs.setIfInBounds i u) T f):=by simp[World.setCell,lW,h]
theorem XJ(s:j3){k:Nat}(hk:k<3)(v:Int):(Ou s).setIfInBounds k (.int .i64 v)=Ou (s.put (k:Int) v):=by
 match k,hk with
 | 0,_=>simp[Ou,j3.put]
 | 1,_=>simp[Ou,j3.put]
 | 2,_=>simp[Ou,j3.put]
theorem aat(s:j3){k:Nat}(hk:k<3):(Ou s)[k]? =some (.int .i64 (s (k:Int))):=by
 match k,hk with
 | 0,_=>rfl
 | 1,_=>rfl
 | 2,_=>rfl
theorem Zi(s:Int->Bool){k:Nat}(hk:k<3):(FI s)[k]? =some (.bool (s (k:Int))):=by
 match k,hk with
 | 0,_=>rfl
 | 1,_=>rfl
 | 2,_=>rfl
theorem XZ(s:Int->Bool){k:Nat}(hk:k<3)(b:Bool):(FI s).setIfInBounds k (.bool b)=FI (λx=>if x=(k:Int) then b else s x):=by
 match k,hk with
 | 0,_=>simp[FI]
 | 1,_=>simp[FI]
 | 2,_=>simp[FI]
theorem Me{s s':Int->Bool}(h:∀x,0<=x->x<=2->s x=s' x):FI s=FI s':=by unfold FI;rw[h 0 (by omega) (by omega),h 1 (by omega) (by omega),h 2 (by omega) (by omega)]
def AR(N:Nat)(f:Nat->Value):Array Value:=((List.range N).map f).toArray
theorem Cc{N:Nat}(f:Nat->Value){i:Nat}(hi:i<N):(AR N f)[i]? =some (f i):=by simp[AR,hi]
theorem PK{N n:Nat}(f:Nat->Value)(v:Value):(AR N f).setIfInBounds n v=AR N (λi=>if i=n then v else f i):=by
 unfold AR;rw[List.setIfInBounds_toArray];congr 1;apply List.ext_getElem?;intro i;rw[iO,jT,jT];by_cases hi:i<N
 ·rw[List.getElem?_range hi];by_cases e:n=i
  ·subst e;simp[hi]
  ·have e':¬i=n:=λh=>e h.symm;simp[e,e']
 ·have:(List.range N)[i]? =none:=by simp;omega
  rw[this];by_cases e:n=i
  ·subst e;simp;omega
  ·simp[e]
theorem vM{N:Nat}{f g:Nat->Value}(h:∀i,i<N->f i=g i):AR N f=AR N g:=by unfold AR;congr 1;exact List.map_congr_left λi hi=>h i (Q6.1 hi)
structure oU (base q N:Nat) (hv:Value) (W:World) (h:List aG) (vals:j3) (kept:Nat->j3) (DV:Nat->Int->Bool) (bg:Nat->Bool) (sv:Nat->Value) (lg:Nat->Nat):Prop where
 rch:∃rs,Jj base W hv rs h
 b0:W.heap[q]? =some (.cells (Ou vals) 3 (0,0))
 b1:W.heap[q+1]? =some (.cells (AR N (EO bg sv)) 56 (0,0))
 b2:W.heap[q+2]? =some (.cells (AR N (um bg lg)) 103 (0,0))
 sn:∀i,i<N->bg i=true->Row 3 1 (one encI) (q+3) W (sv i) [kept i 0,kept i 1,kept i 2]
 st:∀i,i<N->bg i=true->q+3<=lg i/\W.heap[lg i]? =some (.cells (FI (DV i)) 4 (0,0))
 ap:∀i j,i<N->j<N->i≠j->bg i=true->bg j=true->lg i≠lg j
variable{base q N:Nat}{hv:Value}{W W':World}{h:List aG}{vals:j3}{kept:Nat->j3}{DV:Nat->Int->Bool}{bg:Nat->Bool}{sv:Nat->Value}{lg:Nat->Nat}
theorem oU.qU{h':List aG}{rs:List jg}(H:oU base q N hv W h vals kept DV bg sv lg)(k:mD W W')(hr:Jj base W' hv rs h')(hsv:∀i,i<N->bg i=true->Row 3 1 (one encI) (q+3) W' (sv i) [kept i 0,kept i 1,kept i 2]):oU base q N hv W' h' vals kept DV bg sv lg where
 rch:=⟨rs,hr⟩
 b0:=(k.2 _ _ _ _ H.b0 (by decide) (by decide)).trans H.b0
 b1:=(k.2 _ _ _ _ H.b1 (by decide) (by decide)).trans H.b1
 b2:=(k.2 _ _ _ _ H.b2 (by decide) (by decide)).trans H.b2
 sn:=hsv
 st i hi hb:=⟨(H.st i hi hb).1,(k.2 _ _ _ _ (H.st i hi hb).2 (by decide) (by decide)).trans (H.st i hi hb).2⟩
 ap:=H.ap
theorem oU.ext(H:oU base q N hv W h vals kept DV bg sv lg)(b:Ext W W'):oU base q N hv W' h vals kept DV bg sv lg:=
 let ⟨_,hr⟩:=H.rch
 H.qU (mD.bK b) (hr.ext b) (λi hi hb=>(H.sn i hi hb).ext b)
theorem oU.congr{kept':Nat->j3}{aee:Nat->Int->Bool}{bg':Nat->Bool}{vals':j3}(H:oU base q N hv W h vals kept DV bg sv lg)(hv':vals'=vals)(hb:∀i,i<N->bg' i=bg i)(hk:∀i,i<N->bg i=true->kept' i=kept i)(hs:∀i,i<N->bg i=true->∀x,0<=x->x<=2->aee i x=DV i x):oU base q N hv W h vals' kept' aee bg' sv lg where
 rch:=H.rch
 b0:=hv'▸H.b0
 b1:=by rw[H.b1,vM (f:=EO bg sv) (g:=EO bg' sv) λi hi=>by unfold EO;rw[hb i hi]]
 b2:=by rw[H.b2,vM (f:=um bg lg) (g:=um bg' lg) λi hi=>by unfold um;rw[hb i hi]]
 sn i hi h':=by rw[hb i hi]at h';rw[hk i hi h'];exact H.sn i hi h'
 st i hi h':=by rw[hb i hi]at h';rw[Me (hs i hi h')];exact H.st i hi h'
 ap i j hi hj hn h1 h2:=H.ap i j hi hj hn (by rw[<-hb i hi];exact h1) (by rw[<-hb j hj];exact h2)
theorem Cw{X:Nat->Prop}{v:Value}{xs:List Int}{b:Nat}(h:Row 3 1 (one encI) b W v xs)(k:dz X W W')(hx:∀i,X i->∃cs T f,W.heap[i]? =some (.cells cs T f)/\T≠3):Row 3 1 (one encI) b W' v xs:=
 eU h k λi e e'=>by obtain⟨cs,hg⟩:=dW h e;obtain⟨cs',T,f,hg',hT⟩:=hx i e';rw[hg]at hg';injection hg' with hg';injection hg' with _ e _;exact hT e.symm
theorem F9{X:Nat->Prop}{rs:List jg}(H:Jj base W hv rs h)(k:dz X W W')(hx:∀i,X i->∃cs T f,W.heap[i]? =some (.cells cs T f)/\T≠48/\T≠67):Jj base W' hv rs h:=
 H.frX k λi hi hX=>by
  obtain⟨cs,T,f,hg,h1,h2⟩:=hx i hX;rcases hi with ⟨a,n,c,e,hn,rfl⟩|⟨j,r,hr,e⟩
  ·obtain⟨cs',f',hg'⟩:=H.hi a n c e hn;rw[hg]at hg';injection hg' with hg';injection hg' with _ e _;exact h1 e
  ·obtain⟨t,ht⟩:=ah (show j<h.length by rw[<-H.hl];exact(bG.1 hr).1);obtain⟨cs',hg'⟩:=dW (H.rows j r t hr ht).2.2 e;rw[hg]at hg';injection hg' with hg';injection hg' with _ e _;exact h2 e
theorem jN(w:World)(g i:Nat)(u:Value):dz (λk=>k=g) w (w.setCell ⟨g,i,none⟩ u):=dz.setCell (X:=λk=>k=g) (dz.refl _ _) (p:=⟨g,i,none⟩) (.inl rfl) _
theorem oU.put(H:oU base q N hv W h vals kept DV bg sv lg){k:Nat}(hk:k<3)(v:Int):oU base q N hv (W.setCell ⟨q,k,none⟩ (.int .i64 v)) h (vals.put (k:Int) v) kept DV bg sv lg where
 rch:=let ⟨rs,hr⟩:=H.rch;⟨rs,F9 hr (jN W q k _) (λi e=>⟨_,_,_,e▸H.b0,by decide,by decide⟩)⟩
 b0:=by rw[M3 H.b0,XJ _ hk]
 b1:=(jN W q k _).heap H.b1 (by omega)
 b2:=(jN W q k _).heap H.b2 (by omega)
 sn i hi hb:=eU (H.sn i hi hb) (jN W q k _) (λj e e'=>by have:=(jU (H.sn i hi hb) e).1;omega)
 st i hi hb:=⟨(H.st i hi hb).1,(jN W q k _).heap (H.st i hi hb).2 (by have:=(H.st i hi hb).1;omega)⟩
 ap:=H.ap
theorem oU.mark(H:oU base q N hv W h vals kept DV bg sv lg){n:Nat}(hn:n<N)(hb:bg n=true){k:Nat}(hk:k<3)(b:Bool):oU base q N hv (W.setCell ⟨lg n,k,none⟩ (.bool b)) h vals kept (λi x=>if i=n/\x=(k:Int) then b else DV i x) bg sv lg where
 rch:=let ⟨rs,hr⟩:=H.rch;⟨rs,F9 hr (jN W (lg n) k _) (λi e=>⟨_,_,_,e▸(H.st n hn hb).2,by decide,by decide⟩)⟩
 b0:=(jN W (lg n) k _).heap H.b0 (by have:=(H.st n hn hb).1;omega)
 b1:=(jN W (lg n) k _).heap H.b1 (by have:=(H.st n hn hb).1;omega)
 b2:=(jN W (lg n) k _).heap H.b2 (by have:=(H.st n hn hb).1;omega)
 sn i hi hb':=Cw (H.sn i hi hb') (jN W (lg n) k _) (λj e=>⟨_,_,_,e▸(H.st n hn hb).2,by decide⟩)
 st i hi hb':=by
  by_cases e:i=n
  ·subst e;refine⟨(H.st i hi hb').1,?_⟩;rw[M3 (H.st i hi hb').2,XZ _ hk];exact agB (λc=>some (Obj.cells c 4 (0,0))) (Me λx _ _=>by simp)
  ·refine⟨(H.st i hi hb').1,?_⟩;rw[(jN W (lg n) k _).heap (H.st i hi hb').2 (H.ap i n hi hn e hb' hb)];exact agB (λc=>some (Obj.cells c 4 (0,0))) (Me λx _ _=>by simp[e])
 ap:=H.ap
theorem oU.begin_(H:oU base q N hv W h vals kept DV bg sv lg){n:Nat}(hn:n<N)(v:Value)(k:j3)(hv3:Row 3 1 (one encI) (q+3) W v [k 0,k 1,k 2]){g:Nat}(hg:W.heap[g]? =some (.cells (FI λ_=>false) 4 (0,0)))(hg3:q+3<=g)(hnew:∀i,i<N->bg i=true->lg i≠g) :
 oU base q N hv ((W.setCell ⟨q+1,n,none⟩ v).setCell ⟨q+2,n,none⟩ (.slice (some ⟨g,0,none⟩) 3 3)) h vals (wZ kept n k) (λi x=>if i=n then false else DV i x) (λi=>i==n || bg i) (λi=>if i=n then v else sv i) (λi=>if i=n then g else lg i):=by
 have F1:=jN W (q+1) n v;have F2:=jN (W.setCell ⟨q+1,n,none⟩ v) (q+2) n (.slice (some ⟨g,0,none⟩) 3 3);have c2:=F1.heap H.b2 (by omega);have adG:∀{u:Value} {xs:List Int},Row 3 1 (one encI) (q+3) W u xs->Row 3 1 (one encI) (q+3) ((W.setCell ⟨q+1,n,none⟩ v).setCell ⟨q+2,n,none⟩ (.slice (some ⟨g,0,none⟩) 3 3)) u xs:=λhr=>by have h1:=eU hr F1 (λj e e'=>by have:=(jU hr e).1;omega);exact eU h1 F2 (λj e e'=>by have:=(jU hr e).1;omega)
 refine⟨?_,?_,?_,?_,λi hi hb=>?_,λi hi hb=>?_,λi j hi hj hne h1 h2=>?_⟩
 ·obtain⟨rs,hr⟩:=H.rch;exact⟨rs,F9 (F9 hr F1 (λi e=>⟨_,_,_,e▸H.b1,by decide,by decide⟩)) F2 (λi e=>⟨_,_,_,e▸c2,by decide,by decide⟩)⟩
 ·exact F2.heap (F1.heap H.b0 (by omega)) (by omega)
 ·rw[F2.heap (M3 H.b1 n v) (by omega),PK];congr 2;exact vM λi hi=>by
   unfold EO;by_cases e:i=n
   ·subst e;simp
   ·simp[e]
 ·rw[M3 c2,PK];congr 2;exact vM λi hi=>by
   unfold um;by_cases e:i=n
   ·subst e;simp
   ·simp[e]
 ·by_cases e:i=n
  ·subst e;simp only[if_true,wZ];exact adG hv3
  ·simp only[e,if_false,wZ];exact adG (H.sn i hi (by simpa[e] using hb))
 ·by_cases e:i=n
  ·subst e;simp only[if_true];exact⟨hg3,F2.heap (F1.heap hg (by omega)) (by omega)⟩
  ·simp only[e,if_false];have hb':bg i=true:=by simpa[e] using hb
   obtain⟨x1,x2⟩:=H.st i hi hb';exact⟨x1,F2.heap (F1.heap x2 (by omega)) (by omega)⟩
 ·by_cases e1:i=n
  ·have e2:¬j=n:=λe=>hne (e1.trans e.symm);simp only[e1,e2,if_true,if_false];exact λe=>hnew j hj (by simpa[e2] using h2) e.symm
  ·by_cases e2:j=n
   ·simp only[e1,e2,if_true,if_false];exact hnew i hi (by simpa[e1] using h1)
   ·simp only[e1,e2,if_false];exact H.ap i j hi hj hne (by simpa[e1] using h1) (by simpa[e2] using h2)
end
section
theorem Jj.ret{base lo:Nat}{W:World}{hv:Value}{rs:List jg}{h:List aG}(H:Jj base W hv rs h)(hl:lo<=base):yB W hv rs h/\Own lo W hv/\∀(i:Nat) r,rs[i]? =some r->Own lo W r.dA:=
 ⟨⟨H.hl,H.hs,λi r t hr ht=>let ⟨a,b,c⟩:=H.rows i r t hr ht;⟨a,b,c.cell.1,c.cap⟩⟩,H.ho.mono hl,λi r hr=>by
   obtain⟨t,ht⟩:=ah (show i<h.length by rw[<-H.hl];exact(bG.1 hr).1)
   exact(H.rows i r t hr ht).2.2.cell.2.mono hl⟩
section
variable{base q N n:Nat}{W W3:World}{h:List aG}{vals:j3}{kept:Nat->j3}{DV:Nat->Int->Bool}{bg:Nat->Bool}{sv:Nat->Value}{lg:Nat->Nat}{b off nn c:Nat}{rs:List jg}{r:jg}{t:aG}
theorem oU.note{v3:Value}{o:aV}(H:oU base q N (.slice (some ⟨b,off,none⟩) nn c) W h vals kept DV bg sv lg)(hR:Jj base W (.slice (some ⟨b,off,none⟩) nn c) rs h)(hr:rs[n]? =some r)(ht:h[n]? =some t)(hnn:0<nn)
 (P:dz (λk=>r.dA.ownBlock=some k) W W3) (hp:Row 67 3 encOpr base W3 v3 (t.ops++[o])) (hv:v3.ownBlock=r.dA.ownBlock∨∃k,v3.ownBlock=some k/\W.heap.size<=k) :
 oU base q N (.slice (some ⟨b,off,none⟩) nn c) (W3.setCell ⟨b,off+n*3+1,none⟩ v3) (h.set n ⟨t.az,t.ops++[o],t.done⟩) vals kept DV bg sv lg:=by
 obtain⟨hN,hK⟩:=hR.I4 hr ht hnn P hp hv;have hro:=(hR.rows n r t hr ht).2.2;obtain⟨cs,fr,hg⟩:=hR.hi _ _ _ rfl hnn;simp only at hg;have hg3:=P.heap hg (λe=>by obtain⟨cs',hg'⟩:=dW hro e;rw[hg]at hg';injection hg' with hg';injection hg' with _ e _;exact absurd e (by decide))
 refine H.qU hK hN (λi hi hb=>?_);have h1:=Cw (H.sn i hi hb) P (λj e=>let ⟨cs',hg'⟩:=dW hro e;⟨cs',_,_,hg',by decide⟩);exact Cw h1 (jN W3 b _ _) (λj e=>⟨_,_,_,e▸hg3,by decide⟩)
theorem oU.end_(H:oU base q N (.slice (some ⟨b,off,none⟩) nn c) W h vals kept DV bg sv lg)(ht:h[n]? =some t)(hnn:0<nn)(g:Bool) :
 oU base q N (.slice (some ⟨b,off,none⟩) nn c) (W.setCell ⟨b,off+n*3+2,none⟩ (.bool g)) (h.set n ⟨t.az,t.ops,g⟩) vals kept DV bg sv lg:=by
 obtain⟨rs,hR⟩:=H.rch;obtain⟨r,hr⟩:=ah (show n<rs.length by rw[hR.hl];exact(bG.1 ht).1);obtain⟨hN,hK⟩:=hR.RS hr ht hnn g;obtain⟨cs,fr,hg⟩:=hR.hi _ _ _ rfl hnn;simp only at hg;exact H.qU hK hN (λi hi hb=>Cw (H.sn i hi hb) (jN W b _ _) (λj e=>⟨_,_,_,e▸hg,by decide⟩))
end
theorem aaE{b:Nat}{W:World}{v:Value}{s:j3}(h:Row 3 1 (one encI) b W v [s 0,s 1,s 2]){k:Nat}(hk:k<3):∃g c,v=.slice (some ⟨g,0,none⟩) 3 c/\W.cell? ⟨g,k,none⟩=some (.int .i64 (s (k:Int))):=by
 obtain⟨g,c,hv,_⟩:=nZ h (by simp);refine⟨g,c,hv,?_⟩;obtain⟨A',c',e,hc⟩:=h.cell.1;obtain⟨b',off,e',hlt,hcc⟩:=hc (by simp);rw[hv]at e;obtain rfl:=(sQ e).1;obtain⟨rfl,rfl⟩:g=b'/\off=0:=by simpa[eq_comm] using e'
 have hx:[s 0,s 1,s 2][k]? =some (s (k:Int)):=by
  match k,hk with
  | 0,_=>rfl
  | 1,_=>rfl
  | 2,_=>rfl
 have:=hcc k _ hx 0 (by omega)
 simpa[one,encI] using this
section
variable{base q N n:Nat}{hv:Value}{W:World}{h:List aG}{vals:j3}{kept:Nat->j3}{DV:Nat->Int->Bool}{bg:Nat->Bool}{sv:Nat->Value}{lg:Nat->Nat}
theorem oU.ZA(H:oU base q N hv W h vals kept DV bg sv lg)(hn:n<N)(hb:bg n=true):W.cell? ⟨q+1,n,none⟩=some (sv n):=by rw[cell_of H.b1,Cc _ hn];unfold EO;rw[aj hb]
theorem oU.acr(H:oU base q N hv W h vals kept DV bg sv lg)(hn:n<N)(hb:bg n=true){k:Nat}(hk:k<3):∃g c,sv n=.slice (some ⟨g,0,none⟩) 3 c/\W.cell? ⟨g,k,none⟩=some (.int .i64 (kept n (k:Int))):=aaE (s:=kept n) (H.sn n hn hb) hk
theorem oU.K7(H:oU base q N hv W h vals kept DV bg sv lg)(hn:n<N)(hb:bg n=true):W.cell? ⟨q+2,n,none⟩=some (.slice (some ⟨lg n,0,none⟩) 3 3):=by rw[cell_of H.b2,Cc _ hn];unfold um;rw[aj hb]
theorem oU.XO(H:oU base q N hv W h vals kept DV bg sv lg)(hn:n<N)(hb:bg n=false):W.cell? ⟨q+2,n,none⟩=some (.slice none 0 0):=by rw[cell_of H.b2,Cc _ hn];unfold um;rw[au (by rw[hb];decide)]
theorem oU.Ud(H:oU base q N hv W h vals kept DV bg sv lg)(hn:n<N)(hb:bg n=true){k:Nat}(hk:k<3):q+3<=lg n/\W.cell? ⟨lg n,k,none⟩=some (.bool (DV n (k:Int)))/\W.frozen? ⟨lg n,k,none⟩=false:=
 ⟨(H.st n hn hb).1,by rw[cell_of (H.st n hn hb).2];exact Zi _ hk,Gd (H.st n hn hb).2 k⟩
theorem oU.abe(H:oU base q N hv W h vals kept DV bg sv lg){k:Nat}(hk:k<3):W.cell? ⟨q,k,none⟩=some (.int .i64 (vals (k:Int)))/\W.frozen? ⟨q,k,none⟩=false:=
 ⟨by rw[cell_of H.b0];exact aat _ hk,Gd H.b0 k⟩
end
theorem xx.begin_{m:pX}(h:xx m)(n:Nat):xx (ay m n):=λi x=>by
 unfold ay;split
 ·simp only[wZ];split
  ·exact Int.le_refl _
  ·exact h i x
 ·exact h i x
theorem Uy{w:World}{a:Addr}(v:Value)(o:Obj)(h:a.block<w.heap.size):(w.setCell a v).alloc o=(w.alloc o).setCell a v:=by
 unfold World.setCell World.alloc;simp only;congr 1;apply Array.ext_getElem?;intro i;simp only[Array.getElem?_push,lW,Array.size_modify];by_cases e:i=w.heap.size
 ·subst e
  have:¬a.block=w.heap.size:=by omega
  simp[this]
 ·simp[e]
theorem Vx{h:List aG}{n:Nat}{t':aG}(hn:n<h.length)(i:Nat):opsOf (h.set n t') i=if i=n then t'.ops else opsOf h i:=by
 unfold opsOf;by_cases e:i=n
 ·subst e;simp[qJ hn]
 ·rw[G6 (λe'=>e e'.symm)];simp[e]
theorem ZY{base q N n:Nat}{hv:Value}{W:World}{m M:pX}{o:aV}{ws:List aV}{h':List aG}{bg:Nat->Bool}{sv:Nat->Value}{lg:Nat->Nat}
 (H:oU base q N hv W h' (jJ m.vals ws) (ay m n).kept (λi=>lF (ay m n) i ws) bg sv lg) (hvo:xx (ay m n)) (hh:(jm (ay m n) n o true).h=h')
 (hbg:∀i,decide (0<(opsOf h' i).length)=bg i) (hM:M={ jm (ay m n) n o true with vals:=jJ m.vals ws,dK:=iT m.dK ws }) :
 oU base q N hv W M.h M.vals M.kept (jr M) (λi=>decide (0<(opsOf M.h i).length)) sv lg:=by
 have e1:M.h=h':=by rw[hM];exact hh
 have e2:M.vals=jJ m.vals ws:=by rw[hM]
 have e3:M.kept=(ay m n).kept:=by rw[hM];rfl
 have e4:M.dK=iT m.dK ws:=by rw[hM]
 have e5:M.began=(ay m n).began:=by rw[hM];rfl
 rw[e1];refine H.congr e2 (λi _=>hbg i) (λi _ _=>by rw[e3]) (λi _ _ x _ _=>?_)
 have:=UF hvo i ws x
 rw[lM]at this;unfold jr lF;rw[e4,e5];exact this
theorem UJ{base q N n:Nat}{hv:Value}{W:World}{m:pX}{ws:List aV}{h':List aG}{bg:Nat->Bool}{sv:Nat->Value}{lg:Nat->Nat}
 (H:oU base q N hv W h' (ay m n).vals (ay m n).kept (jr (ay m n)) bg sv lg):oU base q N hv W h' (jJ m.vals (ws.take 0)) (ay m n).kept (λi=>lF (ay m n) i (ws.take 0)) bg sv lg:=by
 rw[aaD];refine H.congr (tK m n).symm (λi _=>rfl) (λi _ _=>rfl) (λi _ _ x _ _=>by rw[Rs])
theorem aaM(N:Nat)(h:N<=4):madeCells (Value.slice none 0 0).cells (N*1)=AR N λ_=>.slice none 0 0:=by rcases (by omega:N=0∨N=1∨N=2∨N=3∨N=4) with rfl|rfl|rfl|rfl|rfl<;>kernel_rfl
theorem Oi:(Tryz.prog.info? 4).map (λi=>(i.zero,i.size,i.bytes))=some (some (.bool false),1,1):=by kernel_rfl
theorem Nu:(Tryz.prog.info? 103).map (λi=>(i.zero,i.size,i.bytes))=some (some (.slice none 0 0),1,24):=by kernel_rfl
theorem BX{pv u:Value}{p:List fI}(w:World)(HP:yV w pv p)(hp:eu p=true)(hx:oZ encI w u ((eD p.length).map λn:Nat=>(n:Int))) :
 Calls Tryz.prog 31 #[pv,u] w λe w'=>∃v rs,e=.returned v/\yB w' v rs (BV p)/\Own w.heap.size w' v/\(∀(i:Nat) r,rs[i]? =some r->Own w.heap.size w' r.dA)/\Ext w w':=by
 have TR:=jW hp;obtain⟨A,c,rfl⟩:=HP.slice;have hxl:((eD p.length).map λn:Nat=>(n:Int)).length<=16:=by rw[dX,GK];omega
 have HPV:=aa (sP w HP (by omega) (λd hd=>by have:=(iN (dO hp hd)).2;omega));rw[hp]at HPV;have HSV:=aa (λW (b:Ext w W)=>Be p.length W TR (hx.ext b) (by omega) (λn hn=>by
  obtain⟨q,hq,rfl⟩:=fV.1 hn
  have:=uD hq
  omega))
 obtain⟨Au,cu,rfl,hx0⟩:=id hx;have hx1:0<(eD p.length).length->∃b off,Au=some ⟨b,off,none⟩/\b<w.heap.size/\∀(i:Nat) (n:Nat),(eD p.length)[i]? =some n->w.cell? ⟨b,off+i,none⟩=some (.int .i64 (n:Int)):=λh0=>by obtain⟨b,off,e,hb,hc⟩:=hx0 (by rw[dX];exact h0);exact⟨b,off,e,hb,λi n hn=>hc i (n:Int) (by simp[hn])⟩
 rw[dX]at hxl;have hlm:((eD p.length).map λn:Nat=>(n:Int)).length=(eD p.length).length:=dX _;rw[hlm]at HSV ⊢;have V8:Hid (∀k n,(eD p.length)[k]? =some n->cz p (k+1)=stepM p (cz p k) n/\n<p.length):=λk n hn=>⟨nR hn,uD (aM hn)⟩;have HRE:Hid ((cz p (eD p.length).length).h=BV p):=rfl;have HRK:Hid (∀k,k<=(eD p.length).length->pg p (cz p k)/\(∀(i:Nat) t d,(cz p k).h[i]? =some t->p[i]? =some d->t.ops.length<d.steps.length->t.done=false)/\qN (cz p k)/\xx (cz p k)):=λk hk=>⟨Ih hp k hk,GU k hk,aaR k hk,aa1 k hk⟩;obtain⟨xs,hxs⟩:∃xs,eD p.length=xs:=⟨_,rfl⟩;have hSV:=HSV.out;have hRT:=V8.out;have Yr:=HRE.out;have hRK:=HRK.out;rw[hxs]at hxl hx1 hSV hRT Yr hRK ⊢;replace HSV:=aa hSV;replace V8:=aa hRT;replace HRE:=aa Yr;replace HRK:=aa hRK;clear hlm hxs hSV hRT Yr hRK;have Py:=aa hp;have Ju:=aa HP;have HX0:=aa hx1;clear hp hx hx0 hx1;obtain⟨R,hR⟩:∃R,BV p=R:=⟨_,rfl⟩;rw[hR]at HRE ⊢;clear hR HP;obtain⟨CI,hCI⟩:∃C,Ou pU=C:=⟨_,rfl⟩;obtain⟨CN,hCN⟩:∃C,(AR p.length λ_=>.slice none 0 0)=C:=⟨_,rfl⟩;obtain⟨CB,hCB⟩:∃C,(FI λ_=>false)=C:=⟨_,rfl⟩;have hm1:∀W:World,(Instr.makeSlice 56 (.int .i64 3) (.int .i64 3)).run Tryz.prog W=.ok (.slice (some ⟨W.heap.size,0,none⟩) 3 3) (W.alloc (.cells CI 3)):=λW=>by
  have:=lJ (P:=Tryz.prog) 56 3 Mm dx 3 (by omega) (by omega) W
  rw[show madeCells (Value.int .i64 0).cells (3*1)=CI by rw[<-hCI];kernel_rfl]at this;exact this
 have hm2:∀W:World,(Instr.makeSlice 101 (.int .i64 (p.length:Int)) (.int .i64 (p.length:Int))).run Tryz.prog W=.ok (.slice (some ⟨W.heap.size,0,none⟩) p.length p.length) (W.alloc (.cells CN 56)):=λW=>by
  have:=lJ (P:=Tryz.prog) 101 56 Tryz.underlying101 vN p.length (by omega) (by omega) W
  rwa [aaM _ TR,hCN]at this
 have hm3:∀W:World,(Instr.makeSlice 102 (.int .i64 (p.length:Int)) (.int .i64 (p.length:Int))).run Tryz.prog W=.ok (.slice (some ⟨W.heap.size,0,none⟩) p.length p.length) (W.alloc (.cells CN 103)):=λW=>by
  have:=lJ (P:=Tryz.prog) 102 103 Tryz.underlying102 Nu p.length (by omega) (by omega) W
  rwa [aaM _ TR,hCN]at this
 have hm4:∀W:World,(Instr.makeSlice 103 (.int .i64 3) (.int .i64 3)).run Tryz.prog W=.ok (.slice (some ⟨W.heap.size,0,none⟩) 3 3) (W.alloc (.cells CB 4)):=λW=>by
  have:=lJ (P:=Tryz.prog) 103 4 Tryz.underlying103 Oi 3 (by omega) (by omega) W
  rw[show madeCells (Value.bool false).cells (3*1)=CB by rw[<-hCB];kernel_rfl]at this;exact this
 have HCI:=aa hCI;have QB:=aa hCN;have HCB:=aa hCB;clear hCI hCN hCB;go_enter Tryz.func31,Tryz.ntmps31;go_wp2_with (first|(go_at_call 52;refine HPV.out.mono ?_;rintro e wa ⟨rfl,ba⟩)|(go_at_call 70;refine(HSV.out _ ba).mono ?_;rintro e w1 ⟨rfl,b1⟩)|fail)
 refine(Nt w1 (Ju.out.ext (ba.trans b1)) TR).mono ?_
 rintro e w2 ⟨hv,rs0,rfl,hM0,b2⟩;have aaO:rs0.length=p.length:=by rw[hM0.hl];simp[iq]
 obtain⟨Ah,ch,rfl⟩:∃Ah ch,hv=.slice Ah p.length ch:=by obtain⟨A,c,e,_⟩:=hM0.hs;exact⟨A,c,by rw[<-aaO];exact e⟩
 have yM:=aa (ba.trans b1);have hx3:Ext w2 (((w2.alloc (.cells CI 3)).alloc (.cells CN 56)).alloc (.cells CN 103)):=(((af w2).alloc _).alloc _).alloc _;have WR:oU w1.heap.size w2.heap.size p.length (.slice Ah p.length ch) (((w2.alloc (.cells CI 3)).alloc (.cells CN 56)).alloc (.cells CN 103)) (iq p).h pU (λ_=>pU) (λ_ _=>false) (λ_=>false) (λ_=>.slice none 0 0) (λ_=>0):=by
  refine⟨⟨rs0,hM0.ext hx3⟩,?_,?_,?_,λi hi h=>(by cases h),λi hi h=>(by cases h),λi j hi hj hn h=>(by cases h)⟩
  ·rw[HCI.out];exact xh (((af _).alloc _).alloc _) (dP w2 _)
  ·have h1:((w2.alloc (.cells CI 3)).alloc (.cells CN 56)).heap[w2.heap.size+1]? =some (.cells CN 56 (0,0)):=by
    have:=dP (w2.alloc (.cells CI 3)) (.cells CN 56)
    rwa [show (w2.alloc (.cells CI 3)).heap.size=w2.heap.size+1 by simp]at this
   rw[show AR p.length (EO (λ_=>false) λ_=>.slice none 0 0)=CN from QB.out];exact xh ((af _).alloc _) h1
  ·have h1:=dP ((w2.alloc (.cells CI 3)).alloc (.cells CN 56)) (.cells CN 103);rw[show ((w2.alloc (.cells CI 3)).alloc (.cells CN 56)).heap.size=w2.heap.size+2 by simp]at h1;rw[show AR p.length (um (λ_=>false) λ_=>0)=CN from QB.out];exact h1
 have adx:∀i,decide (0<(opsOf (cz p 0).h i).length)=false:=λi=>by
  have:opsOf (cz p 0).h i=[]:=by show opsOf (iq p).h i=[];unfold opsOf iq;simp only[jT];cases p[i]?<;>rfl
  rw[this];rfl
 have Gq:Hid (∃sv lg,oU w1.heap.size w2.heap.size p.length (.slice Ah p.length ch) (((w2.alloc (.cells CI 3)).alloc (.cells CN 56)).alloc (.cells CN 103)) (cz p 0).h (cz p 0).vals (cz p 0).kept (jr (cz p 0)) (λi=>decide (0<(opsOf (cz p 0).h i).length)) sv lg):=
  ⟨_,_,WR.congr rfl (λi hi=>adx i) (λi hi h=>by cases h) (λi hi h=>by cases h)⟩
 have Gt:Hid (Ext w1 (((w2.alloc (.cells CI 3)).alloc (.cells CN 56)).alloc (.cells CN 103))):=b2.trans hx3;have aav:w1.heap.size<=w2.heap.size:=b2.size;clear hM0 WR adx hx3 b2 ba b1 HPV HSV aaO;go_wp2;generalize afc:w2.heap.size+1+1=q2;generalize ae3:w2.heap.size+1=q1;generalize hqe:w2.heap.size=q;rw[hqe]at Gq aav;have hq1:q1=q+1:=by omega
 have HE2:Hid (q2=q+2):=by show _ = _;omega
 have Il:Hid (q1=q+1):=by show _ = _;omega
 clear afc ae3 hqe hq1;go_loopw [9] (λi wr=>Hid (Ext w1 wr)/\∃k:Nat,k<=xs.length/\i=.int .i64 (k:Int)/\Hid (∃sv lg,oU w1.heap.size q p.length (.slice Ah p.length ch) wr (cz p k).h (cz p k).vals (cz p k).kept (jr (cz p k)) (λi=>decide (0<(opsOf (cz p k).h i).length)) sv lg)) (λi _=>xs.length-(intOf i).toNat)
 case atStart=>exact⟨Gt.out,0,aT _,rfl,Gq.out⟩
 case round=>
  clear Gq Gt hm1 hm2 hm3;obtain⟨HB,k,hk,rfl,HS⟩:=hrel;by_cases hlt:k<xs.length
  ·obtain⟨bx,ox,rfl,hbx,hcell⟩:=HX0.out (by omega);obtain⟨n,hn⟩:=ah hlt;have c0:=(yM.out.trans HB.out).cell (hcell k n hn);obtain⟨hnext,hnp⟩:=V8.out k n hn;obtain⟨hro,hdn,hbf,hvo⟩:=HRK.out k hk;have aeO:=aa (HRK.out (k+1) (by omega)).1;obtain⟨m,hm⟩:∃m,cz p k=m:=⟨_,rfl⟩;rw[hm]at hnext hro hdn hbf hvo HS;have jC:=aa hnext;have U7:=aa hro;have QC:=aa hdn;have HBF:=aa (hbf.begin_ n);have HVO:=aa (hvo.begin_ n);obtain⟨d,hd⟩:=ah hnp;obtain⟨t,ht⟩:=ah (show n<m.h.length by rw[hro.len];exact hnp);obtain⟨hse,hle,hop⟩:=hro.tx n t d ht hd;have hd4:=(iN (dO Py.out (aM hd))).2;have hn4:n<4:=by omega
   have HT:=aa ht;have HD:=aa hd;obtain⟨sv,lg,hRS⟩:=HS.out;obtain⟨rs,hR⟩:=hRS.rch;obtain⟨b2,off2,r,rfl,hb2,aeg,hr,t0,t1,t2,hrow,hfr,hty⟩:=hR.at ht;obtain⟨Ao,co,hov,_⟩:=hrow.cell.1;rw[hov]at t1;obtain⟨bp,op,rfl,hbp,hcp⟩:=(Ju.out.ext yM.out).head (by omega);obtain⟨ovp,d0,d1,hsp⟩:=hcp n d hd;obtain⟨Asp,csp,rfl,ad1⟩:=id hsp;have HPC:Hid (∀W,Ext w1 W->W.cell? ⟨bp,op+n*2+1,none⟩=some (.slice Asp d.steps.length csp)):=λW b=>b.cell d1;have KO:=aa ad1;have y1:=HPC.out wr HB.out;have Tf:=aa hRS;have i1:(n:Int)<(p.length:Int):=by omega
   have i2:(0:Int)<=(n:Int):=by omega
   have i3:(k:Int)<(xs.length:Int):=by omega
   have i4:(0:Int)<=(k:Int):=by omega
   clear hcell hn hnext hro hdn hbf hvo hm ht hd hse hop d0 d1 hsp ad1 hcp hr hrow hfr hty hov hR hRS HS
   cases hs:d.steps[t.ops.length]? with
   | none=>
     have Uj:=aa (Ai HT.out HD.out hs);have hle2:=List.getElem?_eq_none_iff.1 hs;have hEq:((t.ops.length:Int)==(d.steps.length:Int))=true:=by simp;omega
     clear hs hle2;go_wp2;go_roundw;case rel=>exact⟨HB.out,k+1,by omega,by go_num,by rw[jC.out,Uj.out];exact⟨_,_,Tf.out⟩⟩
     case measure=>simp[intOf];omega
   | some o0=>
     have hlt2:t.ops.length<d.steps.length:=(bG.1 hs).1;have hEq:((t.ops.length:Int)==(d.steps.length:Int))=false:=by simp;omega
     have TM:=aa hs;have E9:=gN (dO Py.out (aM HD.out)) (aM hs);have hkd:=kF E9;have hky:=jy E9;have hvl:=mV E9;obtain⟨bs,os,rfl,hbs,hcs⟩:=KO.out (by omega);have UT:Hid (∀W,Ext w1 W->W.cell? ⟨bs,os+t.ops.length*3,none⟩=some (.int .i64 o0.kind)/\W.cell? ⟨bs,os+t.ops.length*3+1,none⟩=some (.int .i64 o0.key)/\W.cell? ⟨bs,os+t.ops.length*3+2,none⟩=some (.int .i64 o0.value)):=λW b=>
      ⟨b.cell (hcs t.ops.length o0 hs 0 (by omega)),b.cell (hcs t.ops.length o0 hs 1 (by omega)),b.cell (hcs t.ops.length o0 hs 2 (by omega))⟩
     have mF:=aa (O8 (n:=n) o0 HT.out);obtain⟨kd,ky,vl⟩:=o0;simp only at hkd hky hvl UT;subst hvl;obtain⟨kn,rfl⟩:=dZ hky.1;have hk3:kn<3:=by omega
     clear hs E9 hky hcs;go_upto_if 64 with fail
     go_cut [] (λwx=>∃YD JE,Hid (oU w1.heap.size q p.length (.slice (some ⟨b2,off2,none⟩) p.length ch) wx m.h (ay m n).vals (ay m n).kept (jr (ay m n)) (λi=>i==n || decide (0<(opsOf m.h i).length)) YD JE)/\Hid (Ext w1 wx))
     case first=>
      as_aux_lemma=>
       by_cases h0:t.ops.length=0;case pos=>
        have h0e:((t.ops.length:Int)==0)=true:=by simp[h0]
        have hq1:=Il.out;have hq2:=HE2.out;have Tx:=aa (yl HT.out h0);have hsl:aL 1 (one encI) wr (.slice (some ⟨q,0,none⟩) [m.vals 0,m.vals 1,m.vals 2].length 3) [m.vals 0,m.vals 1,m.vals 2]:=by
         refine⟨_,_,rfl,λ_=>⟨q,0,rfl,(fF.1 Tf.out.b0).1,λi x hx j hj=>?_⟩⟩;obtain rfl:j=0:=by omega
         rw[cell_of Tf.out.b0]
         match i,hx with
         | 0,hx=>simp at hx;subst hx;rfl
         | 1,hx=>simp at hx;subst hx;rfl
         | 2,hx=>simp at hx;subst hx;rfl
         | _+3,hx=>simp at hx
        obtain⟨v3,w3,Jz,hrow3,Pw⟩:=oD (w:=wr) wr.heap.size rfl Mm dx rfl (by omega) hsl (λx _ j=>rfl) (by simp) (by omega);have Ye:=Tf.out.ext (Pw wr (af _));have afo:q+2<wr.heap.size:=(fF.1 Tf.out.b2).1;have hw3:wr.heap.size<=w3.heap.size:=(Pw wr (af _)).size;obtain⟨Zw,Z5,Zt,rfl⟩:=jL hrow3;have x1c:w3.cell? ⟨q1,n,none⟩=some (EO (λi=>decide (0<(opsOf m.h i).length)) sv n):=by rw[hq1,cell_of Ye.b1];exact Cc _ hnp
        have x1f:w3.frozen? ⟨q1,n,none⟩=false:=by rw[hq1];exact Gd Ye.b1 n
        have hx4:Ext w3 (w3.alloc (.cells CB 4)):=(af _).alloc _;have abC:=Ye.ext hx4;have hcom:=Uy (w:=w3) (a:=⟨q1,n,none⟩) (.slice Zw Z5 Zt) (.cells CB 4) (show q1<w3.heap.size by omega);have hb2':((w3.alloc (.cells CB 4)).setCell ⟨q1,n,none⟩ (.slice Zw Z5 Zt)).heap[q+2]? =some (.cells (AR p.length (um (λi=>decide (0<(opsOf m.h i).length)) lg)) 103 (0,0)):=(jN _ q1 n _).heap abC.b2 (by omega);have x2c:((w3.setCell ⟨q1,n,none⟩ (.slice Zw Z5 Zt)).alloc (.cells CB 4)).cell? ⟨q2,n,none⟩=some (um (λi=>decide (0<(opsOf m.h i).length)) lg n):=by rw[hcom,hq2,cell_of hb2'];exact Cc _ hnp
        have x2f:((w3.setCell ⟨q1,n,none⟩ (.slice Zw Z5 Zt)).alloc (.cells CB 4)).frozen? ⟨q2,n,none⟩=false:=by rw[hcom,hq2];exact Gd hb2' n
        have hbx0:=abC.begin_ hnp (.slice Zw Z5 Zt) m.vals ((Row.low hrow3 (show q+3<=wr.heap.size by omega)).ext hx4) (g:=w3.heap.size) (by rw[HCB.out];exact dP w3 _) (by omega) (λi hi hb e=>by
         have:=(fF.1 (Ye.st i hi hb).2).1
         omega)
        have yS:Hid (oU w1.heap.size q p.length (.slice (some ⟨b2,off2,none⟩) p.length ch) ((((w3.setCell ⟨q1,n,none⟩ (.slice Zw Z5 Zt)).alloc (.cells CB 4)).setCell ⟨q2,n,none⟩ (.slice (some ⟨w3.heap.size,0,none⟩) 3 3))) m.h (ay m n).vals (ay m n).kept (jr (ay m n)) (λi=>i==n || decide (0<(opsOf m.h i).length)) (λi=>if i=n then .slice Zw Z5 Zt else sv i) (λi=>if i=n then w3.heap.size else lg i)):=by
         show oU _ _ _ _ _ _ _ _ _ _ _ _;rw[hcom,hq1,hq2];refine hbx0.congr (tK m n) (λi hi=>rfl) (λi hi hb=>by rw[Tx.out.1]) (λi hi hb x h1 h2=>?_);by_cases e:i=n
         ·subst e;rw[aj rfl];exact Qy HT.out h0 x
         ·rw[au e];exact OM e x
        have NJ:Hid (Ext w1 ((((w3.setCell ⟨q1,n,none⟩ (.slice Zw Z5 Zt)).alloc (.cells CB 4)).setCell ⟨q2,n,none⟩ (.slice (some ⟨w3.heap.size,0,none⟩) 3 3)))):=
         (((Pw w1 HB.out).setCell (p:=⟨q1,n,none⟩) (by show w1.heap.size<=q1;omega) _).alloc _).setCell (p:=⟨q2,n,none⟩) (by show w1.heap.size<=q2;omega) _
        have h3l:Hid (((3:Nat):Int)=3):=rfl;have acE:Hid ((Builtin.append_ #[56,56] 56 #[.slice (some ⟨wr.heap.size,0,none⟩) 0 0,.slice (some ⟨q,0,none⟩) 3 3]).run Tryz.prog (wr.alloc (.cells #[] 3))=.ok (.slice Zw Z5 Zt) w3):=Jz;clear hsl Jz hrow3 Pw Ye afo hw3 hx4 abC hcom hb2' hbx0 h0 h3l Tx hq1 hq2;go_wp2_with (at_builtin;refine wpList_append_run rfl rfl rfl rfl acE.out ?_)
        go_meet;case rel=>exact⟨_,_,yS,NJ⟩
       case neg=>
        have h0e:((t.ops.length:Int)==0)=false:=by simpa using h0
        have Tx:=aa (Gz HT.out h0);obtain⟨W1,rfl⟩:∃W1:World,W1=wr:=⟨_,rfl⟩;obtain⟨YD,rfl⟩:∃s,s=sv:=⟨_,rfl⟩;obtain⟨JE,rfl⟩:∃s,s=lg:=⟨_,rfl⟩;have yS:Hid (oU w1.heap.size q p.length (.slice (some ⟨b2,off2,none⟩) p.length ch) W1 m.h (ay m n).vals (ay m n).kept (jr (ay m n)) (λi=>i==n || decide (0<(opsOf m.h i).length)) YD JE):=by
         refine Tf.out.congr (tK m n) (λi hi=>?_) (λi hi hb=>by rw[Tx.out.1]) (λi hi hb x h1 h2=>?_)
         ·by_cases e:i=n
          ·subst e;rw[dV HT.out];simp;omega
          ·simp[e]
         ·unfold jr;rw[Tx.out.2,lM]
        have NJ:Hid (Ext w1 W1):=HB.out;clear h0 Tx Tf t0 t2;go_wp2;go_meet;case rel=>exact⟨_,_,yS,NJ⟩
     case rest=>
      obtain⟨YD,JE,yS,NJ⟩:=hcut;obtain⟨W1,hW1⟩:∃W:World,wc=W:=⟨_,rfl⟩;rw[hW1]at yS NJ ⊢;have y1:=HPC.out _ NJ.out;obtain⟨zx0,zx1,zx2⟩:=UT.out _ NJ.out;clear hW1 Tf t0 t1 t2 c0;go_wp2;have ZR:Hid (W1.heap.size=W1.heap.size):=rfl;generalize hsb:W1.heap.size=sb at ⊢;replace ZR:Hid (W1.heap.size=sb):=hsb;clear hsb y1 zx0 zx1 zx2;obtain⟨rs1,Wh⟩:=yS.out.rch;obtain⟨b3,Cz,r1,hA3,hb3,Zx,hr1,t0,t1,t2,jO,adl,acL⟩:=Wh.at HT.out;injection hA3 with hA3;injection hA3 with aa8 abX;subst aa8 abX;obtain⟨Ao1,co1,abO,_⟩:=id jO.cell.1;have hsl1:=jO.cell.1;rw[abO]at t1 hsl1;have ZV:(n==n || decide (0<(opsOf m.h n).length))=true:=by simp
      obtain⟨gn,cn,acH,hgc⟩:=yS.out.acr hnp ZV hk3;have OJ:=yS.out.ZA hnp ZV;rw[acH,<-Il.out]at OJ;have acI:=aa ZV;clear ZV;obtain⟨ko,hko⟩:∃x,(ay m n).kept n (kn:Int)=x:=⟨_,rfl⟩;have hown:=HBF.out.own (t:=t) (by rw[oO];exact HT.out) (kn:Int);rw[hko]at hgc hown;obtain⟨ovl,abt⟩:∃x,(before t.ops (kn:Int)).getD ko=x:=⟨_,rfl⟩;rw[abt]at hown;have HOWN:=aa hown;have aaH:∀v,before t.ops (kn:Int)=some v->0<=v:=λv hv=>by
       obtain⟨o,ho,_,rfl⟩:=xN hv
       exact(Ta U7.out HT.out HD.out o ho).1
      have abx:=aa (λW (b:Ext W1 W)=>SH t.az t.done (kn:Int) ko W (hsl1.ext b) (by omega) aaH);rw[abt]at abx;have hal:Ext W1 (W1.alloc (.cells #[.int .i64 kd,.int .i64 (kn:Int),.int .i64 0] 67)):=(af W1).alloc _;have v0:=hal.cell t0;have v1:=hal.cell t1;have v2:=hal.cell t2;have v3:=hal.cell OJ;have v4:=hal.cell hgc;have v5:(W1.alloc (.cells #[.int .i64 kd,.int .i64 (kn:Int),.int .i64 0] 67)).cell? ⟨sb,0,none⟩=some (.int .i64 kd):=by rw[<-ZR.out];exact aF rfl
      have v6:(W1.alloc (.cells #[.int .i64 kd,.int .i64 (kn:Int),.int .i64 0] 67)).cell? ⟨sb,1,none⟩=some (.int .i64 (kn:Int)):=by rw[<-ZR.out];exact aF rfl
      have HR1:=aa Wh;have aeS:=aa hr1;have Jf:=aa jO;have afx:=aa abO;have aeu:=aa adl;have aft:=aa acL;have HAL:=aa hal;have aeM:Hid (w1.heap.size<=b2):=Zx;have HB3:Hid (b2<W1.heap.size):=hb3;have j1:(0:Int)<=(kn:Int):=by omega
      have j2:(kn:Int)<3:=by omega
      have afi:t.ops.length<4:=by omega
      clear Wh hr1 t0 t1 t2 jO adl acL hsl1 acH hgc OJ hko hown abt aaH hal abO hb3 Zx;go_region_held3 (λV=>V.cell? ⟨b2,off2+n*3,none⟩=some (.int .i64 t.az)/\V.cell? ⟨b2,off2+n*3+1,none⟩=some (.slice Ao1 t.ops.length co1)/\V.cell? ⟨b2,off2+n*3+2,none⟩=some (.bool t.done)/\V.cell? ⟨q1,n,none⟩=some (.slice (some ⟨gn,0,none⟩) 3 cn)/\V.cell? ⟨gn,kn,none⟩=some (.int .i64 ko)/\V.cell? ⟨sb,1,none⟩=some (.int .i64 (kn:Int))) (exact⟨by assumption,by assumption,by assumption,by assumption,by assumption,by assumption⟩) ((go_at_call 72;refine(abx.out _ HAL.out.drew).mono ?_;rintro e w5 ⟨rfl,b5⟩;have x0:=b5.cell v0;have x1:=b5.cell v1;have x2:=b5.cell v2;have x3:=b5.cell v3;have x4:=b5.cell v4;have x5:=b5.cell v5;have x6:=b5.cell v6))
      have BS:=aa (HAL.out.drew.trans b5);clear v0 v1 v2 v3 v4 v5 v6 x0 x2 x3 x4 b5 abx;obtain⟨vv,hvv⟩:∃vv:Int,(if kd=2 then 10*((n:Int)+1)+(t.ops.length:Int)+1 else ovl)=vv:=⟨_,rfl⟩;have HVV:=aa hvv;have HNW:Hid (l9 (ay m n) n ⟨kd,(kn:Int),0⟩=⟨kd,(kn:Int),vv⟩):=by
       show _ = _;by_cases hk2:kd=2
       ·have WV:(kd==2)=true:=by simp[hk2]
        rw[mF.out,aj (show jQ ⟨kd,(kn:Int),0⟩=true from WV),<-hvv,aj hk2]
       ·have WV:(kd==2)=false:=by simp[hk2]
        rw[mF.out,au (show ¬jQ ⟨kd,(kn:Int),0⟩=true from λe=>by have e':(kd==2)=true:=e;rw[WV]at e';cases e'),<-HOWN.out,<-hvv,au hk2]
      clear hvv;go_upto_if 100 with fail
      go_cut [13] (λs wx=>s=.int .i64 vv/\wx=w5)
      case first=>
       as_aux_lemma=>
        by_cases hk2:kd=2;case pos=>
         have WV:(kd==2)=true:=by simp[hk2]
         have aei:=aa (λW=>LX n t.ops.length W hn4 afi);have hv2:=HVV.out;rw[aj hk2]at hv2;rw[hv2]at aei;clear hv2 hk2;go_wp2_with (go_at_call 73;refine(aei.out _).mono ?_;rintro e w' ⟨rfl,rfl⟩)
         go_meet;case rel=>exact⟨rfl,rfl⟩
        case neg=>
         have WV:(kd==2)=false:=by simp[hk2]
         have hv2:=HVV.out;rw[au hk2]at hv2;subst hv2;clear hk2;go_wp2;go_meet;case rel=>exact⟨rfl,rfl⟩
      case rest=>
       obtain⟨afp,hw5⟩:=hcut;subst afp;have hw5:=hw5.symm;subst hw5;go_upto_region 20 with fail
       have Eo:=Jf.out.ext BS.out;have hE0:Ext w5 (w5.alloc (.cells #[.int .i64 kd,.int .i64 (kn:Int),.int .i64 vv] 67)):=(af _).alloc _;have a1:=hE0.cell x1;have a5:=hE0.cell x5;have a6:=hE0.cell x6;obtain⟨v3,w7,hrun,hp⟩:=yj (w0:=w5.drew) (w:=w5.drew) w5.heap.size rfl (Eo.ext (af _).drew) (af _) (⟨kd,(kn:Int),vv⟩:aV) (aX NJ.out.size BS.out.size) (by omega);have abM:Ext w1 w5.drew:=(NJ.out.trans BS.out).drew;have FZ:=jV (u:=w1) (Eo.ext (af _).drew) hp abM (av _);have nb:r1.dA.ownBlock≠some b2:=λe=>by obtain⟨cs,hg⟩:=dW Jf.out e;obtain⟨cs',fr',hg'⟩:=aft.out;rw[hg']at hg;injection hg with hg;injection hg with _ e _;exact absurd e (by decide)
       have nq:r1.dA.ownBlock≠some sb:=λe=>by have:=(jU Jf.out e).2;rw[ZR.out]at this;exact sM _ this
       have e3c:=FZ.cell (p:=⟨b2,off2+n*3+1,none⟩) x1 nb;have Xf:=FZ.cell (p:=⟨sb,0,none⟩) x5 nq;have WI:=FZ.cell (p:=⟨sb,1,none⟩) x6 nq;have adg:b2<w5.heap.size:=bR HB3.out BS.out.size;have adt:w7.frozen? ⟨b2,off2+n*3+1,none⟩=false:=by have h1:=FZ.frozen (p:=⟨b2,off2+n*3+1,none⟩) adg nb;have h2:=BS.out.frozen (p:=⟨b2,off2+n*3+1,none⟩) HB3.out;exact h1.trans (h2.trans (aeu.out _))
       obtain⟨g3,c3,hv3,_⟩:=nZ hp.1 (by simp);rw[dw,oN]at hv3;subst hv3;have hS8:=((yS.out.ext BS.out).ext (af w5).drew).note ((HR1.out.ext BS.out).ext (af w5).drew) aeS.out HT.out (by omega) FZ hp.1 hp.2.2.2;have hX8:Ext w1 (w7.setCell ⟨b2,off2+n*3+1,none⟩ (.slice (some ⟨g3,0,none⟩) (t.ops.length+1) c3)):=(dz.out abM FZ (λi e=>(jU Eo e).1)).setCell (p:=⟨b2,off2+n*3+1,none⟩) aeM.out _;have hnl:n<m.h.length:=(bG.1 HT.out).1;obtain⟨ops',zM⟩:∃ops',t.ops++[(⟨kd,(kn:Int),vv⟩:aV)]=ops':=⟨_,rfl⟩;have abg:ops'.length=t.ops.length+1:=by rw[<-zM];simp
       have HDF:Hid (t.done=false):=QC.out n t d HT.out HD.out hlt2;try simp only at hS8
       rw[zM]at hS8;have HS8:=aa hS8;have OU:=aa hX8;have HH:Hid (∀X,(jm (ay m n) n (⟨kd,(kn:Int),vv⟩:aV) X).h=m.h.set n ⟨t.az,ops',X⟩):=λX=>by simp only[jm,oO];rw[Dn HT.out,dV HT.out,zM]
       have abu:Hid (∀X i,decide (0<(opsOf (m.h.set n ⟨t.az,ops',X⟩) i).length)=(i==n || decide (0<(opsOf m.h i).length))):=λX i=>by
        rw[Vx hnl];by_cases e:i=n
        ·subst e;simp[abg]
        ·simp[e]
       have OL:=aa zM;have bH:Hid ((Builtin.append_ #[46,46] 46 #[.slice Ao1 t.ops.length co1,.slice (some ⟨w5.heap.size,0,none⟩) 1 1]).run Tryz.prog (w5.alloc (.cells #[.int .i64 kd,.int .i64 (kn:Int),.int .i64 vv] 67)).drew=.ok (.slice (some ⟨g3,0,none⟩) (t.ops.length+1) c3) w7):=by rw[afx.out]at hrun;exact hrun
       have z1:(w7.setCell ⟨b2,off2+n*3+1,none⟩ (.slice (some ⟨g3,0,none⟩) (t.ops.length+1) c3)).cell? ⟨b2,off2+n*3+1,none⟩=some (.slice (some ⟨g3,0,none⟩) (t.ops.length+1) c3):=fJ e3c _;have Z1:=aa z1;have y8:=HPC.out _ OU.out;have hw1:IntKind.i64.wrap ((t.ops.length:Int)+1)=(t.ops.length:Int)+1:=dL _ (by omega);clear Eo hE0 hrun hp abM FZ nb nq adg hS8 hX8 zM z1;refine nJ 15 (λV:World=>V.cell? ⟨b2,off2+n*3+1,none⟩=some (.slice Ao1 t.ops.length co1)/\V.cell? ⟨sb,0,none⟩=some (.int .i64 kd)/\V.cell? ⟨sb,1,none⟩=some (.int .i64 (kn:Int))) (by as_aux_lemma=>kernel_rfl) (by as_aux_lemma=>kernel_rfl) ?_;simp only[List.take_succ_cons,aaD,List.drop_succ_cons,oP];have hHeld:(λV:World=>V.cell? ⟨b2,off2+n*3+1,none⟩=some (.slice Ao1 t.ops.length co1)/\V.cell? ⟨sb,0,none⟩=some (.int .i64 kd)/\V.cell? ⟨sb,1,none⟩=some (.int .i64 (kn:Int))) w5.drew:=⟨x1,x5,x6⟩;refine fG 0 (.slice (some ⟨b2,off2,none⟩) p.length ch) rfl (iK ⟨by rfl,λV ⟨s1,s2,s3⟩=>by go_simp⟩) hHeld ?_;try go_frame
       refine fG 1 (.int .i64 (n:Int)) rfl (iK ⟨by rfl,λV ⟨s1,s2,s3⟩=>by go_simp⟩) hHeld ?_;try go_frame
       refine fG 2 (.slice (some ⟨b2,off2,none⟩) p.length ch) rfl (iK ⟨by rfl,λV ⟨s1,s2,s3⟩=>by go_simp⟩) hHeld ?_;try go_frame
       refine fG 3 (.int .i64 (n:Int)) rfl (iK ⟨by rfl,λV ⟨s1,s2,s3⟩=>by go_simp⟩) hHeld ?_;try go_frame
       refine fG 4 (.pointer (some ⟨b2,off2+n*3,none⟩)) rfl (iK ⟨by rfl,λV ⟨s1,s2,s3⟩=>by go_simp⟩) hHeld ?_;try go_frame
       refine fG 5 (.pointer (some ⟨b2,off2+n*3+1,none⟩)) rfl (iK ⟨by rfl,λV ⟨s1,s2,s3⟩=>by go_simp⟩) hHeld ?_;try go_frame
       refine fG 6 (.slice Ao1 t.ops.length co1) rfl (iK ⟨by rfl,λV ⟨s1,s2,s3⟩=>by go_simp⟩) hHeld ?_;try go_frame
       refine fG 7 (.pointer (some ⟨sb,0,none⟩)) rfl (iK ⟨by rfl,λV ⟨s1,s2,s3⟩=>by go_simp⟩) hHeld ?_;try go_frame
       refine fG 8 (.int .i64 kd) rfl (iK ⟨by rfl,λV ⟨s1,s2,s3⟩=>by go_simp⟩) hHeld ?_;try go_frame
       refine fG 9 (.pointer (some ⟨sb,1,none⟩)) rfl (iK ⟨by rfl,λV ⟨s1,s2,s3⟩=>by go_simp⟩) hHeld ?_;try go_frame
       refine fG 10 (.int .i64 (kn:Int)) rfl (iK ⟨by rfl,λV ⟨s1,s2,s3⟩=>by go_simp⟩) hHeld ?_;try go_frame
       refine fG 11 (.int .i64 vv) rfl (iK ⟨by rfl,λV ⟨s1,s2,s3⟩=>by go_simp⟩) hHeld ?_;try go_frame
       refine fG 12 (.agg #[.int .i64 kd,.int .i64 (kn:Int),.int .i64 vv]) rfl (iK ⟨by rfl,λV ⟨s1,s2,s3⟩=>by go_simp⟩) hHeld ?_;try go_frame
       refine aO (rs:=[13]) (by as_aux_lemma=>kernel_rfl) (by simp) ?_;refine aY rfl (λK hK=>?_) bu;go_simp;refine hK.out _ _ ⟨a1,a5,a6⟩ (λhH2=>?_);clear hK K;try go_frame
       refine aO (rs:=[14]) (by as_aux_lemma=>kernel_rfl) (by simp) ?_;refine aY rfl (λK hK=>?_) bu;refine aP (by rfl) (by rfl) (by rfl) (by rfl) bH.out ?_;refine hK.out _ _ ⟨e3c,Xf,WI⟩ (λhH3=>?_);clear hK K;try go_frame
       refine ji (by as_aux_lemma=>kernel_rfl) ?_ _;show wpList _ _ _ _ _ _;clear hHeld hH2 hH3 a1 a5 a6 Xf WI x1 x5 x6;by_cases hmore:t.ops.length+1<d.steps.length
       ·as_aux_lemma=>
         have hmi:(t.ops.length:Int)+1<(d.steps.length:Int):=by omega
         have aeD:Hid (cz p (k+1)=jm (ay m n) n (⟨kd,(kn:Int),vv⟩:aV) false):=by show _ = _;rw[jC.out,wE HT.out HD.out TM.out (by omega),HNW.out]
         have jR:Hid (∃sv lg,oU w1.heap.size q p.length (.slice (some ⟨b2,off2,none⟩) p.length ch) (w7.setCell ⟨b2,off2+n*3+1,none⟩ (.slice (some ⟨g3,0,none⟩) (t.ops.length+1) c3)) (cz p (k+1)).h (cz p (k+1)).vals (cz p (k+1)).kept (jr (cz p (k+1))) (λi=>decide (0<(opsOf (cz p (k+1)).h i).length)) sv lg):=by show ∃sv lg,_;rw[aeD.out,HH.out];have h8:=HS8.out;rw[HDF.out]at h8;exact⟨_,_,h8.congr rfl (λi _=>abu.out false i) (λi _ _=>rfl) (λi _ _ x _ _=>rfl)⟩
         clear hmore abg;go_wp2;go_roundw;case rel=>exact⟨OU.out,k+1,by omega,by go_num,jR.out⟩
         case measure=>simp[intOf];omega
       ·have hmi:¬((t.ops.length:Int)+1<(d.steps.length:Int)):=by omega
        have hlast:t.ops.length+1=d.steps.length:=by omega
        obtain⟨ws,hws⟩:∃ws,bQ ops'=ws:=⟨_,rfl⟩;have hwl:ws.length<=3:=by rw[<-hws];exact AQ _
        have HKEY:Hid (∀x∈ws,∃z:Nat,z<3/\x.key=(z:Int)):=λx hx=>by
         rw[<-hws]at hx;rcases (kK.1 hx).1 with h|h|h
         ·exact⟨0,by omega,by rw[h];rfl⟩
         ·exact⟨1,by omega,by rw[h];rfl⟩
         ·exact⟨2,by omega,by rw[h];rfl⟩
        have ZL:Hid ((oF (ay m n).dK ((ay m n).began n) ws=true->cz p (k+1)={ jm (ay m n) n (⟨kd,(kn:Int),vv⟩:aV) true with vals:=jJ m.vals ws,dK:=iT m.dK ws })/\(oF (ay m n).dK ((ay m n).began n) ws=false->cz p (k+1)=jm (ay m n) n (⟨kd,(kn:Int),vv⟩:aV) false)):=by
         refine⟨λhf=>?_,λhf=>?_⟩
         ·rw[jC.out,nS HT.out HD.out TM.out hlast,HNW.out,DX HT.out (by rw[OL.out,hws];exact hf),OL.out,hws]
         ·rw[jC.out,nS HT.out HD.out TM.out hlast,HNW.out,I7 HT.out (by rw[OL.out,hws];exact hf)]
        have htx:dG ⟨t.az,ops',t.done⟩=true:=by
         have h1:aD (cz p (k+1)).h=true:=Ue aeO.out Py.out;have h2:∃X,(cz p (k+1)).h=m.h.set n ⟨t.az,ops',X⟩:=by
          cases hf:oF (ay m n).dK ((ay m n).began n) ws with
          | true=>exact⟨true,by rw[ZL.out.1 hf];exact HH.out true⟩
          | false=>exact⟨false,by rw[ZL.out.2 hf];exact HH.out false⟩
         obtain⟨X,h2⟩:=h2;have h3:=dH h1 (t:=⟨t.az,ops',X⟩) (by rw[h2];exact aM (qJ hnl));exact h3
        obtain⟨rs8,hR8⟩:=HS8.out.rch;have HT8:Hid ((m.h.set n (⟨t.az,ops',t.done⟩:aG))[n]? =some ⟨t.az,ops',t.done⟩):=qJ hnl;obtain⟨b8,aeP,r8,hA8,hb8,aar,hr8,g0,g1,g2,Ty,aa2,abE⟩:=hR8.at HT8.out;injection hA8 with hA8;injection hA8 with abh ab6;subst abh ab6;rw[Z1.out]at g1;have hv8:r8.dA=.slice (some ⟨g3,0,none⟩) (t.ops.length+1) c3:=(M5 g1).symm;have acd:=Ty.cell.1;rw[hv8]at acd;have Zd:=qK ⟨t.az,ops',t.done⟩ (.slice (some ⟨g3,0,none⟩) (t.ops.length+1) c3) _ acd htx;simp only at Zd;rw[hws]at Zd;have Y6:Hid (Calls Tryz.prog 74 #[.agg #[.int .i64 t.az,.slice (some ⟨g3,0,none⟩) (t.ops.length+1) c3,.bool t.done]] (w7.setCell ⟨b2,off2+n*3+1,none⟩ (.slice (some ⟨g3,0,none⟩) (t.ops.length+1) c3)) (ZF (w7.setCell ⟨b2,off2+n*3+1,none⟩ (.slice (some ⟨g3,0,none⟩) (t.ops.length+1) c3)) ws)):=Zd;have z1:=Z1.out;clear hR8 hr8 Ty aa2 abE hb8 aar hv8 acd Zd htx hws hmore g1 hlast abg;simp only at g0 g2;go_upto_if 129 with fail
        obtain⟨w8,hw8⟩:∃W:World,(w7.setCell ⟨b2,off2+n*3+1,none⟩ (.slice (some ⟨g3,0,none⟩) (t.ops.length+1) c3))=W:=⟨_,rfl⟩;rw[hw8]at HS8 OU z1 y8 g0 g2 Y6 ⊢;clear hw8 Z1;go_wp2_with (go_at_call 74;refine Y6.out.mono ?_;rintro e w9 ⟨v9,rfl,Ic,b9⟩;obtain⟨A9,c9,rfl,_⟩:=id Ic.cell.1)
        have TU:=aa Ic;have Wi:Hid (0<ws.length->∃b off,A9=some ⟨b,off,none⟩/\b<w9.heap.size/\∀(i:Nat) x,ws[i]? =some x->∀j,j<3->w9.cell? ⟨b,off+i*3+j,none⟩=some (encOpr x j)):=λh0=>by obtain⟨_,_,e,hc⟩:=TU.out.cell.1;injection e with e1 e2 e3;subst e1;exact hc h0
        have HS9:=aa (HS8.out.ext b9);have Jn:=aa (OU.out.trans b9);have HB8:Hid (w8.heap.size<=w9.heap.size):=b9.size;have G2:=aa (b9.cell g2);generalize w8.heap.size=B8 at TU HB8;clear Ic b9 g0 g2 z1 y8 e3c adt Y6;go_loopw [15,16] (λg i wr=>Ext w9 wr/\∃j:Nat,j<=ws.length/\i=.int .i64 (j:Int)/\g=.bool (EE (ay m n) n (ws.take j))) (λ_ i _=>ws.length-(intOf i).toNat)
        case atStart=>exact⟨af _,0,aT _,rfl,rfl⟩
        case round=>
         obtain⟨hv,j,hj,rfl,rfl⟩:=hrel;by_cases hjt:j<ws.length
         ·obtain⟨x,hx⟩:=ah hjt;obtain⟨z,hz3,hxz⟩:=HKEY.out x (aM hx);have hgn:=Sn (m:=ay m n) (n:=n) hx;obtain⟨bl,ol,rfl,hbl,hcl⟩:=Wi.out (by omega);have hc1:=hcl j x hx 1 (by omega);rw[show encOpr x 1=.int .i64 x.key from rfl,hxz]at hc1;have hc2:=HS9.out.K7 hnp acI.out;rw[<-HE2.out]at hc2;have hc3:=(HS9.out.Ud hnp acI.out hz3).2.1;obtain⟨gj,hgj⟩:∃g,EE (ay m n) n (ws.take j)=g:=⟨_,rfl⟩;obtain⟨sj,hsj⟩:∃s,jr (ay m n) n (z:Int)=s:=⟨_,rfl⟩;rw[hxz,hgj,hsj]at hgn;rw[hsj]at hc3;rw[hgj];have HGN:=aa hgn;have f1:∀e,(over wr e).cell? ⟨q2,n,none⟩=some (.slice (some ⟨JE n,0,none⟩) 3 3):=aK (hv.cell hc2);have f2:∀e,(over wr e).cell? ⟨JE n,z,none⟩=some (.bool sj):=aK (hv.cell hc3);have f3:∀e,(over wr e).cell? ⟨bl,ol+j*3+1,none⟩=some (.int .i64 (z:Int)):=aK (hv.cell hc1);have k1:(j:Int)<(ws.length:Int):=by omega
          have k2:(0:Int)<=(j:Int):=by omega
          have k3:(z:Int)<3:=by omega
          have k4:(0:Int)<=(z:Int):=by omega
          clear hx hxz hgn hcl hc1 hc2 hc3 hgj hsj;cases gj<;>cases sj<;>(
           go_wp2;refine aU (by as_aux_lemma=>kernel_rfl) (by as_aux_lemma=>kernel_rfl) ?_;repeat (go_big_quiet_step (fail))
           refine j5 ?_;intro Yf ab1;clear f1 f2 f3;go_wp2;go_roundw;case rel=>exact⟨hv.trans ab1,j+1,by omega,by go_num,by rw[HGN.out];rfl⟩
           case measure=>simp[intOf];omega)
         ·obtain rfl:j=ws.length:=by omega
          obtain⟨gd,hgd⟩:∃g,EE (ay m n) n (ws.take ws.length)=g:=⟨_,rfl⟩;rw[hgd];rw[bM,Sq]at hgd;have HGD:=aa hgd;have abH:=HS9.out.ext hv;obtain⟨agA,ac6⟩:=abH.rch;obtain⟨b10,af1,V7,abP,ab1,aaL,afJ,g0,g1,g2,Mt,aaF,aaV⟩:=ac6.at HT8.out;injection abP with abP;injection abP with adL adI;subst adL adI;have gf:=aaF (off2+n*3+2);simp only at g2;have Zk:=abH.end_ HT8.out (by omega) gd;rw[List.set_set]at Zk;simp only at Zk;have VD:Hid (Ext w1 (wr.setCell ⟨b2,off2+n*3+2,none⟩ (.bool gd))):=(Jn.out.trans hv).setCell (p:=⟨b2,off2+n*3+2,none⟩) aaL _;have YE:Hid (Row 67 3 encOpr B8 (wr.setCell ⟨b2,off2+n*3+2,none⟩ (.bool gd)) (.slice A9 ws.length c9) ws):=by have h9:=TU.out.ext hv;refine eU h9 (jN wr b2 _ _) (λi e e'=>?_);obtain⟨cs,hg⟩:=dW h9 e;obtain⟨cs',fr',hg'⟩:=aaV;rw[e',hg']at hg;injection hg with hg;injection hg with _ e _;exact absurd e (by decide)
          have abA:=aa Zk;have hrw:=aX Jn.out.size hv.size;clear hgd abH ac6 afJ Mt aaF aaV g0 g1 Zk ab1 aaL HS9 TU Wi G2;have HQ1:Hid (w1.heap.size<=q):=aav
          cases gd with
          | false=>
            as_aux_lemma=>
             have jR:Hid (∃sv lg,oU w1.heap.size q p.length (.slice (some ⟨b2,off2,none⟩) p.length ch) (wr.setCell ⟨b2,off2+n*3+2,none⟩ (.bool false)) (cz p (k+1)).h (cz p (k+1)).vals (cz p (k+1)).kept (jr (cz p (k+1))) (λi=>decide (0<(opsOf (cz p (k+1)).h i).length)) sv lg):=by show ∃sv lg,_;rw[ZL.out.2 HGD.out,HH.out];exact⟨_,_,abA.out.congr rfl (λi _=>abu.out false i) (λi _ _=>rfl) (λi _ _ x _ _=>rfl)⟩
             obtain⟨wo,hwo⟩:∃wo:World,wr.setCell ⟨b2,off2+n*3+2,none⟩ (.bool false)=wo:=⟨_,rfl⟩;rw[hwo]at VD jR;have LC:decide ((0:Int)<(ws.length:Int))=decide (0<ws.length):=by rw[decide_eq_decide];omega
             by_cases hl0:0<ws.length;all_goals
              go_wp2;try rw[hwo]
              clear g2 gf hwo;go_loopw [17] (λi wr=>i=.int .i64 0/\wr=wo) (λi _=>0)
              case atStart=>exact⟨rfl,rfl⟩
              case round=>
               obtain⟨rfl,rfl⟩:=hrel;go_wp2;go_roundw;case rel=>exact⟨VD.out,k+1,by omega,by go_num,jR.out⟩
               case measure=>simp[intOf];omega
          | true=>
            as_aux_lemma=>
             have acU:Hid (∀W,oU w1.heap.size q p.length (.slice (some ⟨b2,off2,none⟩) p.length ch) W (m.h.set n ⟨t.az,ops',true⟩) (jJ m.vals ws) (ay m n).kept (λi=>lF (ay m n) i ws) (λi=>i==n || decide (0<(opsOf m.h i).length)) YD JE->∃sv lg,oU w1.heap.size q p.length (.slice (some ⟨b2,off2,none⟩) p.length ch) W (cz p (k+1)).h (cz p (k+1)).vals (cz p (k+1)).kept (jr (cz p (k+1))) (λi=>decide (0<(opsOf (cz p (k+1)).h i).length)) sv lg):=λW h=>⟨_,_,ZY h HVO.out (HH.out true) (abu.out true) (ZL.out.1 HGD.out)⟩;have hS0:oU w1.heap.size q p.length (.slice (some ⟨b2,off2,none⟩) p.length ch) (wr.setCell ⟨b2,off2+n*3+2,none⟩ (.bool true)) (m.h.set n ⟨t.az,ops',true⟩) (jJ m.vals (ws.take 0)) (ay m n).kept (λi=>lF (ay m n) i (ws.take 0)) (λi=>i==n || decide (0<(opsOf m.h i).length)) YD JE:=UJ abA.out;have TN:=aa hS0;clear hS0 abA;obtain⟨wo,hwo⟩:∃wo:World,wr.setCell ⟨b2,off2+n*3+2,none⟩ (.bool true)=wo:=⟨_,rfl⟩;rw[hwo]at VD TN YE;go_wp2;try rw[hwo]
             clear g2 gf hwo;go_loopw [17] (λi wr=>Hid (Ext w1 wr)/\∃j:Nat,j<=ws.length/\i=.int .i64 (j:Int)/\Hid (oU w1.heap.size q p.length (.slice (some ⟨b2,off2,none⟩) p.length ch) wr (m.h.set n ⟨t.az,ops',true⟩) (jJ m.vals (ws.take j)) (ay m n).kept (λi=>lF (ay m n) i (ws.take j)) (λi=>i==n || decide (0<(opsOf m.h i).length)) YD JE/\Row 67 3 encOpr B8 wr (.slice A9 ws.length c9) ws)) (λi _=>ws.length-(intOf i).toNat)
             case atStart=>exact⟨VD.out,0,aT _,rfl,TN.out,YE.out⟩
             case round=>
              obtain⟨HXJ,j,hj,rfl,HJ⟩:=hrel;by_cases hjt:j<ws.length
              ·obtain⟨x,hx⟩:=ah hjt;obtain⟨z,hz3,hxz⟩:=HKEY.out x (aM hx);obtain⟨Al,cl,e,hcl0⟩:=HJ.out.2.cell.1;injection e with e1 _ e3;subst e1 e3;obtain⟨bl,ol,rfl,hbl,hcl⟩:=hcl0 (by omega);have hc1:=hcl j x hx 1 (by omega);have hc2:=hcl j x hx 2 (by omega);rw[show encOpr x 1=.int .i64 x.key from rfl,hxz]at hc1;rw[show encOpr x 2=.int .i64 x.value from rfl]at hc2;obtain⟨hc3,hf3⟩:=HJ.out.1.abe hz3;have aax:=(HJ.out.1.ext (af wr).drew).put hz3 x.value;rw[<-hxz,<-EP hx]at aax;have Bq:Row 67 3 encOpr B8 (wr.drew.setCell ⟨q,z,none⟩ (.int .i64 x.value)) (.slice (some ⟨bl,ol,none⟩) ws.length c9) ws:=by have h9:=HJ.out.2.ext (af wr).drew;refine eU h9 (jN wr.drew q z _) (λi e e'=>?_);obtain⟨cs,hg⟩:=dW h9 e;have hg':=(HJ.out.1.ext (af wr).drew).b0;rw[e',hg']at hg;injection hg with hg;injection hg with _ e _;exact absurd e (by decide)
               have Uq:Hid (Ext w1 (wr.drew.setCell ⟨q,z,none⟩ (.int .i64 x.value))):=HXJ.out.drew.setCell (p:=⟨q,z,none⟩) HQ1.out _;have HUP:=aa (λi y=>Qr (m:=ay m n) (n:=i) hx y);obtain⟨xv,hxv⟩:∃xv,x.value=xv:=⟨_,rfl⟩;rw[hxv]at hc2 aax Bq Uq;have abb:=aa aax;have QZ:=aa Bq;have HXZ:=aa hxz;have HXX:=aa hx;have k1:(j:Int)<(ws.length:Int):=by omega
               have k2:(0:Int)<=(j:Int):=by omega
               have k3:(z:Int)<3:=by omega
               have k4:(0:Int)<=(z:Int):=by omega
               clear hx hxz hxv hcl hcl0 aax Bq;go_wp2;have u1:({ wr with drawn:=wr.drawn+1 }:World).cell? ⟨bl,ol+j*3+1,none⟩=some (.int .i64 (z:Int)):=hc1;have u2:({ wr with drawn:=wr.drawn+1 }:World).cell? ⟨bl,ol+j*3+2,none⟩=some (.int .i64 xv):=hc2;go_still_tail 11,(by as_aux_lemma=>kernel_rfl)
               change wpList _ _ _ _ _ wr.drew;clear u1 u2 hc1 hc2;have afQ:wr.drew.cell? ⟨q,z,none⟩=some (.int .i64 (jJ m.vals (ws.take j) (z:Int))):=hc3;have afw:wr.drew.frozen? ⟨q,z,none⟩=false:=hf3;go_wp2;have hdr:wr.drew.setCell ⟨q,z,none⟩ (.int .i64 xv)=(wr.setCell ⟨q,z,none⟩ (.int .i64 xv)).drew:=rfl;rw[hdr]at Uq abb QZ;obtain⟨wo2,adV⟩:∃wo2:World,(wr.setCell ⟨q,z,none⟩ (.int .i64 xv)).drew=wo2:=⟨_,rfl⟩;rw[adV]at Uq abb QZ ⊢;clear hdr adV hc3 hf3 afQ afw;go_loopw [18] (λi wr=>Hid (Ext w1 wr)/\∃a:Nat,a<=p.length/\i=.int .i64 (a:Int)/\Hid (oU w1.heap.size q p.length (.slice (some ⟨b2,off2,none⟩) p.length ch) wr (m.h.set n ⟨t.az,ops',true⟩) (jJ m.vals (ws.take (j+1))) (ay m n).kept (λy=>if y<a then lF (ay m n) y (ws.take (j+1)) else lF (ay m n) y (ws.take j)) (λi=>i==n || decide (0<(opsOf m.h i).length)) YD JE/\Row 67 3 encOpr B8 wr (.slice (some ⟨bl,ol,none⟩) ws.length c9) ws)) (λi _=>p.length-(intOf i).toNat)
               case atStart=>exact⟨Uq.out,0,aT _,rfl,abb.out.congr rfl (λi _=>rfl) (λi _ _=>rfl) (λi _ _ x _ _=>by rw[au (gu _)]),QZ.out⟩
               case round=>
                obtain⟨HXA,a,ha,rfl,HA⟩:=hrel;by_cases hap:a<p.length
                ·have l1:(a:Int)<(p.length:Int):=by omega
                 have l2:(0:Int)<=(a:Int):=by omega
                 cases PN:(a==n || decide (0<(opsOf m.h a).length)) with
                 | false=>
                   have hc4:=HA.out.1.XO hap PN;rw[<-HE2.out]at hc4;have CW:Hid (oU w1.heap.size q p.length (.slice (some ⟨b2,off2,none⟩) p.length ch) wr (m.h.set n ⟨t.az,ops',true⟩) (jJ m.vals (ws.take (j+1))) (ay m n).kept (λy=>if y<a+1 then lF (ay m n) y (ws.take (j+1)) else lF (ay m n) y (ws.take j)) (λi=>i==n || decide (0<(opsOf m.h i).length)) YD JE):=
                    HA.out.1.congr rfl (λi _=>rfl) (λi _ _=>rfl) (λi _ hb x _ _=>by
                     have hia:i≠a:=λe=>by subst e;(try simp only at hb);rw[PN]at hb;cases hb
                     by_cases h1:i<a
                     ·rw[aj h1,aj (by omega)]
                     ·rw[au h1,au (by omega)])
                   clear PN;go_wp2;go_roundw;case rel=>exact⟨HXA.out,a+1,by omega,by go_num,CW.out,HA.out.2⟩
                   case measure=>simp[intOf];omega
                 | true=>
                   have hc4:=HA.out.1.K7 hap PN;rw[<-HE2.out]at hc4;obtain⟨hlq,YZ,hf5⟩:=HA.out.1.Ud hap PN hz3;have hst:=(HA.out.1.st a hap PN).2;obtain⟨bo,NM⟩:∃b,(if a<a then lF (ay m n) a (ws.take (j+1)) else lF (ay m n) a (ws.take j)) (z:Int)=b:=⟨_,rfl⟩;rw[NM]at YZ;have acJ:=(HA.out.1.ext (af wr).drew).mark hap PN hz3 true;have CW:Hid (oU w1.heap.size q p.length (.slice (some ⟨b2,off2,none⟩) p.length ch) (wr.drew.setCell ⟨JE a,z,none⟩ (.bool true)) (m.h.set n ⟨t.az,ops',true⟩) (jJ m.vals (ws.take (j+1))) (ay m n).kept (λy=>if y<a+1 then lF (ay m n) y (ws.take (j+1)) else lF (ay m n) y (ws.take j)) (λi=>i==n || decide (0<(opsOf m.h i).length)) YD JE):=
                    acJ.congr rfl (λi _=>rfl) (λi _ _=>rfl) (λi _ hb x _ _=>by
                     try simp only
                     by_cases h1:i<a
                     ·rw[aj (show i<a+1 by omega),au (show ¬(i=a/\x=(z:Int)) from λe=>by omega),aj h1]
                     ·by_cases h2:i=a
                      ·subst h2;rw[aj (qx _),HUP.out,HXZ.out];by_cases h3:x=(z:Int)
                       ·rw[aj h3,aj ⟨rfl,h3⟩]
                       ·rw[au h3,au (λe=>h3 e.2),au (sM _)]
                      ·rw[au (show ¬i<a+1 by omega),au (λe=>h2 e.1),au h1])
                   have HRA:Hid (Row 67 3 encOpr B8 (wr.drew.setCell ⟨JE a,z,none⟩ (.bool true)) (.slice (some ⟨bl,ol,none⟩) ws.length c9) ws):=by have h9:=HA.out.2.ext (af wr).drew;refine eU h9 (jN wr.drew (JE a) z _) (λi e e'=>?_);obtain⟨cs,hg⟩:=dW h9 e;have hg':wr.drew.heap[JE a]? = _:=hst;rw[e',hg']at hg;injection hg with hg;injection hg with _ e _;exact absurd e (by decide)
                   have HXF:Hid (Ext w1 (wr.drew.setCell ⟨JE a,z,none⟩ (.bool true))):=HXA.out.drew.setCell (p:=⟨JE a,z,none⟩) (aX HQ1.out (by show q<=JE a;omega)) _;obtain⟨Al,cl,e,hcl0⟩:=HA.out.2.cell.1;injection e with e1 _ e3;subst e3;obtain⟨bl',ol',Zg,ru,hcl⟩:=hcl0 (by omega);rw[Zg]at e1;injection e1 with e1;injection e1 with e11 e12;subst e11 e12;have hc1:=hcl j x HXX.out 1 (by omega);rw[show encOpr x 1=.int .i64 x.key from rfl,HXZ.out]at hc1;clear PN hlq hst acJ hcl hcl0 Zg NM;go_wp2;have u1:({ wr with drawn:=wr.drawn+1 }:World).cell? ⟨bl,ol+j*3+1,none⟩=some (.int .i64 (z:Int)):=hc1;have u2:({ wr with drawn:=wr.drawn+1 }:World).cell? ⟨q2,a,none⟩=some (.slice (some ⟨JE a,0,none⟩) 3 3):=hc4;go_still_tail 9,(by as_aux_lemma=>kernel_rfl)
                   change wpList _ _ _ _ _ wr.drew;clear u1 u2 hc1 hc4;have agl:wr.drew.cell? ⟨JE a,z,none⟩=some (.bool bo):=YZ;have agh:wr.drew.frozen? ⟨JE a,z,none⟩=false:=hf5;go_wp2;go_roundw;case rel=>exact⟨HXF.out,a+1,by omega,by go_num,CW.out,HRA.out⟩
                   case measure=>simp[intOf];omega
                ·obtain rfl:a=p.length:=by omega
                 have CW:Hid (oU w1.heap.size q p.length (.slice (some ⟨b2,off2,none⟩) p.length ch) wr (m.h.set n ⟨t.az,ops',true⟩) (jJ m.vals (ws.take (j+1))) (ay m n).kept (λy=>lF (ay m n) y (ws.take (j+1))) (λi=>i==n || decide (0<(opsOf m.h i).length)) YD JE):=
                  HA.out.1.congr rfl (λi _=>rfl) (λi _ _=>rfl) (λi hi _ x _ _=>by rw[aj hi])
                 go_wp2;go_roundw;case rel=>exact⟨HXA.out,j+1,by omega,by go_num,CW.out,HA.out.2⟩
                 case measure=>simp[intOf];omega
              ·obtain rfl:j=ws.length:=by omega
               have h0:=HJ.out.1;simp only[bM]at h0;have jR:=aa (acU.out _ h0);clear h0;go_wp2;go_roundw;case rel=>exact⟨HXJ.out,k+1,by omega,by go_num,jR.out⟩
               case measure=>simp[intOf];omega
  ·obtain rfl:k=xs.length:=by omega
   obtain⟨sv,lg,hRS⟩:=HS.out;obtain⟨rs,hR⟩:=hRS.rch;have HH:=aa (hR.ret yM.out.size);rw[HRE.out]at HH;clear hR hRS HS;go_wp2;go_returns;obtain⟨a1,a2,a3⟩:=HH.out;exact⟨_,rs,rfl,a1,a2,a3,yM.out.trans HB.out⟩
end
