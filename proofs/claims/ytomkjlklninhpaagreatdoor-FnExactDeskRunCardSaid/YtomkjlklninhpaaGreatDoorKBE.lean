/- Lemmas. -/
import Derived.Test.YtomkjlklninhpaaGreatDoorKAP
import Derived.Test.YtomkjlklninhpaaGreatDoorKAU
set_option maxHeartbeats 16000000
set_option maxRecDepth 8000
set_option linter.all false
namespace Go.Proofs.YtomkjlklninhpaaGreatDoor
open Go.RowKit
def Scan(p:Nat)(W:World)(ws:List (List UInt8))(bad:Bool):Prop:=
 ∃v,W.heap[p]? =some (.cells #[v,.bool bad] 153 (0,0))/\aF 1 encS W v ws/\qL v/\iY 9 W v
theorem heap_set{W:World}{p i:Nat}{cs:Array Value}{t:TypeId}{fr:Nat × Nat}(h:W.heap[p]? =some (.cells cs t fr))(u:Value):(W.setCell ⟨p,i,none⟩ u).heap[p]? =some (.cells (cs.setIfInBounds i u) t fr):=by simp[World.setCell,Array.getElem?_modify,h]
theorem vH{I:TypeId}{X:Nat->Prop}{w w':World}{u:Value}(h:iY I w u)(k:bH X w w')(hx:∀a n c,u=.slice (some a) n c->0<n->¬X a.block):iY I w' u:=fun a n c hu hn=>by obtain⟨cs,fr,hg⟩:=h a n c hu hn;exact⟨cs,fr,k.heap hg (hx a n c hu hn)⟩
theorem NU{I T:TypeId}{W:World}{v:Value}{p:Nat}{cs:Array Value}{fr:Nat × Nat}(h:iY I W v)(hp:W.heap[p]? =some (.cells cs T fr))(hne:I≠T):∀a n c,v=.slice (some a) n c->0<n->a.block≠p:=fun a n c hv hn e=>by obtain⟨cs',fr',hg⟩:=h a n c hv hn;rw[e,hp]at hg;injection hg with hg;injection hg with _ e _;exact hne e.symm
theorem Scan.frX{p:Nat}{X:Nat->Prop}{W W':World}{ws:List (List UInt8)}{bad:Bool}(h:Scan p W ws bad)(k:bH X W W')(hp:¬X p)(hx:∀b cs fr,W.heap[b]? =some (.cells cs 9 fr)->¬X b):Scan p W' ws bad:=by
 obtain⟨v,h1,h2,h3,h4⟩:=h;have hf:∀a n c,v=.slice (some a) n c->0<n->¬X a.block:=fun a n c hv hn=>by obtain⟨cs,fr,hg⟩:=h4 a n c hv hn;exact hx _ cs fr hg
 exact⟨v,k.heap h1 hp,h2.frX k hf,h3,vH h4 k hf⟩
theorem Scan.ext{p:Nat}{W W':World}{ws:List (List UInt8)}{bad:Bool}(h:Scan p W ws bad)(k:Ext W W'):Scan p W' ws bad:=
 h.frX (X:=fun _=>False) (.aT k) (fun e=>e) (fun _ _ _ _ e=>e)
theorem Scan.mark{p:Nat}{W:World}{ws:List (List UInt8)}{bad:Bool}(h:Scan p W ws bad)(b:Bool):Scan p (W.setCell ⟨p,1,none⟩ (.bool b)) ws b:=by obtain⟨v,h1,h2,h3,h4⟩:=h;have hf:=NU h4 h1 (by decide);have k:bH (fun i=>i=p) W (W.setCell ⟨p,1,none⟩ (.bool b)):=bH.setCell (X:=fun i=>i=p) (bH.refl _ _) (.inl rfl) _;exact⟨v,heap_set h1 _,h2.frX k hf,h3,vH h4 k hf⟩
theorem Scan.step{p:Nat}{W:World}{ws ws':List (List UInt8)}{bad:Bool}(h:Scan p W ws bad){v':Value}(h2:aF 1 encS W v' ws')(h3:qL v')(h4:iY 9 W v'):Scan p (W.setCell ⟨p,0,none⟩ v') ws' bad:=by obtain⟨v,h1,_,_,_⟩:=h;have hf:=NU h4 h1 (by decide);have k:bH (fun i=>i=p) W (W.setCell ⟨p,0,none⟩ v'):=bH.setCell (X:=fun i=>i=p) (bH.refl _ _) (.inl rfl) _;exact⟨v',heap_set h1 _,h2.frX k hf,h3,vH h4 k hf⟩
theorem Scan.cells{p:Nat}{W:World}{ws:List (List UInt8)}{bad:Bool}(h:Scan p W ws bad):∃A c,W.cell? ⟨p,0,none⟩=some (.slice A ws.length c)/\W.cell? ⟨p,1,none⟩=some (.bool bad)/\(∀j,W.frozen? ⟨p,j,none⟩=false)/\aF 1 encS W (.slice A ws.length c) ws/\iY 9 W (.slice A ws.length c)/\ws.length<=c/\c<=9223372036854775807:=by obtain⟨v,h1,h2,h3,h4⟩:=h;obtain⟨A,c,rfl,_⟩:=id h2;exact⟨A,c,by simp[World.cell?,h1],by simp[World.cell?,h1],fun j=>by simp[World.frozen?,h1],h2,h4,h3 _ _ _ rfl⟩
def TB(T:TypeId)(W:World)(q:Nat):Prop:=∃cs fr,W.heap[q]? =some (.cells cs T fr)
theorem TB.set{T:TypeId}{W:World}{q:Nat}(h:TB T W q)(i:Nat)(u:Value):TB T (W.setCell ⟨q,i,none⟩ u) q:=by obtain⟨cs,fr,h⟩:=h;exact⟨_,fr,heap_set h u⟩
theorem TB.frX{T:TypeId}{X:Nat->Prop}{W W':World}{q:Nat}(h:TB T W q)(k:bH X W W')(hq:¬X q):TB T W' q:=by obtain⟨cs,fr,h⟩:=h;exact⟨cs,fr,k.heap h hq⟩
theorem TB.ne{T U:TypeId}{W:World}{p q:Nat}(h:TB T W p)(k:TB U W q)(hne:T≠U):p≠q:=fun e=>by subst e;obtain⟨_,_,h⟩:=h;obtain⟨_,_,k⟩:=k;rw[h]at k;injection k with k;injection k with _ e _;exact hne e
theorem TB.dm{α:Type}{e:TypeId}{m:Nat}{enc:α->Nat->Value}{base:Nat}{W:World}{v:Value}{xs:List α}(h:Row e m enc base W v xs){k:Nat}(hk:v.ownBlock=some k):TB e W k:=by
 rcases h.2 with ⟨rfl,_⟩|⟨g,cap,cur,rfl,h1,h2,h3⟩
 ·cases hk
 ·have e1:g=k:=by simpa[Value.ownBlock] using hk
  subst e1;exact⟨cur,_,h2⟩
theorem Scan.tb{p:Nat}{W:World}{ws:List (List UInt8)}{bad:Bool}(h:Scan p W ws bad):TB 153 W p:=let ⟨_,h1,_⟩:=h;⟨_,_,h1⟩
theorem Scan.far{p:Nat}{X:Nat->Prop}{W W':World}{ws:List (List UInt8)}{bad:Bool}(h:Scan p W ws bad)(k:bH X W W')(hX:∀q,X q->∃T,TB T W q/\T≠153/\T≠9):Scan p W' ws bad:=by
 refine h.frX k (fun e=>?_) (fun b cs fr hb e=>?_)
 ·obtain⟨T,h1,h2,_⟩:=hX p e;exact TB.ne h1 h.tb h2 rfl
 ·obtain⟨T,h1,_,h2⟩:=hX b e;exact TB.ne h1 ⟨cs,fr,hb⟩ h2 rfl
theorem Scan.other{p q:Nat}{T:TypeId}{W:World}{ws:List (List UInt8)}{bad:Bool}(h:Scan p W ws bad)(hq:TB T W q)(hT:T≠153/\T≠9)(i:Nat)(u:Value):Scan p (W.setCell ⟨q,i,none⟩ u) ws bad:=
 h.far (X:=fun k=>k=q) (bH.setCell (X:=fun k=>k=q) (bH.refl _ _) (.inl rfl) _) (fun _ e=>⟨T,e▸hq,hT⟩)
theorem Ae{p:Nat}{ws:List (List UInt8)}{bad:Bool}(W:World)(H:Scan p W ws bad)(hl:ws.length<=2097152) :
 Calls Tryz.prog 133 #[.pointer (some ⟨p,0,none⟩)] W fun e W'=>e=.returned (.string (tx (ws.headD [])))/\Scan p W' ws.tail (bad || ws.isEmpty)/\bH (fun k=>k=p) W W':=by
 obtain⟨A,c,c0,c1,fz,hs,hty,hc1,hc2⟩:=H.cells;have f0:=fz 0;have f1:=fz 1;have HS:=aa (And.intro hs hty);have HH:=aa H;clear fz H hty
 cases ws with
 | nil=>
   clear hs;simp only[List.length_nil]at *;go_enter Tryz.func133,Tryz.ntmps133;go_wp2;go_returns;exact⟨rfl,by simpa using HH.out.mark true,bH.setCell (X:=fun i=>i=p) (bH.refl _ _) (.inl rfl) _⟩
 | cons x r=>
   obtain⟨A2,c2,e,hcc⟩:=hs;injection e with e1 e2 e3;subst e1 e3;obtain⟨b,off,rfl,hbl,hcc⟩:=hcc (by simp);have d0:=hcc 0 x rfl 0 (by omega);simp only[Nat.zero_mul,Nat.add_zero,encS]at d0;obtain⟨z,hz⟩:∃z,tx x=z:=⟨_,rfl⟩;rw[hz]at d0;have HZ:=aa hz;have HC:=aa hcc;obtain⟨n,hn⟩:∃n,(x :: r).length=n:=⟨_,rfl⟩;rw[hn]at c0 hc1 HS hl;have hn1:(1:Int)<=(n:Int):=by rw[<-hn];simp;omega
   have HN:=aa hn;clear hcc hz e2 hn;have HE:Hid (∀a m d,(.slice (some a) m d:Value)=.slice (some ⟨b,off,none⟩) n c->True):=fun _ _ _ _=>trivial;go_enter Tryz.func133,Tryz.ntmps133;go_wp2
   ·go_returns;have hn:=HN.out;simp only[List.length_cons]at hn;have hr:r=[]:=List.eq_nil_of_length_eq_zero (by omega);subst hr;refine⟨by rw[<-HZ.out];rfl,?_,bH.setCell (X:=fun i=>i=p) (bH.refl _ _) (.inl rfl) _⟩;refine Scan.step (ws':=[]) HH.out ?_ (fun _ _ _ e=>by injection e with _ e2 e3;omega) (fun a m d e hm=>by injection e with e1 e2 e3;omega)
    have:n-1=0:=by omega
    first
     | (rw[this];exact aF.nil _ _ _ _ _)
     | exact aF.nil _ _ _ _ _
   ·go_returns;have hn:=HN.out;simp only[List.length_cons]at hn;refine⟨by rw[<-HZ.out];rfl,?_,bH.setCell (X:=fun i=>i=p) (bH.refl _ _) (.inl rfl) _⟩;refine Scan.step (ws':=r) HH.out ⟨_,_,by rw[<-hn,Nat.add_sub_cancel],fun _=>⟨b,off+1,rfl,hbl,fun i y hy j hj=>?_⟩⟩ (fun _ _ _ e=>by injection e with _ e2 e3;omega) (fun a m d e hm=>?_)
    ·have:=HC.out (i+1) y (by simpa using hy) j hj
     rw[show off+1+i*1+j=off+(i+1)*1+j by omega];exact this
    ·injection e with e1 e2 e3;injection e1 with e1;subst e1;exact HS.out.2 ⟨b,off,none⟩ _ _ rfl (by omega)
theorem WU(l:List UInt8)(W:World):Calls Tryz.prog 176 #[.string (tx l),.string ⟨#[115]⟩] W fun e W'=>e=.returned (.tuple #[.string (tx (if l.head? =some 115 then l.drop 1 else l)),.bool (l.head? == some 115)])/\W=W':=by
 refine(Tryz.strings_CutPrefix (tx l) (tx [115]) W).mono ?_
 rintro e W' ⟨rfl,rfl⟩;refine⟨?_,rfl⟩;rw[Lv,Lv]
 cases l with
 | nil=>rfl
 | cons a r=>
   by_cases h:a=115
   ·subst h;simp[Lib.trimPrefix,Lib.hasPrefix,tx]
   ·have h':¬115=a:=fun e=>h e.symm;have e1:([115]:List UInt8).isPrefixOf (a :: r)=false:=by simp[List.isPrefixOf,h']
    simp[Lib.trimPrefix,Lib.hasPrefix,tx,h,e1]
theorem CW{p:Nat}{ws:List (List UInt8)}{bad:Bool}(W:World)(H:Scan p W ws bad)(hl:ws.length<=2097152)(hE:∀W',bH (fun k=>k=p) W W'->Env W')(hw:∀x∈ws,x.length<=2097152) :
 Calls Tryz.prog 132 #[.pointer (some ⟨p,0,none⟩)] W fun e W'=>∃(n:Int) (b':Bool),e=.returned (.int .i64 n)/\Scan p W' ws.tail b'/\bH (fun k=>k=p) W W'/\(∀s:Nat,s<10->ws.head? =some [115,jg s]->n=(s:Int)/\b'=bad)/\(ws.headD []=[]->b'=true):=by
 have HE:=aa hE;obtain⟨x,hx⟩:∃x,ws.headD []=x:=⟨_,rfl⟩;have hxl:x.length<=2097152:=by
  rw[<-hx]
  cases ws with
  | nil=>simp
  | cons a r=>exact hw a (by simp)
 have HN:=aa (Ae W H hl);rw[hx]at HN;have HC:=aa (fun W=>WU x W);obtain⟨b1,hb1⟩:∃b1,(bad || ws.isEmpty)=b1:=⟨_,rfl⟩;rw[hb1]at HN;obtain⟨y,hy⟩:∃y,(if x.head? =some 115 then x.drop 1 else x)=y:=⟨_,rfl⟩;have hyl:y.length<=2097152:=by
  rw[<-hy];split
  ·rw[List.length_drop];omega
  ·exact hxl
 obtain⟨ok,hok⟩:∃ok,(x.head? == some 115)=ok:=⟨_,rfl⟩;rw[hy,hok]at HC;have HX:=aa (And.intro hx (And.intro hb1 (And.intro hy hok)));obtain⟨zx,hzx⟩:∃z,tx x=z:=⟨_,rfl⟩;obtain⟨zy,SE⟩:∃z,tx y=z:=⟨_,rfl⟩;have HA:=aa (fun W (h:Env W)=>Mk y W h (by omega));rw[hzx]at HN HC;rw[SE]at HC HA;clear H hl hE hw hx hxl hb1 hy hyl hok hzx SE;have hfin:Hid (∀(n:Int) (ev:Value) (b' en:Bool),(Lib.atoiAll y=.ok n/\ev=.nilIface∨(∀v,Lib.atoiAll y≠.ok v)/\∃te pe,ev=.iface te pe)->(ev=.nilIface->en=false)->b'=(b1 || !ok || en)->(∀s:Nat,s<10->ws.head? =some [115,jg s]->n=(s:Int)/\b'=bad)/\(ws.headD []=[]->b'=true)):=fun n ev b' en hc hen hb=>by
  obtain⟨q1,q2,q3,q4⟩:=HX.out;subst hb;constructor
  ·intro s hs he
   cases ws with
   | nil=>cases he
   | cons a r=>
     simp only[List.head?_cons,Option.some.injEq]at he;simp only[List.headD_cons]at q1;subst q1 he;have ey:y=bK s:=by rw[<-q3];unfold bK;rw[if_pos hs];rfl
     rw[ey,Cf (by omega)]at hc;rcases hc with ⟨e1,rfl⟩|⟨e1,_⟩
     ·injection e1 with e1;refine⟨e1.symm,?_⟩;rw[<-q2,<-q4,hen rfl];simp
     ·exact absurd rfl (e1 _)
  ·intro he
   have:ok=false:=by rw[<-q4,<-q1,he];rfl
   rw[this];simp
 go_enter Tryz.func132,Tryz.ntmps132;go_wp2_with fail
 refine HN.out.mono ?_;rintro e W1 ⟨rfl,s1,k1⟩;have S1:=aa s1;have K1:=aa k1;clear s1 k1;go_wp2_with fail
 refine(HC.out _).mono ?_
 rintro e W' ⟨rfl,rfl⟩;go_wp2_with fail
 refine(HA.out _ (HE.out _ K1.out)).mono ?_
 rintro e W2 ⟨n,ev,rfl,b2,hc⟩;have S2:=aa (S1.out.ext b2);have K2:=aa (K1.out.ext b2);have HF:=aa (fun b' en=>hfin.out n ev b' en hc);obtain⟨A,c,c0,c1,fz,_⟩:=S2.out.cells;have f1:=fz 1;clear c0 fz b2 S1 K1;have hev:ev=.nilIface∨∃te pe,ev=.iface te pe:=hc.elim (fun h=>.inl h.2) (fun h=>.inr h.2);clear hc;rcases hev with rfl|⟨te,pe,rfl⟩
 ·cases b1<;>cases ok<;>(
   go_wp2;go_returns;exact⟨n,_,rfl,S2.out.mark _,K2.out.setCell (.inl rfl) _,HF.out _ false (fun _=>rfl) rfl⟩)
 ·cases b1<;>cases ok<;>(
   go_wp2;go_returns;exact⟨n,_,rfl,S2.out.mark _,K2.out.setCell (.inl rfl) _,HF.out _ true (fun h=>(by cases h)) rfl⟩)
theorem Sv{a b:UInt8}{o:aQ}(h:eO o=true)(e:[a,b]=kC o):(⟨if (a.toNat:Int)=119 then 2 else 1,(b.toNat:Int)-48,0⟩:aQ)=o:=by
 have k1:=iq h;have k2:=lu h;unfold kC at e;injection e with e1 e2;injection e2 with e2 _;have hb:b.toNat=48+o.key.toNat:=by rw[e2];exact oD (by omega)
 refine aQ.ext' ?_ ?_ ?_
 ·simp only;rw[e1];unfold aW iN;rcases jk h with q|q<;>rw[q]<;>simp
 ·simp only;omega
 ·simp only;omega
theorem K6{p:Nat}{ws:List (List UInt8)}{bad:Bool}(W:World)(H:Scan p W ws bad)(hl:ws.length<=2097152) :
 Calls Tryz.prog 136 #[.pointer (some ⟨p,0,none⟩)] W fun e W'=>∃(o:aQ) (b':Bool),e=.returned (fP o)/\Scan p W' ws.tail b'/\bH (fun k=>k=p) W W'/\∀o',eO o'=true->ws.head? =some (kC o')->o=o'/\b'=bad:=by
 have hp:p<W.heap.size:=by obtain⟨v,h1,_⟩:=H;exact(Array.getElem?_eq_some_iff.1 h1).1
 have HN:=aa (fun W' (h:Scan p W' ws bad)=>Ae W' h hl);have hA:bH (fun k=>k=p) W (W.alloc (.cells #[.int .i64 0,.int .i64 0,.int .i64 0] 71)):=(bH.refl _ _).alloc _;have HS:=aa (H.ext ((Ext.refl _).alloc (.cells #[.int .i64 0,.int .i64 0,.int .i64 0] 71)));have HA:=aa hA;clear H hl hA;obtain⟨b1,hb1⟩:∃b1,(bad || ws.isEmpty)=b1:=⟨_,rfl⟩;obtain⟨x,hx⟩:∃x,ws.headD []=x:=⟨_,rfl⟩;rw[hb1,hx]at HN;have hhead:Hid (∀y,ws.head? =some y->x=y/\b1=bad):=fun y hy=>by
  cases ws with
  | nil=>cases hy
  | cons a r=>simp only[List.head?_cons,Option.some.injEq]at hy;subst hy;exact⟨hx.symm,by rw[<-hb1];simp⟩
 clear hb1 hx;by_cases h2:x.length=2;case neg=>
  have hs:(((tx x).size:Int) != 2)=true:=by rw[dH,bne_iff_ne];omega
  have hno:Hid (∀o',eO o'=true->ws.head? =some (kC o')->False):=fun o' _ he=>h2 (by rw[(hhead.out _ he).1];rfl);generalize tx x=z at *;clear h2;go_enter Tryz.func136,Tryz.ntmps136;go_wp2_with fail
  refine(HN.out _ HS.out).mono ?_
  rintro e W1 ⟨rfl,s1,k1⟩;have S1:=aa s1;have K1:=aa (HA.out.trans k1);obtain⟨A,c,c0,c1,fz,_⟩:=s1.cells;have f1:=fz 1;have q0:=k1.cell (p:=⟨W.heap.size,0,none⟩) (av rfl) (by simp;omega);have q1:=k1.cell (p:=⟨W.heap.size,1,none⟩) (av rfl) (by simp;omega);have q2:=k1.cell (p:=⟨W.heap.size,2,none⟩) (av rfl) (by simp;omega);have fq:∀j,W1.frozen? ⟨W.heap.size,j,none⟩=false:=fun j=>(k1.frozen (by simp) (by simp;omega)).trans (gN j rfl);have fq0:=fq 0;have fq1:=fq 1;have fq2:=fq 2;have OB:Hid (TB 71 W1 W.heap.size):=TB.frX ⟨_,_,heap_alloc_new W _⟩ k1 (by omega);have hpn:(⟨p,1,none⟩:Addr)≠⟨W.heap.size,0,none⟩/\(⟨p,1,none⟩:Addr)≠⟨W.heap.size,1,none⟩/\(⟨p,1,none⟩:Addr)≠⟨W.heap.size,2,none⟩:=by refine⟨?_,?_,?_⟩<;>(intro e;injection e with e _ _;omega)
  have VJ:=aa hpn;clear c0 fz fq s1 k1 hpn;have r0:=(au VJ.out.1 (.bool true)).trans q0;have r1:=(au VJ.out.2.1 (.bool true)).trans q1;have r2:=(au VJ.out.2.2 (.bool true)).trans q2;go_wp2;obtain⟨y0,y1,y2⟩:=dK (.int .i64 0) (.int .i64 0) (.int .i64 0) r0 r1 r2;refine bodyPost_ret (v:=.agg #[.int .i64 0,.int .i64 0,.int .i64 0]) (by simp[results,Tryz.results136,go_sem,y0,y1,y2]) rfl ?_;have S2:=S1.out.mark true;have B2:TB 71 (W1.setCell ⟨p,1,none⟩ (.bool true)) W.heap.size:=OB.out.frX (X:=fun k=>k=p) (bH.setCell (X:=fun k=>k=p) (bH.refl _ _) (.inl rfl) _) (by omega);exact⟨⟨0,0,0⟩,true,rfl,((S2.other B2 (by decide) _ _).other (B2.set _ _) (by decide) _ _).other ((B2.set _ _).set _ _) (by decide) _ _,(((K1.out.setCell (.inl rfl) _).setCell (.inr (Nat.le_refl _)) _).setCell (.inr (Nat.le_refl _)) _).setCell (.inr (Nat.le_refl _)) _,fun o' ho he=>(hno.out o' ho he).elim⟩
 case pos=>
  match x,h2 with
  | [a,b],_=>
    have hs:(((tx [a,b]).size:Int) != 2)=false:=by rw[dH];rfl
    have hi0:=jZ (l:=[a,b]) (k:=0) rfl 0 rfl;have hi1:=jZ (l:=[a,b]) (k:=1) rfl 1 rfl;have hb0:(0:Int)<=(b.toNat:Int):=by omega
    have hb1:(b.toNat:Int)<=255:=by have:=b.toNat_lt;omega
    have hwb:IntKind.i64.wrap ((b.toNat:Int)-48)=(b.toNat:Int)-48:=IntWalk.i64_in _ ⟨by omega,by omega⟩;have HO:Hid (∀o',eO o'=true->ws.head? =some (kC o')->(⟨if (a.toNat:Int)=119 then 2 else 1,(b.toNat:Int)-48,0⟩:aQ)=o'/\b1=bad):=fun o' ho he=>⟨Sv ho (hhead.out _ he).1,(hhead.out _ he).2⟩;generalize tx [a,b]=z at *;generalize (a.toNat:Int)=an at *;generalize (b.toNat:Int)=bn at *;clear hhead;by_cases hk:an=119;all_goals (
     have hkd:(an==119)=decide (an=119):=by by_cases h:an=119<;>simp[h]
     go_enter Tryz.func136,Tryz.ntmps136;go_wp2_with fail
     refine(HN.out _ HS.out).mono ?_
     rintro e W1 ⟨rfl,s1,k1⟩;have S1:=aa s1;have K1:=aa (HA.out.trans k1);have q0:=k1.cell (p:=⟨W.heap.size,0,none⟩) (av rfl) (by simp;omega);have q1:=k1.cell (p:=⟨W.heap.size,1,none⟩) (av rfl) (by simp;omega);have q2:=k1.cell (p:=⟨W.heap.size,2,none⟩) (av rfl) (by simp;omega);have fq:∀j,W1.frozen? ⟨W.heap.size,j,none⟩=false:=fun j=>(k1.frozen (by simp) (by simp;omega)).trans (gN j rfl);have fq0:=fq 0;have fq1:=fq 1;have fq2:=fq 2;have OB:Hid (TB 71 W1 W.heap.size):=TB.frX ⟨_,_,heap_alloc_new W _⟩ k1 (by omega);have hpn:(⟨p,1,none⟩:Addr)≠⟨W.heap.size,0,none⟩/\(⟨p,1,none⟩:Addr)≠⟨W.heap.size,1,none⟩/\(⟨p,1,none⟩:Addr)≠⟨W.heap.size,2,none⟩:=by refine⟨?_,?_,?_⟩<;>(intro e;injection e with e _ _;omega)
     have VJ:=aa hpn;have hsz:W.heap.size<W1.heap.size:=by have:=k1.size;simp at this;omega
     clear fq s1 k1 hpn VJ;go_wp2
     first
     | (obtain⟨x0,x1,x2⟩:=dK (.int .i64 1) (.int .i64 (bn-48)) (.int .i64 0) q0 q1 q2
        have X:=(Ext.refl (((W1.setCell ⟨W.heap.size,0,none⟩ (.int .i64 1)).setCell ⟨W.heap.size,1,none⟩ (.int .i64 (bn-48))).setCell ⟨W.heap.size,2,none⟩ (.int .i64 0))).alloc (.cells #[.int .i64 1,.int .i64 (bn-48),.int .i64 0] 71);have y0:=X.cell x0;have y1:=X.cell x1;have y2:=X.cell x2;refine bodyPost_ret (v:=.agg #[.int .i64 1,.int .i64 (bn-48),.int .i64 0]) (by simp[results,Tryz.results136,go_sem,y0,y1,y2]) rfl ?_;exact⟨⟨1,bn-48,0⟩,b1,rfl,(((S1.out.other OB.out (by decide) _ _).other (OB.out.set _ _) (by decide) _ _).other ((OB.out.set _ _).set _ _) (by decide) _ _).ext X,(((K1.out.setCell (.inr (Nat.le_refl _)) _).setCell (.inr (Nat.le_refl _)) _).setCell (.inr (Nat.le_refl _)) _).ext X,fun o' ho he=>(by have:=HO.out o' ho he;rw[if_neg hk]at this;exact this)⟩)
     | (obtain⟨x0,x1,x2⟩:=dK (.int .i64 2) (.int .i64 (bn-48)) (.int .i64 0) q0 q1 q2
        have X:=(Ext.refl (((W1.setCell ⟨W.heap.size,0,none⟩ (.int .i64 2)).setCell ⟨W.heap.size,1,none⟩ (.int .i64 (bn-48))).setCell ⟨W.heap.size,2,none⟩ (.int .i64 0))).alloc (.cells #[.int .i64 2,.int .i64 (bn-48),.int .i64 0] 71);have y0:=X.cell x0;have y1:=X.cell x1;have y2:=X.cell x2;refine bodyPost_ret (v:=.agg #[.int .i64 2,.int .i64 (bn-48),.int .i64 0]) (by simp[results,Tryz.results136,go_sem,y0,y1,y2]) rfl ?_;exact⟨⟨2,bn-48,0⟩,b1,rfl,(((S1.out.other OB.out (by decide) _ _).other (OB.out.set _ _) (by decide) _ _).other ((OB.out.set _ _).set _ _) (by decide) _ _).ext X,(((K1.out.setCell (.inr (Nat.le_refl _)) _).setCell (.inr (Nat.le_refl _)) _).setCell (.inr (Nat.le_refl _)) _).ext X,fun o' ho he=>(by have:=HO.out o' ho he;rw[if_pos hk]at this;exact this)⟩))
theorem SQ(l:List UInt8)(w:World)(hE:Env w)(hl:l.length<=2097152):Calls Tryz.prog 131 #[.string (tx l),.string ⟨#[32]⟩] w fun e w'=>e=.returned (.slice (some ⟨w.heap.size,0,none⟩) (aK 32 l).length (aK 32 l).length)/\w'=w.alloc (.cells ((aK 32 l).map fun x=>.string (tx x)).toArray 9):=by
 obtain⟨m,hm⟩:=hE.max
 refine(Tryz.strings_Split (tx l) (tx [32]) m w (by rw[dH];omega) hm (by rw[dH];simp)).mono ?_
 rintro e w' ⟨rfl,rfl⟩;have h1:(Lib.splitB (tx [32]) 0 (Lib.countB (tx l) (tx [32])) (tx l)).map (·.data.toList)=aK 32 l:=by rw[Lib.splitB_data];exact zS 32 _ l rfl
 have h2:(Lib.splitB (tx [32]) 0 (Lib.countB (tx l) (tx [32])) (tx l)).map Value.string=(aK 32 l).map fun x=>.string (tx x):=by rw[<-h1,List.map_map];exact List.map_congr_left (fun b _=>congrArg Value.string (adw b).symm)
 have h3:Lib.countB (tx l) (tx [32])+1=(aK 32 l).length:=(KC 32 l).symm;rw[h2,h3];exact⟨rfl,rfl⟩
theorem MR(ws:List (List UInt8))(w:World):aF 1 encS (w.alloc (.cells (ws.map fun x=>.string (tx x)).toArray 9)) (.slice (some ⟨w.heap.size,0,none⟩) ws.length ws.length) ws/\iY 9 (w.alloc (.cells (ws.map fun x=>.string (tx x)).toArray 9)) (.slice (some ⟨w.heap.size,0,none⟩) ws.length ws.length):=by
 refine⟨⟨_,_,rfl,fun _=>⟨_,0,rfl,by simp,fun i x hx j hj=>?_⟩⟩,fun a n c e hn=>?_⟩
 ·obtain rfl:j=0:=by omega
  refine av ?_;simp[hx,encS]
 ·injection e with e1 _ _;injection e1 with e1;subst e1;exact⟨_,_,heap_alloc_new w _⟩
theorem Jy(l:List UInt8)(w:World)(hE:Env w)(hl:l.length<=2097152):Calls Tryz.prog 131 #[.string (tx l),.string ⟨#[32]⟩] w fun e w'=>∃g,e=.returned (.slice (some ⟨g,0,none⟩) (aK 32 l).length (aK 32 l).length)/\aF 1 encS w' (.slice (some ⟨g,0,none⟩) (aK 32 l).length (aK 32 l).length) (aK 32 l)/\iY 9 w' (.slice (some ⟨g,0,none⟩) (aK 32 l).length (aK 32 l).length)/\Ext w w':=by
 refine(SQ l w hE hl).mono ?_
 rintro e w' ⟨rfl,rfl⟩
 have:=MR (aK 32 l) w
 exact⟨_,rfl,this.1,this.2,(Ext.refl _).alloc _⟩
def RS(w:World)(p:Nat):Nat:=match w.cell? ⟨p,0,none⟩ with
 | some (.slice _ n _)=>n
 | _=>0
theorem Scan.left{p:Nat}{W:World}{ws:List (List UInt8)}{bad:Bool}(h:Scan p W ws bad):RS W p=ws.length:=by obtain⟨A,c,c0,_⟩:=h.cells;unfold RS;rw[c0]
def wZ(l:List UInt8)(n:Int)(d bad:Bool)(ops:List aQ):Prop:=∀t',bX t'=true->aK 32 l=bR t'->bad=false/\n=t'.az/\d=t'.done/\ops=t'.ops.take ops.length
theorem KL(l:List UInt8)(w:World)(hE:Env w)(hl:l.length<=1048576)(hne:l≠[]) :
 Calls Tryz.prog 100 #[.string (tx l)] w fun e w'=>∃(t:aA) (ov:Value),e=.returned (.tuple #[ng t ov,.bool (dh l).isSome])/\aF 3 aj w' ov t.ops/\qL ov/\(∀t',dh l=some t'->t=t')/\(∀a n c,ov=.slice (some a) n c->0<n->w.heap.size<=a.block)/\Ext w w':=by
 have HE:=aa hE;have HL:=aa (And.intro hl hne);have I9:=aa (fun W (h:Ext w W)=>Jy l W (hE.ext h) (by omega));have hwl:(aK 32 l).length<=1048577:=by have:=nH 32 l;omega
 have HX:=aa (nX 32 l);obtain⟨z,hz⟩:∃z,tx l=z:=⟨_,rfl⟩;have HZ:=aa hz;rw[hz]at I9;rw[hz];obtain⟨ws,hws⟩:∃ws,aK 32 l=ws:=⟨_,rfl⟩;rw[hws]at I9 hwl HX;have IG:=aa hws;clear hE hl hne hz hws;go_enter Tryz.func100,Tryz.ntmps100;go_wp2_with fail
 refine(I9.out _ ((Ext.refl _).alloc _)).mono ?_
 rintro e W1 ⟨g,rfl,hs,hty,b1⟩;have hw1:w.heap.size<W1.heap.size:=by have:=b1.size;simp at this;omega
 have T0:W1.cell? ⟨w.heap.size,0,none⟩=some (.int .i64 0):=b1.cell (av rfl);have T1:W1.cell? ⟨w.heap.size,1,none⟩=some (.slice none 0 0):=b1.cell (av rfl);have T2:W1.cell? ⟨w.heap.size,2,none⟩=some (.bool false):=b1.cell (av rfl);have TF:∀j,W1.frozen? ⟨w.heap.size,j,none⟩=false:=fun j=>(b1.frozen (by simp)).trans (gN j rfl);have HT:=aa (And.intro T0 (And.intro T1 (And.intro T2 TF)));have hS2:Scan W1.heap.size (W1.alloc (.cells #[.slice (some ⟨g,0,none⟩) ws.length ws.length,.bool false] 153)) ws false:=
  ⟨_,heap_alloc_new W1 _,hs.ext ((Ext.refl _).alloc _),mQ (Nat.le_refl _) (by omega),hty.ext ((Ext.refl _).alloc _)⟩
 have HB1:Hid (Ext w W1):=((Ext.refl _).alloc _).trans b1;have Uh:=aa (CW _ hS2 (by omega) (fun W' k=>HE.out.ext (bH.out (HB1.out.alloc _) k (fun i e=>by rw[e];exact HB1.out.size))) (fun x hx=>by have:=HX.out x hx;have:=HL.out.1;omega));clear hs hty b1 hS2 T0 T1 T2 TF;obtain⟨P,hP⟩:∃P,W1.heap.size=P:=⟨_,rfl⟩;have HP:=aa hP;go_wp2_with fail
 rw[hP]at Uh;refine Uh.out.mono ?_;rintro e W3 ⟨n,b3,rfl,s3,k3,Jl,he3⟩;have HK3:Hid (bH (fun k=>k=P) W1 W3):=bH.trans ((bH.refl _ _).alloc _) k3;have H3:=aa (And.intro Jl he3);have iA:=aa (Ae W3 s3 (by rw[List.length_tail];omega));clear s3 k3 Jl he3 Uh;obtain⟨x2,hx2⟩:∃x2,ws.tail.headD []=x2:=⟨_,rfl⟩;have uP:=aa hx2;obtain⟨z2,hz2⟩:∃z2,tx x2=z2:=⟨_,rfl⟩;obtain⟨d,hd⟩:∃d,(z2.toList==[111,107])=d:=⟨_,rfl⟩;have HD:Hid ((x2==[111,107])=d):=by show _ = _;rw[<-hd,<-hz2,eD]
 rw[hx2,hz2]at iA;clear hx2 hz2;go_wp2_with fail
 refine iA.out.mono ?_;rintro e W4 ⟨rfl,s4,k4⟩;have Ay:=aa s4;have HK4:Hid (bH (fun k=>k=P) W1 W4):=HK3.out.trans k4;clear s4 k4 iA HK3;obtain⟨B,hB⟩:∃B,W4.heap.size=B:=⟨_,rfl⟩;have HBQ:=aa hB;go_wp2_with fail
 have hW4:P<W4.heap.size:=Nat.lt_of_lt_of_le (by obtain⟨_,_,h⟩:=Ay.out.tb;exact(Array.getElem?_eq_some_iff.1 h).1) (Nat.le_refl _);have afP:Hid (Ext w W4):=bH.out HB1.out HK4.out (fun i e=>by rw[e,<-HP.out];exact HB1.out.size);have QK:Hid (∀W,bH (fun k=>k=P) W1 W->Ext w W):=fun W k=>bH.out HB1.out k (fun i e=>by rw[e,<-HP.out];exact HB1.out.size);have xw:Hid (wZ l n d (match ws.tail with | []=>true|_=>b3) []):=fun t' hk he=>by rw[IG.out]at he;have hd:=HD.out;have hx2:=uP.out;have h3:=H3.out.1 t'.az.toNat (by have:=jC hk;omega);rw[he]at hx2 h3 ⊢;obtain⟨h4,h5⟩:=h3 rfl;refine⟨h5,by have:=jC hk;omega,?_,by simp⟩;rw[<-hd,<-hx2];simp only[bR,List.tail_cons,List.headD_cons];cases t'.done<;>decide
 obtain⟨b4,hb4⟩:∃b4,(b3 || ws.tail.isEmpty)=b4:=⟨_,rfl⟩;rw[hb4]at Ay;replace xw:Hid (wZ l n d b4 []):=by
  have h:=xw.out;rw[<-hb4]
  cases hw:ws.tail with
  | nil=>rw[hw]at h;show wZ _ _ _ _ _;simpa using h
  | cons a r=>rw[hw]at h;show wZ _ _ _ _ _;simpa using h
 clear hb4 HD H3 uP;go_loopw [] (fun wr=>bH (fun k=>k=P) W1 wr/\Hid (∃(b':Bool) (rem:List (List UInt8)) (ops:List aQ) (ov:Value),Scan P wr rem b'/\wr.heap[B]? =some (.cells #[.int .i64 n,ov,.bool d] 48 (0,0))/\Row 71 3 aj P wr ov ops/\wZ l n d b' ops/\rem=ws.drop (2+ops.length)/\ops.length<=ws.length)) (fun wr=>RS wr P)
 case atStart=>
  refine⟨HK4.out.alloc _,b4,ws.tail.tail,[],.slice none 0 0,Ay.out.ext ((Ext.refl _).alloc _),?_,Row.nil,xw.out,?_,Nat.zero_le _⟩
  ·rw[<-HBQ.out];exact heap_alloc_new W4 _
  ·rw[<-List.drop_one,<-List.drop_one,List.drop_drop];rfl
 case round=>
  obtain⟨hb,HI⟩:=hrel;obtain⟨b',rem,ops,ov,hsc,hbx,hrow,hinv,VW,hol⟩:=HI.out;obtain⟨A,c,c0,c1,fz,_⟩:=hsc.cells;have f1:=fz 1;obtain⟨A5,c5,rfl,_⟩:=id hrow.cell.1;have B0:wr.cell? ⟨B,0,none⟩=some (.int .i64 n):=by simp[World.cell?,hbx]
  have B1:wr.cell? ⟨B,1,none⟩=some (.slice A5 ops.length c5):=by simp[World.cell?,hbx]
  have B2:wr.cell? ⟨B,2,none⟩=some (.bool d):=by simp[World.cell?,hbx]
  have QX:=aa hinv;have Ut:=aa hsc;have Ih:=aa hbx;have nV:=aa hrow;have Ll:=aa VW;have hcap:=hrow.cap _ _ _ rfl;clear HI hsc hbx hrow hinv VW fz
  cases b' with
  | true=>
    have kg:Hid (dh l=none):=lT fun t' hk he=>by cases (QX.out t' hk he).1
    have X:=hb;have t0:=X.cell HT.out.1 (by simp;omega);have t1:=X.cell HT.out.2.1 (by simp;omega);have t2:=X.cell HT.out.2.2.1 (by simp;omega);have tf:∀j,wr.frozen? ⟨w.heap.size,j,none⟩=false:=fun j=>(X.frozen hw1 (by simp;omega)).trans (HT.out.2.2.2 j);have tf0:=tf 0;have tf1:=tf 1;have tf2:=tf 2;have XE:=aa (QK.out _ X);clear tf X;clear c0 B0 B1 B2;go_wp2;obtain⟨y0,y1,y2⟩:=dK (.int .i64 0) (.slice none 0 0) (.bool false) t0 t1 t2;refine bodyPost_ret (v:=.tuple #[.agg #[.int .i64 0,.slice none 0 0,.bool false],.bool false]) (by simp[results,Tryz.results100,go_sem,y0,y1,y2]) rfl ?_;exact⟨⟨0,[],false⟩,.slice none 0 0,by rw[kg.out];rfl,aF.nil _ _ _ _ _,mQ (Nat.le_refl _) (by omega),fun t' ht=>(by rw[kg.out]at ht;cases ht),fun a n c e=>(by cases e),((XE.out.setCell (Nat.le_refl _) _).setCell (Nat.le_refl _) _).setCell (Nat.le_refl _) _⟩
  | false=>
    cases rem with
    | nil=>
      have hall:Hid (∀t',bX t'=true->aK 32 l=bR t'->n=t'.az/\d=t'.done/\ops=t'.ops):=fun t' hk he=>by obtain⟨_,e1,e2,e3⟩:=QX.out t' hk he;refine⟨e1,e2,?_⟩;have h0:=congrArg List.length Ll.out;rw[<-IG.out,he]at h0;simp[bR]at h0;rw[e3,List.take_of_length_le (by omega)]
      have HTT:=aa (fun W (h:Ext wr W)=>zz ⟨n,ops,d⟩ _ W (nV.out.cell.1.ext h) (by simp only;omega));go_wp2_with fail
      refine(HTT.out _ (Ext.refl _)).mono ?_
      rintro e W5 ⟨rfl,b5⟩;have B0:=b5.cell B0;have B1:=b5.cell B1;have B2:=b5.cell B2;have HCP:=aa (vS n d W5 (nV.out.cell.1.ext b5) (by omega));have Hw:=aa (hb.ext b5);clear c0 c1 f1 b5 hb HTT;by_cases hc:gI ⟨n,ops,d⟩=l
      ·have hyes:Hid (dh l=some ⟨n,ops,d⟩):=by
        show _ = _;unfold gI at hc;split at hc
        ·rename_i hk;exact mU.2 ⟨hk,hc⟩
        ·exact absurd hc.symm HL.out.2
       rw[hc,HZ.out];clear hc;go_wp2_with fail
       refine HCP.out.mono ?_;rintro e W6 ⟨A6,rfl,hs6,ho6,_,b6⟩;have HS6:=aa (And.intro hs6 ho6);have hw5:w.heap.size<W5.heap.size:=Nat.lt_of_lt_of_le hw1 Hw.out.size;have X:=Hw.out.ext b6;have t0:=X.cell HT.out.1 (by simp;omega);have t1:=X.cell HT.out.2.1 (by simp;omega);have t2:=X.cell HT.out.2.2.1 (by simp;omega);have tf:∀j,W6.frozen? ⟨w.heap.size,j,none⟩=false:=fun j=>(X.frozen hw1 (by simp;omega)).trans (HT.out.2.2.2 j);have tf0:=tf 0;have tf1:=tf 1;have tf2:=tf 2;have XE:=aa (QK.out _ X);clear tf X;clear hs6 ho6 b6 B0 B1 B2;go_wp2;obtain⟨y0,y1,y2⟩:=dK (.int .i64 n) (.slice A6 ops.length ops.length) (.bool d) t0 t1 t2;refine bodyPost_ret (v:=.tuple #[.agg #[.int .i64 n,.slice A6 ops.length ops.length,.bool d],.bool true]) (by simp[results,Tryz.results100,go_sem,y0,y1,y2]) rfl ?_;have k6:bH (fun i=>i=w.heap.size) W6 (((W6.setCell ⟨w.heap.size,0,none⟩ (.int .i64 n)).setCell ⟨w.heap.size,1,none⟩ (.slice A6 ops.length ops.length)).setCell ⟨w.heap.size,2,none⟩ (.bool d)):=
        ((bH.setCell (X:=fun i=>i=w.heap.size) (bH.refl _ _) (.inl rfl) _).setCell (.inl rfl) _).setCell (.inl rfl) _
       exact⟨⟨n,ops,d⟩,.slice A6 ops.length ops.length,by rw[hyes.out];rfl,HS6.out.1.frX k6 (fun a m c e hm=>(by have:=(HS6.out.2 a m c e hm).1;omega)),mQ (Nat.le_refl _) (by omega),fun t' ht=>(by rw[hyes.out]at ht;cases ht;rfl),fun a m c e hm=>(by have:=(HS6.out.2 a m c e hm).1;have:=(QK.out _ Hw.out).size;omega),((XE.out.setCell (Nat.le_refl _) _).setCell (Nat.le_refl _) _).setCell (Nat.le_refl _) _⟩
      ·have kg:Hid (dh l=none):=lT fun t' hk he=>hc (by
        obtain⟨e1,e2,e3⟩:=hall.out t' hk he;have ht:(⟨n,ops,d⟩:aA)=t':=by cases t';simp only at e1 e2 e3;rw[e1,e2,e3]
        rw[ht,gI,if_pos hk,lH,<-he,yR])
       obtain⟨z5,hz5⟩:∃z5,tx (gI ⟨n,ops,d⟩)=z5:=⟨_,rfl⟩;have hq:(z5.toList==z.toList)=false:=by rw[<-hz5,<-HZ.out,eD,eD];simpa using hc
       rw[hz5];have X:=Hw.out;have t0:=X.cell HT.out.1 (by simp;omega);have t1:=X.cell HT.out.2.1 (by simp;omega);have t2:=X.cell HT.out.2.2.1 (by simp;omega);have tf:∀j,W5.frozen? ⟨w.heap.size,j,none⟩=false:=fun j=>(X.frozen hw1 (by simp;omega)).trans (HT.out.2.2.2 j);have tf0:=tf 0;have tf1:=tf 1;have tf2:=tf 2;have XE:=aa (QK.out _ X);clear tf X;clear hc hz5 B0 B1 B2;go_wp2;obtain⟨y0,y1,y2⟩:=dK (.int .i64 0) (.slice none 0 0) (.bool false) t0 t1 t2;refine bodyPost_ret (v:=.tuple #[.agg #[.int .i64 0,.slice none 0 0,.bool false],.bool false]) (by simp[results,Tryz.results100,go_sem,y0,y1,y2]) rfl ?_;exact⟨⟨0,[],false⟩,.slice none 0 0,by rw[kg.out];rfl,aF.nil _ _ _ _ _,mQ (Nat.le_refl _) (by omega),fun t' ht=>(by rw[kg.out]at ht;cases ht),fun a n c e=>(by cases e),((XE.out.setCell (Nat.le_refl _) _).setCell (Nat.le_refl _) _).setCell (Nat.le_refl _) _⟩
    | cons x r=>
      have hrl:(x :: r).length<=1048577:=by rw[Ll.out,List.length_drop];omega
      have hxw:ws[2+ops.length]? =some x:=by
       have:=congrArg (fun l=>l[0]?) Ll.out
       simp only[List.getElem?_cons_zero,List.getElem?_drop,Nat.add_zero]at this;exact this.symm
      have hxl:=HX.out x (List.mem_of_getElem? hxw);have adX:ops.length+1<=ws.length:=by have:=(List.getElem?_eq_some_iff.1 hxw).1;omega
      have hr2:Hid (r=ws.drop (2+(ops.length+1))):=by
       have:=congrArg List.tail Ll.out
       rw[List.tail_drop]at this;exact this
      obtain⟨zx,hzx⟩:∃zx,tx x=zx:=⟨_,rfl⟩;have iA:=aa (Ae wr Ut.out (by omega));simp only[List.headD_cons,List.tail_cons,List.isEmpty_cons,Bool.or_false]at iA;rw[hzx]at iA;obtain⟨o,ho⟩:∃o,(fD x).getD ⟨0,0,0⟩=o:=⟨_,rfl⟩;obtain⟨ok,hok⟩:∃ok,(fD x).isSome=ok:=⟨_,rfl⟩;have acA:Hid (wZ l n d (!ok) (ops++[o])):=fun t' hk he=>by obtain⟨_,e1,e2,e3⟩:=QX.out t' hk he;have hx2:=hxw;rw[<-IG.out,he,show 2+ops.length=ops.length+1+1 by omega]at hx2;simp only[bR,List.getElem?_cons_succ,List.getElem?_map]at hx2;obtain⟨o',ho',hxo⟩:=Option.map_eq_some_iff.1 hx2;have hrd:fD x=some o':=jS.2 ⟨eT hk (List.mem_of_getElem? ho'),hxo⟩;rw[hrd]at ho hok;simp only[Option.getD_some,Option.isSome_some]at ho hok;subst ho hok;refine⟨rfl,e1,e2,?_⟩;rw[List.length_append,List.length_singleton,ah ho',<-e3]
      have Ig:Hid (∀W,Ext w W->Calls Tryz.prog 134 #[.string zx] W fun e w'=>e=.returned (.tuple #[.agg #[.int .i64 o.kind,.int .i64 o.key,.int .i64 o.value],.bool ok])/\Ext W w'):=fun W h=>by
       have:=NM x W (HE.out.ext h) (by have:=HL.out.1;omega)
       unfold VU at this;rw[ho,hok,hzx]at this;exact this
      have HPN:Hid (P≠B):=fun e=>by
       have:=TB.ne Ut.out.tb ⟨_,_,Ih.out⟩ (by decide)
       exact this e
      have NI:=aa Ut.out.left;clear hxw hxl ho hok hzx hrl f1;obtain⟨kd,ky,vl⟩:=o;simp only at Ig;go_wp2_with fail
      refine iA.out.mono ?_;rintro e W5 ⟨rfl,s5,k5⟩;have HS5:=aa s5;have HK5:=aa k5;clear s5 k5;go_wp2_with fail
      refine(Ig.out _ (QK.out _ (hb.trans HK5.out))).mono ?_
      rintro e W6 ⟨rfl,b6⟩;have hS6:=HS5.out.ext b6;have hK6:=HK5.out.ext b6;obtain⟨A,c,c0,c1,fz,_⟩:=hS6.cells;have f1:=fz 1;have hPB:=HPN.out;have hBP:=hPB.symm;have B0:=hK6.cell B0 (by simpa using hBP);have B1:=hK6.cell B1 (by simpa using hBP);have B2:=hK6.cell B2 (by simpa using hBP);have KB:bH (fun k=>k=P) wr ((W6.setCell ⟨P,1,none⟩ (.bool (!ok))).alloc (.cells #[.int .i64 kd,.int .i64 ky,.int .i64 vl] 71)):=(hK6.setCell (.inl rfl) _).alloc _;have DJ:=dM nV.out KB (fun k hk=>TB.ne (TB.dm nV.out hk) Ut.out.tb (by decide));have hPW:P<=W6.heap.size:=Nat.le_trans (Nat.le_of_lt (by obtain⟨_,_,h⟩:=hS6.tb;exact(Array.getElem?_eq_some_iff.1 h).1)) (Nat.le_refl _);obtain⟨v',w7,hrun,hp⟩:=iP (W6.heap.size+1) (by simp) Tryz.underlying46 kG rfl (by omega) DJ (Ext.refl _) ⟨kd,ky,vl⟩ (fun j=>sK _ j) #[.int .i64 kd,.int .i64 ky,.int .i64 vl] rfl (by simp;omega) (by omega) (by omega);have ZP:=iR DJ hp (bH.out (Ext.refl W1) (hb.trans KB) (fun i e=>(by rw[e,HP.out];omega))) (by rw[HP.out];omega);obtain⟨A7,c7,rfl,_⟩:=id hp.1.cell.1;rw[show (ops++[(⟨kd,ky,vl⟩:aQ)]).length=ops.length+1 by simp]at hp hrun;have aU:=aa hrun;have D7:=ZP.heap (KB.heap Ih.out (by simpa using hBP)) (fun e=>TB.ne (TB.dm DJ e) ⟨_,_,KB.heap Ih.out (by simpa using hBP)⟩ (by decide) rfl);have g1:w7.cell? ⟨B,1,none⟩=some (.slice A5 ops.length c5):=by simp[World.cell?,D7]
      have gf:w7.frozen? ⟨B,1,none⟩=false:=by simp[World.frozen?,D7]
      have adh:Scan P ((W6.setCell ⟨P,1,none⟩ (.bool (!ok))).alloc (.cells #[.int .i64 kd,.int .i64 ky,.int .i64 vl] 71)) r (!ok):=(hS6.mark (!ok)).ext ((Ext.refl _).alloc _);have Ze:=adh.far ZP (fun q e=>⟨_,TB.dm DJ e,by decide,by decide⟩);have adB:Hid (Scan P (w7.setCell ⟨B,1,none⟩ (.slice A7 (ops.length+1) c7)) r (!ok)):=Ze.other ⟨_,_,D7⟩ (by decide) _ _;have ad7:Hid ((w7.setCell ⟨B,1,none⟩ (.slice A7 (ops.length+1) c7)).heap[B]? =some (.cells #[.int .i64 n,.slice A7 (ops.length+1) c7,.bool d] 48 (0,0))):=heap_set D7 _;have adg:Hid (Row 71 3 aj P (w7.setCell ⟨B,1,none⟩ (.slice A7 (ops.length+1) c7)) (.slice A7 (ops.length+1) c7) (ops++[(⟨kd,ky,vl⟩:aQ)])):=
       dM hp.1 (bH.setCell (X:=fun k=>k=B) (bH.refl _ _) (.inl rfl) _) (fun k hk=>TB.ne (TB.dm hp.1 hk) ⟨_,_,D7⟩ (by decide))
      have hBW:P<=B:=by rw[<-HBQ.out];omega
      have hP6:P<W6.heap.size:=by obtain⟨_,_,h⟩:=hS6.tb;exact(Array.getElem?_eq_some_iff.1 h).1
      have hB6:B<W6.heap.size:=(Array.getElem?_eq_some_iff.1 (hK6.heap Ih.out (by simpa using hBP))).1;have Ma:Hid (bH (fun k=>k=P) W1 (w7.setCell ⟨B,1,none⟩ (.slice A7 (ops.length+1) c7))):=
       ((hb.trans KB).more ZP (fun i e=>.inr (by rw[HP.out];exact(iU DJ e).1))).setCell (.inr (by rw[HP.out];exact hBW)) _
      clear hrun hp ZP D7 adh Ze DJ KB hS6 hK6 b6 hb fz;go_wp2_with (at_builtin;refine wpList_append_run rfl rfl rfl rfl aU.out ?_)
      go_roundw;case rel=>exact⟨Ma.out,!ok,r,ops++[⟨kd,ky,vl⟩],_,adB.out,ad7.out,adg.out,acA.out,by rw[List.length_append];exact hr2.out,by simp;omega⟩
      case measure=>
       rw[NI.out]
       have:=adB.out.left
       simp only[List.length_cons];omega
