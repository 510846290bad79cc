/- Lemmas. -/
import Derived.Test.YtcdopfdgknglfaaGreatDoorKAG
set_option maxHeartbeats 16000000
set_option maxRecDepth 8000
set_option linter.all false
namespace Go.Proofs.YtcdopfdgknglfaaGreatDoor
open Go.RowKit
theorem KR{rb m m':Nat}{w W:World}{o:Obj}{a b c:Value}(hr:rb<w.heap.size)(h:ER rb m (w.alloc o) W)(hm:m<=m':=by omega):ER rb m' w (((W.setCell ⟨w.heap.size,0,none⟩ a).setCell ⟨w.heap.size,1,none⟩ b).setCell ⟨w.heap.size,2,none⟩ c):=by
 have h0:ER rb m w W:=⟨((Ex.refl rb w).alloc o).trans h.1,h.2⟩
 exact(((h0.set hr (av _) 0 a).set hr (av _) 1 b).set hr (av _) 2 c).mono hm
theorem VH(rb m:Nat)(n:Int)(w:World)(h:Rd w rb m)(hm:m<=500000)(hn:n<=1000000) :
 Calls Tryz.prog 54 #[.pointer (some ⟨rb,0,none⟩),.int .i64 n] w λe w'=>∃o:aV,e=.returned (.agg #[.int .i64 o.kind,.int .i64 o.key,.int .i64 o.value])/\ER rb (m+7) w w':=by
 have hrl:=h.lt;have HR:=aa h;clear h;go_enter Tryz.func54,Tryz.ntmps54;go_wp2_with fail
 refine(cZ rb _ 2 _ (HR.out.alloc _) (by omega) (by omega) (by omega)).mono ?_
 rintro e w1 ⟨a,rfl,a0,a1,r1,x1⟩;go_wp2_with fail
 refine(cZ rb _ 3 _ r1 (by omega) (by omega) (by omega)).mono ?_
 rintro e w2 ⟨b,rfl,b0,b1,r2,x2⟩;go_wp2_with fail
 refine(cZ rb _ 9 _ r2 (by omega) (by omega) (by omega)).mono ?_
 rintro e w3 ⟨c,rfl,c0,c1,r3,x3⟩;go_wp2_with fail
 refine(cZ rb _ 99 _ r3 (by omega) (by omega) (by omega)).mono ?_
 rintro e w4 ⟨d,rfl,d0,d1,r4,x4⟩;have JO:=aa (((x1.trans x2).trans x3).trans x4);have HR4:=aa r4;have hz4:w.heap.size+1<=w4.heap.size:=by have:=JO.out.size;simpa using this
 clear r1 r2 r3 r4 x1 x2 x3 x4 HR;go_wp2_with fail
 refine(cZ rb _ 3 _ (HR4.out.alloc _) (by omega) (by omega) (by omega)).mono ?_
 rintro e w5 ⟨i,rfl,i0,i1,r5,x5⟩;obtain⟨i,rfl⟩:=dZ i0;obtain⟨u,cu,y,rfl,hy⟩:=JB (λv=>∃y:Int,v=.int .i64 y/\0<=y/\y<=99) x5 (by omega) i (by simp;omega) (by simp;omega);have L6:Hid (ER rb (m+5) (w.alloc (.cells #[.int .i64 0,.int .i64 0,.int .i64 0] 67)) w5):=⟨(JO.out.alloc _).trans x5,r5⟩;have BA:=aa ((B3.made w (.int .i64 0) (.int .i64 0) (.int .i64 0) 67).ex L6.out.1 (by omega));clear JO HR4 r5 x5;have hz5:w.heap.size+1<=w5.heap.size:=by have:=L6.out.size;simpa using this
 have ha:a=0∨a=1:=by omega
 clear a0 a1 b0 b1 c0 c1 d0 d1 hy;have HW:Hid (rb≠w.heap.size/\rb≠w5.heap.size):=⟨by omega,by omega⟩;have hyy:y=0∨y≠0:=by omega
 rcases hyy with rfl|hy0;all_goals rcases ha with rfl|rfl
 all_goals
  go_wp2_with fail
  refine(Ga rb _ n _ (L6.out.2.alloc _) (by omega) (by omega)).mono ?_
  rintro e w6 ⟨k,rfl,r6,x6⟩;have Wp:Hid (ER rb (m+6) (w.alloc (.cells #[.int .i64 0,.int .i64 0,.int .i64 0] 67)) w6):=⟨(L6.out.1.alloc _).trans x6,r6⟩;have NS:=(BA.out.ext ((af _).alloc _)).ex x6 HW.out.1.symm;obtain⟨kd,zz,hC6⟩:∃kd zz,B3 67 w6 w5.heap.size (.int .i64 kd) (.int .i64 b) (.int .i64 zz):=⟨_,_,(B3.made w5 _ _ _ _).ex x6 HW.out.2.symm⟩;clear L6 BA r6 x6;have y0:=NS.c0;have y1:=NS.c1;have y2:=NS.c2;have f0:=NS.fr 0;have f1:=NS.fr 1;have f2:=NS.fr 2
  cases k with
  | false=>
    have z0:=hC6.c0;have z1:=hC6.c1;have z2:=hC6.c2;clear NS hC6;go_wp2;refine bodyPost_ret (v:=.agg #[.int .i64 kd,.int .i64 b,.int .i64 zz]) (by simp[results,Tryz.results54,go_sem,y0,y1,y2]) rfl ?_;exact⟨⟨kd,b,zz⟩,rfl,KR hrl Wp.out⟩
  | true=>
   have zi:=aa NS;clear NS hC6 y0 y1 y2 f0 f1 f2;go_wp2_with fail
   refine(cZ rb _ 7 _ (Wp.out.2.alloc _) (by omega) (by omega) (by omega)).mono ?_
   rintro e w7 ⟨j,rfl,j0,j1,r7,x7⟩;obtain⟨j,rfl⟩:=dZ j0;obtain⟨o,-,ho⟩:=ZZ (m:=3) (enc:=encOpr) x7 (by have:=Wp.out.size;have:=HW.out.1;simp at *;omega) [⟨0,0,0⟩,⟨3,0,1⟩,⟨1,3,0⟩,⟨1,-1,0⟩,⟨1,0,100⟩,⟨2,0,0⟩,⟨1,0,-1⟩] rfl j (by simp;omega);have u0:=ho 0 (by omega);have u1:=ho 1 (by omega);have u2:=ho 2 (by omega);simp only[fE,encOpr]at u0 u1 u2;have Ak:Hid (ER rb (m+7) (w.alloc (.cells #[.int .i64 0,.int .i64 0,.int .i64 0] 67)) w7):=⟨(Wp.out.1.alloc _).trans x7,r7⟩;have FJ:=(zi.out.ext ((af _).alloc _)).ex x7 HW.out.1.symm;have y0:=FJ.c0;have y1:=FJ.c1;have y2:=FJ.c2;have f0:=FJ.fr 0;have f1:=FJ.fr 1;have f2:=FJ.fr 2;clear Wp zi r7 x7 FJ ho;go_wp2;refine bodyPost_ret (v:=.agg #[.int .i64 o.kind,.int .i64 o.key,.int .i64 o.value]) (by simp[results,Tryz.results54,go_sem,y0,y1,y2]) rfl ?_;exact⟨o,rfl,KR hrl Ak.out⟩
theorem Row.keep{α:Type}{e:TypeId}{m:Nat}{enc:α->Nat->Value}{base:Nat}{w w':World}{v:Value}{xs:List α}{row:Option Nat}(h:Row e m enc base w v xs)(hg:w.grownBy w' row)(hr:∀k,v.ownBlock=some k->row≠some k):Row e m enc base w' v xs:=by
 refine World.ownsRow.kept h hg ?_
 cases hv:v.ownBlock with
 | none=>exact .inl rfl
 | some k=>exact .inr (λe=>hr k hv e.symm)
theorem Row.off{α β:Type}{e e':TypeId}{m m':Nat}{enc:α->Nat->Value}{enc':β->Nat->Value}{base base':Nat}{w:World}{v v':Value}{xs:List α}{ys:List β}(h:Row e m enc base w v xs)(k:Row e' m' enc' base' w v' ys)(hne:e≠e'):∀q,v.ownBlock=some q->v'.ownBlock≠some q:=by
 intro q hq hq';rcases k.2 with ⟨rfl,_⟩|⟨g,cap,cur,rfl,hb,hg,_⟩
 ·simp[Value.ownBlock]at hq'
 ·have:g=q:=by simpa[Value.ownBlock] using hq'
  subst this;exact h.ne hg hne hq.symm
theorem Row.YF{α:Type}{m n:Nat}{enc:α->Nat->Value}{w:World}(hn:w.heap.size=n)(e:TypeId):Row e m enc n (w.alloc (.cells #[] e)) (.slice (some ⟨n,0,none⟩) 0 0) ([]:List α):=by subst hn;exact Row.made w e
theorem Row.UD{α:Type}{e T:TypeId}{m g:Nat}{enc:α->Nat->Value}{base:Nat}{w:World}{v:Value}{xs:List α}{a b c:Value}(h:Row e m enc base w v xs)(hB:B3 T w g a b c)(hne:e≠T):v.ownBlock≠some g:=λe'=>h.ne hB hne e'.symm
def NG(lo:Nat)(w:World)(v:Value):Prop:=∃(xs:List Int),aL 1 (one encI) w v xs/\xs.length=3/\Own lo w v/\jD 3 w v
theorem NG.ext{lo:Nat}{w w':World}{v:Value}(h:NG lo w v)(b:Ext w w'):NG lo w' v:=let ⟨xs,h1,h2,h3,h4⟩:=h;⟨xs,h1.ext b,h2,h3.ext b,h4.ext b⟩
theorem NG.ex{lo rb:Nat}{w w':World}{v:Value}(h:NG lo w v)(b:Ex rb w w')(hl:rb<lo):NG lo w' v:=let ⟨xs,h1,h2,h3,h4⟩:=h;⟨xs,h1.off b (h3.off hl),h2,h3.ex b hl,h4.ex h3 b hl⟩
theorem NG.grown{lo:Nat}{w w':World}{v:Value}{row:Option Nat}(h:NG lo w v)(hg:w.grownBy w' row)(hr:∀a n c,v=.slice (some a) n c->0<n->row≠some a.block):NG lo w' v:=let ⟨xs,h1,h2,h3,h4⟩:=h;⟨xs,h1.grown hg hr,h2,h3.grown hg hr,h4.grown hg hr⟩
theorem NG.far{α:Type}{e:TypeId}{m:Nat}{enc:α->Nat->Value}{base b:Nat}{w:World}{v u:Value}{xs:List α}(h:NG b w u)(hr:Row e m enc base w v xs)(hne:e≠3):∀a n c,u=.slice (some a) n c->0<n->v.ownBlock≠some a.block:=let ⟨_,_,_,_,h4⟩:=h;hr.far h4 hne
theorem NG.row{base lo:Nat}{w:World}{v:Value}{xs:List Int}(h:Row 3 1 (one encI) base w v xs)(hx:xs.length=3)(hl:lo<=base):NG lo w v:=⟨xs,h.cell.1,hx,h.cell.2.mono hl,h.Gl⟩
def HL(rb m:Nat)(w wr:World)(out st:Value)(q:Nat):Prop:=ER rb m w wr/\(∃rs h,ng w.heap.size wr out rs h/\h.length+q<=5/\∀t∈h,t.ops.length<=4)/\NG w.heap.size wr st
def HI(rb m:Nat)(wo wr:World)(tb:Nat)(seen:Value)(s:Int)(dn:Bool)(p:Nat):Prop:=ER rb m wo wr/\(∃ov ops,B3 48 wr tb (.int .i64 s) ov (.bool dn)/\Row 67 3 encOpr wo.heap.size wr ov ops/\ops.length+p<=4)/\(∃xs:List Int,Row 3 1 (one encI) wo.heap.size wr seen xs/\xs.length=3)
theorem HI.I4{rb m tb p:Nat}{wo wr w0 w7:World}{seen ov v7:Value}{s:Int}{dn:Bool}{ops:List aV}{x:aV}{xs:List Int}(hr:rb<wo.heap.size)(htb:wo.heap.size<=tb)(hE:ER rb m wo wr)(hB:B3 48 wr tb (.int .i64 s) ov (.bool dn))(hO:Row 67 3 encOpr wo.heap.size wr ov ops)(hl:ops.length+p<=4)(hp:0<p)
 (hS:Row 3 1 (one encI) wo.heap.size wr seen xs) (hx:xs.length=3) (b:Ext wr w0) (hrow:Row 67 3 encOpr wo.heap.size w7 v7 (ops++[x])) (hg:w0.grownBy w7 ov.ownBlock) :
 B3 48 w7 tb (.int .i64 s) ov (.bool dn)/\HI rb m wo (w7.setCell ⟨tb,1,none⟩ v7) tb seen s dn (p-1):=by
 have FJ:B3 48 w7 tb (.int .i64 s) ov (.bool dn):=(hB.ext b).grown hg ((hO.ext b).UD (hB.ext b) (by decide));have Lu:Row 3 1 (one encI) wo.heap.size w7 seen xs:=(hS.ext b).keep hg (λk hk=>by
  have:=(hS.ext b).off (hO.ext b) (by decide) k hk
  exact this)
 refine⟨FJ,((hE.ext b).grown hg hr (λk hk=>hO.block k hk)).set hr htb _ _,⟨v7,_,FJ.s1 v7,hrow.keep (jZ _ ⟨tb,1,none⟩ _) (λk hk e=>?_),by simp;omega⟩,xs,Lu.keep (jZ _ ⟨tb,1,none⟩ _) (λk hk e=>?_),hx⟩
 ·exact hrow.UD FJ (by decide) (hk.trans e.symm)
 ·exact Lu.UD FJ (by decide) (hk.trans e.symm)
theorem HI.ext{rb m tb p:Nat}{wo W W':World}{seen:Value}{s:Int}{dn:Bool}(h:HI rb m wo W tb seen s dn p)(b:Ext W W'):HI rb m wo W' tb seen s dn p:=by obtain⟨hE,⟨ov,ops,hB,hO,hl⟩,xs,hS,hx⟩:=h;exact⟨hE.ext b,⟨ov,ops,hB.ext b,hO.ext b,hl⟩,xs,hS.ext b,hx⟩
theorem HI.ex{rb m m' tb p:Nat}{wo W W':World}{seen:Value}{s:Int}{dn:Bool}(h:HI rb m wo W tb seen s dn p)(hr:rb<wo.heap.size)(htb:wo.heap.size<=tb)(x:Ex rb W W')(r:Rd W' rb m'):HI rb m' wo W' tb seen s dn p:=by obtain⟨hE,⟨ov,ops,hB,hO,hl⟩,xs,hS,hx⟩:=h;exact⟨⟨hE.1.trans x,r⟩,⟨ov,ops,hB.ex x (by omega),hO.ex x hr,hl⟩,xs,hS.ex x hr,hx⟩
theorem Row.aeW{e:TypeId}{base:Nat}{w:World}{g n c:Nat}{xs:List Int}(h:Row e 1 (one encI) base w (.slice (some ⟨g,0,none⟩) n c) xs)(j:Nat)(y:Int) :
 Row e 1 (one encI) base (w.setCell ⟨g,j,none⟩ (.int .i64 y)) (.slice (some ⟨g,0,none⟩) n c) (xs.set j y):=by
 have key:∀xs:List Int,xs.flatMap (aH 1 (one encI))=xs.map encI:=λxs=>by
  induction xs with
  | nil=>rfl
  | cons x xs ih=>rw[agD,ih];rfl
 unfold Row at *;rw[key]at *;have hn:n=xs.length:=by
  rcases h.2 with ⟨h',_⟩|⟨g',cap',cur,h',_⟩
  ·simp at h'
  ·injection h'
 subst hn
 have:=(World.ownsRow.stored h j (.int .i64 y)).1
 rw[iE,show (xs.set j y).map encI=(xs.map encI).set j (.int .i64 y) from by rw[List.map_set];rfl];exact this
theorem HI.stored{rb m tb p sb n c:Nat}{wo W:World}{s:Int}{dn:Bool}(h:HI rb m wo W tb (.slice (some ⟨sb,0,none⟩) n c) s dn p)(hr:rb<wo.heap.size)(j:Nat)(y:Int):HI rb m wo (W.setCell ⟨sb,j,none⟩ (.int .i64 y)) tb (.slice (some ⟨sb,0,none⟩) n c) s dn p:=by
 obtain⟨hE,⟨ov,ops,hB,hO,hl⟩,xs,hS,hx⟩:=h;have h0:0<xs.length:=by omega
 obtain⟨g,cap,hv,hb,_,_⟩:∃g cap,Value.slice (some ⟨sb,0,none⟩) n c=.slice (some ⟨g,0,none⟩) xs.length cap/\wo.heap.size<=g/\g<W.heap.size/\xs.length<=cap:=by
  rcases hS.2 with ⟨_,h0'⟩|⟨g,cap,cur,hv,hb,hg,hnc,_⟩
  ·omega
  ·exact⟨g,cap,hv,hb,(fF.1 hg).1,hnc⟩
 injection hv with e1 e2 e3;injection e1 with e1;injection e1 with e1 _;subst e1 e2;have ho:(Value.slice (some ⟨sb,0,none⟩) xs.length c).ownBlock=some sb:=by simp[Value.ownBlock]
 refine⟨hE.set hr hb _ _,⟨ov,ops,hB.set (λe=>hS.UD hB (by decide) (e▸ho)) _ _,hO.keep (jZ _ ⟨sb,j,none⟩ _) (λk hk e=>?_),hl⟩,_,hS.aeW j y,by simpa using hx⟩;exact hO.off hS (by decide) k hk (ho.trans e)
theorem HI.facts{rb m tb p sb c:Nat}{wo W:World}{s:Int}{dn:Bool}(h:HI rb m wo W tb (.slice (some ⟨sb,0,none⟩) 3 c) s dn p):sb≠tb/\(∀y:Nat,y<=2->∃x:Int,W.cell? ⟨sb,y,none⟩=some (.int .i64 x))/\∀y,W.frozen? ⟨sb,y,none⟩=false:=by
 obtain⟨hE,⟨ov,ops,hB,hO,hl⟩,xs,hS,hx⟩:=h;refine⟨λe=>hS.UD hB (by decide) (e▸by simp[Value.ownBlock]),λy hy=>?_,λy=>hS.cell.2.yH (by omega) y⟩;obtain⟨x,hxx⟩:=ah (show y<xs.length by omega);obtain⟨A,c',hA,hc⟩:=hS.cell.1;injection hA with e1 _ _;subst e1;obtain⟨b,off,hb,_,hcell⟩:=hc (by omega);injection hb with hb;injection hb with e1 e2;subst e1 e2
 have:=hcell y x hxx 0 (by omega)
 simp only[ig,Nat.mul_one,fE]at this;exact⟨x,this⟩
theorem ack(w:World)(n:Nat)(hn:w.heap.size=n)(x:aV):aL 3 encOpr (w.alloc (.cells #[.int .i64 x.kind,.int .i64 x.key,.int .i64 x.value] 67)) (.slice (some ⟨n,0,none⟩) 1 1) [x]:=aL.Tu (m:=3) (enc:=encOpr) w n _ _ 1 [x] rfl hn
theorem HL.next{rb m0 m1 q:Nat}{w wo W:World}{out st ov:Value}{ops:List aV}(hr:rb<w.heap.size)(HA:HL rb m0 w wo out st q)(hE:ER rb m1 wo W)(hO:Row 67 3 encOpr wo.heap.size W ov ops) :
 ∃rs h,ng w.heap.size W out rs h/\h.length+q<=5/\(∀t∈h,t.ops.length<=4)/\kV w.heap.size W ov ops/\ER rb m1 w W/\NG w.heap.size W st:=by
 obtain⟨h1,⟨rs,h,h2,h3,h4⟩,h5⟩:=HA;exact⟨rs,h,h2.ex hE.1 hr,h3,h4,(kV.row hO).mono h1.size,⟨h1.1.trans hE.1,hE.2⟩,h5.ex hE.1 hr⟩
theorem HL.pushed{rb m q:Nat}{w W W1 w9:World}{out st v9:Value}{rs:List jg}{h:List aG}{r:jg}{t:aG}(hr:rb<w.heap.size)(H:ng w.heap.size W out rs h)(hl:h.length+q<=5)(hq:0<q)(hM:∀t∈h,t.ops.length<=4)(hE:ER rb m w W)(hS:NG w.heap.size W st)(b:Ext W W1)(ht:t.ops.length<=4)
 (hH:ng w.heap.size w9 v9 (rs++[r]) (h++[t])) (hg:W1.grownBy w9 out.ownBlock):HL rb m w w9 v9 st (q-1):=by
 refine⟨(hE.ext b).grown hg hr (λk hk=>H.row.block k hk),⟨_,_,hH,by simp;omega,λx hx=>?_⟩,(hS.ext b).grown hg ((hS.ext b).far (H.row.ext b) (by decide))⟩;rcases iR.1 hx with hx|hx
 ·exact hM x hx
 ·simp at hx;subst hx;exact ht
theorem iM.zeros{w:World}(n:Nat)(b c:Nat)(T:TypeId)(hw:w.heap[b]? =some (.cells ((List.replicate n (⟨0,.slice none 0 0,false⟩:jg)).flatMap (aH 3 encTxV)).toArray T (0,0))):iM w (.slice (some ⟨b,0,none⟩) n c) (List.replicate n ⟨0,[],false⟩):=by
 refine⟨List.replicate n ⟨0,.slice none 0 0,false⟩,by simp,?_,λi r t hr ht=>?_⟩
 ·refine⟨_,c,by simp,λ_=>⟨b,0,rfl,(fF.1 hw).1,λi x hx j hj=>?_⟩⟩;have h1:=uU (enc:=encTxV) hx hj;simp only[World.cell?,hw,ig];simpa using h1
 ·obtain rfl:=List.eq_of_mem_replicate (aM hr);obtain rfl:=List.eq_of_mem_replicate (aM ht);exact⟨rfl,rfl,aL.nil _ _ _ _ _,λA n c e=>by cases e;exact⟨av _,by omega⟩⟩
theorem ng.entry{base n c k:Nat}{w:World}{A:Option Addr}{rs:List jg}{h:List aG}(H:ng base w (.slice A n c) rs h)(hk:k<h.length) :
 ∃g t B c',A=some ⟨g,0,none⟩/\rs[k]? =some ⟨t.az,.slice B t.ops.length c',t.done⟩/\h[k]? =some t/\kV base w (.slice B t.ops.length c') t.ops/\w.cell? ⟨g,k*3,none⟩=some (.int .i64 t.az)/\w.cell? ⟨g,k*3+1,none⟩=some (.slice B t.ops.length c')/\w.cell? ⟨g,k*3+2,none⟩=some (.bool t.done)/\base<=g/\g<w.heap.size/\∀i,w.frozen? ⟨g,i,none⟩=false:=by
 have hkr:k<rs.length:=by rw[H.len];exact hk
 obtain⟨r,hr⟩:=ah hkr;obtain⟨t,ht⟩:=ah hk;obtain⟨e1,e2,hO⟩:=H.rows k r t hr ht;obtain⟨B,c',hv,_⟩:=id hO.1;obtain⟨rs1,rv,rd⟩:=r;simp only at e1 e2 hv hO;subst e1 e2 hv;have hrow:=H.row;rcases id hrow.2 with ⟨_,h0⟩|⟨g,cap,cur,hv,hb,hg,hnc,_⟩
 ·omega
 injection hv with e1 _ _;subst e1;obtain⟨A',c'',hA,hc⟩:=hrow.cell.1;injection hA with e1 _ _;subst e1;obtain⟨b,off,hb',hlt,hcell⟩:=hc (by omega);injection hb' with hb';injection hb' with e1 e2;subst e1 e2;have c0:=hcell k _ hr 0 (by omega);have c1:=hcell k _ hr 1 (by omega);have c2:=hcell k _ hr 2 (by omega);simp only[ig,fE]at c0 c1 c2;have hn:0<n:=by omega
 exact⟨g,t,B,c',rfl,hr,ht,hO,c0,c1,c2,hb,(fF.1 hg).1,λi=>hrow.cell.2.yH hn i⟩
theorem ng.swap{base n c g k:Nat}{w:World}{rs:List jg}{h:List aG}{r0 r1:jg}{t0 t1:aG}(H:ng base w (.slice (some ⟨g,0,none⟩) n c) rs h)(hk:k+1<rs.length)(a0:r0.az=t0.az)(b0:r0.done=t0.done)(o0:kV base w r0.dA t0.ops)(a1:r1.az=t1.az)(b1:r1.done=t1.done)(o1:kV base w r1.dA t1.ops) :
 ng base (yc (yc w g k r1) g (k+1) r0) (.slice (some ⟨g,0,none⟩) n c) ((rs.set k r1).set (k+1) r0) ((h.set k t1).set (k+1) t0):=
 (H.put (by omega) a1 b1 o1).put (by simpa using hk) a0 b0 (o0.grown (Ij w g k r1) (λa n c e hn e'=>o0.far H.row (by decide) a n c e hn (by rw[<-e'];simp[Value.ownBlock])))
theorem kV.lit{base n c:Nat}(w:World)(cs:Array Value)(xs:List aV)(hcs:cs.toList=xs.flatMap (aH 3 encOpr))(hn:w.heap.size=n)(hb:base<=n)(hc:xs.length<=c/\c<=9223372036854775807):kV base (w.alloc (.cells cs 67)) (.slice (some ⟨n,0,Option.none⟩) xs.length c) xs:=by
 subst hn;refine⟨aL.lit w cs _ c xs hcs,nG hc.1 hc.2,λa m d e hm=>?_,λa m d e hm=>?_⟩
 ·injection e with e _ _;injection e with e;subst e;exact⟨hb,by simp,λi=>by simp only[World.frozen?,dP];simp⟩
 ·injection e with e _ _;injection e with e;subst e;exact⟨cs,_,dP w _⟩
def HF(rb m:Nat)(w W:World)(out:Value):Prop:=ER rb m w W/\∃rs h,ng w.heap.size W out rs h/\h.length<=5/\∀t∈h,t.ops.length<=4
theorem HF.ex{rb m m':Nat}{w W W':World}{out:Value}(h:HF rb m w W out)(hr:rb<w.heap.size)(x:Ex rb W W')(r:Rd W' rb m'):HF rb m' w W' out:=by obtain⟨hE,rs,l,hD,hl,hM⟩:=h;exact⟨⟨hE.1.trans x,r⟩,rs,l,hD.ex x hr,hl,hM⟩
theorem HF.ext{rb m:Nat}{w W W':World}{out:Value}(h:HF rb m w W out)(b:Ext W W'):HF rb m w W' out:=by obtain⟨hE,rs,l,hD,hl,hM⟩:=h;exact⟨hE.ext b,rs,l,hD.ext b,hl,hM⟩
theorem HF.end{rb m:Nat}{w W W1 w9:World}{out v9:Value}{rs:List jg}{l:List aG}{r:jg}{t:aG}(hr:rb<w.heap.size)(hE:ER rb m w W)(hD:ng w.heap.size W out rs l)(hl:l.length<=5)(hM:∀t∈l,t.ops.length<=4)(b:Ext W W1)(ht:t.ops.length<=6)(hH:ng w.heap.size w9 v9 (rs++[r]) (l++[t]))(hg:W1.grownBy w9 out.ownBlock) :
 (∀W,Ex rb w9 W->iM W v9 (l++[t]))/\(l++[t]).length<=7/\(∀x∈l++[t],x.ops.length<=6)/\ER rb m w w9:=by
 refine⟨λW x=>(hH.ex x hr).his,by simp;omega,λx hx=>?_,(hE.ext b).grown hg hr (λk hk=>hD.row.block k hk)⟩;rcases iR.1 hx with hx|hx
 ·have:=hM x hx;omega
 ·simp at hx;subst hx;exact ht
theorem Tg{rb m g k:Nat}{w W:World}(r:jg)(h:ER rb m w W)(hr:rb<w.heap.size)(hg:w.heap.size<=g):ER rb m w (yc W g k r):=((h.set hr hg _ _).set hr hg _ _).set hr hg _ _
def abz(rb m:Nat)(w:World)(e:Ending)(w':World):Prop:=∃v h,e=.returned v/\(∀W,Ex rb w' W->iM W v h)/\h.length<=7/\(∀t∈h,t.ops.length<=6)/\ER rb m w w'
theorem xW(rb m:Nat)(most n:Int)(w:World)(h:Rd w rb m)(hm:m<=100000)(h1:1<=most)(h2:most<=4)(hn:n<=1000000) :
 Calls Tryz.prog 21 #[.pointer (some ⟨rb,0,none⟩),.int .i64 most,.int .i64 n] w (abz rb (m+200) w):=by
 have hrl:=h.lt;obtain⟨ZT,hZT⟩:∃ZT,List.replicate 7 (⟨0,.slice none 0 0,false⟩:jg)=ZT:=⟨_,rfl⟩;have hmk:∀W,(Instr.makeSlice 23 (.int .i64 7) (.int .i64 7)).run Tryz.prog W=.ok (.slice (some ⟨W.heap.size,0,none⟩) 7 7) (W.alloc (.cells ((List.replicate 7 (⟨0,.slice none 0 0,false⟩:jg)).flatMap (aH 3 encTxV)).toArray 48)):=by
  intro W;have hr:=lJ (P:=Tryz.prog) 23 48 kC Qp 7 (by omega) (by omega) W;have hm:madeCells (Value.agg #[.int .i64 0,.slice none 0 0,.bool false]).cells (7*3)=((List.replicate 7 (⟨0,.slice none 0 0,false⟩:jg)).flatMap (aH 3 encTxV)).toArray:=by kernel_rfl
  rw[hm]at hr;exact hr
 have hmi:∀W,(Instr.makeSlice 56 (.int .i64 3) (.int .i64 3)).run Tryz.prog W=.ok (.slice (some ⟨W.heap.size,0,none⟩) 3 3) (W.alloc (.cells #[.int .i64 0,.int .i64 0,.int .i64 0] 3)):=by
  intro W;have hr:=lJ (P:=Tryz.prog) 56 3 Mm PG 3 (by omega) (by omega) W;have hm:madeCells (Value.int .i64 0).cells (3*1)=#[.int .i64 0,.int .i64 0,.int .i64 0]:=by kernel_rfl
  rw[hm]at hr;exact hr
 have HZ:Hid (∀W W':World,rb<W.heap.size->Ex rb (W.alloc (.cells (ZT.flatMap (aH 3 encTxV)).toArray 48)) W'->iM W' (.slice (some ⟨W.heap.size,0,none⟩) 7 7) (List.replicate 7 ⟨0,[],false⟩)):=by show ∀_,_;rw[<-hZT];exact λW W' hr x=>iM.zeros 7 _ _ _ ((World.grownBy.block x _ (by simp) (by simp;omega)).trans (dP W _))
 rw[hZT]at hmk;have HMK:=aa hmk;have HR:=aa h;clear h hZT hmk;go_enter Tryz.func21,Tryz.ntmps21;go_wp2_with fail
 refine(cZ rb _ (most+1) _ ((HR.out.alloc _).alloc _) (by omega) (by omega) (by omega)).mono ?_
 rintro e w2 ⟨K,rfl,k0,k1,r2,x2⟩;obtain⟨K,rfl⟩:=dZ k0;have Yi:Hid (HL rb (m+10) w w2 (.slice (some ⟨w.heap.size,0,none⟩) 0 0) (.slice (some ⟨w.heap.size+1,0,none⟩) 3 3) K):=by
  refine⟨⟨(((Ex.refl rb w).alloc _).alloc _).trans x2,r2.mono (by omega)⟩,⟨[],[],((ng.made w).ext ((af _).alloc _)).ex x2 hrl,by simp;omega,λt ht=>by cases ht⟩,?_⟩;refine NG.ex (w:=(w.alloc (.cells #[] 48)).alloc (.cells #[.int .i64 0,.int .i64 0,.int .i64 0] 3)) ⟨[0,0,0],aL.Tu (m:=1) (enc:=one encI) (w.alloc (.cells #[] 48)) (w.heap.size+1) #[.int .i64 0,.int .i64 0,.int .i64 0] 3 3 [0,0,0] rfl (nY _ _),rfl,?_⟩ x2 hrl;refine⟨?_,λa n c e _=>⟨#[.int .i64 0,.int .i64 0,.int .i64 0],(0,0),?_⟩⟩;case refine_2=>
   injection e with e _ _;injection e with e;subst e
   have:=dP (w.alloc (.cells #[] 48)) (.cells #[.int .i64 0,.int .i64 0,.int .i64 0] 3)
   simpa using this
  exact(ny.own (g:=w.heap.size+1) (N:=3) (by have:=ny.made (w.alloc (.cells #[] 48)) #[.int .i64 0,.int .i64 0,.int .i64 0] 3;simpa using this) (by omega) _ _ _)
 clear r2 x2 HR hmi;go_wp2;go_loopw [7,8,9,10] (λout nx st k wr=>∃(q nn:Nat) (ov sv:Value),ov=out/\sv=st/\q<=4/\k=.int .i64 (q:Int)/\nx=.int .i64 (nn:Int)/\1<=nn/\nn+5*q<=40/\Hid (HL rb (m+130-30*q) w wr ov sv q)) (λ_ _ _ k _=>(intOf k).toNat)
 case atStart=>exact⟨K,1,_,_,rfl,rfl,by omega,rfl,rfl,by omega,by omega,⟨Yi.out.1.mono (by omega),Yi.out.2⟩⟩
 case round=>
  clear Yi;obtain⟨q,nn,out,st,rfl,rfl,hq,rfl,rfl,hn1,hn2,HA⟩:=hrel;obtain⟨wo,rfl⟩:∃wo:World,wo=wr:=⟨_,rfl⟩;have hwo:rb<wo.heap.size:=bR hrl HA.out.1.size;by_cases hq0:0<q
  ·go_wp2_with fail
   refine(cZ rb _ 3 _ HA.out.1.2 (by omega) (by omega) (by omega)).mono ?_
   rintro e w3 ⟨s,rfl,s0,s1,r3,x3⟩;go_wp2_with fail
   refine(cZ rb _ 6 _ (r3.alloc _) (by omega) (by omega) (by omega)).mono ?_
   rintro e w4 ⟨d,rfl,d0,d1,r4,x4⟩;obtain⟨dn,hdn⟩:∃dn,decide (0<d)=dn:=⟨_,rfl⟩;obtain⟨A0,c0,hst⟩:∃A c,st=.slice A 3 c:=by obtain⟨xs,⟨A,c,e,_⟩,hx,_⟩:=HA.out.2.2;rw[hx]at e;exact⟨A,c,e⟩
   subst hst;have hx3:=x3.size;have hx4:w3.heap.size+1<=w4.heap.size:=by have:=x4.size;simpa using this
   have sU:Hid (ER rb (m+130-30*q+2) wo w4):=⟨(x3.alloc _).trans x4,r4⟩;have HO4:=aa ((Row.made (m:=3) (enc:=encOpr) w3 67).low hx3 |>.ex x4 hwo);have K6:=aa (((HA.out.2.2.ex x3 hrl).ext ((af _).alloc (.cells #[] 67))).ex x4 hrl);clear r3 x3 r4 x4;obtain⟨ys,hys,hyl,-⟩:=K6.out;have HYS:=aa hys;clear hys;go_wp2_with (at_builtin;refine acy rfl rfl rfl rfl (Row.YF (m:=1) (enc:=one encI) (nY w4 (.cells #[.int .i64 s,.slice (some ⟨w3.heap.size,0,none⟩) 0 0,.bool dn] 48)) 3) (HYS.out.ext (((af _).alloc _).alloc _)) (by simp;omega) (by simp) ?_;intro v5 w5 hrow hg;obtain⟨A5,c5,rfl,-⟩:=id hrow.cell.1;have WZ:=aa (aB hrow hg);clear hrow hg)
   rw[List.nil_append]at WZ;obtain⟨sb,cap,hv,-,-,-⟩:∃g cap,Value.slice A5 3 c5=.slice (some ⟨g,0,none⟩) ys.length cap/\True/\True/\True:=by
    rcases WZ.out.1.2 with ⟨_,h0⟩|⟨g,cap,cur,hv,hb,hg,hnc,_⟩
    ·omega
    ·exact⟨g,cap,by rw[<-hv,hyl],trivial,trivial,trivial⟩
   injection hv with e1 e2 e3;subst e1;clear e2 e3;have Eo:=WZ.out.1;rw[hyl]at Eo;have HJ5:Hid (HI rb (m+130-30*q+2) wo w5 w4.heap.size (.slice (some ⟨sb,0,none⟩) 3 c5) s dn 4):=by have hB:=(B3.made w4 (.int .i64 s) (.slice (some ⟨w3.heap.size,0,none⟩) 0 0) (.bool dn) 48).ext ((af _).alloc (.cells #[] 3));have hb:=((af w4).alloc (.cells #[.int .i64 s,.slice (some ⟨w3.heap.size,0,none⟩) 0 0,.bool dn] 48)).alloc (.cells #[] 3);have hR:=Row.YF (α:=Int) (m:=1) (enc:=one encI) (nY w4 (.cells #[.int .i64 s,.slice (some ⟨w3.heap.size,0,none⟩) 0 0,.bool dn] 48)) 3;refine⟨(sU.out.ext hb).grown WZ.out.2 hwo (λk hk=>aX (aX sU.out.size (iD _)) (hR.block k hk)),⟨_,[],hB.grown WZ.out.2 (hR.UD hB (by decide)),(HO4.out.ext hb).keep WZ.out.2 (λk hk=>(HO4.out.ext hb).off hR (by decide) k hk),by simp⟩,ys,Eo.low (aX sU.out.size (iD _)),hyl⟩
   have htb:wo.heap.size<=w4.heap.size:=sU.out.size;obtain⟨tb,acw⟩:∃tb,w4.heap.size=tb:=⟨_,rfl⟩;rw[acw]at HJ5 htb ⊢;clear WZ Eo sU HO4 K6 HYS hyl hx3 hx4 acw
   refine(cZ rb _ 5 _ HJ5.out.1.2 (by omega) (by omega) (by omega)).mono ?_
   rintro e w6 ⟨j,rfl,j0,j1,r6,x6⟩;obtain⟨j,rfl⟩:=dZ j0;have HJ6:=aa (HJ5.out.ex hwo htb x6 r6);clear HJ5 r6 x6;go_wp2;go_loopw [8,13] (λnx j wr=>∃(p n2:Nat),p<=4/\j=.int .i64 (p:Int)/\nx=.int .i64 (n2:Int)/\1<=n2/\n2+p<=nn+4/\Hid (HI rb (m+130-30*q+25-5*p) wo wr tb (.slice (some ⟨sb,0,none⟩) 3 c5) s dn p)) (λ_ j _=>(intOf j).toNat)
   case atStart=>exact⟨j,nn,by omega,rfl,rfl,by omega,by omega,⟨HJ6.out.1.mono (by omega),let ⟨ov,ops,a,b,c⟩:=HJ6.out.2.1;⟨ov,ops,a,b,by omega⟩,HJ6.out.2.2⟩⟩
   case round=>
    clear HJ6;obtain⟨p,n2,hp,rfl,rfl,hm1,hm2,HJ⟩:=hrel;by_cases hp0:0<p
    ·go_wp2_with fail
     refine(cZ rb _ 5 _ (HJ.out.1.2.alloc _) (by omega) (by omega) (by omega)).mono ?_
     rintro e w6 ⟨i,rfl,i0,i1,r6,x6⟩;obtain⟨i,rfl⟩:=dZ i0;obtain⟨u,cu,y,rfl,hy0,hy2⟩:=JB (λv=>∃y:Int,v=.int .i64 y/\0<=y/\y<=2) x6 (bR hwo HJ.out.1.size) i (by simp;omega) (by simp);obtain⟨y,rfl⟩:=dZ hy0;have HJ6:=aa ((HJ.out.ext ((af _).alloc _)).ex hwo htb x6 r6);clear HJ r6 x6;go_wp2_with fail
     refine(cZ rb _ 2 _ HJ6.out.1.2 (by omega) (by omega) (by omega)).mono ?_
     rintro e w7 ⟨z,rfl,z0,z1,r7,x7⟩;have HJ7:=aa (HJ6.out.ex hwo htb x7 r7);clear HJ6 r7 x7 cu;obtain⟨hne,hcx,hfx⟩:=HJ7.out.facts;obtain⟨x,hx⟩:=hcx y (by omega);have hf:=hfx y;clear hcx hfx;by_cases hz:z=0
     case' pos=>
      subst hz;have HJ8:=aa (HJ7.out.stored hwo y (n2:Int));clear HJ7
     case' neg=>
      go_wp2_with fail
      refine(cZ rb _ 5 _ HJ7.out.1.2 (by omega) (by omega) (by omega)).mono ?_
      rintro e w8 ⟨k,rfl,k0,k1,r8,x8⟩;have HJ8:=aa (HJ7.out.ex hwo htb x8 r8);clear HJ7 r8 x8 hx hf;by_cases hk:k=0
      case' pos=>
       subst hk;go_wp2_with fail
       refine(cZ rb _ ((n2:Int)+1) _ HJ8.out.1.2 (by omega) (by omega) (by omega)).mono ?_
       rintro e Yf ⟨l,rfl,l0,l1,V7,Un⟩;have ab3:=aa (HJ8.out.ex hwo htb Un V7);clear HJ8 V7 Un;go_wp2_with fail
       refine(cZ rb _ 2 _ ab3.out.1.2 (by omega) (by omega) (by omega)).mono ?_
       rintro e w11 ⟨o,rfl,o0,o1,r11,x11⟩;have HJ8:=aa (ab3.out.ex hwo htb x11 r11);clear ab3 r11 x11;by_cases ho:o=0
       case' pos=>subst ho
     all_goals
      obtain⟨hE,⟨ov,ops,hB,hO,hol⟩,xs,hS,hxl⟩:=HJ8.out;obtain⟨A8,c8,rfl,-⟩:=id hO.cell.1;have HX:=aa (aB hE (aB hB (aB hO (aB hS hxl))));have b1:=hB.c1;have afH:ops.length+1<=4194304:=by omega
      clear hE hB hO hS hxl HJ8;go_wp2_with (at_builtin;refine halt ?_)
      refine Halt.go ?_;refine acv rfl rfl rfl rfl (HX.out.2.2.1.ext ((af _).alloc _)) (ack _ _ (by first|rfl|simp[World.setCell]) ⟨_,_,_⟩) afH (HX.out.1.alloc _).size ?_;intro v9 w9 hrow hg;obtain⟨A9,c9,e9,-⟩:=id hrow.cell.1;simp only[dw,eO,iJ,ig]at e9;subst e9;obtain⟨hB9,hN⟩:=HI.I4 hwo htb HX.out.1 HX.out.2.1 HX.out.2.2.1 hol hp0 HX.out.2.2.2.1 HX.out.2.2.2.2 ((af _).alloc _) hrow hg;have HN:=aa hN;have y1:=hB9.c1;have f1:=hB9.fr 1;clear hrow hg hN hB9 b1;go_wp2;go_roundw;case rel=>first|exact⟨p-1,n2+1,by omega,by go_num,by go_num,by omega,by omega,⟨HN.out.1.mono (by omega),HN.out.2⟩⟩|exact⟨p-1,n2,by omega,by go_num,by go_num,by omega,by omega,⟨HN.out.1.mono (by omega),HN.out.2⟩⟩
      case measure=>simp[intOf];omega
    ·obtain rfl:p=0:=by omega
     clear hp0;obtain⟨hE,⟨ov,ops,hB,hO,hol⟩,xs,hS,hxl⟩:=HJ.out;obtain⟨A8,c8,rfl,-⟩:=id hO.cell.1;clear HJ;cases dn
     case' true=>
      have b2:=hB.c2;have HY:=aa (aB hE (aB hB (aB hO (aB hS hxl))));clear hE hB hO hS hxl;go_wp2_with fail
      refine(cZ rb _ 3 _ HY.out.1.2 (by omega) (by omega) (by omega)).mono ?_
      rintro e w7 ⟨z,rfl,z0,z1,r7,x7⟩;clear b2;have hE:ER rb (m+130-30*q+26) wo w7:=⟨HY.out.1.1.trans x7,r7.mono (by omega)⟩;have hB:=HY.out.2.1.ex x7 (by omega);have hO:=HY.out.2.2.1.ex x7 hwo;have hS:=HY.out.2.2.2.1.ex x7 hwo;have hxl:=HY.out.2.2.2.2;clear HY x7 r7;by_cases hz:0<z
     all_goals
      obtain⟨rs,h,hD,hl,hM,hO2,hE2,hS2⟩:=HL.next hrl HA.out hE hO;have hq5:h.length+1<=4194304:=by omega
      have HX:=aa (aB hD (aB hM (aB hO2 (aB hE2 (aB hS2 (NG.row hS hxl HA.out.1.size))))));have b0:=hB.c0;have b1:=hB.c1;have b2:=hB.c2;clear hE hB hO hS hxl HA hD hM hO2 hE2 hS2;go_wp2_with (at_builtin;refine halt ?_)
      refine Halt.go ?_;refine Tp (r:=⟨s,.slice A8 ops.length c8,_⟩) ⟨s,ops,_⟩ rfl rfl rfl rfl (HX.out.1.ext ((af _).alloc _)) (aL.lit _ _ _ _ [(⟨s,.slice A8 ops.length c8,_⟩:jg)] rfl) rfl hq5 (HX.out.2.2.2.1.alloc _).size rfl rfl (HX.out.2.2.1.ext ((af _).alloc _)) ?_;intro v9 w9 hH hg;have HN:=aa (λst hst=>HL.pushed (st:=st) hrl HX.out.1 hl hq0 HX.out.2.1 HX.out.2.2.2.1 hst ((af _).alloc _) (show ops.length<=4 by omega) hH hg);clear hH hg b0 b1 b2;go_wp2;go_roundw;case rel=>first|exact⟨q-1,n2,_,(.slice A0 3 c0),rfl,rfl,by omega,by go_num,rfl,by omega,by omega,⟨(HN.out _ HX.out.2.2.2.2.1).1.mono (by omega),(HN.out _ HX.out.2.2.2.2.1).2⟩⟩|exact⟨q-1,n2,_,_,rfl,rfl,by omega,by go_num,rfl,by omega,by omega,⟨(HN.out _ HX.out.2.2.2.2.2).1.mono (by omega),(HN.out _ HX.out.2.2.2.2.2).2⟩⟩
      case measure=>simp[intOf];omega
  ·obtain rfl:q=0:=by omega
   clear hq0;obtain⟨hE,⟨rs,h,hD,hl,hM⟩,-⟩:=HA.out;obtain⟨A,c,rfl⟩:=hD.slice;clear HA;have HZ2:=HZ;by_cases hl1:1<h.length
   case' neg=>
    have Zr:Hid (HF rb (m+140) w wo (.slice A h.length c)):=⟨hE.mono (by omega),rs,h,hD,by omega,hM⟩;clear hE hD hM;go_wp2_with fail
   case' pos=>
    have hp3:=cZ rb (m+130) 3 wo (hE.2.mono (by omega)) (by omega) (by omega) (by omega);have HP3:=aa hp3;have HY:=aa (aB hE (aB hD hM));clear hE hD hM hp3;go_wp2_with fail
    refine HP3.out.mono ?_;rintro e w3 ⟨z,rfl,z0,z1,r3,x3⟩;have hE:ER rb (m+131) w w3:=⟨HY.out.1.1.trans x3,r3⟩;have hD:=HY.out.2.1.ex x3 hrl;have hM:=HY.out.2.2;clear HP3 HY r3 x3;by_cases hz:z=0
    case' neg=>
     have Zr:Hid (HF rb (m+140) w w3 (.slice A h.length c)):=⟨hE.mono (by omega),rs,h,hD,by omega,hM⟩;clear hE hD hM;go_wp2_with fail
    case' pos=>
     subst hz;have HY:=aa (aB hE (aB hD hM));clear hE hD hM;go_wp2_with fail
     refine(cZ rb _ _ _ HY.out.1.2 (by omega) (by omega) (by omega)).mono ?_
     rintro e w4 ⟨k,rfl,k0,k1,r4,x4⟩;obtain⟨k,rfl⟩:=dZ k0;have hE:ER rb (m+132) w w4:=⟨HY.out.1.1.trans x4,r4⟩;have hD:=HY.out.2.1.ex x4 hrl;have hM:=HY.out.2.2;clear HY r4 x4;obtain⟨g,t0,B0,d0,e0,hr0,ht0,o0,p0,p1,p2,hgb,hgl,hgf⟩:=hD.entry (k:=k) (by omega);subst e0;obtain⟨g',t1,B1,d1,e1,hr1,ht1,o1,q0,q1,q2,-,-,-⟩:=hD.entry (k:=k+1) (by omega);injection e1 with e1;injection e1 with e1 _;subst e1;have hsw:=hD.swap (k:=k) (r0:=⟨t0.az,.slice B0 t0.ops.length d0,t0.done⟩) (r1:=⟨t1.az,.slice B1 t1.ops.length d1,t1.done⟩) (t0:=t0) (t1:=t1) (by rw[hD.len];omega) rfl rfl o0 rfl rfl o1;have Zr:Hid (HF rb (m+140) w ((yc (yc w4 g k ⟨t1.az,.slice B1 t1.ops.length d1,t1.done⟩) g (k+1) ⟨t0.az,.slice B0 t0.ops.length d0,t0.done⟩).alloc (.cells #[.int .i64 t0.az,.slice B0 t0.ops.length d0,.bool t0.done] 48)) (.slice (some ⟨g,0,none⟩) h.length c)):=HF.ext (W:=yc (yc w4 g k ⟨t1.az,.slice B1 t1.ops.length d1,t1.done⟩) g (k+1) ⟨t0.az,.slice B0 t0.ops.length d0,t0.done⟩) (b:=(af _).alloc _) ⟨(Tg _ (Tg _ (hE.mono (by omega)) hrl hgb) hrl hgb),_,_,hsw,by simp;omega,λt ht=>by
      rcases List.mem_or_eq_of_mem_set ht with ht|rfl
      ·rcases List.mem_or_eq_of_mem_set ht with ht|rfl
       ·exact hM t ht
       ·exact hM _ (aM ht1)
      ·exact hM _ (aM ht0)⟩
     have hgn:g≠w4.heap.size:=by omega
     have f0:=hgf (k*3);have f1:=hgf (k*3+1);have f2:=hgf (k*3+2);have f3:=hgf ((k+1)*3);have f4:=hgf ((k+1)*3+1);have f5:=hgf ((k+1)*3+2);clear hE hD hM hsw hr0 hr1 ht0 ht1 o0 o1 hgf k0;go_wp2_with fail
   all_goals
    refine(Ga rb _ n _ Zr.out.1.2 (by omega) hn).mono ?_
    rintro e w8 ⟨b,rfl,r8,x8⟩;have HF8:=aa (Zr.out.ex hrl x8 r8);clear Zr r8 x8
    cases b with
    | false=>
      go_wp2;go_returns;obtain⟨hE,rs,l,hD,hl,hM⟩:=HF8.out;exact⟨_,l,rfl,λW x=>(hD.ex x hrl).his,by omega,λt ht=>by have:=hM t ht;omega,hE.mono (by omega)⟩
    | true=>
      go_wp2_with fail
      refine(cZ rb _ 4 _ HF8.out.1.2 (by omega) (by omega) (by omega)).mono ?_
      rintro e w9 ⟨j,rfl,j0,j1,r9,x9⟩;have XC:=aa (HF8.out.ex hrl x9 r9);clear HF8 r9 x9;rcases (by omega:j=0∨j=1∨j=2∨j=3) with rfl|rfl|rfl|rfl
      ·go_wp2_with fail
       refine(cZ rb _ 2 _ (XC.out.1.2.alloc _) (by omega) (by omega) (by omega)).mono ?_
       rintro e Yf ⟨i,rfl,i0,i1,V7,Un⟩;obtain⟨i,rfl⟩:=dZ i0;obtain⟨u,cu,y,rfl⟩:=JB (λv=>∃y:Int,v=.int .i64 y) Un (bR hrl XC.out.1.size) i (by simp;omega) (by simp);have Xd:=aa ((XC.out.ext ((af _).alloc _)).ex hrl Un V7);clear XC V7 Un;obtain⟨hE,rs,l,hD,hl5,hM⟩:=Xd.out;have HX:=aa (aB hD (aB hE hM));have hq5:l.length+1<=4194304:=by omega
       clear hE hD hM Xd;go_wp2_with (at_builtin;refine halt ?_)
       refine Halt.go ?_;refine Tp (r:=⟨y,.slice none 0 0,false⟩) ⟨y,[],false⟩ rfl rfl rfl rfl (HX.out.1.ext ((af _).alloc _)) (aL.lit _ _ _ _ [(⟨y,.slice none 0 0,false⟩:jg)] rfl) rfl hq5 (HX.out.2.1.ext ((af _).alloc _)).size rfl rfl (kV.none _ _) ?_;intro v9 w9 hH hg;have HN:=aa (HF.end hrl HX.out.2.1 HX.out.1 hl5 HX.out.2.2 ((af _).alloc _) (by simp) hH hg);clear hH hg;go_wp2;go_returns;exact⟨_,_,rfl,HN.out.1,HN.out.2.1,HN.out.2.2.1,HN.out.2.2.2.mono (by omega)⟩
      ·skip
       obtain⟨hE,rs,l,hD,hl5,hM⟩:=XC.out;have HX:=aa (aB hD (aB hE hM));have hq5:l.length+1<=4194304:=by omega
       clear hE hD hM XC;go_wp2_with (at_builtin;refine halt ?_)
       refine Halt.go ?_;refine Tp (r:=⟨0,.slice (some ⟨w9.heap.size,0,none⟩) 2 2,false⟩) ⟨0,[⟨2,0,90⟩,⟨2,0,90⟩],false⟩ rfl rfl rfl rfl (HX.out.1.ext (((af _).alloc _).alloc _)) (aL.Tu _ _ _ _ _ [(⟨0,.slice (some ⟨w9.heap.size,0,none⟩) 2 2,false⟩:jg)] rfl (nY _ _)) rfl hq5 (HX.out.2.1.ext (((af _).alloc _).alloc _)).size rfl rfl ((kV.lit w9 _ [⟨2,0,90⟩,⟨2,0,90⟩] rfl rfl HX.out.2.1.size (by decide)).ext ((af _).alloc _)) ?_;intro v9 w9 hH hg;have HN:=aa (HF.end hrl HX.out.2.1 HX.out.1 hl5 HX.out.2.2 (((af _).alloc _).alloc _) (by simp) hH hg);clear hH hg;go_wp2;go_returns;exact⟨_,_,rfl,HN.out.1,HN.out.2.1,HN.out.2.2.1,HN.out.2.2.2.mono (by omega)⟩
      ·go_wp2_with fail
       refine(VH rb _ 1 _ XC.out.1.2 (by omega) (by omega)).mono ?_
       rintro e Yf ⟨o,rfl,Un,V7⟩;have Xd:=aa (XC.out.ex hrl Un V7);clear XC V7 Un;obtain⟨hE,rs,l,hD,hl5,hM⟩:=Xd.out;have HX:=aa (aB hD (aB hE hM));have hq5:l.length+1<=4194304:=by omega
       clear hE hD hM Xd;go_wp2_with (at_builtin;refine halt ?_)
       refine Halt.go ?_;refine Tp (r:=⟨0,.slice (some ⟨Yf.heap.size,0,none⟩) 1 1,false⟩) ⟨0,[o],false⟩ rfl rfl rfl rfl (HX.out.1.ext (((af _).alloc _).alloc _)) (aL.Tu _ _ _ _ _ [(⟨0,.slice (some ⟨Yf.heap.size,0,none⟩) 1 1,false⟩:jg)] rfl (nY _ _)) rfl hq5 (HX.out.2.1.ext (((af _).alloc _).alloc _)).size rfl rfl ((kV.lit Yf _ [o] rfl rfl HX.out.2.1.size (by simp)).ext ((af _).alloc _)) ?_;intro v9 w9 hH hg;have HN:=aa (HF.end hrl HX.out.2.1 HX.out.1 hl5 HX.out.2.2 (((af _).alloc _).alloc _) (by simp) hH hg);clear hH hg;go_wp2;go_returns;exact⟨_,_,rfl,HN.out.1,HN.out.2.1,HN.out.2.2.1,HN.out.2.2.2.mono (by omega)⟩
      ·have hmk:=HMK.out;go_wp2;go_returns;exact⟨_,_,rfl,λW x=>HZ.out w9 W (bR hrl XC.out.1.size) x,by simp,λt ht=>by
        obtain rfl:=List.eq_of_mem_replicate ht
        simp,(XC.out.1.alloc _).mono (by omega)⟩
