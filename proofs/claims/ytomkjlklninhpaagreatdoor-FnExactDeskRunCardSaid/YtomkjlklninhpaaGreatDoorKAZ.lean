/- Lemmas. -/
import Derived.Test.YtomkjlklninhpaaGreatDoorKAS
import Derived.Test.YtomkjlklninhpaaGreatDoorKAV
import Derived.Test.YtomkjlklninhpaaGreatDoorKAY
import Derived.Deep.DeepCutAuto
set_option maxHeartbeats 16000000
set_option maxRecDepth 8000
set_option linter.all false
namespace Go.Proofs.YtomkjlklninhpaaGreatDoor
open Go.RowKit
section
theorem Ic.ret{base lo:Nat}{W:World}{hv:Value}{rs:List iX}{h:List aA}(H:Ic base W hv rs h)(hl:lo<=base):jI W hv rs h/\Own lo W hv/\∀(i:Nat) r,rs[i]? =some r->Own lo W r.aY:=
 ⟨⟨H.hl,H.hs,fun i r t hr ht=>let ⟨a,b,c⟩:=H.rows i r t hr ht;⟨a,b,c.cell.1,c.cap⟩⟩,H.ho.mono hl,fun i r hr=>by
   obtain⟨t,ht⟩:=af (show i<h.length by rw[<-H.hl];exact(List.getElem?_eq_some_iff.1 hr).1)
   exact(H.rows i r t hr ht).2.2.cell.2.mono hl⟩
section
variable{base q N n:Nat}{W W3:World}{h:List aA}{vals:iV}{kept:Nat->iV}{Ch:Nat->Int->Bool}{bg:Nat->Bool}{sv:Nat->Value}{lg:Nat->Nat}{b off nn c:Nat}{rs:List iX}{r:iX}{t:aA}
theorem mX.note{v3:Value}{o:aQ}(H:mX base q N (.slice (some ⟨b,off,none⟩) nn c) W h vals kept Ch bg sv lg)(hR:Ic base W (.slice (some ⟨b,off,none⟩) nn c) rs h)(hr:rs[n]? =some r)(ht:h[n]? =some t)(hnn:0<nn)
 (P:bH (fun k=>r.aY.ownBlock=some k) W W3) (hp:Row 71 3 aj base W3 v3 (t.ops++[o])) (hv:v3.ownBlock=r.aY.ownBlock∨∃k,v3.ownBlock=some k/\W.heap.size<=k) :
 mX base q N (.slice (some ⟨b,off,none⟩) nn c) (W3.setCell ⟨b,off+n*3+1,none⟩ v3) (h.set n ⟨t.az,t.ops++[o],t.done⟩) vals kept Ch bg sv lg:=by
 obtain⟨hN,hK⟩:=hR.V8 hr ht hnn P hp hv;have hro:=(hR.rows n r t hr ht).2.2;obtain⟨cs,fr,hg⟩:=hR.hi _ _ _ rfl hnn;simp only at hg;have hg3:=P.heap hg (fun e=>by obtain⟨cs',hg'⟩:=dA hro e;rw[hg]at hg';injection hg' with hg';injection hg' with _ e _;exact absurd e (by decide))
 refine H.o8 hK hN (fun i hi hb=>?_);have h1:=Ak (H.sn i hi hb) P (fun j e=>let ⟨cs',hg'⟩:=dA hro e;⟨cs',_,_,hg',by decide⟩);exact Ak h1 (iI W3 b _ _) (fun j e=>⟨_,_,_,e▸hg3,by decide⟩)
theorem mX.end_(H:mX base q N (.slice (some ⟨b,off,none⟩) nn c) W h vals kept Ch bg sv lg)(ht:h[n]? =some t)(hnn:0<nn)(g:Bool) :
 mX base q N (.slice (some ⟨b,off,none⟩) nn c) (W.setCell ⟨b,off+n*3+2,none⟩ (.bool g)) (h.set n ⟨t.az,t.ops,g⟩) vals kept Ch bg sv lg:=by
 obtain⟨rs,hR⟩:=H.rch;obtain⟨r,hr⟩:=af (show n<rs.length by rw[hR.hl];exact(List.getElem?_eq_some_iff.1 ht).1);obtain⟨hN,hK⟩:=hR.PS hr ht hnn g;obtain⟨cs,fr,hg⟩:=hR.hi _ _ _ rfl hnn;simp only at hg;exact H.o8 hK hN (fun i hi hb=>Ak (H.sn i hi hb) (iI W b _ _) (fun j e=>⟨_,_,_,e▸hg,by decide⟩))
end
theorem Ye{b:Nat}{W:World}{v:Value}{s:iV}(h:Row 3 1 (one encI) b W v [s 0,s 1,s 2]){k:Nat}(hk:k<3):∃g c,v=.slice (some ⟨g,0,none⟩) 3 c/\W.cell? ⟨g,k,none⟩=some (.int .i64 (s (k:Int))):=by
 obtain⟨g,c,hv,_⟩:=mK h (by simp);refine⟨g,c,hv,?_⟩;obtain⟨A',c',e,hc⟩:=h.cell.1;obtain⟨b',off,e',hlt,hcc⟩:=hc (by simp);rw[hv]at e;obtain rfl:=(Value.slice.inj e).1;obtain⟨rfl,rfl⟩:g=b'/\off=0:=by simpa[eq_comm] using e'
 have hx:[s 0,s 1,s 2][k]? =some (s (k:Int)):=by
  match k,hk with
  | 0,_=>rfl
  | 1,_=>rfl
  | 2,_=>rfl
 have:=hcc k _ hx 0 (by omega)
 simpa[one,encI] using this
section
variable{base q N n:Nat}{hv:Value}{W:World}{h:List aA}{vals:iV}{kept:Nat->iV}{Ch:Nat->Int->Bool}{bg:Nat->Bool}{sv:Nat->Value}{lg:Nat->Nat}
theorem mX.YG(H:mX base q N hv W h vals kept Ch bg sv lg)(hn:n<N)(hb:bg n=true):W.cell? ⟨q+1,n,none⟩=some (sv n):=by rw[cell_of H.b1,zR _ hn];unfold Dw;rw[if_pos hb]
theorem mX.aa6(H:mX base q N hv W h vals kept Ch bg sv lg)(hn:n<N)(hb:bg n=true){k:Nat}(hk:k<3):∃g c,sv n=.slice (some ⟨g,0,none⟩) 3 c/\W.cell? ⟨g,k,none⟩=some (.int .i64 (kept n (k:Int))):=Ye (s:=kept n) (H.sn n hn hb) hk
theorem mX.JM(H:mX base q N hv W h vals kept Ch bg sv lg)(hn:n<N)(hb:bg n=true):W.cell? ⟨q+2,n,none⟩=some (.slice (some ⟨lg n,0,none⟩) 3 3):=by rw[cell_of H.b2,zR _ hn];unfold qZ;rw[if_pos hb]
theorem mX.Wt(H:mX base q N hv W h vals kept Ch bg sv lg)(hn:n<N)(hb:bg n=false):W.cell? ⟨q+2,n,none⟩=some (.slice none 0 0):=by rw[cell_of H.b2,zR _ hn];unfold qZ;rw[if_neg (by rw[hb];decide)]
theorem mX.R5(H:mX base q N hv W h vals kept Ch bg sv lg)(hn:n<N)(hb:bg n=true){k:Nat}(hk:k<3):q+3<=lg n/\W.cell? ⟨lg n,k,none⟩=some (.bool (Ch n (k:Int)))/\W.frozen? ⟨lg n,k,none⟩=false:=
 ⟨(H.st n hn hb).1,by rw[cell_of (H.st n hn hb).2];exact XX _ hk,Ez (H.st n hn hb).2 k⟩
theorem mX.aa2(H:mX base q N hv W h vals kept Ch bg sv lg){k:Nat}(hk:k<3):W.cell? ⟨q,k,none⟩=some (.int .i64 (vals (k:Int)))/\W.frozen? ⟨q,k,none⟩=false:=
 ⟨by rw[cell_of H.b0];exact YO _ hk,Ez H.b0 k⟩
end
theorem vF.bF{m:nP}(h:vF m)(n:Nat):vF (ak m n):=fun i x=>by
 unfold ak;split
 ·simp only[uO];split
  ·exact Int.le_refl _
  ·exact h i x
 ·exact h i x
theorem Tt{w:World}{a:Addr}(v:Value)(o:Obj)(h:a.block<w.heap.size):(w.setCell a v).alloc o=(w.alloc o).setCell a v:=by
 unfold World.setCell World.alloc;simp only;congr 1;apply Array.ext_getElem?;intro i;simp only[Array.getElem?_push,Array.getElem?_modify,Array.size_modify];by_cases e:i=w.heap.size
 ·subst e
  have:¬a.block=w.heap.size:=by omega
  simp[this]
 ·simp[e]
theorem Sm{h:List aA}{n:Nat}{t':aA}(hn:n<h.length)(i:Nat):opsOf (h.set n t') i=if i=n then t'.ops else opsOf h i:=by
 unfold opsOf;by_cases e:i=n
 ·subst e;simp[List.getElem?_set_self hn]
 ·rw[List.getElem?_set_ne (fun e'=>e e'.symm)];simp[e]
theorem Zq{base q N n:Nat}{hv:Value}{W:World}{m M:nP}{o:aQ}{ws:List aQ}{h':List aA}{bg:Nat->Bool}{sv:Nat->Value}{lg:Nat->Nat}
 (H:mX base q N hv W h' (iL m.vals ws) (ak m n).kept (fun i=>jO (ak m n) i ws) bg sv lg) (hvo:vF (ak m n)) (hh:(gU (ak m n) n o true).h=h')
 (hbg:∀i,decide (0<(opsOf h' i).length)=bg i) (hM:M={ gU (ak m n) n o true with vals:=iL m.vals ws,cK:=gu m.cK ws }) :
 mX base q N hv W M.h M.vals M.kept (gZ M) (fun i=>decide (0<(opsOf M.h i).length)) sv lg:=by
 have e1:M.h=h':=by rw[hM];exact hh
 have e2:M.vals=iL m.vals ws:=by rw[hM]
 have e3:M.kept=(ak m n).kept:=by rw[hM];rfl
 have e4:M.cK=gu m.cK ws:=by rw[hM]
 have e5:M.began=(ak m n).began:=by rw[hM];rfl
 rw[e1];refine H.congr e2 (fun i _=>hbg i) (fun i _ _=>by rw[e3]) (fun i _ _ x _ _=>?_)
 have:=Te hvo i ws x
 rw[jT]at this;unfold gZ jO;rw[e4,e5];exact this
theorem SX{base q N n:Nat}{hv:Value}{W:World}{m:nP}{ws:List aQ}{h':List aA}{bg:Nat->Bool}{sv:Nat->Value}{lg:Nat->Nat}
 (H:mX base q N hv W h' (ak m n).vals (ak m n).kept (gZ (ak m n)) bg sv lg):mX base q N hv W h' (iL m.vals (ws.take 0)) (ak m n).kept (fun i=>jO (ak m n) i (ws.take 0)) bg sv lg:=by
 rw[List.take_zero];refine H.congr (qA m n).symm (fun i _=>rfl) (fun i _ _=>rfl) (fun i _ _ x _ _=>by rw[Q8])
theorem ZO(N:Nat)(h:N<=4):madeCells (Value.slice none 0 0).cells (N*1)=yh N fun _=>.slice none 0 0:=by rcases (by omega:N=0∨N=1∨N=2∨N=3∨N=4) with rfl|rfl|rfl|rfl|rfl<;>kernel_rfl
theorem MJ:(Tryz.prog.info? 4).map (fun i=>(i.zero,i.size,i.bytes))=some (some (.bool false),1,1):=by kernel_rfl
theorem J6:(Tryz.prog.info? 85).map (fun i=>(i.zero,i.size,i.bytes))=some (some (.slice none 0 0),1,24):=by kernel_rfl
theorem Ai{pv u:Value}{p:List eH}(w:World)(HP:xZ w pv p)(hp:dQ p=true)(hx:rM encI w u ((dF p.length).map fun n:Nat=>(n:Int))) :
 Calls Tryz.prog 27 #[pv,u] w fun e w'=>∃v rs,e=.returned v/\jI w' v rs (AY p)/\Own w.heap.size w' v/\(∀(i:Nat) r,rs[i]? =some r->Own w.heap.size w' r.aY)/\Ext w w':=by
 have R6:=jF hp;obtain⟨A,c,rfl⟩:=HP.slice;have hxl:((dF p.length).map fun n:Nat=>(n:Int)).length<=16:=by rw[List.length_map,Fv];omega
 have HPV:=aa (qc w HP (by omega) (fun d hd=>by have:=(gq (dz hp hd)).2;omega));rw[hp]at HPV;have HSV:=aa (fun W (b:Ext w W)=>yt p.length W R6 (hx.ext b) (by omega) (fun n hn=>by
  obtain⟨q,hq,rfl⟩:=List.mem_map.1 hn
  have:=rY hq
  omega))
 obtain⟨Au,cu,rfl,hx0⟩:=id hx;have hx1:0<(dF p.length).length->∃b off,Au=some ⟨b,off,none⟩/\b<w.heap.size/\∀(i:Nat) (n:Nat),(dF p.length)[i]? =some n->w.cell? ⟨b,off+i,none⟩=some (.int .i64 (n:Int)):=fun h0=>by obtain⟨b,off,e,hb,hc⟩:=hx0 (by rw[List.length_map];exact h0);exact⟨b,off,e,hb,fun i n hn=>hc i (n:Int) (by simp[hn])⟩
 rw[List.length_map]at hxl;have hlm:((dF p.length).map fun n:Nat=>(n:Int)).length=(dF p.length).length:=List.length_map _;rw[hlm]at HSV ⊢;have UW:Hid (∀k n,(dF p.length)[k]? =some n->bJ p (k+1)=kR p (bJ p k) n/\n<p.length):=fun k n hn=>⟨l6 hn,rY (List.mem_of_getElem? hn)⟩;have ZK:Hid ((bJ p (dF p.length).length).h=AY p):=rfl;have Z4:Hid (∀k,k<=(dF p.length).length->mZ p (bJ p k)/\(∀(i:Nat) t d,(bJ p k).h[i]? =some t->p[i]? =some d->t.ops.length<d.steps.length->t.done=false)/\oQ (bJ p k)/\vF (bJ p k)):=fun k hk=>⟨F7 hp k hk,Hy k hk,ZM k hk,ZN k hk⟩;obtain⟨xs,hxs⟩:∃xs,dF p.length=xs:=⟨_,rfl⟩;have hSV:=HSV.out;have hRT:=UW.out;have Wy:=ZK.out;have hRK:=Z4.out;rw[hxs]at hxl hx1 hSV hRT Wy hRK ⊢;replace HSV:=aa hSV;replace UW:=aa hRT;replace ZK:=aa Wy;replace Z4:=aa hRK;clear hlm hxs hSV hRT Wy hRK;have Nc:=aa hp;have FO:=aa HP;have HX0:=aa hx1;clear hp hx hx0 hx1;obtain⟨R,hR⟩:∃R,AY p=R:=⟨_,rfl⟩;rw[hR]at ZK ⊢;clear hR HP;obtain⟨CI,hCI⟩:∃C,ME ni=C:=⟨_,rfl⟩;obtain⟨CN,hCN⟩:∃C,(yh p.length fun _=>.slice none 0 0)=C:=⟨_,rfl⟩;obtain⟨CB,hCB⟩:∃C,(D6 fun _=>false)=C:=⟨_,rfl⟩;have hm1:∀W:World,(Instr.makeSlice 57 (.int .i64 3) (.int .i64 3)).run Tryz.prog W=.ok (.slice (some ⟨W.heap.size,0,none⟩) 3 3) (W.alloc (.cells CI 3)):=fun W=>by
  have:=jV (P:=Tryz.prog) 57 3 Tryz.underlying57 bQ 3 (by omega) (by omega) W
  rw[show madeCells (Value.int .i64 0).cells (3*1)=CI by rw[<-hCI];kernel_rfl]at this;exact this
 have hm2:∀W:World,(Instr.makeSlice 83 (.int .i64 (p.length:Int)) (.int .i64 (p.length:Int))).run Tryz.prog W=.ok (.slice (some ⟨W.heap.size,0,none⟩) p.length p.length) (W.alloc (.cells CN 57)):=fun W=>by
  have:=jV (P:=Tryz.prog) 83 57 Tryz.underlying83 tQ p.length (by omega) (by omega) W
  rwa [ZO _ R6,hCN]at this
 have hm3:∀W:World,(Instr.makeSlice 84 (.int .i64 (p.length:Int)) (.int .i64 (p.length:Int))).run Tryz.prog W=.ok (.slice (some ⟨W.heap.size,0,none⟩) p.length p.length) (W.alloc (.cells CN 85)):=fun W=>by
  have:=jV (P:=Tryz.prog) 84 85 Tryz.underlying84 J6 p.length (by omega) (by omega) W
  rwa [ZO _ R6,hCN]at this
 have hm4:∀W:World,(Instr.makeSlice 85 (.int .i64 3) (.int .i64 3)).run Tryz.prog W=.ok (.slice (some ⟨W.heap.size,0,none⟩) 3 3) (W.alloc (.cells CB 4)):=fun W=>by
  have:=jV (P:=Tryz.prog) 85 4 Tryz.underlying85 MJ 3 (by omega) (by omega) W
  rw[show madeCells (Value.bool false).cells (3*1)=CB by rw[<-hCB];kernel_rfl]at this;exact this
 have HCI:=aa hCI;have O5:=aa hCN;have HCB:=aa hCB;clear hCI hCN hCB;go_enter Tryz.func27,Tryz.ntmps27;go_wp2_with (first|(go_at_call 50;refine HPV.out.mono ?_;rintro e wa ⟨rfl,ba⟩)|(go_at_call 52;refine(HSV.out _ ba).mono ?_;rintro e w1 ⟨rfl,b1⟩)|fail)
 refine(Ke w1 (FO.out.ext (ba.trans b1)) R6).mono ?_
 rintro e w2 ⟨hv,rs0,rfl,hM0,b2⟩;have ZY:rs0.length=p.length:=by rw[hM0.hl];simp[fF]
 obtain⟨Ah,ch,rfl⟩:∃Ah ch,hv=.slice Ah p.length ch:=by obtain⟨A,c,e,_⟩:=hM0.hs;exact⟨A,c,by rw[<-ZY];exact e⟩
 have wL:=aa (ba.trans b1);have hx3:Ext w2 (((w2.alloc (.cells CI 3)).alloc (.cells CN 57)).alloc (.cells CN 85)):=(((Ext.refl w2).alloc _).alloc _).alloc _;have Ww:mX w1.heap.size w2.heap.size p.length (.slice Ah p.length ch) (((w2.alloc (.cells CI 3)).alloc (.cells CN 57)).alloc (.cells CN 85)) (fF p).h ni (fun _=>ni) (fun _ _=>false) (fun _=>false) (fun _=>.slice none 0 0) (fun _=>0):=by
  refine⟨⟨rs0,hM0.ext hx3⟩,?_,?_,?_,fun i hi h=>(by cases h),fun i hi h=>(by cases h),fun i j hi hj hn h=>(by cases h)⟩
  ·rw[HCI.out];exact uW (((Ext.refl _).alloc _).alloc _) (heap_alloc_new w2 _)
  ·have h1:((w2.alloc (.cells CI 3)).alloc (.cells CN 57)).heap[w2.heap.size+1]? =some (.cells CN 57 (0,0)):=by
    have:=heap_alloc_new (w2.alloc (.cells CI 3)) (.cells CN 57)
    rwa [show (w2.alloc (.cells CI 3)).heap.size=w2.heap.size+1 by simp]at this
   rw[show yh p.length (Dw (fun _=>false) fun _=>.slice none 0 0)=CN from O5.out];exact uW ((Ext.refl _).alloc _) h1
  ·have h1:=heap_alloc_new ((w2.alloc (.cells CI 3)).alloc (.cells CN 57)) (.cells CN 85);rw[show ((w2.alloc (.cells CI 3)).alloc (.cells CN 57)).heap.size=w2.heap.size+2 by simp]at h1;rw[show yh p.length (qZ (fun _=>false) fun _=>0)=CN from O5.out];exact h1
 have acM:∀i,decide (0<(opsOf (bJ p 0).h i).length)=false:=fun i=>by
  have:opsOf (bJ p 0).h i=[]:=by show opsOf (fF p).h i=[];unfold opsOf fF;simp only[List.getElem?_map];cases p[i]?<;>rfl
  rw[this];rfl
 have G7:Hid (∃sv lg,mX w1.heap.size w2.heap.size p.length (.slice Ah p.length ch) (((w2.alloc (.cells CI 3)).alloc (.cells CN 57)).alloc (.cells CN 85)) (bJ p 0).h (bJ p 0).vals (bJ p 0).kept (gZ (bJ p 0)) (fun i=>decide (0<(opsOf (bJ p 0).h i).length)) sv lg):=
  ⟨_,_,Ww.congr rfl (fun i hi=>acM i) (fun i hi h=>by cases h) (fun i hi h=>by cases h)⟩
 have G8:Hid (Ext w1 (((w2.alloc (.cells CI 3)).alloc (.cells CN 57)).alloc (.cells CN 85))):=b2.trans hx3;have YP:w1.heap.size<=w2.heap.size:=b2.size;clear hM0 Ww acM hx3 b2 ba b1 HPV HSV ZY;go_wp2;generalize aeT:w2.heap.size+1+1=q2;generalize aeW:w2.heap.size+1=q1;generalize hqe:w2.heap.size=q;rw[hqe]at G7 YP;have hq1:q1=q+1:=by omega
 have HE2:Hid (q2=q+2):=by show _ = _;omega
 have KO:Hid (q1=q+1):=by show _ = _;omega
 clear aeT aeW hqe hq1;go_loopw [9] (fun i wr=>Hid (Ext w1 wr)/\∃k:Nat,k<=xs.length/\i=.int .i64 (k:Int)/\Hid (∃sv lg,mX w1.heap.size q p.length (.slice Ah p.length ch) wr (bJ p k).h (bJ p k).vals (bJ p k).kept (gZ (bJ p k)) (fun i=>decide (0<(opsOf (bJ p k).h i).length)) sv lg)) (fun i _=>xs.length-(intOf i).toNat)
 case atStart=>exact⟨G8.out,0,Nat.zero_le _,rfl,G7.out⟩
 case round=>
  clear G7 G8 hm1 hm2 hm3;obtain⟨HB,k,hk,rfl,HS⟩:=hrel;by_cases hlt:k<xs.length
  ·obtain⟨bx,ox,rfl,hbx,hcell⟩:=HX0.out (by omega);obtain⟨n,hn⟩:=af hlt;have c0:=(wL.out.trans HB.out).cell (hcell k n hn);obtain⟨hnext,hnp⟩:=UW.out k n hn;obtain⟨hro,hdn,hbf,hvo⟩:=Z4.out k hk;have ae7:=aa (Z4.out (k+1) (by omega)).1;obtain⟨m,hm⟩:∃m,bJ p k=m:=⟨_,rfl⟩;rw[hm]at hnext hro hdn hbf hvo HS;have iA:=aa hnext;have Uo:=aa hro;have O0:=aa hdn;have HBF:=aa (hbf.bF n);have HVO:=aa (hvo.bF n);obtain⟨d,hd⟩:=af hnp;obtain⟨t,ht⟩:=af (show n<m.h.length by rw[hro.len];exact hnp);obtain⟨hse,hle,hop⟩:=hro.tx n t d ht hd;have hd4:=(gq (dz Nc.out (List.mem_of_getElem? hd))).2;have hn4:n<4:=by omega
   have HT:=aa ht;have HD:=aa hd;obtain⟨sv,lg,hRS⟩:=HS.out;obtain⟨rs,hR⟩:=hRS.rch;obtain⟨b2,off2,r,rfl,hb2,acS,hr,t0,t1,t2,hrow,hfr,hty⟩:=hR.at ht;obtain⟨Ao,co,hov,_⟩:=hrow.cell.1;rw[hov]at t1;obtain⟨bp,op,rfl,hbp,hcp⟩:=(FO.out.ext wL.out).head (by omega);obtain⟨ovp,d0,d1,hsp⟩:=hcp n d hd;obtain⟨Asp,csp,rfl,ab6⟩:=id hsp;have HPC:Hid (∀W,Ext w1 W->W.cell? ⟨bp,op+n*2+1,none⟩=some (.slice Asp d.steps.length csp)):=fun W b=>b.cell d1;have I9:=aa ab6;have y1:=HPC.out wr HB.out;have Rk:=aa hRS;have i1:(n:Int)<(p.length:Int):=by omega
   have i2:(0:Int)<=(n:Int):=by omega
   have i3:(k:Int)<(xs.length:Int):=by omega
   have i4:(0:Int)<=(k:Int):=by omega
   clear hcell hn hnext hro hdn hbf hvo hm ht hd hse hop d0 d1 hsp ab6 hcp hr hrow hfr hty hov hR hRS HS
   cases hs:d.steps[t.ops.length]? with
   | none=>
     have Ua:=aa (yj HT.out HD.out hs);have hle2:=List.getElem?_eq_none_iff.1 hs;have hEq:((t.ops.length:Int)==(d.steps.length:Int))=true:=by simp;omega
     clear hs hle2;go_wp2;go_roundw;case rel=>exact⟨HB.out,k+1,by omega,by go_num,by rw[iA.out,Ua.out];exact⟨_,_,Rk.out⟩⟩
     case measure=>simp[intOf];omega
   | some o0=>
     have hlt2:t.ops.length<d.steps.length:=(List.getElem?_eq_some_iff.1 hs).1;have hEq:((t.ops.length:Int)==(d.steps.length:Int))=false:=by simp;omega
     have Rn:=aa hs;have Ed:=fu (dz Nc.out (List.mem_of_getElem? HD.out)) (List.mem_of_getElem? hs);have hkd:=jk Ed;have Z8:=iq Ed;have hvl:=lu Ed;obtain⟨bs,os,rfl,hbs,hcs⟩:=I9.out (by omega);have Ut:Hid (∀W,Ext w1 W->W.cell? ⟨bs,os+t.ops.length*3,none⟩=some (.int .i64 o0.kind)/\W.cell? ⟨bs,os+t.ops.length*3+1,none⟩=some (.int .i64 o0.key)/\W.cell? ⟨bs,os+t.ops.length*3+2,none⟩=some (.int .i64 o0.value)):=fun W b=>
      ⟨b.cell (hcs t.ops.length o0 hs 0 (by omega)),b.cell (hcs t.ops.length o0 hs 1 (by omega)),b.cell (hcs t.ops.length o0 hs 2 (by omega))⟩
     have kg:=aa (MZ (n:=n) o0 HT.out);obtain⟨kd,ky,vl⟩:=o0;simp only at hkd Z8 hvl Ut;subst hvl;obtain⟨kn,rfl⟩:=Int.eq_ofNat_of_zero_le Z8.1;have hk3:kn<3:=by omega
     clear hs Ed Z8 hcs;go_upto_if 64 with fail
     go_cut [] (fun wx=>∃Wh G9,Hid (mX w1.heap.size q p.length (.slice (some ⟨b2,off2,none⟩) p.length ch) wx m.h (ak m n).vals (ak m n).kept (gZ (ak m n)) (fun i=>i==n || decide (0<(opsOf m.h i).length)) Wh G9)/\Hid (Ext w1 wx))
     case first=>
      as_aux_lemma=>
       by_cases h0:t.ops.length=0;case pos=>
        have h0e:((t.ops.length:Int)==0)=true:=by simp[h0]
        have hq1:=KO.out;have hq2:=HE2.out;have RI:=aa (vR HT.out h0);have hsl:aF 1 (one encI) wr (.slice (some ⟨q,0,none⟩) [m.vals 0,m.vals 1,m.vals 2].length 3) [m.vals 0,m.vals 1,m.vals 2]:=by
         refine⟨_,_,rfl,fun _=>⟨q,0,rfl,(Array.getElem?_eq_some_iff.1 Rk.out.b0).1,fun i x hx j hj=>?_⟩⟩;obtain rfl:j=0:=by omega
         rw[cell_of Rk.out.b0]
         match i,hx with
         | 0,hx=>simp at hx;subst hx;rfl
         | 1,hx=>simp at hx;subst hx;rfl
         | 2,hx=>simp at hx;subst hx;rfl
         | _+3,hx=>simp at hx
        obtain⟨v3,w3,EL,hrow3,M3⟩:=mJ (w:=wr) wr.heap.size rfl Tryz.underlying57 bQ rfl (by omega) hsl (fun x _ j=>rfl) (by simp) (by omega);have Vg:=Rk.out.ext (M3 wr (Ext.refl _));have afg:q+2<wr.heap.size:=(Array.getElem?_eq_some_iff.1 Rk.out.b2).1;have hw3:wr.heap.size<=w3.heap.size:=(M3 wr (Ext.refl _)).size;obtain⟨YR,Zt,Zf,rfl⟩:=iK hrow3;have x1c:w3.cell? ⟨q1,n,none⟩=some (Dw (fun i=>decide (0<(opsOf m.h i).length)) sv n):=by rw[hq1,cell_of Vg.b1];exact zR _ hnp
        have x1f:w3.frozen? ⟨q1,n,none⟩=false:=by rw[hq1];exact Ez Vg.b1 n
        have hx4:Ext w3 (w3.alloc (.cells CB 4)):=(Ext.refl _).alloc _;have abn:=Vg.ext hx4;have hcom:=Tt (w:=w3) (a:=⟨q1,n,none⟩) (.slice YR Zt Zf) (.cells CB 4) (show q1<w3.heap.size by omega);have hb2':((w3.alloc (.cells CB 4)).setCell ⟨q1,n,none⟩ (.slice YR Zt Zf)).heap[q+2]? =some (.cells (yh p.length (qZ (fun i=>decide (0<(opsOf m.h i).length)) lg)) 85 (0,0)):=(iI _ q1 n _).heap abn.b2 (by omega);have x2c:((w3.setCell ⟨q1,n,none⟩ (.slice YR Zt Zf)).alloc (.cells CB 4)).cell? ⟨q2,n,none⟩=some (qZ (fun i=>decide (0<(opsOf m.h i).length)) lg n):=by rw[hcom,hq2,cell_of hb2'];exact zR _ hnp
        have x2f:((w3.setCell ⟨q1,n,none⟩ (.slice YR Zt Zf)).alloc (.cells CB 4)).frozen? ⟨q2,n,none⟩=false:=by rw[hcom,hq2];exact Ez hb2' n
        have hbx0:=abn.bF hnp (.slice YR Zt Zf) m.vals ((Row.low hrow3 (show q+3<=wr.heap.size by omega)).ext hx4) (g:=w3.heap.size) (by rw[HCB.out];exact heap_alloc_new w3 _) (by omega) (fun i hi hb e=>by
         have:=(Array.getElem?_eq_some_iff.1 (Vg.st i hi hb).2).1
         omega)
        have uJ:Hid (mX w1.heap.size q p.length (.slice (some ⟨b2,off2,none⟩) p.length ch) ((((w3.setCell ⟨q1,n,none⟩ (.slice YR Zt Zf)).alloc (.cells CB 4)).setCell ⟨q2,n,none⟩ (.slice (some ⟨w3.heap.size,0,none⟩) 3 3))) m.h (ak m n).vals (ak m n).kept (gZ (ak m n)) (fun i=>i==n || decide (0<(opsOf m.h i).length)) (fun i=>if i=n then .slice YR Zt Zf else sv i) (fun i=>if i=n then w3.heap.size else lg i)):=by
         show mX _ _ _ _ _ _ _ _ _ _ _ _;rw[hcom,hq1,hq2];refine hbx0.congr (qA m n) (fun i hi=>rfl) (fun i hi hb=>by rw[RI.out.1]) (fun i hi hb x h1 h2=>?_);by_cases e:i=n
         ·subst e;rw[if_pos rfl];exact OL HT.out h0 x
         ·rw[if_neg e];exact Nw e x
        have LW:Hid (Ext w1 ((((w3.setCell ⟨q1,n,none⟩ (.slice YR Zt Zf)).alloc (.cells CB 4)).setCell ⟨q2,n,none⟩ (.slice (some ⟨w3.heap.size,0,none⟩) 3 3)))):=
         (((M3 w1 HB.out).setCell (p:=⟨q1,n,none⟩) (by show w1.heap.size<=q1;omega) _).alloc _).setCell (p:=⟨q2,n,none⟩) (by show w1.heap.size<=q2;omega) _
        have h3l:Hid (((3:Nat):Int)=3):=rfl;have ada:Hid ((Builtin.append_ #[57,57] 57 #[.slice (some ⟨wr.heap.size,0,none⟩) 0 0,.slice (some ⟨q,0,none⟩) 3 3]).run Tryz.prog (wr.alloc (.cells #[] 3))=.ok (.slice YR Zt Zf) w3):=EL;clear hsl EL hrow3 M3 Vg afg hw3 hx4 abn hcom hb2' hbx0 h0 h3l RI hq1 hq2;go_wp2_with (at_builtin;refine wpList_append_run rfl rfl rfl rfl ada.out ?_)
        go_meet;case rel=>exact⟨_,_,uJ,LW⟩
       case neg=>
        have h0e:((t.ops.length:Int)==0)=false:=by simpa using h0
        have RI:=aa (FP HT.out h0);obtain⟨W1,rfl⟩:∃W1:World,W1=wr:=⟨_,rfl⟩;obtain⟨Wh,rfl⟩:∃s,s=sv:=⟨_,rfl⟩;obtain⟨G9,rfl⟩:∃s,s=lg:=⟨_,rfl⟩;have uJ:Hid (mX w1.heap.size q p.length (.slice (some ⟨b2,off2,none⟩) p.length ch) W1 m.h (ak m n).vals (ak m n).kept (gZ (ak m n)) (fun i=>i==n || decide (0<(opsOf m.h i).length)) Wh G9):=by
         refine Rk.out.congr (qA m n) (fun i hi=>?_) (fun i hi hb=>by rw[RI.out.1]) (fun i hi hb x h1 h2=>?_)
         ·by_cases e:i=n
          ·subst e;rw[dw HT.out];simp;omega
          ·simp[e]
         ·unfold gZ;rw[RI.out.2,jT]
        have LW:Hid (Ext w1 W1):=HB.out;clear h0 RI Rk t0 t2;go_wp2;go_meet;case rel=>exact⟨_,_,uJ,LW⟩
     case rest=>
      obtain⟨Wh,G9,uJ,LW⟩:=hcut;obtain⟨W1,hW1⟩:∃W:World,wc=W:=⟨_,rfl⟩;rw[hW1]at uJ LW ⊢;have y1:=HPC.out _ LW.out;obtain⟨zx0,zx1,zx2⟩:=Ut.out _ LW.out;clear hW1 Rk t0 t1 t2 c0;go_wp2;have Yy:Hid (W1.heap.size=W1.heap.size):=rfl;generalize hsb:W1.heap.size=sb at ⊢;replace Yy:Hid (W1.heap.size=sb):=hsb;clear hsb y1 zx0 zx1 zx2;obtain⟨rs1,UL⟩:=uJ.out.rch;obtain⟨b3,zh,r1,hA3,hb3,Yl,hr1,t0,t1,t2,iM,abV,abZ⟩:=UL.at HT.out;injection hA3 with hA3;injection hA3 with abu abr;subst abu abr;obtain⟨Ao1,co1,aaN,_⟩:=id iM.cell.1;have hsl1:=iM.cell.1;rw[aaN]at t1 hsl1;have Yj:(n==n || decide (0<(opsOf m.h n).length))=true:=by simp
      obtain⟨gn,cn,acL,hgc⟩:=uJ.out.aa6 hnp Yj hk3;have ML:=uJ.out.YG hnp Yj;rw[acL,<-KO.out]at ML;have abM:=aa Yj;clear Yj;obtain⟨ko,hko⟩:∃x,(ak m n).kept n (kn:Int)=x:=⟨_,rfl⟩;have hown:=HBF.out.own (t:=t) (by rw[mP];exact HT.out) (kn:Int);rw[hko]at hgc hown;obtain⟨ovl,abp⟩:∃x,(before t.ops (kn:Int)).getD ko=x:=⟨_,rfl⟩;rw[abp]at hown;have HOWN:=aa hown;have Zz:∀v,before t.ops (kn:Int)=some v->0<=v:=fun v hv=>by
       obtain⟨o,ho,_,rfl⟩:=wu hv
       exact(RO Uo.out HT.out HD.out o ho).1
      have aaP:=aa (fun W (b:Ext W1 W)=>Qd t.az t.done (kn:Int) ko W (hsl1.ext b) (by omega) Zz);rw[abp]at aaP;have hal:Ext W1 (W1.alloc (.cells #[.int .i64 kd,.int .i64 (kn:Int),.int .i64 0] 71)):=(Ext.refl W1).alloc _;have v0:=hal.cell t0;have v1:=hal.cell t1;have v2:=hal.cell t2;have v3:=hal.cell ML;have v4:=hal.cell hgc;have v5:(W1.alloc (.cells #[.int .i64 kd,.int .i64 (kn:Int),.int .i64 0] 71)).cell? ⟨sb,0,none⟩=some (.int .i64 kd):=by rw[<-Yy.out];exact av rfl
      have v6:(W1.alloc (.cells #[.int .i64 kd,.int .i64 (kn:Int),.int .i64 0] 71)).cell? ⟨sb,1,none⟩=some (.int .i64 (kn:Int)):=by rw[<-Yy.out];exact av rfl
      have HR1:=aa UL;have afd:=aa hr1;have Fp:=aa iM;have aef:=aa aaN;have afa:=aa abV;have aeU:=aa abZ;have HAL:=aa hal;have ael:Hid (w1.heap.size<=b2):=Yl;have HB3:Hid (b2<W1.heap.size):=hb3;have j1:(0:Int)<=(kn:Int):=by omega
      have j2:(kn:Int)<3:=by omega
      have aeg:t.ops.length<4:=by omega
      clear UL hr1 t0 t1 t2 iM abV abZ hsl1 acL hgc ML hko hown abp Zz hal aaN hb3 Yl;go_region_held3 (fun V=>V.cell? ⟨b2,off2+n*3,none⟩=some (.int .i64 t.az)/\V.cell? ⟨b2,off2+n*3+1,none⟩=some (.slice Ao1 t.ops.length co1)/\V.cell? ⟨b2,off2+n*3+2,none⟩=some (.bool t.done)/\V.cell? ⟨q1,n,none⟩=some (.slice (some ⟨gn,0,none⟩) 3 cn)/\V.cell? ⟨gn,kn,none⟩=some (.int .i64 ko)/\V.cell? ⟨sb,1,none⟩=some (.int .i64 (kn:Int))) (exact⟨by assumption,by assumption,by assumption,by assumption,by assumption,by assumption⟩) ((go_at_call 54;refine(aaP.out _ HAL.out.drew).mono ?_;rintro e w5 ⟨rfl,b5⟩;have x0:=b5.cell v0;have x1:=b5.cell v1;have x2:=b5.cell v2;have x3:=b5.cell v3;have x4:=b5.cell v4;have x5:=b5.cell v5;have x6:=b5.cell v6))
      have Hw:=aa (HAL.out.drew.trans b5);clear v0 v1 v2 v3 v4 v5 v6 x0 x2 x3 x4 b5 aaP;obtain⟨vv,hvv⟩:∃vv:Int,(if kd=2 then 10*((n:Int)+1)+(t.ops.length:Int)+1 else ovl)=vv:=⟨_,rfl⟩;have HVV:=aa hvv;have HNW:Hid (ku (ak m n) n ⟨kd,(kn:Int),0⟩=⟨kd,(kn:Int),vv⟩):=by
       show _ = _;by_cases hk2:kd=2
       ·have Vw:(kd==2)=true:=by simp[hk2]
        rw[kg.out,if_pos (show iN ⟨kd,(kn:Int),0⟩=true from Vw),<-hvv,if_pos hk2]
       ·have Vw:(kd==2)=false:=by simp[hk2]
        rw[kg.out,if_neg (show ¬iN ⟨kd,(kn:Int),0⟩=true from fun e=>by have e':(kd==2)=true:=e;rw[Vw]at e';cases e'),<-HOWN.out,<-hvv,if_neg hk2]
      clear hvv;go_upto_if 100 with fail
      go_cut [13] (fun s wx=>s=.int .i64 vv/\wx=w5)
      case first=>
       as_aux_lemma=>
        by_cases hk2:kd=2;case pos=>
         have Vw:(kd==2)=true:=by simp[hk2]
         have acv:=aa (fun W=>Ko n t.ops.length W hn4 aeg);have hv2:=HVV.out;rw[if_pos hk2]at hv2;rw[hv2]at acv;clear hv2 hk2;go_wp2_with (go_at_call 55;refine(acv.out _).mono ?_;rintro e w' ⟨rfl,rfl⟩)
         go_meet;case rel=>exact⟨rfl,rfl⟩
        case neg=>
         have Vw:(kd==2)=false:=by simp[hk2]
         have hv2:=HVV.out;rw[if_neg hk2]at hv2;subst hv2;clear hk2;go_wp2;go_meet;case rel=>exact⟨rfl,rfl⟩
      case rest=>
       obtain⟨adL,hw5⟩:=hcut;subst adL;have hw5:=hw5.symm;subst hw5;go_upto_region 20 with fail
       have Rz:=Fp.out.ext Hw.out;have hE0:Ext w5 (w5.alloc (.cells #[.int .i64 kd,.int .i64 (kn:Int),.int .i64 vv] 71)):=(Ext.refl _).alloc _;have a1:=hE0.cell x1;have a5:=hE0.cell x5;have a6:=hE0.cell x6;obtain⟨v3,w7,hrun,hp⟩:=uR (w0:=w5.drew) (w:=w5.drew) w5.heap.size rfl (Rz.ext (Ext.refl _).drew) (Ext.refl _) (⟨kd,(kn:Int),vv⟩:aQ) (Nat.le_trans LW.out.size Hw.out.size) (by omega);have aao:Ext w1 w5.drew:=(LW.out.trans Hw.out).drew;have Es:=iR (u:=w1) (Rz.ext (Ext.refl _).drew) hp aao (Nat.le_refl _);have nb:r1.aY.ownBlock≠some b2:=fun e=>by obtain⟨cs,hg⟩:=dA Fp.out e;obtain⟨cs',fr',hg'⟩:=aeU.out;rw[hg']at hg;injection hg with hg;injection hg with _ e _;exact absurd e (by decide)
       have nq:r1.aY.ownBlock≠some sb:=fun e=>by have:=(iU Fp.out e).2;rw[Yy.out]at this;exact Nat.lt_irrefl _ this
       have e3c:=Es.cell (p:=⟨b2,off2+n*3+1,none⟩) x1 nb;have Xh:=Es.cell (p:=⟨sb,0,none⟩) x5 nq;have V6:=Es.cell (p:=⟨sb,1,none⟩) x6 nq;have ab8:b2<w5.heap.size:=Nat.lt_of_lt_of_le HB3.out Hw.out.size;have ado:w7.frozen? ⟨b2,off2+n*3+1,none⟩=false:=by have h1:=Es.frozen (p:=⟨b2,off2+n*3+1,none⟩) ab8 nb;have h2:=Hw.out.frozen (p:=⟨b2,off2+n*3+1,none⟩) HB3.out;exact h1.trans (h2.trans (afa.out _))
       obtain⟨g3,c3,hv3,_⟩:=mK hp.1 (by simp);rw[List.length_append,List.length_singleton]at hv3;subst hv3;have hS8:=((uJ.out.ext Hw.out).ext (Ext.refl w5).drew).note ((HR1.out.ext Hw.out).ext (Ext.refl w5).drew) afd.out HT.out (by omega) Es hp.1 hp.2.2.2;have hX8:Ext w1 (w7.setCell ⟨b2,off2+n*3+1,none⟩ (.slice (some ⟨g3,0,none⟩) (t.ops.length+1) c3)):=(bH.out aao Es (fun i e=>(iU Rz e).1)).setCell (p:=⟨b2,off2+n*3+1,none⟩) ael.out _;have hnl:n<m.h.length:=(List.getElem?_eq_some_iff.1 HT.out).1;obtain⟨ops',xE⟩:∃ops',t.ops++[(⟨kd,(kn:Int),vv⟩:aQ)]=ops':=⟨_,rfl⟩;have aaJ:ops'.length=t.ops.length+1:=by rw[<-xE];simp
       have HDF:Hid (t.done=false):=O0.out n t d HT.out HD.out hlt2;try simp only at hS8
       rw[xE]at hS8;have HS8:=aa hS8;have Sc:=aa hX8;have HH:Hid (∀X,(gU (ak m n) n (⟨kd,(kn:Int),vv⟩:aQ) X).h=m.h.set n ⟨t.az,ops',X⟩):=fun X=>by simp only[gU,mP];rw[Cj HT.out,dw HT.out,xE]
       have abz:Hid (∀X i,decide (0<(opsOf (m.h.set n ⟨t.az,ops',X⟩) i).length)=(i==n || decide (0<(opsOf m.h i).length))):=fun X i=>by
        rw[Sm hnl];by_cases e:i=n
        ·subst e;simp[aaJ]
        ·simp[e]
       have Ow:=aa xE;have aU:Hid ((Builtin.append_ #[46,46] 46 #[.slice Ao1 t.ops.length co1,.slice (some ⟨w5.heap.size,0,none⟩) 1 1]).run Tryz.prog (w5.alloc (.cells #[.int .i64 kd,.int .i64 (kn:Int),.int .i64 vv] 71)).drew=.ok (.slice (some ⟨g3,0,none⟩) (t.ops.length+1) c3) w7):=by rw[aef.out]at hrun;exact hrun
       have z1:(w7.setCell ⟨b2,off2+n*3+1,none⟩ (.slice (some ⟨g3,0,none⟩) (t.ops.length+1) c3)).cell? ⟨b2,off2+n*3+1,none⟩=some (.slice (some ⟨g3,0,none⟩) (t.ops.length+1) c3):=dx e3c _;have Z1:=aa z1;have y8:=HPC.out _ Sc.out;have hw1:IntKind.i64.wrap ((t.ops.length:Int)+1)=(t.ops.length:Int)+1:=IntWalk.i64_in _ (by omega);clear Rz hE0 hrun hp aao Es nb nq ab8 hS8 hX8 xE z1;refine oK 15 (fun V:World=>V.cell? ⟨b2,off2+n*3+1,none⟩=some (.slice Ao1 t.ops.length co1)/\V.cell? ⟨sb,0,none⟩=some (.int .i64 kd)/\V.cell? ⟨sb,1,none⟩=some (.int .i64 (kn:Int))) (by as_aux_lemma=>kernel_rfl) (by as_aux_lemma=>kernel_rfl) ?_;simp only[List.take_succ_cons,List.take_zero,List.drop_succ_cons,List.drop_zero];have hHeld:(fun V:World=>V.cell? ⟨b2,off2+n*3+1,none⟩=some (.slice Ao1 t.ops.length co1)/\V.cell? ⟨sb,0,none⟩=some (.int .i64 kd)/\V.cell? ⟨sb,1,none⟩=some (.int .i64 (kn:Int))) w5.drew:=⟨x1,x5,x6⟩;refine eu 0 (.slice (some ⟨b2,off2,none⟩) p.length ch) rfl (Or.inl ⟨by rfl,fun V ⟨s1,s2,s3⟩=>by go_simp⟩) hHeld ?_;try go_frame
       refine eu 1 (.int .i64 (n:Int)) rfl (Or.inl ⟨by rfl,fun V ⟨s1,s2,s3⟩=>by go_simp⟩) hHeld ?_;try go_frame
       refine eu 2 (.slice (some ⟨b2,off2,none⟩) p.length ch) rfl (Or.inl ⟨by rfl,fun V ⟨s1,s2,s3⟩=>by go_simp⟩) hHeld ?_;try go_frame
       refine eu 3 (.int .i64 (n:Int)) rfl (Or.inl ⟨by rfl,fun V ⟨s1,s2,s3⟩=>by go_simp⟩) hHeld ?_;try go_frame
       refine eu 4 (.pointer (some ⟨b2,off2+n*3,none⟩)) rfl (Or.inl ⟨by rfl,fun V ⟨s1,s2,s3⟩=>by go_simp⟩) hHeld ?_;try go_frame
       refine eu 5 (.pointer (some ⟨b2,off2+n*3+1,none⟩)) rfl (Or.inl ⟨by rfl,fun V ⟨s1,s2,s3⟩=>by go_simp⟩) hHeld ?_;try go_frame
       refine eu 6 (.slice Ao1 t.ops.length co1) rfl (Or.inl ⟨by rfl,fun V ⟨s1,s2,s3⟩=>by go_simp⟩) hHeld ?_;try go_frame
       refine eu 7 (.pointer (some ⟨sb,0,none⟩)) rfl (Or.inl ⟨by rfl,fun V ⟨s1,s2,s3⟩=>by go_simp⟩) hHeld ?_;try go_frame
       refine eu 8 (.int .i64 kd) rfl (Or.inl ⟨by rfl,fun V ⟨s1,s2,s3⟩=>by go_simp⟩) hHeld ?_;try go_frame
       refine eu 9 (.pointer (some ⟨sb,1,none⟩)) rfl (Or.inl ⟨by rfl,fun V ⟨s1,s2,s3⟩=>by go_simp⟩) hHeld ?_;try go_frame
       refine eu 10 (.int .i64 (kn:Int)) rfl (Or.inl ⟨by rfl,fun V ⟨s1,s2,s3⟩=>by go_simp⟩) hHeld ?_;try go_frame
       refine eu 11 (.int .i64 vv) rfl (Or.inl ⟨by rfl,fun V ⟨s1,s2,s3⟩=>by go_simp⟩) hHeld ?_;try go_frame
       refine eu 12 (.agg #[.int .i64 kd,.int .i64 (kn:Int),.int .i64 vv]) rfl (Or.inl ⟨by rfl,fun V ⟨s1,s2,s3⟩=>by go_simp⟩) hHeld ?_;try go_frame
       refine wpAnyH_ready (rs:=[13]) (by as_aux_lemma=>kernel_rfl) (by simp) ?_;refine AllReadyH.cons rfl (fun K hK=>?_) AllReadyH.nil;go_simp;refine hK.out _ _ ⟨a1,a5,a6⟩ (fun hH2=>?_);clear hK K;try go_frame
       refine wpAnyH_ready (rs:=[14]) (by as_aux_lemma=>kernel_rfl) (by simp) ?_;refine AllReadyH.cons rfl (fun K hK=>?_) AllReadyH.nil;refine aJ (by rfl) (by rfl) (by rfl) (by rfl) aU.out ?_;refine hK.out _ _ ⟨e3c,Xh,V6⟩ (fun hH3=>?_);clear hK K;try go_frame
       refine wpAnyH_done (by as_aux_lemma=>kernel_rfl) ?_ _;show wpList _ _ _ _ _ _;clear hHeld hH2 hH3 a1 a5 a6 Xh V6 x1 x5 x6;by_cases hmore:t.ops.length+1<d.steps.length
       ·as_aux_lemma=>
         have hmi:(t.ops.length:Int)+1<(d.steps.length:Int):=by omega
         have aeD:Hid (bJ p (k+1)=gU (ak m n) n (⟨kd,(kn:Int),vv⟩:aQ) false):=by show _ = _;rw[iA.out,tL HT.out HD.out Rn.out (by omega),HNW.out]
         have jl:Hid (∃sv lg,mX w1.heap.size q p.length (.slice (some ⟨b2,off2,none⟩) p.length ch) (w7.setCell ⟨b2,off2+n*3+1,none⟩ (.slice (some ⟨g3,0,none⟩) (t.ops.length+1) c3)) (bJ p (k+1)).h (bJ p (k+1)).vals (bJ p (k+1)).kept (gZ (bJ p (k+1))) (fun i=>decide (0<(opsOf (bJ p (k+1)).h i).length)) sv lg):=by show ∃sv lg,_;rw[aeD.out,HH.out];have h8:=HS8.out;rw[HDF.out]at h8;exact⟨_,_,h8.congr rfl (fun i _=>abz.out false i) (fun i _ _=>rfl) (fun i _ _ x _ _=>rfl)⟩
         clear hmore aaJ;go_wp2;go_roundw;case rel=>exact⟨Sc.out,k+1,by omega,by go_num,jl.out⟩
         case measure=>simp[intOf];omega
       ·have hmi:¬((t.ops.length:Int)+1<(d.steps.length:Int)):=by omega
        have hlast:t.ops.length+1=d.steps.length:=by omega
        obtain⟨ws,hws⟩:∃ws,bD ops'=ws:=⟨_,rfl⟩;have hwl:ws.length<=3:=by rw[<-hws];exact yA _
        have HKEY:Hid (∀x∈ws,∃z:Nat,z<3/\x.key=(z:Int)):=fun x hx=>by
         rw[<-hws]at hx;rcases (jD.1 hx).1 with h|h|h
         ·exact⟨0,by omega,by rw[h];rfl⟩
         ·exact⟨1,by omega,by rw[h];rfl⟩
         ·exact⟨2,by omega,by rw[h];rfl⟩
        have Y8:Hid ((mD (ak m n).cK ((ak m n).began n) ws=true->bJ p (k+1)={ gU (ak m n) n (⟨kd,(kn:Int),vv⟩:aQ) true with vals:=iL m.vals ws,cK:=gu m.cK ws })/\(mD (ak m n).cK ((ak m n).began n) ws=false->bJ p (k+1)=gU (ak m n) n (⟨kd,(kn:Int),vv⟩:aQ) false)):=by
         refine⟨fun hf=>?_,fun hf=>?_⟩
         ·rw[iA.out,lU HT.out HD.out Rn.out hlast,HNW.out,BF HT.out (by rw[Ow.out,hws];exact hf),Ow.out,hws]
         ·rw[iA.out,lU HT.out HD.out Rn.out hlast,HNW.out,Gb HT.out (by rw[Ow.out,hws];exact hf)]
        have htx:bX ⟨t.az,ops',t.done⟩=true:=by
         have h1:aC (bJ p (k+1)).h=true:=RU ae7.out Nc.out;have h2:∃X,(bJ p (k+1)).h=m.h.set n ⟨t.az,ops',X⟩:=by
          cases hf:mD (ak m n).cK ((ak m n).began n) ws with
          | true=>exact⟨true,by rw[Y8.out.1 hf];exact HH.out true⟩
          | false=>exact⟨false,by rw[Y8.out.2 hf];exact HH.out false⟩
         obtain⟨X,h2⟩:=h2;have h3:=bY h1 (t:=⟨t.az,ops',X⟩) (by rw[h2];exact List.mem_of_getElem? (List.getElem?_set_self hnl));exact h3
        obtain⟨rs8,hR8⟩:=HS8.out.rch;have HT8:Hid ((m.h.set n (⟨t.az,ops',t.done⟩:aA))[n]? =some ⟨t.az,ops',t.done⟩):=List.getElem?_set_self hnl;obtain⟨b8,adO,r8,hA8,hb8,Y7,hr8,g0,g1,g2,RZ,aaM,aa5⟩:=hR8.at HT8.out;injection hA8 with hA8;injection hA8 with aaf aat;subst aaf aat;rw[Z1.out]at g1;have hv8:r8.aY=.slice (some ⟨g3,0,none⟩) (t.ops.length+1) c3:=(Option.some.inj g1).symm;have aar:=RZ.cell.1;rw[hv8]at aar;have Y5:=oM ⟨t.az,ops',t.done⟩ (.slice (some ⟨g3,0,none⟩) (t.ops.length+1) c3) _ aar htx;simp only at Y5;rw[hws]at Y5;have Xt:Hid (Calls Tryz.prog 56 #[.agg #[.int .i64 t.az,.slice (some ⟨g3,0,none⟩) (t.ops.length+1) c3,.bool t.done]] (w7.setCell ⟨b2,off2+n*3+1,none⟩ (.slice (some ⟨g3,0,none⟩) (t.ops.length+1) c3)) (YA (w7.setCell ⟨b2,off2+n*3+1,none⟩ (.slice (some ⟨g3,0,none⟩) (t.ops.length+1) c3)) ws)):=Y5;have z1:=Z1.out;clear hR8 hr8 RZ aaM aa5 hb8 Y7 hv8 aar Y5 htx hws hmore g1 hlast aaJ;simp only at g0 g2;go_upto_if 129 with fail
        obtain⟨w8,hw8⟩:∃W:World,(w7.setCell ⟨b2,off2+n*3+1,none⟩ (.slice (some ⟨g3,0,none⟩) (t.ops.length+1) c3))=W:=⟨_,rfl⟩;rw[hw8]at HS8 Sc z1 y8 g0 g2 Xt ⊢;clear hw8 Z1;go_wp2_with (go_at_call 56;refine Xt.out.mono ?_;rintro e w9 ⟨v9,rfl,Gc,b9⟩;obtain⟨A9,c9,rfl,_⟩:=id Gc.cell.1)
        have Rb:=aa Gc;have UJ:Hid (0<ws.length->∃b off,A9=some ⟨b,off,none⟩/\b<w9.heap.size/\∀(i:Nat) x,ws[i]? =some x->∀j,j<3->w9.cell? ⟨b,off+i*3+j,none⟩=some (aj x j)):=fun h0=>by obtain⟨_,_,e,hc⟩:=Rb.out.cell.1;injection e with e1 e2 e3;subst e1;exact hc h0
        have HS9:=aa (HS8.out.ext b9);have Cr:=aa (Sc.out.trans b9);have UM:Hid (w8.heap.size<=w9.heap.size):=b9.size;have G2:=aa (b9.cell g2);generalize w8.heap.size=B8 at Rb UM;clear Gc b9 g0 g2 z1 y8 e3c ado Xt;go_loopw [15,16] (fun g i wr=>Ext w9 wr/\∃j:Nat,j<=ws.length/\i=.int .i64 (j:Int)/\g=.bool (Cy (ak m n) n (ws.take j))) (fun _ i _=>ws.length-(intOf i).toNat)
        case atStart=>exact⟨Ext.refl _,0,Nat.zero_le _,rfl,rfl⟩
        case round=>
         obtain⟨hv,j,hj,rfl,rfl⟩:=hrel;by_cases hjt:j<ws.length
         ·obtain⟨x,hx⟩:=af hjt;obtain⟨z,hz3,hxz⟩:=HKEY.out x (List.mem_of_getElem? hx);have hgn:=PV (m:=ak m n) (n:=n) hx;obtain⟨bl,ol,rfl,hbl,hcl⟩:=UJ.out (by omega);have hc1:=hcl j x hx 1 (by omega);rw[show aj x 1=.int .i64 x.key from rfl,hxz]at hc1;have hc2:=HS9.out.JM hnp abM.out;rw[<-HE2.out]at hc2;have hc3:=(HS9.out.R5 hnp abM.out hz3).2.1;obtain⟨gj,hgj⟩:∃g,Cy (ak m n) n (ws.take j)=g:=⟨_,rfl⟩;obtain⟨sj,hsj⟩:∃s,gZ (ak m n) n (z:Int)=s:=⟨_,rfl⟩;rw[hxz,hgj,hsj]at hgn;rw[hsj]at hc3;rw[hgj];have HGN:=aa hgn;have f1:∀e,(over wr e).cell? ⟨q2,n,none⟩=some (.slice (some ⟨G9 n,0,none⟩) 3 3):=aG (hv.cell hc2);have f2:∀e,(over wr e).cell? ⟨G9 n,z,none⟩=some (.bool sj):=aG (hv.cell hc3);have f3:∀e,(over wr e).cell? ⟨bl,ol+j*3+1,none⟩=some (.int .i64 (z:Int)):=aG (hv.cell hc1);have k1:(j:Int)<(ws.length:Int):=by omega
          have k2:(0:Int)<=(j:Int):=by omega
          have k3:(z:Int)<3:=by omega
          have k4:(0:Int)<=(z:Int):=by omega
          clear hx hxz hgn hcl hc1 hc2 hc3 hgj hsj;cases gj<;>cases sj<;>(
           go_wp2;refine aO (by as_aux_lemma=>kernel_rfl) (by as_aux_lemma=>kernel_rfl) ?_;repeat (go_big_quiet_step (fail))
           refine wpQuiet_nil ?_;intro w10 abv;clear f1 f2 f3;go_wp2;go_roundw;case rel=>exact⟨hv.trans abv,j+1,by omega,by go_num,by rw[HGN.out];rfl⟩
           case measure=>simp[intOf];omega)
         ·obtain rfl:j=ws.length:=by omega
          obtain⟨gd,hgd⟩:∃g,Cy (ak m n) n (ws.take ws.length)=g:=⟨_,rfl⟩;rw[hgd];rw[List.take_length,Qg]at hgd;have HGD:=aa hgd;have abb:=HS9.out.ext hv;obtain⟨afC,ab5⟩:=abb.rch;obtain⟨b10,afp,r10,aaI,abv,ZL,adU,g0,g1,g2,K8,aab,ZF⟩:=ab5.at HT8.out;injection aaI with aaI;injection aaI with ac0 adm;subst ac0 adm;have gf:=aab (off2+n*3+2);simp only at g2;have XO:=abb.end_ HT8.out (by omega) gd;rw[List.set_set]at XO;simp only at XO;have SC:Hid (Ext w1 (wr.setCell ⟨b2,off2+n*3+2,none⟩ (.bool gd))):=(Cr.out.trans hv).setCell (p:=⟨b2,off2+n*3+2,none⟩) ZL _;have Vj:Hid (Row 71 3 aj B8 (wr.setCell ⟨b2,off2+n*3+2,none⟩ (.bool gd)) (.slice A9 ws.length c9) ws):=by have h9:=Rb.out.ext hv;refine dM h9 (iI wr b2 _ _) (fun i e e'=>?_);obtain⟨cs,hg⟩:=dA h9 e;obtain⟨cs',fr',hg'⟩:=ZF;rw[e',hg']at hg;injection hg with hg;injection hg with _ e _;exact absurd e (by decide)
          have aah:=aa XO;have hrw:=Nat.le_trans Cr.out.size hv.size;clear hgd abb ab5 adU K8 aab ZF g0 g1 XO abv ZL HS9 Rb UJ G2;have HQ1:Hid (w1.heap.size<=q):=YP
          cases gd with
          | false=>
            as_aux_lemma=>
             have jl:Hid (∃sv lg,mX w1.heap.size q p.length (.slice (some ⟨b2,off2,none⟩) p.length ch) (wr.setCell ⟨b2,off2+n*3+2,none⟩ (.bool false)) (bJ p (k+1)).h (bJ p (k+1)).vals (bJ p (k+1)).kept (gZ (bJ p (k+1))) (fun i=>decide (0<(opsOf (bJ p (k+1)).h i).length)) sv lg):=by show ∃sv lg,_;rw[Y8.out.2 HGD.out,HH.out];exact⟨_,_,aah.out.congr rfl (fun i _=>abz.out false i) (fun i _ _=>rfl) (fun i _ _ x _ _=>rfl)⟩
             obtain⟨wo,hwo⟩:∃wo:World,wr.setCell ⟨b2,off2+n*3+2,none⟩ (.bool false)=wo:=⟨_,rfl⟩;rw[hwo]at SC jl;have Jf:decide ((0:Int)<(ws.length:Int))=decide (0<ws.length):=by rw[decide_eq_decide];omega
             by_cases hl0:0<ws.length;all_goals
              go_wp2;try rw[hwo]
              clear g2 gf hwo;go_loopw [17] (fun i wr=>i=.int .i64 0/\wr=wo) (fun i _=>0)
              case atStart=>exact⟨rfl,rfl⟩
              case round=>
               obtain⟨rfl,rfl⟩:=hrel;go_wp2;go_roundw;case rel=>exact⟨SC.out,k+1,by omega,by go_num,jl.out⟩
               case measure=>simp[intOf];omega
          | true=>
            as_aux_lemma=>
             have acy:Hid (∀W,mX w1.heap.size q p.length (.slice (some ⟨b2,off2,none⟩) p.length ch) W (m.h.set n ⟨t.az,ops',true⟩) (iL m.vals ws) (ak m n).kept (fun i=>jO (ak m n) i ws) (fun i=>i==n || decide (0<(opsOf m.h i).length)) Wh G9->∃sv lg,mX w1.heap.size q p.length (.slice (some ⟨b2,off2,none⟩) p.length ch) W (bJ p (k+1)).h (bJ p (k+1)).vals (bJ p (k+1)).kept (gZ (bJ p (k+1))) (fun i=>decide (0<(opsOf (bJ p (k+1)).h i).length)) sv lg):=fun W h=>⟨_,_,Zq h HVO.out (HH.out true) (abz.out true) (Y8.out.1 HGD.out)⟩;have hS0:mX w1.heap.size q p.length (.slice (some ⟨b2,off2,none⟩) p.length ch) (wr.setCell ⟨b2,off2+n*3+2,none⟩ (.bool true)) (m.h.set n ⟨t.az,ops',true⟩) (iL m.vals (ws.take 0)) (ak m n).kept (fun i=>jO (ak m n) i (ws.take 0)) (fun i=>i==n || decide (0<(opsOf m.h i).length)) Wh G9:=SX aah.out;have Py:=aa hS0;clear hS0 aah;obtain⟨wo,hwo⟩:∃wo:World,wr.setCell ⟨b2,off2+n*3+2,none⟩ (.bool true)=wo:=⟨_,rfl⟩;rw[hwo]at SC Py Vj;go_wp2;try rw[hwo]
             clear g2 gf hwo;go_loopw [17] (fun i wr=>Hid (Ext w1 wr)/\∃j:Nat,j<=ws.length/\i=.int .i64 (j:Int)/\Hid (mX w1.heap.size q p.length (.slice (some ⟨b2,off2,none⟩) p.length ch) wr (m.h.set n ⟨t.az,ops',true⟩) (iL m.vals (ws.take j)) (ak m n).kept (fun i=>jO (ak m n) i (ws.take j)) (fun i=>i==n || decide (0<(opsOf m.h i).length)) Wh G9/\Row 71 3 aj B8 wr (.slice A9 ws.length c9) ws)) (fun i _=>ws.length-(intOf i).toNat)
             case atStart=>exact⟨SC.out,0,Nat.zero_le _,rfl,Py.out,Vj.out⟩
             case round=>
              obtain⟨HXJ,j,hj,rfl,HJ⟩:=hrel;by_cases hjt:j<ws.length
              ·obtain⟨x,hx⟩:=af hjt;obtain⟨z,hz3,hxz⟩:=HKEY.out x (List.mem_of_getElem? hx);obtain⟨Al,cl,e,hcl0⟩:=HJ.out.2.cell.1;injection e with e1 _ e3;subst e1 e3;obtain⟨bl,ol,rfl,hbl,hcl⟩:=hcl0 (by omega);have hc1:=hcl j x hx 1 (by omega);have hc2:=hcl j x hx 2 (by omega);rw[show aj x 1=.int .i64 x.key from rfl,hxz]at hc1;rw[show aj x 2=.int .i64 x.value from rfl]at hc2;obtain⟨hc3,hf3⟩:=HJ.out.1.aa2 hz3;have YK:=(HJ.out.1.ext (Ext.refl wr).drew).put hz3 x.value;rw[<-hxz,<-CP hx]at YK;have yT:Row 71 3 aj B8 (wr.drew.setCell ⟨q,z,none⟩ (.int .i64 x.value)) (.slice (some ⟨bl,ol,none⟩) ws.length c9) ws:=by have h9:=HJ.out.2.ext (Ext.refl wr).drew;refine dM h9 (iI wr.drew q z _) (fun i e e'=>?_);obtain⟨cs,hg⟩:=dA h9 e;have hg':=(HJ.out.1.ext (Ext.refl wr).drew).b0;rw[e',hg']at hg;injection hg with hg;injection hg with _ e _;exact absurd e (by decide)
               have SF:Hid (Ext w1 (wr.drew.setCell ⟨q,z,none⟩ (.int .i64 x.value))):=HXJ.out.drew.setCell (p:=⟨q,z,none⟩) HQ1.out _;have HUP:=aa (fun i y=>M0 (m:=ak m n) (n:=i) hx y);obtain⟨xv,hxv⟩:∃xv,x.value=xv:=⟨_,rfl⟩;rw[hxv]at hc2 YK yT SF;have aaU:=aa YK;have QN:=aa yT;have HXZ:=aa hxz;have ZG:=aa hx;have k1:(j:Int)<(ws.length:Int):=by omega
               have k2:(0:Int)<=(j:Int):=by omega
               have k3:(z:Int)<3:=by omega
               have k4:(0:Int)<=(z:Int):=by omega
               clear hx hxz hxv hcl hcl0 YK yT;go_wp2;have u1:({ wr with drawn:=wr.drawn+1 }:World).cell? ⟨bl,ol+j*3+1,none⟩=some (.int .i64 (z:Int)):=hc1;have u2:({ wr with drawn:=wr.drawn+1 }:World).cell? ⟨bl,ol+j*3+2,none⟩=some (.int .i64 xv):=hc2;go_still_tail 11,(by as_aux_lemma=>kernel_rfl)
               change wpList _ _ _ _ _ wr.drew;clear u1 u2 hc1 hc2;have ad1:wr.drew.cell? ⟨q,z,none⟩=some (.int .i64 (iL m.vals (ws.take j) (z:Int))):=hc3;have aei:wr.drew.frozen? ⟨q,z,none⟩=false:=hf3;go_wp2;have hdr:wr.drew.setCell ⟨q,z,none⟩ (.int .i64 xv)=(wr.setCell ⟨q,z,none⟩ (.int .i64 xv)).drew:=rfl;rw[hdr]at SF aaU QN;obtain⟨wo2,acZ⟩:∃wo2:World,(wr.setCell ⟨q,z,none⟩ (.int .i64 xv)).drew=wo2:=⟨_,rfl⟩;rw[acZ]at SF aaU QN ⊢;clear hdr acZ hc3 hf3 ad1 aei;go_loopw [18] (fun i wr=>Hid (Ext w1 wr)/\∃a:Nat,a<=p.length/\i=.int .i64 (a:Int)/\Hid (mX w1.heap.size q p.length (.slice (some ⟨b2,off2,none⟩) p.length ch) wr (m.h.set n ⟨t.az,ops',true⟩) (iL m.vals (ws.take (j+1))) (ak m n).kept (fun y=>if y<a then jO (ak m n) y (ws.take (j+1)) else jO (ak m n) y (ws.take j)) (fun i=>i==n || decide (0<(opsOf m.h i).length)) Wh G9/\Row 71 3 aj B8 wr (.slice (some ⟨bl,ol,none⟩) ws.length c9) ws)) (fun i _=>p.length-(intOf i).toNat)
               case atStart=>exact⟨SF.out,0,Nat.zero_le _,rfl,aaU.out.congr rfl (fun i _=>rfl) (fun i _ _=>rfl) (fun i _ _ x _ _=>by rw[if_neg (Nat.not_lt_zero _)]),QN.out⟩
               case round=>
                obtain⟨HXA,a,ha,rfl,HA⟩:=hrel;by_cases hap:a<p.length
                ·have l1:(a:Int)<(p.length:Int):=by omega
                 have l2:(0:Int)<=(a:Int):=by omega
                 cases Nq:(a==n || decide (0<(opsOf m.h a).length)) with
                 | false=>
                   have hc4:=HA.out.1.Wt hap Nq;rw[<-HE2.out]at hc4;have BD:Hid (mX w1.heap.size q p.length (.slice (some ⟨b2,off2,none⟩) p.length ch) wr (m.h.set n ⟨t.az,ops',true⟩) (iL m.vals (ws.take (j+1))) (ak m n).kept (fun y=>if y<a+1 then jO (ak m n) y (ws.take (j+1)) else jO (ak m n) y (ws.take j)) (fun i=>i==n || decide (0<(opsOf m.h i).length)) Wh G9):=
                    HA.out.1.congr rfl (fun i _=>rfl) (fun i _ _=>rfl) (fun i _ hb x _ _=>by
                     have hia:i≠a:=fun e=>by subst e;(try simp only at hb);rw[Nq]at hb;cases hb
                     by_cases h1:i<a
                     ·rw[if_pos h1,if_pos (by omega)]
                     ·rw[if_neg h1,if_neg (by omega)])
                   clear Nq;go_wp2;go_roundw;case rel=>exact⟨HXA.out,a+1,by omega,by go_num,BD.out,HA.out.2⟩
                   case measure=>simp[intOf];omega
                 | true=>
                   have hc4:=HA.out.1.JM hap Nq;rw[<-HE2.out]at hc4;obtain⟨hlq,Xz,hf5⟩:=HA.out.1.R5 hap Nq hz3;have hst:=(HA.out.1.st a hap Nq).2;obtain⟨bo,LY⟩:∃b,(if a<a then jO (ak m n) a (ws.take (j+1)) else jO (ak m n) a (ws.take j)) (z:Int)=b:=⟨_,rfl⟩;rw[LY]at Xz;have ab0:=(HA.out.1.ext (Ext.refl wr).drew).mark hap Nq hz3 true;have BD:Hid (mX w1.heap.size q p.length (.slice (some ⟨b2,off2,none⟩) p.length ch) (wr.drew.setCell ⟨G9 a,z,none⟩ (.bool true)) (m.h.set n ⟨t.az,ops',true⟩) (iL m.vals (ws.take (j+1))) (ak m n).kept (fun y=>if y<a+1 then jO (ak m n) y (ws.take (j+1)) else jO (ak m n) y (ws.take j)) (fun i=>i==n || decide (0<(opsOf m.h i).length)) Wh G9):=
                    ab0.congr rfl (fun i _=>rfl) (fun i _ _=>rfl) (fun i _ hb x _ _=>by
                     try simp only
                     by_cases h1:i<a
                     ·rw[if_pos (show i<a+1 by omega),if_neg (show ¬(i=a/\x=(z:Int)) from fun e=>by omega),if_pos h1]
                     ·by_cases h2:i=a
                      ·subst h2;rw[if_pos (Nat.lt_succ_self _),HUP.out,HXZ.out];by_cases h3:x=(z:Int)
                       ·rw[if_pos h3,if_pos ⟨rfl,h3⟩]
                       ·rw[if_neg h3,if_neg (fun e=>h3 e.2),if_neg (Nat.lt_irrefl _)]
                      ·rw[if_neg (show ¬i<a+1 by omega),if_neg (fun e=>h2 e.1),if_neg h1])
                   have HRA:Hid (Row 71 3 aj B8 (wr.drew.setCell ⟨G9 a,z,none⟩ (.bool true)) (.slice (some ⟨bl,ol,none⟩) ws.length c9) ws):=by have h9:=HA.out.2.ext (Ext.refl wr).drew;refine dM h9 (iI wr.drew (G9 a) z _) (fun i e e'=>?_);obtain⟨cs,hg⟩:=dA h9 e;have hg':wr.drew.heap[G9 a]? = _:=hst;rw[e',hg']at hg;injection hg with hg;injection hg with _ e _;exact absurd e (by decide)
                   have HXF:Hid (Ext w1 (wr.drew.setCell ⟨G9 a,z,none⟩ (.bool true))):=HXA.out.drew.setCell (p:=⟨G9 a,z,none⟩) (Nat.le_trans HQ1.out (by show q<=G9 a;omega)) _;obtain⟨Al,cl,e,hcl0⟩:=HA.out.2.cell.1;injection e with e1 _ e3;subst e3;obtain⟨bl',ol',Zl,pg,hcl⟩:=hcl0 (by omega);rw[Zl]at e1;injection e1 with e1;injection e1 with e11 e12;subst e11 e12;have hc1:=hcl j x ZG.out 1 (by omega);rw[show aj x 1=.int .i64 x.key from rfl,HXZ.out]at hc1;clear Nq hlq hst ab0 hcl hcl0 Zl LY;go_wp2;have u1:({ wr with drawn:=wr.drawn+1 }:World).cell? ⟨bl,ol+j*3+1,none⟩=some (.int .i64 (z:Int)):=hc1;have u2:({ wr with drawn:=wr.drawn+1 }:World).cell? ⟨q2,a,none⟩=some (.slice (some ⟨G9 a,0,none⟩) 3 3):=hc4;go_still_tail 9,(by as_aux_lemma=>kernel_rfl)
                   change wpList _ _ _ _ _ wr.drew;clear u1 u2 hc1 hc4;have afz:wr.drew.cell? ⟨G9 a,z,none⟩=some (.bool bo):=Xz;have afx:wr.drew.frozen? ⟨G9 a,z,none⟩=false:=hf5;go_wp2;go_roundw;case rel=>exact⟨HXF.out,a+1,by omega,by go_num,BD.out,HRA.out⟩
                   case measure=>simp[intOf];omega
                ·obtain rfl:a=p.length:=by omega
                 have BD:Hid (mX w1.heap.size q p.length (.slice (some ⟨b2,off2,none⟩) p.length ch) wr (m.h.set n ⟨t.az,ops',true⟩) (iL m.vals (ws.take (j+1))) (ak m n).kept (fun y=>jO (ak m n) y (ws.take (j+1))) (fun i=>i==n || decide (0<(opsOf m.h i).length)) Wh G9):=
                  HA.out.1.congr rfl (fun i _=>rfl) (fun i _ _=>rfl) (fun i hi _ x _ _=>by rw[if_pos hi])
                 go_wp2;go_roundw;case rel=>exact⟨HXA.out,j+1,by omega,by go_num,BD.out,HA.out.2⟩
                 case measure=>simp[intOf];omega
              ·obtain rfl:j=ws.length:=by omega
               have h0:=HJ.out.1;simp only[List.take_length]at h0;have jl:=aa (acy.out _ h0);clear h0;go_wp2;go_roundw;case rel=>exact⟨HXJ.out,k+1,by omega,by go_num,jl.out⟩
               case measure=>simp[intOf];omega
  ·obtain rfl:k=xs.length:=by omega
   obtain⟨sv,lg,hRS⟩:=HS.out;obtain⟨rs,hR⟩:=hRS.rch;have HH:=aa (hR.ret wL.out.size);rw[ZK.out]at HH;clear hR hRS HS;go_wp2;go_returns;obtain⟨a1,a2,a3⟩:=HH.out;exact⟨_,rs,rfl,a1,a2,a3,wL.out.trans HB.out⟩
end
