/- Lemmas. -/
import Derived.Test.YtcdopfdgknglfaaGreatDoorKAC
import Derived.Test.YtcdopfdgknglfaaGreatDoorKAD
import Derived.Test.YtcdopfdgknglfaaGreatDoorKAE
set_option maxHeartbeats 16000000
set_option maxRecDepth 8000
set_option linter.all false
namespace Go.Proofs.YtcdopfdgknglfaaGreatDoor
open Go.RowKit
theorem mq:(Tryz.prog.info? 67).map (λi=>(i.zero,i.size,i.bytes))=some (some (.agg #[.int .i64 0,.int .i64 0,.int .i64 0]),3,24):=by kernel_rfl
theorem wh(x:aV)(j:Nat):(encOpr x j).oneCell'=true:=by first|rfl|(unfold encOpr;split<;>rfl)
theorem MZ{v:Value}{xs:List aV}(w:World)(h:aL 3 encOpr w v xs)(hlen:xs.length<=2097152) :
 Calls Tryz.prog 109 #[v] w λe w'=>∃v',e=.returned v'/\Row 67 3 encOpr w.heap.size w' v' xs/\Ext w w':=by
 obtain⟨A,c,rfl,h'⟩:=id h;have heq:=λW=>Lib.run_eql_slice_nil (P:=Tryz.prog) W 46 67 A xs.length c 0 0 eG
 cases A with
 | none=>
   have hx:xs=[]:=by
    rcases Nat.eq_zero_or_pos xs.length with h0|h0
    ·exact mZ h0
    ·obtain⟨b,off,hA,_⟩:=h' h0;cases hA
   subst hx;clear h h';simp only[iJ]at heq ⊢;go_enter Tryz.func109,Tryz.ntmps109;go_wp2;go_returns;exact⟨_,rfl,Row.nil,af _⟩
 | some ad=>
   have hrow:Row 67 3 encOpr w.heap.size (w.alloc (.cells #[] 67)) (.slice (some ⟨w.heap.size,0,none⟩) 0 0) ([]:List aV):=World.ownsRow_made w #[] 0 (av _) (by simp[maxLen]) (by simp);obtain⟨v',w',hrun,hrow',hgrow⟩:=lX (P:=Tryz.prog) (t:=46) (ty:=46) (e:=67) eG mq rfl (by omega) hrow (h.ext ((af w).alloc (.cells #[] 67))) (λx _ j=>wh x j) (by simp;omega) (by omega) (by simp);have Wt:=aa hrow';have hg:=aa (Ext.grown ((af w).alloc (.cells #[] 67)) hgrow (λk hk=>by simp[Value.ownBlock]at hk;omega));have XP:=aa hrun;clear h h' hrow hrow' hgrow hrun;go_enter Tryz.func109,Tryz.ntmps109;go_wp2_with (at_builtin;refine wpList_append_run rfl rfl rfl rfl XP.out ?_)
   go_returns;exact⟨_,rfl,by simpa using Wt.out,hg.out⟩
theorem rM{α:Type}{m:Nat}{enc:α->Nat->Value}{w:World}{A:Option Addr}{n c:Nat}{xs:List α}(h:aL m enc w (.slice A n c) xs)(c':Nat):aL m enc w (.slice A n c') xs:=by obtain⟨A',c2,hA,hc⟩:=h;injection hA with e1 e2 e3;subst e1 e2;exact⟨A,c',rfl,hc⟩
theorem N7{lo:Nat}{w:World}{A:Option Addr}{n c:Nat}(h:Own lo w (.slice A n c))(c':Nat):Own lo w (.slice A n c'):=λa n' c2 hv hn=>by injection hv with e1 e2 e3;subst e1 e2;exact h _ _ _ rfl hn
theorem De{I:TypeId}{w:World}{A:Option Addr}{n c:Nat}(h:jD I w (.slice A n c))(c':Nat):jD I w (.slice A n c'):=λa n' c2 hv hn=>by injection hv with e1 e2 e3;subst e1 e2;exact h _ _ _ rfl hn
theorem yD(A:Option Addr)(n c:Nat)(w:World)(hc:n<=c)(hc2:c<=9223372036854775807) :
 Calls Tryz.prog 108 #[.slice A n c] w λe w'=>e=.returned (.slice A n n)/\w=w':=by
 go_enter Tryz.func108,Tryz.ntmps108;go_wp2;go_returns;exact⟨rfl,rfl⟩
theorem yh(s:Int)(d:Bool){ov:Value}{ops:List aV}(w:World)(h:aL 3 encOpr w ov ops)(hlen:ops.length<=2097152) :
 Calls Tryz.prog 64 #[.agg #[.int .i64 s,ov,.bool d]] w λe w'=>∃A,e=.returned (.agg #[.int .i64 s,.slice A ops.length ops.length,.bool d])/\aL 3 encOpr w' (.slice A ops.length ops.length) ops/\Own w.heap.size w' (.slice A ops.length ops.length)/\jD 67 w' (.slice A ops.length ops.length)/\Ext w w':=by
 have H:=aa h;obtain⟨A0,c0,rfl,_⟩:=id h;clear h;go_enter Tryz.func64,Tryz.ntmps64;go_wp2_with fail
 have hE:Hid (Ext w ((w.alloc (.cells #[.int .i64 s,.slice A0 ops.length c0,.bool d] 48)).alloc (.cells #[.int .i64 0,.slice none 0 0,.bool false] 48))):=((af _).alloc _).alloc _;have hB1:Hid (ny ((w.alloc (.cells #[.int .i64 s,.slice A0 ops.length c0,.bool d] 48)).alloc (.cells #[.int .i64 0,.slice none 0 0,.bool false] 48)) w.heap.size 3):=(ny.made w #[.int .i64 s,.slice A0 ops.length c0,.bool d] _).ext ((af _).alloc _)
 refine(MZ _ (H.out.ext hE.out) hlen).mono ?_
 rintro e w1 ⟨v1,rfl,r1,b1⟩;have hz:w.heap.size+1<w1.heap.size:=by have:=b1.size;simp at this;omega
 have x0:w1.cell? ⟨w.heap.size,0,none⟩=some (.int .i64 s):=b1.cell (((af _).alloc _).cell (aF rfl));have x1:w1.cell? ⟨w.heap.size,1,none⟩=some (.slice A0 ops.length c0):=b1.cell (((af _).alloc _).cell (aF rfl));have x2:w1.cell? ⟨w.heap.size,2,none⟩=some (.bool d):=b1.cell (((af _).alloc _).cell (aF rfl));have y0:w1.cell? ⟨w.heap.size+1,0,none⟩=some (.int .i64 0):=b1.cell (iU (by simp) rfl);have y1:w1.cell? ⟨w.heap.size+1,1,none⟩=some (.slice none 0 0):=b1.cell (iU (by simp) rfl);have y2:w1.cell? ⟨w.heap.size+1,2,none⟩=some (.bool false):=b1.cell (iU (by simp) rfl);have f1:∀j,w1.frozen? ⟨w.heap.size,j,none⟩=false:=λj=>(b1.frozen (p:=⟨w.heap.size,j,none⟩) (by simp;omega)).trans ((((af (w.alloc _)).alloc _).frozen (p:=⟨w.heap.size,j,none⟩) (by simp)).trans (jf j rfl));have f2:∀j,w1.frozen? ⟨w.heap.size+1,j,none⟩=false:=λj=>(b1.frozen (p:=⟨w.heap.size+1,j,none⟩) (by simp)).trans (jf j (by simp));have g1:=f1 1;have g20:=f2 0;have g21:=f2 1;have g22:=f2 2;have R1:=aa r1;have B1:=aa (hE.out.trans b1);obtain⟨A1,c1,rfl,_⟩:=id r1.cell.1;have hcap:=r1.cap _ _ _ rfl;clear f1 f2 r1 b1 hB1;go_wp2_with (go_at_call 108;refine(yD A1 ops.length c1 _ hcap.1 hcap.2).mono ?_;rintro e w' ⟨rfl,rfl⟩)
 refine bodyPost_ret (v:=.agg #[.int .i64 s,.slice A1 ops.length ops.length,.bool d]) (by simp[results,Tryz.results64,go_sem,y0,y1,y2]) rfl ?_;have R2:=(((R1.out.Dw (a:=⟨w.heap.size,1,none⟩) (by simp<;>omega) (.slice A1 ops.length ops.length)).Dw (a:=⟨w.heap.size+1,0,none⟩) (by simp<;>omega) (.int .i64 s)).Dw (a:=⟨w.heap.size+1,1,none⟩) (by simp<;>omega) (.slice A1 ops.length ops.length)).Dw (a:=⟨w.heap.size+1,2,none⟩) (by simp<;>omega) (.bool d)
 refine⟨A1,rfl,rM R2.cell.1 _,N7 (R2.cell.2.mono (by simp<;>omega)) _,De R2.Gl _,?_⟩
 exact(((B1.out.setCell (av _) _).setCell (by simp<;>omega) _).setCell (by simp<;>omega) _).setCell (by simp<;>omega) _
theorem lC{α:Type}{E:TypeId}{m:Nat}{enc:α->Nat->Value}{w:World}(cs:Array Value)(cap:Nat)(hm:cap<=maxLen)(hs:cs.size=cap*m):Row E m enc w.heap.size (w.alloc (.cells cs E)) (.slice (some ⟨w.heap.size,0,none⟩) 0 cap) ([]:List α):=
 World.ownsRow_made w cs cap (av _) hm hs
theorem dD{α:Type}{E:TypeId}{m:Nat}{enc:α->Nat->Value}{w:World}:Row E m enc w.heap.size (w.alloc (.cells #[] E)) (.slice (some ⟨w.heap.size,0,none⟩) 0 0) ([]:List α):=
 World.ownsRow_made w #[] 0 (av _) (by simp[maxLen]) (by simp)
theorem Ld{E I:TypeId}{w:World}(cs:Array Value)(cap:Nat)(hm:cap<=maxLen)(hs:cs.size=cap*3):oV E I w.heap.size (w.alloc (.cells cs E)) (.slice (some ⟨w.heap.size,0,none⟩) 0 cap) [] []:=
 ⟨rfl,lC cs cap hm hs,λ_ _ _ h=>by simp at h,λ_ _ _ _ _ h=>by simp at h⟩
theorem pW:(Tryz.prog.info? 48).map (λi=>(i.zero,i.size,i.bytes))=some (some (.agg #[.int .i64 0,.slice none 0 0,.bool false]),3,40):=by kernel_rfl
theorem dx:(Tryz.prog.info? 3).map (λi=>(i.zero,i.size,i.bytes))=some (some (.int .i64 0),1,8):=by kernel_rfl
theorem uF{base:Nat}{w0 w:World}(q:Nat)(hq:w.heap.size=q){v:Value}{rs:List jg}{h:List aG}{A:Option Addr}{n c:Nat}{t:aG}(H:oV 48 67 base w0 v rs h)(hx:Ext w0 w)(hs:aL 3 encOpr w (.slice A n c) t.ops)(ho:Own w0.heap.size w (.slice A n c))(hi:jD 67 w (.slice A n c))(hcp:tN (.slice A n c))(hb:base<=w0.heap.size)(hn:rs.length+1<=4194304) :
 ∃v' w',(Builtin.append_ #[23,23] 23 #[v,.slice (some ⟨q,0,none⟩) 1 1]).run Tryz.prog (w.alloc (.cells #[.int .i64 t.az,.slice A n c,.bool t.done] 48))=.ok v' w' /\
  oV 48 67 base w' v' (rs++[⟨t.az,.slice A n c,t.done⟩]) (h++[t])/\∀u:World,Ext u w0->u.heap.size<=base->Ext u w':=by
 subst hq;have hrow:=H.2.1.ext hx;obtain⟨v',w',hrun,hrow',hg⟩:=sJ (P:=Tryz.prog) (t:=23) (ty:=23) (e:=48) kC pW rfl (by omega) hrow ⟨t.az,.slice A n c,t.done⟩ (λj=>by
  match j with
  | 0=>rfl
  | 1=>rfl
  | _+2=>rfl) hn (by omega) (aX hb hx.size)
 refine⟨v',w',hrun,?_,λu hu hl=>Ext.grown ((hu.trans hx).alloc _) hg (λk hk=>aX hl (hrow.block k hk))⟩;have hy:=hx.alloc (.cells #[.int .i64 t.az,.slice A n c,.bool t.done] 48);exact oV.push (by decide) H hy ⟨rfl,rfl,hs.ext ((af _).alloc _),hcp⟩ (ho.ext ((af _).alloc _)) (hi.ext ((af _).alloc _)) hb hrow' hg
theorem qL{v:Value}{h:List aG}(w:World)(H:iM w v h)(hlen:h.length<=2097152)(hM:∀t∈h,t.ops.length<=2097152) :
 Calls Tryz.prog 24 #[v] w (uw w h):=by
 obtain⟨A,c,rfl⟩:=H.slice;have HH:=aa H;have HM:=aa hM;have hmk:=jo (P:=Tryz.prog) 23 48 kC pW h.length (by omega) (by omega);clear H hM;go_enter Tryz.func24,Tryz.ntmps24;go_wp2;clear hmk;go_loopw [3,11] (λo i wr=>Ext w wr/\∃k:Nat,k<=h.length/\i=.int .i64 k/\Hid (∃rs,oV 48 67 w.heap.size wr o rs (h.take k))) (λ_ i _=>h.length-(intOf i).toNat)
 case atStart=>exact⟨(af _).alloc _,0,aT _,rfl,[],Ld _ h.length (by unfold maxLen;omega) (size_madeCells _ _)⟩
 case round=>
  obtain⟨hb,k,hk,rfl,HI⟩:=hrel;by_cases hlt:k<h.length
  ·obtain⟨b,off,rfl,hbl,hc⟩:=HH.out.head (by omega);obtain⟨t,ht⟩:=ah hlt;obtain⟨ov,c0,c1,c2,hs⟩:=hc k t ht;replace c0:=hb.cell c0;replace c1:=hb.cell c1;replace c2:=hb.cell c2;have hl:=HM.out t (aM ht);obtain⟨rs,hB⟩:=HI.out;obtain⟨A',c',rfl,_⟩:=id hs;have HS:=aa (hs.ext (hb.alloc (.cells #[.int .i64 t.az,.slice A' t.ops.length c',.bool t.done] 48)));have HT:=aa ht;have HB:=aa hB;have hrl:rs.length<=k:=by rw[hB.1,eY];omega
   clear ht hc hs HI hB;go_wp2_with fail
   refine(yh t.az t.done _ HS.out hl).mono ?_
   rintro e w1 ⟨A1,rfl,s1,o1,i1,b1⟩;have hbase:w.heap.size<=wr.heap.size:=hb.size;obtain⟨v',w2,hrun,hB2,hE2⟩:=uF (t:=t) _ rfl HB.out (((af _).alloc _).trans b1) s1 (o1.mono (by simp)) i1 (nG (av _) (by omega)) hbase (by omega);have bH:=aa hrun;have HB2:=aa hB2;have HE2:=aa (hE2 w hb (av _));clear hrun hB2 hE2 s1 o1 i1;go_wp2_with (at_builtin;refine wpList_append_run rfl rfl rfl rfl bH.out ?_)
   go_roundw;case rel=>exact⟨HE2.out,k+1,by omega,by go_num,_,by rw[ak HT.out];exact HB2.out⟩
   case measure=>simp[intOf];omega
  ·obtain rfl:k=h.length:=by omega
   obtain⟨rs,hB⟩:=HI.out;have HB:=aa hB;obtain⟨A',c',rfl,_⟩:=hB.2.1.cell.1;clear hB HI;go_wp2;go_returns;have hB:=HB.out;rw[bM]at hB;obtain⟨d1,d2⟩:=hB.done (by decide);exact⟨_,rs,rfl,d1,d2,hb⟩
theorem YJ{base:Nat}{w0 w:World}(q:Nat)(hq:w.heap.size=q){v:Value}{xs:List Nat}(H:Row 3 1 (one jl) base w0 v xs)(hx:Ext w0 w)(n:Nat)(hb:base<=w0.heap.size)(hn:xs.length+1<=4194304) :
 ∃v' w',(Builtin.append_ #[56,56] 56 #[v,.slice (some ⟨q,0,none⟩) 1 1]).run Tryz.prog (w.alloc (.cells #[.int .i64 (n:Int)] 3))=.ok v' w' /\
  Row 3 1 (one jl) base w' v' (xs++[n])/\∀u:World,Ext u w0->u.heap.size<=base->Ext u w':=by
 subst hq;have hrow:=H.ext hx;obtain⟨v',w',hrun,hrow',hg⟩:=sJ (P:=Tryz.prog) (t:=56) (ty:=56) (e:=3) Mm dx rfl (by omega) hrow n (λj=>rfl) hn (by omega) (aX hb hx.size);exact⟨v',w',hrun,hrow',λu hu hl=>Ext.grown ((hu.trans hx).alloc _) hg (λk hk=>aX hl (hrow.block k hk))⟩
def ady(w:World)(xs:List Nat)(e:Ending)(w':World):Prop:=∃v,e=.returned v/\Row 3 1 (one jl) w.heap.size w' v xs/\Ext w w'
def Ae(h:List aG)(k:Nat):List Nat:=(List.range k).filter λn=>(h[n]?.map (·.done)).getD false
theorem EL{h:List aG}{k:Nat}{t:aG}(ht:h[k]? =some t):Ae h (k+1)=Ae h k++if t.done=true then [k] else []:=by unfold Ae;rw[vU,rF];congr 1;simp[sN,ht]
theorem Gm(h:List aG)(k:Nat):(Ae h k).length<=k:=by
 have:=mO (λn=>(h[n]?.map (·.done)).getD false) (List.range k)
 simpa[Ae] using this
theorem uG{v:Value}{h:List aG}(w:World)(H:iM w v h)(hlen:h.length<=2097152) :
 Calls Tryz.prog 205 #[v] w (ady w (aN h)):=by
 obtain⟨A,c,rfl⟩:=H.slice;have HH:=aa H;have hmk:=jo (P:=Tryz.prog) 56 3 Mm dx h.length (by omega) (by omega);clear H;go_enter Tryz.func205,Tryz.ntmps205;go_wp2;clear hmk;go_loopw [3,11] (λo i wr=>Ext w wr/\∃k:Nat,k<=h.length/\i=.int .i64 k/\Hid (Row 3 1 (one jl) w.heap.size wr o (Ae h k))) (λ_ i _=>h.length-(intOf i).toNat)
 case atStart=>exact⟨(af _).alloc _,0,aT _,rfl,lC _ h.length (by unfold maxLen;omega) (by rw[Nat.mul_one];exact size_madeCells _ _)⟩
 case round=>
  obtain⟨hb,k,hk,rfl,HI⟩:=hrel;have hdl:=Gm h k;by_cases hlt:k<h.length
  ·obtain⟨b,off,rfl,hbl,hc⟩:=HH.out.head (by omega);obtain⟨t,ht⟩:=ah hlt;obtain⟨ov,c0,c1,c2,hs⟩:=hc k t ht;replace c0:=hb.cell c0;replace c1:=hb.cell c1;replace c2:=hb.cell c2;obtain⟨A',c',rfl,_⟩:=id hs;have hnx:=aa (EL ht);have hbase:w.heap.size<=wr.heap.size:=hb.size;clear ht hc hs
   cases hd:t.done with
   | true=>
     rw[hd]at c2;obtain⟨v',w2,hrun,hB2,hE2⟩:=YJ (w:=wr.alloc (.cells #[.int .i64 t.az,.slice A' t.ops.length c',.bool true] 48)) (wr.heap.size+1) (by simp) HI.out ((af _).alloc _) k hbase (by omega);have bH:=aa hrun;have HB2:=aa hB2;have HE2:=aa (hE2 w hb (av _));clear hrun hB2 hE2;go_wp2_with (at_builtin;refine wpList_append_run rfl rfl rfl rfl bH.out ?_)
     go_roundw;case rel=>exact⟨HE2.out,k+1,by omega,by go_num,by rw[hnx.out,aj hd];exact HB2.out⟩
     case measure=>simp[intOf];omega
   | false=>
     rw[hd]at c2;go_wp2;go_roundw;case rel=>exact⟨hb.alloc _,k+1,by omega,by go_num,by rw[hnx.out,au (by simp[hd]),jh];exact HI.out.ext ((af _).alloc _)⟩
     case measure=>simp[intOf];omega
  ·obtain rfl:k=h.length:=by omega
   obtain⟨A',c',rfl,_⟩:=HI.out.cell.1;go_wp2;go_returns;exact⟨_,rfl,HI.out,hb⟩
theorem JW{v:Value}{h:List aG}(w:World)(H:iM w v h)(hok:aD h=true) :
 Calls Tryz.prog 78 #[v] w (ady w (aN h)):=by
 obtain⟨A,c,rfl⟩:=H.slice;have HH:=aa H;have fu:=aa hok;have hlen:=aR hok;clear H hok;go_enter Tryz.func78,Tryz.ntmps78;go_wp2;go_loopw [3,4] (λo i wr=>Ext w wr/\∃k:Nat,k<=h.length/\i=.int .i64 k/\Hid (Row 3 1 (one jl) w.heap.size wr o (Ae h k))) (λ_ i _=>h.length-(intOf i).toNat)
 case atStart=>exact⟨(af _).alloc _,0,aT _,rfl,dD⟩
 case round=>
  obtain⟨hb,k,hk,rfl,HI⟩:=hrel;have hdl:=Gm h k;by_cases hlt:k<h.length
  ·go_wp2_with fail
   refine(bJ _ (HH.out.ext hb) (by omega) (λt ht=>by have:=dF (dH fu.out ht);omega)).mono ?_
   rw[fu.out];rintro e w1 ⟨rfl,b1⟩;obtain⟨b,off,rfl,hbl,hc⟩:=HH.out.head (by omega);obtain⟨t,ht⟩:=ah hlt;obtain⟨ov,c0,c1,c2,hs⟩:=hc k t ht;replace c2:=b1.cell (hb.cell c2);have hnx:=aa (EL ht);have hbase:w.heap.size<=wr.heap.size:=hb.size;clear ht hc hs c0 c1
   cases hd:t.done with
   | true=>
     rw[hd]at c2;obtain⟨v',w2,hrun,hB2,hE2⟩:=YJ _ rfl HI.out b1 k hbase (by omega);have bH:=aa hrun;have HB2:=aa hB2;have HE2:=aa (hE2 w hb (av _));clear hrun hB2 hE2;go_wp2_with (at_builtin;refine wpList_append_run rfl rfl rfl rfl bH.out ?_)
     go_roundw;case rel=>exact⟨HE2.out,k+1,by omega,by go_num,by rw[hnx.out,aj hd];exact HB2.out⟩
     case measure=>simp[intOf];omega
   | false=>
     rw[hd]at c2;go_wp2;go_roundw;case rel=>exact⟨hb.trans b1,k+1,by omega,by go_num,by rw[hnx.out,au (by simp[hd]),jh];exact HI.out.ext b1⟩
     case measure=>simp[intOf];omega
  ·obtain rfl:k=h.length:=by omega
   obtain⟨A',c',rfl,_⟩:=HI.out.cell.1;go_wp2;go_returns;exact⟨_,rfl,HI.out,hb⟩
theorem oD{α:Type}{t e:TypeId}{m b:Nat}{z:Value}{enc:α->Nat->Value}{w:World}{A:Option Addr}{n c:Nat}{xs:List α}(q:Nat)(hq:w.heap.size=q)(ht:Tryz.prog.underlying t=some (.slice e))(hinfo:(Tryz.prog.info? e).map (λi=>(i.zero,i.size,i.bytes))=some (some z,m,b))(hzs:z.cells.size=m)(hm:0<m)
 (h:aL m enc w (.slice A n c) xs) (h1:∀x∈xs,∀j,(enc x j).oneCell'=true) (hn:xs.length<=4194304) (hb:b<=64) :
 ∃v' w',(Builtin.append_ #[t,t] t #[.slice (some ⟨q,0,none⟩) 0 0,.slice A n c]).run Tryz.prog (w.alloc (.cells #[] e))=.ok v' w'/\Row e m enc w.heap.size w' v' xs/\∀u:World,Ext u w->Ext u w':=by
 subst hq;obtain⟨v',w',hrun,hrow,hg⟩:=lX (P:=Tryz.prog) (t:=t) (ty:=t) (e:=e) ht hinfo hzs hm (dD (E:=e) (m:=m) (enc:=enc) (w:=w)) (h.ext ((af w).alloc (.cells #[] e))) h1 (by simp;omega) hb (by simp);exact⟨v',w',hrun,by simpa using hrow,λu hu=>Ext.grown (hu.alloc _) hg (λk hk=>by simp[Value.ownBlock]at hk;have:=hu.size;omega)⟩
theorem aP{P:Program}{ops:Array Oper}{o:Oper}{a:Act}{w w':World}{K:Act->World->Prop}{Q:Exit->Act->World->Prop}{E:Prop}{s x:Operand}{t:TypeId}{v u v':Value}(hgd:o.guard=none)
 (ho:o.op=.call { callee:=.builtin .append,args:=#[s,x],argTypes:=#[t,t] }) (hs:a.eval s=v) (hx:a.eval x=u) (hrun:(Builtin.append_ #[t,t] o.type #[v,u]).run P w=.ok v' w')
 (h:K (a.put o.dst v') w'):if Region.wanted o (yielded ops a.tmps)=true then Oper.wp P o a w K Q else E:=by
 have hw:Region.wanted o (yielded ops a.tmps)=true:=by simp[Region.wanted,hgd]
 rw[aj hw];unfold Oper.wp execOp;simp only[ho,resolve,invoke,builtin,Sem.run_bind,Sem.run_pure,Result.andThen_ok,List.map_toArray,qc,kN,hs,hx,hrun];exact h
theorem M8(s:Int)(d:Bool){ov:Value}{ops:List aV}(w:World)(h:aL 3 encOpr w ov ops)(hlen:ops.length<=2097152) :
 Calls Tryz.prog 110 #[.agg #[.int .i64 s,ov,.bool d]] w λe w'=>∃A c,e=.returned (.agg #[.int .i64 s,.slice A ops.length c,.bool d])/\Row 67 3 encOpr w.heap.size w' (.slice A ops.length c) ops/\Ext w w':=by
 obtain⟨A0,c0,rfl,_⟩:=id h;have hE:Hid (Ext w (((w.alloc (.cells #[.int .i64 s,.slice A0 ops.length c0,.bool d] 48)).alloc (.cells #[.int .i64 0,.slice none 0 0,.bool false] 48)).alloc (.cells #[.int .i64 s,.slice A0 ops.length c0,.bool d] 48))):=(((af _).alloc _).alloc _).alloc _;obtain⟨v1,w1,hrun,hrow,hex⟩:=oD (w:=(((w.alloc (.cells #[.int .i64 s,.slice A0 ops.length c0,.bool d] 48)).alloc (.cells #[.int .i64 0,.slice none 0 0,.bool false] 48)).alloc (.cells #[.int .i64 s,.slice A0 ops.length c0,.bool d] 48))) (w.heap.size+1+1+1) (by simp) eG mq rfl (by omega) (h.ext hE.out) (λx _ j=>wh x j) (by omega) (by omega);have bH:=aa hrun;have b1:=hex _ (af _);have x0:w1.cell? ⟨w.heap.size+1+1,0,none⟩=some (.int .i64 s):=b1.cell (iU (by simp) rfl);have x1:w1.cell? ⟨w.heap.size+1+1,1,none⟩=some (.slice A0 ops.length c0):=b1.cell (iU (by simp) rfl);have x2:w1.cell? ⟨w.heap.size+1+1,2,none⟩=some (.bool d):=b1.cell (iU (by simp) rfl);have y0:w1.cell? ⟨w.heap.size+1,0,none⟩=some (.int .i64 0):=b1.cell (((af _).alloc _).cell (iU (by simp) rfl));have y1:w1.cell? ⟨w.heap.size+1,1,none⟩=some (.slice none 0 0):=b1.cell (((af _).alloc _).cell (iU (by simp) rfl));have y2:w1.cell? ⟨w.heap.size+1,2,none⟩=some (.bool false):=b1.cell (((af _).alloc _).cell (iU (by simp) rfl));have f1:∀j,w1.frozen? ⟨w.heap.size+1+1,j,none⟩=false:=λj=>(b1.frozen (p:=⟨w.heap.size+1+1,j,none⟩) (by simp)).trans (jf j (by simp));have f2:∀j,w1.frozen? ⟨w.heap.size+1,j,none⟩=false:=λj=>(b1.frozen (p:=⟨w.heap.size+1,j,none⟩) (by simp<;>omega)).trans ((((af (World.alloc _ _)).alloc _).frozen (p:=⟨w.heap.size+1,j,none⟩) (by simp)).trans (jf j (by simp)))
 have g1:=f1 1;have g20:=f2 0;have g21:=f2 1;have g22:=f2 2;have R1:=aa hrow;have B1:=aa (hE.out.trans b1);obtain⟨A1,c1,rfl,_⟩:=id hrow.cell.1;clear f1 f2 hrow b1 hex hrun h;go_enter Tryz.func110,Tryz.ntmps110;go_wp2_with (at_builtin;refine wpList_append_run rfl rfl rfl rfl bH.out ?_)
 refine bodyPost_ret (v:=.agg #[.int .i64 s,.slice A1 ops.length c1,.bool d]) (by simp[results,Tryz.results110,go_sem,y0,y1,y2]) rfl ?_;have R2:=(((R1.out.Dw (a:=⟨w.heap.size+1+1,1,none⟩) (by simp<;>omega) (.slice A1 ops.length c1)).Dw (a:=⟨w.heap.size+1,0,none⟩) (by simp<;>omega) (.int .i64 s)).Dw (a:=⟨w.heap.size+1,1,none⟩) (by simp<;>omega) (.slice A1 ops.length c1)).Dw (a:=⟨w.heap.size+1,2,none⟩) (by simp<;>omega) (.bool d)
 refine⟨A1,c1,rfl,R2.low (by simp<;>omega),?_⟩
 exact(((B1.out.setCell (by simp<;>omega) _).setCell (by simp<;>omega) _).setCell (by simp<;>omega) _).setCell (by simp<;>omega) _
theorem pz{v:Value}{h:List aG}(w:World)(H:iM w v h)(hlen:h.length<=2097152)(hM:∀t∈h,t.ops.length<=2097152) :
 Calls Tryz.prog 67 #[v] w (uw w h):=by
 obtain⟨A,c,rfl⟩:=H.slice;have HH:=aa H;have HM:=aa hM;clear H hM;go_enter Tryz.func67,Tryz.ntmps67;go_wp2;go_loopw [3,4] (λo i wr=>Ext w wr/\∃k:Nat,k<=h.length/\i=.int .i64 k/\Hid (∃rs,oV 48 67 w.heap.size wr o rs (h.take k))) (λ_ i _=>h.length-(intOf i).toNat)
 case atStart=>exact⟨(af _).alloc _,0,aT _,rfl,[],oV.nil w⟩
 case round=>
  obtain⟨hb,k,hk,rfl,HI⟩:=hrel;by_cases hlt:k<h.length
  ·obtain⟨b,off,rfl,hbl,hc⟩:=HH.out.head (by omega);obtain⟨t,ht⟩:=ah hlt;obtain⟨ov,c0,c1,c2,hs⟩:=hc k t ht;replace c0:=hb.cell c0;replace c1:=hb.cell c1;replace c2:=hb.cell c2;have hl:=HM.out t (aM ht);obtain⟨rs,hB⟩:=HI.out;obtain⟨A',c',rfl,_⟩:=id hs;have HS:=aa (hs.ext hb);have HT:=aa ht;have HB:=aa hB;have hrl:rs.length<=k:=by rw[hB.1,eY];omega
   clear ht hc hs HI hB;go_wp2_with fail
   refine(M8 t.az t.done _ HS.out hl).mono ?_
   rintro e w1 ⟨A1,cc,rfl,r1,b1⟩;have hbase:w.heap.size<=wr.heap.size:=hb.size;obtain⟨v',w2,hrun,hB2,hE2⟩:=uF (t:=t) _ rfl HB.out b1 r1.cell.1 r1.cell.2 r1.Gl (r1.cap) hbase (by omega);have bH:=aa hrun;have HB2:=aa hB2;have HE2:=aa (hE2 w hb (av _));clear hrun hB2 hE2 r1;go_wp2_with (at_builtin;refine wpList_append_run rfl rfl rfl rfl bH.out ?_)
   go_roundw;case rel=>exact⟨HE2.out,k+1,by omega,by go_num,_,by rw[ak HT.out];exact HB2.out⟩
   case measure=>simp[intOf];omega
  ·obtain rfl:k=h.length:=by omega
   obtain⟨rs,hB⟩:=HI.out;have HB:=aa hB;obtain⟨A',c',rfl,_⟩:=hB.2.1.cell.1;clear hB HI;go_wp2;go_returns;have hB:=HB.out;rw[bM]at hB;obtain⟨d1,d2⟩:=hB.done (by decide);exact⟨_,rs,rfl,d1,d2,hb⟩
theorem Em{v:Value}{h:List aG}(w:World)(H:iM w v h)(hlen:h.length<=2097152)(hM:∀t∈h,t.ops.length<=2097152) :
 Calls Tryz.prog 25 #[v] w λe w'=>∃v' rs,e=.returned v'/\oV 48 67 w.heap.size w' v' rs h/\Ext w w':=by
 obtain⟨A,c,rfl⟩:=H.slice;have HH:=aa H;have HM:=aa hM;clear H hM;go_enter Tryz.func25,Tryz.ntmps25;go_wp2;go_loopw [3,4] (λo i wr=>Ext w wr/\∃k:Nat,k<=h.length/\i=.int .i64 k/\Hid (∃rs,oV 48 67 w.heap.size wr o rs (h.take k))) (λ_ i _=>h.length-(intOf i).toNat)
 case atStart=>exact⟨(af _).alloc _,0,aT _,rfl,[],oV.nil w⟩
 case round=>
  obtain⟨hb,k,hk,rfl,HI⟩:=hrel;by_cases hlt:k<h.length
  ·obtain⟨b,off,rfl,hbl,hc⟩:=HH.out.head (by omega);obtain⟨t,ht⟩:=ah hlt;obtain⟨ov,c0,c1,c2,hs⟩:=hc k t ht;have hl:=HM.out t (aM ht);obtain⟨rs,hB⟩:=HI.out;obtain⟨A',c',rfl,_⟩:=id hs;have HT:=aa ht;have hrl:rs.length<=k:=by rw[hB.1,eY];omega
   have hbase:w.heap.size<=wr.heap.size:=hb.size;have i1:(0:Int)<=(k:Int):=by omega
   have i2:(k:Int)<(h.length:Int):=by omega
   have hbw:b<wr.heap.size:=bR hbl hb.size;have C0:=hb.cell c0;have C1:=hb.cell c1;have C2:=hb.cell c2;obtain⟨v1,w1,mX,jO,Ch⟩:=oD (w:=wr.drew) wr.heap.size rfl eG mq rfl (by omega) (hs.ext (hb.drew)) (λx _ j=>wh x j) (by omega) (by omega);have b1:=Ch wr ((af _).drew);obtain⟨A1,cc,rfl,_⟩:=jO.cell.1;obtain⟨v2,w2,mG,hB2,hE2⟩:=uF (t:=t) _ rfl hB b1 jO.cell.1 jO.cell.2 jO.Gl (jO.cap) hbase (by omega);have b2:=hE2 w hb (av _);have D0:=b1.cell C0;have D1:=b1.cell C1;have D2:=b1.cell C2;have E0:=b2.cell c0;have E1:=b2.cell c1;have E2:=b2.cell c2;have hb1:b<w1.heap.size:=bR hbw b1.size;have oq:Hid ((Builtin.append_ #[46,46] 46 #[.slice (some ⟨wr.heap.size,0,none⟩) 0 0,.slice A' t.ops.length c']).run Tryz.prog (wr.alloc (.cells #[] 67)).drew=.ok (.slice A1 t.ops.length cc) w1):=mX;have qV:=aa mG;have HB2:=aa hB2;have HBE:=aa b2;clear c0 c1 c2 ht hc hs HI hB mX mG hB2 jO Ch b1 b2 hE2;go_wp2;go_region_held3 (λW=>W.cell? ⟨b,off+k*3,none⟩=some (.int .i64 t.az)/\W.cell? ⟨b,off+k*3+1,none⟩=some (.slice A' t.ops.length c')/\W.cell? ⟨b,off+k*3+2,none⟩=some (.bool t.done)) (go_keep) ((first|(refine aP (by rfl) (by rfl) (by rfl) (by rfl) oq.out ?_;clear oq)|(refine aP (by rfl) (by rfl) (by rfl) (by rfl) qV.out ?_)))
   go_wp2;go_roundw;case rel=>exact⟨HBE.out,k+1,by omega,by go_num,_,by rw[ak HT.out];exact HB2.out⟩
   case measure=>simp[intOf];omega
  ·obtain rfl:k=h.length:=by omega
   obtain⟨rs,hB⟩:=HI.out;have HB:=aa hB;obtain⟨A',c',rfl,_⟩:=hB.2.1.cell.1;clear hB HI;go_wp2;go_returns;have hB:=HB.out;rw[bM]at hB;exact⟨_,rs,rfl,hB,hb⟩
