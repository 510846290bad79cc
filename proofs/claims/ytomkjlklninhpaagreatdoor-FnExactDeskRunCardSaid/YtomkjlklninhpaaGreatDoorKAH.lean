/- Lemmas. -/
import Derived.Test.YtomkjlklninhpaaGreatDoorKAE
import Derived.Test.YtomkjlklninhpaaGreatDoorKAF
import Derived.Test.YtomkjlklninhpaaGreatDoorKAG
set_option maxHeartbeats 16000000
set_option maxRecDepth 8000
set_option linter.all false
namespace Go.Proofs.YtomkjlklninhpaaGreatDoor
open Go.RowKit
theorem kG:(Tryz.prog.info? 71).map (fun i=>(i.zero,i.size,i.bytes))=some (some (.agg #[.int .i64 0,.int .i64 0,.int .i64 0]),3,24):=by kernel_rfl
theorem sK(x:aQ)(j:Nat):(aj x j).oneCell'=true:=by first|rfl|(unfold aj;split<;>rfl)
theorem LP{v:Value}{xs:List aQ}(w:World)(h:aF 3 aj w v xs)(hlen:xs.length<=2097152) :
 Calls Tryz.prog 108 #[v] w fun e w'=>∃v',e=.returned v'/\Row 71 3 aj w.heap.size w' v' xs/\Ext w w':=by
 obtain⟨A,c,rfl,h'⟩:=id h;have heq:=fun W=>Lib.run_eql_slice_nil (P:=Tryz.prog) W 46 71 A xs.length c 0 0 Tryz.underlying46
 cases A with
 | none=>
   have hx:xs=[]:=by
    rcases Nat.eq_zero_or_pos xs.length with h0|h0
    ·exact List.eq_nil_of_length_eq_zero h0
    ·obtain⟨b,off,hA,_⟩:=h' h0;cases hA
   subst hx;clear h h';simp only[List.length_nil]at heq ⊢;go_enter Tryz.func108,Tryz.ntmps108;go_wp2;go_returns;exact⟨_,rfl,Row.nil,Ext.refl _⟩
 | some ad=>
   have hrow:Row 71 3 aj w.heap.size (w.alloc (.cells #[] 71)) (.slice (some ⟨w.heap.size,0,none⟩) 0 0) ([]:List aQ):=World.ownsRow_made w #[] 0 (Nat.le_refl _) (by simp[maxLen]) (by simp);obtain⟨v',w',hrun,hrow',hgrow⟩:=kL (P:=Tryz.prog) (t:=46) (ty:=46) (e:=71) Tryz.underlying46 kG rfl (by omega) hrow (h.ext ((Ext.refl w).alloc (.cells #[] 71))) (fun x _ j=>sK x j) (by simp;omega) (by omega) (by simp);have VX:=aa hrow';have hg:=aa (Ext.grown ((Ext.refl w).alloc (.cells #[] 71)) hgrow (fun k hk=>by simp[Value.ownBlock]at hk;omega));have UX:=aa hrun;clear h h' hrow hrow' hgrow hrun;go_enter Tryz.func108,Tryz.ntmps108;go_wp2_with (at_builtin;refine wpList_append_run rfl rfl rfl rfl UX.out ?_)
   go_returns;exact⟨_,rfl,by simpa using VX.out,hg.out⟩
theorem pO{α:Type}{m:Nat}{enc:α->Nat->Value}{w:World}{A:Option Addr}{n c:Nat}{xs:List α}(h:aF m enc w (.slice A n c) xs)(c':Nat):aF m enc w (.slice A n c') xs:=by obtain⟨A',c2,hA,hc⟩:=h;injection hA with e1 e2 e3;subst e1 e2;exact⟨A,c',rfl,hc⟩
theorem OU{lo:Nat}{w:World}{A:Option Addr}{n c:Nat}(h:Own lo w (.slice A n c))(c':Nat):Own lo w (.slice A n c'):=fun a n' c2 hv hn=>by injection hv with e1 e2 e3;subst e1 e2;exact h _ _ _ rfl hn
theorem Bp{I:TypeId}{w:World}{A:Option Addr}{n c:Nat}(h:iY I w (.slice A n c))(c':Nat):iY I w (.slice A n c'):=fun a n' c2 hv hn=>by injection hv with e1 e2 e3;subst e1 e2;exact h _ _ _ rfl hn
theorem vk(A:Option Addr)(n c:Nat)(w:World)(hc:n<=c)(hc2:c<=9223372036854775807) :
 Calls Tryz.prog 107 #[.slice A n c] w fun e w'=>e=.returned (.slice A n n)/\w=w':=by
 go_enter Tryz.func107,Tryz.ntmps107;go_wp2;go_returns;exact⟨rfl,rfl⟩
theorem vS(s:Int)(d:Bool){ov:Value}{ops:List aQ}(w:World)(h:aF 3 aj w ov ops)(hlen:ops.length<=2097152) :
 Calls Tryz.prog 76 #[.agg #[.int .i64 s,ov,.bool d]] w fun e w'=>∃A,e=.returned (.agg #[.int .i64 s,.slice A ops.length ops.length,.bool d])/\aF 3 aj w' (.slice A ops.length ops.length) ops/\Own w.heap.size w' (.slice A ops.length ops.length)/\iY 71 w' (.slice A ops.length ops.length)/\Ext w w':=by
 have H:=aa h;obtain⟨A0,c0,rfl,_⟩:=id h;clear h;go_enter Tryz.func76,Tryz.ntmps76;go_wp2_with fail
 have hE:Hid (Ext w ((w.alloc (.cells #[.int .i64 s,.slice A0 ops.length c0,.bool d] 48)).alloc (.cells #[.int .i64 0,.slice none 0 0,.bool false] 48))):=((Ext.refl _).alloc _).alloc _;have hB1:Hid (lG ((w.alloc (.cells #[.int .i64 s,.slice A0 ops.length c0,.bool d] 48)).alloc (.cells #[.int .i64 0,.slice none 0 0,.bool false] 48)) w.heap.size 3):=(lG.made w #[.int .i64 s,.slice A0 ops.length c0,.bool d] _).ext ((Ext.refl _).alloc _)
 refine(LP _ (H.out.ext hE.out) hlen).mono ?_
 rintro e w1 ⟨v1,rfl,r1,b1⟩;have hz:w.heap.size+1<w1.heap.size:=by have:=b1.size;simp at this;omega
 have x0:w1.cell? ⟨w.heap.size,0,none⟩=some (.int .i64 s):=b1.cell (((Ext.refl _).alloc _).cell (av rfl));have x1:w1.cell? ⟨w.heap.size,1,none⟩=some (.slice A0 ops.length c0):=b1.cell (((Ext.refl _).alloc _).cell (av rfl));have x2:w1.cell? ⟨w.heap.size,2,none⟩=some (.bool d):=b1.cell (((Ext.refl _).alloc _).cell (av rfl));have y0:w1.cell? ⟨w.heap.size+1,0,none⟩=some (.int .i64 0):=b1.cell (fT (by simp) rfl);have y1:w1.cell? ⟨w.heap.size+1,1,none⟩=some (.slice none 0 0):=b1.cell (fT (by simp) rfl);have y2:w1.cell? ⟨w.heap.size+1,2,none⟩=some (.bool false):=b1.cell (fT (by simp) rfl);have f1:∀j,w1.frozen? ⟨w.heap.size,j,none⟩=false:=fun j=>(b1.frozen (p:=⟨w.heap.size,j,none⟩) (by simp;omega)).trans ((((Ext.refl (w.alloc _)).alloc _).frozen (p:=⟨w.heap.size,j,none⟩) (by simp)).trans (gN j rfl));have f2:∀j,w1.frozen? ⟨w.heap.size+1,j,none⟩=false:=fun j=>(b1.frozen (p:=⟨w.heap.size+1,j,none⟩) (by simp)).trans (gN j (by simp));have g1:=f1 1;have g20:=f2 0;have g21:=f2 1;have g22:=f2 2;have R1:=aa r1;have B1:=aa (hE.out.trans b1);obtain⟨A1,c1,rfl,_⟩:=id r1.cell.1;have hcap:=r1.cap _ _ _ rfl;clear f1 f2 r1 b1 hB1;go_wp2_with (go_at_call 107;refine(vk A1 ops.length c1 _ hcap.1 hcap.2).mono ?_;rintro e w' ⟨rfl,rfl⟩)
 refine bodyPost_ret (v:=.agg #[.int .i64 s,.slice A1 ops.length ops.length,.bool d]) (by simp[results,Tryz.results76,go_sem,y0,y1,y2]) rfl ?_;have R2:=(((R1.out.Cg (a:=⟨w.heap.size,1,none⟩) (by simp<;>omega) (.slice A1 ops.length ops.length)).Cg (a:=⟨w.heap.size+1,0,none⟩) (by simp<;>omega) (.int .i64 s)).Cg (a:=⟨w.heap.size+1,1,none⟩) (by simp<;>omega) (.slice A1 ops.length ops.length)).Cg (a:=⟨w.heap.size+1,2,none⟩) (by simp<;>omega) (.bool d)
 refine⟨A1,rfl,pO R2.cell.1 _,OU (R2.cell.2.mono (by simp<;>omega)) _,Bp R2.KQ _,?_⟩
 exact(((B1.out.setCell (Nat.le_refl _) _).setCell (by simp<;>omega) _).setCell (by simp<;>omega) _).setCell (by simp<;>omega) _
theorem jN{α:Type}{E:TypeId}{m:Nat}{enc:α->Nat->Value}{w:World}(cs:Array Value)(cap:Nat)(hm:cap<=maxLen)(hs:cs.size=cap*m):Row E m enc w.heap.size (w.alloc (.cells cs E)) (.slice (some ⟨w.heap.size,0,none⟩) 0 cap) ([]:List α):=
 World.ownsRow_made w cs cap (Nat.le_refl _) hm hs
theorem bT{α:Type}{E:TypeId}{m:Nat}{enc:α->Nat->Value}{w:World}:Row E m enc w.heap.size (w.alloc (.cells #[] E)) (.slice (some ⟨w.heap.size,0,none⟩) 0 0) ([]:List α):=
 World.ownsRow_made w #[] 0 (Nat.le_refl _) (by simp[maxLen]) (by simp)
theorem JO{E I:TypeId}{w:World}(cs:Array Value)(cap:Nat)(hm:cap<=maxLen)(hs:cs.size=cap*3):mW E I w.heap.size (w.alloc (.cells cs E)) (.slice (some ⟨w.heap.size,0,none⟩) 0 cap) [] []:=
 ⟨rfl,jN cs cap hm hs,fun _ _ _ h=>by simp at h,fun _ _ _ _ _ h=>by simp at h⟩
theorem mq:(Tryz.prog.info? 48).map (fun i=>(i.zero,i.size,i.bytes))=some (some (.agg #[.int .i64 0,.slice none 0 0,.bool false]),3,40):=by kernel_rfl
theorem bQ:(Tryz.prog.info? 3).map (fun i=>(i.zero,i.size,i.bytes))=some (some (.int .i64 0),1,8):=by kernel_rfl
theorem rF{base:Nat}{w0 w:World}(q:Nat)(hq:w.heap.size=q){v:Value}{rs:List iX}{h:List aA}{A:Option Addr}{n c:Nat}{t:aA}(H:mW 48 71 base w0 v rs h)(hx:Ext w0 w)(hs:aF 3 aj w (.slice A n c) t.ops)(ho:Own w0.heap.size w (.slice A n c))(hi:iY 71 w (.slice A n c))(hcp:qL (.slice A n c))(hb:base<=w0.heap.size)(hn:rs.length+1<=4194304) :
 ∃v' w',(Builtin.append_ #[24,24] 24 #[v,.slice (some ⟨q,0,none⟩) 1 1]).run Tryz.prog (w.alloc (.cells #[.int .i64 t.az,.slice A n c,.bool t.done] 48))=.ok v' w' /\
  mW 48 71 base w' v' (rs++[⟨t.az,.slice A n c,t.done⟩]) (h++[t])/\∀u:World,Ext u w0->u.heap.size<=base->Ext u w':=by
 subst hq;have hrow:=H.2.1.ext hx;obtain⟨v',w',hrun,hrow',hg⟩:=rG (P:=Tryz.prog) (t:=24) (ty:=24) (e:=48) Tryz.underlying24 mq rfl (by omega) hrow ⟨t.az,.slice A n c,t.done⟩ (fun j=>by
  match j with
  | 0=>rfl
  | 1=>rfl
  | _+2=>rfl) hn (by omega) (Nat.le_trans hb hx.size)
 refine⟨v',w',hrun,?_,fun u hu hl=>Ext.grown ((hu.trans hx).alloc _) hg (fun k hk=>Nat.le_trans hl (hrow.block k hk))⟩;have hy:=hx.alloc (.cells #[.int .i64 t.az,.slice A n c,.bool t.done] 48);exact mW.push (by decide) H hy ⟨rfl,rfl,hs.ext ((Ext.refl _).alloc _),hcp⟩ (ho.ext ((Ext.refl _).alloc _)) (hi.ext ((Ext.refl _).alloc _)) hb hrow' hg
theorem oI{v:Value}{h:List aA}(w:World)(H:gL w v h)(hlen:h.length<=2097152)(hM:∀t∈h,t.ops.length<=2097152) :
 Calls Tryz.prog 36 #[v] w (qj w h):=by
 obtain⟨A,c,rfl⟩:=H.slice;have HH:=aa H;have HM:=aa hM;have hmk:=gY (P:=Tryz.prog) 24 48 Tryz.underlying24 mq h.length (by omega) (by omega);clear H hM;go_enter Tryz.func36,Tryz.ntmps36;go_wp2;clear hmk;go_loopw [3,11] (fun o i wr=>Ext w wr/\∃k:Nat,k<=h.length/\i=.int .i64 k/\Hid (∃rs,mW 48 71 w.heap.size wr o rs (h.take k))) (fun _ i _=>h.length-(intOf i).toNat)
 case atStart=>exact⟨(Ext.refl _).alloc _,0,Nat.zero_le _,rfl,[],JO _ h.length (by unfold maxLen;omega) (size_madeCells _ _)⟩
 case round=>
  obtain⟨hb,k,hk,rfl,HI⟩:=hrel;by_cases hlt:k<h.length
  ·obtain⟨b,off,rfl,hbl,hc⟩:=HH.out.head (by omega);obtain⟨t,ht⟩:=af hlt;obtain⟨ov,c0,c1,c2,hs⟩:=hc k t ht;replace c0:=hb.cell c0;replace c1:=hb.cell c1;replace c2:=hb.cell c2;have hl:=HM.out t (List.mem_of_getElem? ht);obtain⟨rs,hB⟩:=HI.out;obtain⟨A',c',rfl,_⟩:=id hs;have HS:=aa (hs.ext (hb.alloc (.cells #[.int .i64 t.az,.slice A' t.ops.length c',.bool t.done] 48)));have HT:=aa ht;have HB:=aa hB;have hrl:rs.length<=k:=by rw[hB.1,List.length_take];omega
   clear ht hc hs HI hB;go_wp2_with fail
   refine(vS t.az t.done _ HS.out hl).mono ?_
   rintro e w1 ⟨A1,rfl,s1,o1,i1,b1⟩;have hbase:w.heap.size<=wr.heap.size:=hb.size;obtain⟨v',w2,hrun,hB2,hE2⟩:=rF (t:=t) _ rfl HB.out (((Ext.refl _).alloc _).trans b1) s1 (o1.mono (by simp)) i1 (mQ (Nat.le_refl _) (by omega)) hbase (by omega);have aU:=aa hrun;have HB2:=aa hB2;have HE2:=aa (hE2 w hb (Nat.le_refl _));clear hrun hB2 hE2 s1 o1 i1;go_wp2_with (at_builtin;refine wpList_append_run rfl rfl rfl rfl aU.out ?_)
   go_roundw;case rel=>exact⟨HE2.out,k+1,by omega,by go_num,_,by rw[ah HT.out];exact HB2.out⟩
   case measure=>simp[intOf];omega
  ·obtain rfl:k=h.length:=by omega
   obtain⟨rs,hB⟩:=HI.out;have HB:=aa hB;obtain⟨A',c',rfl,_⟩:=hB.2.1.cell.1;clear hB HI;go_wp2;go_returns;have hB:=HB.out;rw[List.take_length]at hB;obtain⟨d1,d2⟩:=hB.done (by decide);exact⟨_,rs,rfl,d1,d2,hb⟩
theorem U9{base:Nat}{w0 w:World}(q:Nat)(hq:w.heap.size=q){v:Value}{xs:List Nat}(H:Row 3 1 (one gT) base w0 v xs)(hx:Ext w0 w)(n:Nat)(hb:base<=w0.heap.size)(hn:xs.length+1<=4194304) :
 ∃v' w',(Builtin.append_ #[57,57] 57 #[v,.slice (some ⟨q,0,none⟩) 1 1]).run Tryz.prog (w.alloc (.cells #[.int .i64 (n:Int)] 3))=.ok v' w' /\
  Row 3 1 (one gT) base w' v' (xs++[n])/\∀u:World,Ext u w0->u.heap.size<=base->Ext u w':=by
 subst hq;have hrow:=H.ext hx;obtain⟨v',w',hrun,hrow',hg⟩:=rG (P:=Tryz.prog) (t:=57) (ty:=57) (e:=3) Tryz.underlying57 bQ rfl (by omega) hrow n (fun j=>rfl) hn (by omega) (Nat.le_trans hb hx.size);exact⟨v',w',hrun,hrow',fun u hu hl=>Ext.grown ((hu.trans hx).alloc _) hg (fun k hk=>Nat.le_trans hl (hrow.block k hk))⟩
def acV(w:World)(xs:List Nat)(e:Ending)(w':World):Prop:=∃v,e=.returned v/\Row 3 1 (one gT) w.heap.size w' v xs/\Ext w w'
def yQ(h:List aA)(k:Nat):List Nat:=(List.range k).filter fun n=>(h[n]?.map (·.done)).getD false
theorem CY{h:List aA}{k:Nat}{t:aA}(ht:h[k]? =some t):yQ h (k+1)=yQ h k++if t.done=true then [k] else []:=by unfold yQ;rw[List.range_succ,List.filter_append];congr 1;simp[List.filter_cons,ht]
theorem Ga(h:List aA)(k:Nat):(yQ h k).length<=k:=by
 have:=List.length_filter_le (fun n=>(h[n]?.map (·.done)).getD false) (List.range k)
 simpa[yQ] using this
theorem rJ{v:Value}{h:List aA}(w:World)(H:gL w v h)(hlen:h.length<=2097152) :
 Calls Tryz.prog 198 #[v] w (acV w (aH h)):=by
 obtain⟨A,c,rfl⟩:=H.slice;have HH:=aa H;have hmk:=gY (P:=Tryz.prog) 57 3 Tryz.underlying57 bQ h.length (by omega) (by omega);clear H;go_enter Tryz.func198,Tryz.ntmps198;go_wp2;clear hmk;go_loopw [3,11] (fun o i wr=>Ext w wr/\∃k:Nat,k<=h.length/\i=.int .i64 k/\Hid (Row 3 1 (one gT) w.heap.size wr o (yQ h k))) (fun _ i _=>h.length-(intOf i).toNat)
 case atStart=>exact⟨(Ext.refl _).alloc _,0,Nat.zero_le _,rfl,jN _ h.length (by unfold maxLen;omega) (by rw[Nat.mul_one];exact size_madeCells _ _)⟩
 case round=>
  obtain⟨hb,k,hk,rfl,HI⟩:=hrel;have hdl:=Ga h k;by_cases hlt:k<h.length
  ·obtain⟨b,off,rfl,hbl,hc⟩:=HH.out.head (by omega);obtain⟨t,ht⟩:=af hlt;obtain⟨ov,c0,c1,c2,hs⟩:=hc k t ht;replace c0:=hb.cell c0;replace c1:=hb.cell c1;replace c2:=hb.cell c2;obtain⟨A',c',rfl,_⟩:=id hs;have hnx:=aa (CY ht);have hbase:w.heap.size<=wr.heap.size:=hb.size;clear ht hc hs
   cases hd:t.done with
   | true=>
     rw[hd]at c2;obtain⟨v',w2,hrun,hB2,hE2⟩:=U9 (w:=wr.alloc (.cells #[.int .i64 t.az,.slice A' t.ops.length c',.bool true] 48)) (wr.heap.size+1) (by simp) HI.out ((Ext.refl _).alloc _) k hbase (by omega);have aU:=aa hrun;have HB2:=aa hB2;have HE2:=aa (hE2 w hb (Nat.le_refl _));clear hrun hB2 hE2;go_wp2_with (at_builtin;refine wpList_append_run rfl rfl rfl rfl aU.out ?_)
     go_roundw;case rel=>exact⟨HE2.out,k+1,by omega,by go_num,by rw[hnx.out,if_pos hd];exact HB2.out⟩
     case measure=>simp[intOf];omega
   | false=>
     rw[hd]at c2;go_wp2;go_roundw;case rel=>exact⟨hb.alloc _,k+1,by omega,by go_num,by rw[hnx.out,if_neg (by simp[hd]),List.append_nil];exact HI.out.ext ((Ext.refl _).alloc _)⟩
     case measure=>simp[intOf];omega
  ·obtain rfl:k=h.length:=by omega
   obtain⟨A',c',rfl,_⟩:=HI.out.cell.1;go_wp2;go_returns;exact⟨_,rfl,HI.out,hb⟩
theorem IQ{v:Value}{h:List aA}(w:World)(H:gL w v h)(hok:aC h=true) :
 Calls Tryz.prog 60 #[v] w (acV w (aH h)):=by
 obtain⟨A,c,rfl⟩:=H.slice;have HH:=aa H;have dO:=aa hok;have hlen:=aM hok;clear H hok;go_enter Tryz.func60,Tryz.ntmps60;go_wp2;go_loopw [3,4] (fun o i wr=>Ext w wr/\∃k:Nat,k<=h.length/\i=.int .i64 k/\Hid (Row 3 1 (one gT) w.heap.size wr o (yQ h k))) (fun _ i _=>h.length-(intOf i).toNat)
 case atStart=>exact⟨(Ext.refl _).alloc _,0,Nat.zero_le _,rfl,bT⟩
 case round=>
  obtain⟨hb,k,hk,rfl,HI⟩:=hrel;have hdl:=Ga h k;by_cases hlt:k<h.length
  ·go_wp2_with fail
   refine(bu _ (HH.out.ext hb) (by omega) (fun t ht=>by have:=bU (bY dO.out ht);omega)).mono ?_
   rw[dO.out];rintro e w1 ⟨rfl,b1⟩;obtain⟨b,off,rfl,hbl,hc⟩:=HH.out.head (by omega);obtain⟨t,ht⟩:=af hlt;obtain⟨ov,c0,c1,c2,hs⟩:=hc k t ht;replace c2:=b1.cell (hb.cell c2);have hnx:=aa (CY ht);have hbase:w.heap.size<=wr.heap.size:=hb.size;clear ht hc hs c0 c1
   cases hd:t.done with
   | true=>
     rw[hd]at c2;obtain⟨v',w2,hrun,hB2,hE2⟩:=U9 _ rfl HI.out b1 k hbase (by omega);have aU:=aa hrun;have HB2:=aa hB2;have HE2:=aa (hE2 w hb (Nat.le_refl _));clear hrun hB2 hE2;go_wp2_with (at_builtin;refine wpList_append_run rfl rfl rfl rfl aU.out ?_)
     go_roundw;case rel=>exact⟨HE2.out,k+1,by omega,by go_num,by rw[hnx.out,if_pos hd];exact HB2.out⟩
     case measure=>simp[intOf];omega
   | false=>
     rw[hd]at c2;go_wp2;go_roundw;case rel=>exact⟨hb.trans b1,k+1,by omega,by go_num,by rw[hnx.out,if_neg (by simp[hd]),List.append_nil];exact HI.out.ext b1⟩
     case measure=>simp[intOf];omega
  ·obtain rfl:k=h.length:=by omega
   obtain⟨A',c',rfl,_⟩:=HI.out.cell.1;go_wp2;go_returns;exact⟨_,rfl,HI.out,hb⟩
theorem mJ{α:Type}{t e:TypeId}{m b:Nat}{z:Value}{enc:α->Nat->Value}{w:World}{A:Option Addr}{n c:Nat}{xs:List α}(q:Nat)(hq:w.heap.size=q)(ht:Tryz.prog.underlying t=some (.slice e))(hinfo:(Tryz.prog.info? e).map (fun i=>(i.zero,i.size,i.bytes))=some (some z,m,b))(hzs:z.cells.size=m)(hm:0<m)
 (h:aF m enc w (.slice A n c) xs) (h1:∀x∈xs,∀j,(enc x j).oneCell'=true) (hn:xs.length<=4194304) (hb:b<=64) :
 ∃v' w',(Builtin.append_ #[t,t] t #[.slice (some ⟨q,0,none⟩) 0 0,.slice A n c]).run Tryz.prog (w.alloc (.cells #[] e))=.ok v' w'/\Row e m enc w.heap.size w' v' xs/\∀u:World,Ext u w->Ext u w':=by
 subst hq;obtain⟨v',w',hrun,hrow,hg⟩:=kL (P:=Tryz.prog) (t:=t) (ty:=t) (e:=e) ht hinfo hzs hm (bT (E:=e) (m:=m) (enc:=enc) (w:=w)) (h.ext ((Ext.refl w).alloc (.cells #[] e))) h1 (by simp;omega) hb (by simp);exact⟨v',w',hrun,by simpa using hrow,fun u hu=>Ext.grown (hu.alloc _) hg (fun k hk=>by simp[Value.ownBlock]at hk;have:=hu.size;omega)⟩
theorem aJ{P:Program}{ops:Array Oper}{o:Oper}{a:Act}{w w':World}{K:Act->World->Prop}{Q:Exit->Act->World->Prop}{E:Prop}{s x:Operand}{t:TypeId}{v u v':Value}(hgd:o.guard=none)
 (ho:o.op=.call { callee:=.builtin .append,args:=#[s,x],argTypes:=#[t,t] }) (hs:a.eval s=v) (hx:a.eval x=u) (hrun:(Builtin.append_ #[t,t] o.type #[v,u]).run P w=.ok v' w')
 (h:K (a.put o.dst v') w'):if Region.wanted o (yielded ops a.tmps)=true then Oper.wp P o a w K Q else E:=by
 have hw:Region.wanted o (yielded ops a.tmps)=true:=by simp[Region.wanted,hgd]
 rw[if_pos hw];unfold Oper.wp execOp;simp only[ho,resolve,invoke,builtin,Sem.run_bind,Sem.run_pure,Result.andThen_ok,List.map_toArray,List.map_cons,List.map_nil,hs,hx,hrun];exact h
theorem Ku(s:Int)(d:Bool){ov:Value}{ops:List aQ}(w:World)(h:aF 3 aj w ov ops)(hlen:ops.length<=2097152) :
 Calls Tryz.prog 79 #[.agg #[.int .i64 s,ov,.bool d]] w fun e w'=>∃A c,e=.returned (.agg #[.int .i64 s,.slice A ops.length c,.bool d])/\Row 71 3 aj w.heap.size w' (.slice A ops.length c) ops/\Ext w w':=by
 obtain⟨A0,c0,rfl,_⟩:=id h;have hE:Hid (Ext w (((w.alloc (.cells #[.int .i64 s,.slice A0 ops.length c0,.bool d] 48)).alloc (.cells #[.int .i64 0,.slice none 0 0,.bool false] 48)).alloc (.cells #[.int .i64 s,.slice A0 ops.length c0,.bool d] 48))):=(((Ext.refl _).alloc _).alloc _).alloc _;obtain⟨v1,w1,hrun,hrow,hex⟩:=mJ (w:=(((w.alloc (.cells #[.int .i64 s,.slice A0 ops.length c0,.bool d] 48)).alloc (.cells #[.int .i64 0,.slice none 0 0,.bool false] 48)).alloc (.cells #[.int .i64 s,.slice A0 ops.length c0,.bool d] 48))) (w.heap.size+1+1+1) (by simp) Tryz.underlying46 kG rfl (by omega) (h.ext hE.out) (fun x _ j=>sK x j) (by omega) (by omega);have aU:=aa hrun;have b1:=hex _ (Ext.refl _);have x0:w1.cell? ⟨w.heap.size+1+1,0,none⟩=some (.int .i64 s):=b1.cell (fT (by simp) rfl);have x1:w1.cell? ⟨w.heap.size+1+1,1,none⟩=some (.slice A0 ops.length c0):=b1.cell (fT (by simp) rfl);have x2:w1.cell? ⟨w.heap.size+1+1,2,none⟩=some (.bool d):=b1.cell (fT (by simp) rfl);have y0:w1.cell? ⟨w.heap.size+1,0,none⟩=some (.int .i64 0):=b1.cell (((Ext.refl _).alloc _).cell (fT (by simp) rfl));have y1:w1.cell? ⟨w.heap.size+1,1,none⟩=some (.slice none 0 0):=b1.cell (((Ext.refl _).alloc _).cell (fT (by simp) rfl));have y2:w1.cell? ⟨w.heap.size+1,2,none⟩=some (.bool false):=b1.cell (((Ext.refl _).alloc _).cell (fT (by simp) rfl));have f1:∀j,w1.frozen? ⟨w.heap.size+1+1,j,none⟩=false:=fun j=>(b1.frozen (p:=⟨w.heap.size+1+1,j,none⟩) (by simp)).trans (gN j (by simp));have f2:∀j,w1.frozen? ⟨w.heap.size+1,j,none⟩=false:=fun j=>(b1.frozen (p:=⟨w.heap.size+1,j,none⟩) (by simp<;>omega)).trans ((((Ext.refl (World.alloc _ _)).alloc _).frozen (p:=⟨w.heap.size+1,j,none⟩) (by simp)).trans (gN j (by simp)))
 have g1:=f1 1;have g20:=f2 0;have g21:=f2 1;have g22:=f2 2;have R1:=aa hrow;have B1:=aa (hE.out.trans b1);obtain⟨A1,c1,rfl,_⟩:=id hrow.cell.1;clear f1 f2 hrow b1 hex hrun h;go_enter Tryz.func79,Tryz.ntmps79;go_wp2_with (at_builtin;refine wpList_append_run rfl rfl rfl rfl aU.out ?_)
 refine bodyPost_ret (v:=.agg #[.int .i64 s,.slice A1 ops.length c1,.bool d]) (by simp[results,Tryz.results79,go_sem,y0,y1,y2]) rfl ?_;have R2:=(((R1.out.Cg (a:=⟨w.heap.size+1+1,1,none⟩) (by simp<;>omega) (.slice A1 ops.length c1)).Cg (a:=⟨w.heap.size+1,0,none⟩) (by simp<;>omega) (.int .i64 s)).Cg (a:=⟨w.heap.size+1,1,none⟩) (by simp<;>omega) (.slice A1 ops.length c1)).Cg (a:=⟨w.heap.size+1,2,none⟩) (by simp<;>omega) (.bool d)
 refine⟨A1,c1,rfl,R2.low (by simp<;>omega),?_⟩
 exact(((B1.out.setCell (by simp<;>omega) _).setCell (by simp<;>omega) _).setCell (by simp<;>omega) _).setCell (by simp<;>omega) _
theorem nQ{v:Value}{h:List aA}(w:World)(H:gL w v h)(hlen:h.length<=2097152)(hM:∀t∈h,t.ops.length<=2097152) :
 Calls Tryz.prog 47 #[v] w (qj w h):=by
 obtain⟨A,c,rfl⟩:=H.slice;have HH:=aa H;have HM:=aa hM;clear H hM;go_enter Tryz.func47,Tryz.ntmps47;go_wp2;go_loopw [3,4] (fun o i wr=>Ext w wr/\∃k:Nat,k<=h.length/\i=.int .i64 k/\Hid (∃rs,mW 48 71 w.heap.size wr o rs (h.take k))) (fun _ i _=>h.length-(intOf i).toNat)
 case atStart=>exact⟨(Ext.refl _).alloc _,0,Nat.zero_le _,rfl,[],mW.nil w⟩
 case round=>
  obtain⟨hb,k,hk,rfl,HI⟩:=hrel;by_cases hlt:k<h.length
  ·obtain⟨b,off,rfl,hbl,hc⟩:=HH.out.head (by omega);obtain⟨t,ht⟩:=af hlt;obtain⟨ov,c0,c1,c2,hs⟩:=hc k t ht;replace c0:=hb.cell c0;replace c1:=hb.cell c1;replace c2:=hb.cell c2;have hl:=HM.out t (List.mem_of_getElem? ht);obtain⟨rs,hB⟩:=HI.out;obtain⟨A',c',rfl,_⟩:=id hs;have HS:=aa (hs.ext hb);have HT:=aa ht;have HB:=aa hB;have hrl:rs.length<=k:=by rw[hB.1,List.length_take];omega
   clear ht hc hs HI hB;go_wp2_with fail
   refine(Ku t.az t.done _ HS.out hl).mono ?_
   rintro e w1 ⟨A1,cc,rfl,r1,b1⟩;have hbase:w.heap.size<=wr.heap.size:=hb.size;obtain⟨v',w2,hrun,hB2,hE2⟩:=rF (t:=t) _ rfl HB.out b1 r1.cell.1 r1.cell.2 r1.KQ (r1.cap) hbase (by omega);have aU:=aa hrun;have HB2:=aa hB2;have HE2:=aa (hE2 w hb (Nat.le_refl _));clear hrun hB2 hE2 r1;go_wp2_with (at_builtin;refine wpList_append_run rfl rfl rfl rfl aU.out ?_)
   go_roundw;case rel=>exact⟨HE2.out,k+1,by omega,by go_num,_,by rw[ah HT.out];exact HB2.out⟩
   case measure=>simp[intOf];omega
  ·obtain rfl:k=h.length:=by omega
   obtain⟨rs,hB⟩:=HI.out;have HB:=aa hB;obtain⟨A',c',rfl,_⟩:=hB.2.1.cell.1;clear hB HI;go_wp2;go_returns;have hB:=HB.out;rw[List.take_length]at hB;obtain⟨d1,d2⟩:=hB.done (by decide);exact⟨_,rs,rfl,d1,d2,hb⟩
theorem Dx{v:Value}{h:List aA}(w:World)(H:gL w v h)(hlen:h.length<=2097152)(hM:∀t∈h,t.ops.length<=2097152) :
 Calls Tryz.prog 21 #[v] w fun e w'=>∃v' rs,e=.returned v'/\mW 48 71 w.heap.size w' v' rs h/\Ext w w':=by
 obtain⟨A,c,rfl⟩:=H.slice;have HH:=aa H;have HM:=aa hM;clear H hM;go_enter Tryz.func21,Tryz.ntmps21;go_wp2;go_loopw [3,4] (fun o i wr=>Ext w wr/\∃k:Nat,k<=h.length/\i=.int .i64 k/\Hid (∃rs,mW 48 71 w.heap.size wr o rs (h.take k))) (fun _ i _=>h.length-(intOf i).toNat)
 case atStart=>exact⟨(Ext.refl _).alloc _,0,Nat.zero_le _,rfl,[],mW.nil w⟩
 case round=>
  obtain⟨hb,k,hk,rfl,HI⟩:=hrel;by_cases hlt:k<h.length
  ·obtain⟨b,off,rfl,hbl,hc⟩:=HH.out.head (by omega);obtain⟨t,ht⟩:=af hlt;obtain⟨ov,c0,c1,c2,hs⟩:=hc k t ht;have hl:=HM.out t (List.mem_of_getElem? ht);obtain⟨rs,hB⟩:=HI.out;obtain⟨A',c',rfl,_⟩:=id hs;have HT:=aa ht;have hrl:rs.length<=k:=by rw[hB.1,List.length_take];omega
   have hbase:w.heap.size<=wr.heap.size:=hb.size;have i1:(0:Int)<=(k:Int):=by omega
   have i2:(k:Int)<(h.length:Int):=by omega
   have hbw:b<wr.heap.size:=Nat.lt_of_lt_of_le hbl hb.size;have C0:=hb.cell c0;have C1:=hb.cell c1;have C2:=hb.cell c2;obtain⟨v1,w1,lD,iM,zU⟩:=mJ (w:=wr.drew) wr.heap.size rfl Tryz.underlying46 kG rfl (by omega) (hs.ext (hb.drew)) (fun x _ j=>sK x j) (by omega) (by omega);have b1:=zU wr ((Ext.refl _).drew);obtain⟨A1,cc,rfl,_⟩:=iM.cell.1;obtain⟨v2,w2,kK,hB2,hE2⟩:=rF (t:=t) _ rfl hB b1 iM.cell.1 iM.cell.2 iM.KQ (iM.cap) hbase (by omega);have b2:=hE2 w hb (Nat.le_refl _);have D0:=b1.cell C0;have D1:=b1.cell C1;have D2:=b1.cell C2;have E0:=b2.cell c0;have E1:=b2.cell c1;have E2:=b2.cell c2;have hb1:b<w1.heap.size:=Nat.lt_of_lt_of_le hbw b1.size;have mH:Hid ((Builtin.append_ #[46,46] 46 #[.slice (some ⟨wr.heap.size,0,none⟩) 0 0,.slice A' t.ops.length c']).run Tryz.prog (wr.alloc (.cells #[] 71)).drew=.ok (.slice A1 t.ops.length cc) w1):=lD;have oO:=aa kK;have HB2:=aa hB2;have XY:=aa b2;clear c0 c1 c2 ht hc hs HI hB lD kK hB2 iM zU b1 b2 hE2;go_wp2;go_region_held3 (fun W=>W.cell? ⟨b,off+k*3,none⟩=some (.int .i64 t.az)/\W.cell? ⟨b,off+k*3+1,none⟩=some (.slice A' t.ops.length c')/\W.cell? ⟨b,off+k*3+2,none⟩=some (.bool t.done)) (go_keep) ((first|(refine aJ (by rfl) (by rfl) (by rfl) (by rfl) mH.out ?_;clear mH)|(refine aJ (by rfl) (by rfl) (by rfl) (by rfl) oO.out ?_)))
   go_wp2;go_roundw;case rel=>exact⟨XY.out,k+1,by omega,by go_num,_,by rw[ah HT.out];exact HB2.out⟩
   case measure=>simp[intOf];omega
  ·obtain rfl:k=h.length:=by omega
   obtain⟨rs,hB⟩:=HI.out;have HB:=aa hB;obtain⟨A',c',rfl,_⟩:=hB.2.1.cell.1;clear hB HI;go_wp2;go_returns;have hB:=HB.out;rw[List.take_length]at hB;exact⟨_,rs,rfl,hB,hb⟩
def lI{α:Type}(e:TypeId)(m:Nat)(enc:α->Nat->Value)(base:Nat)(w0 w':World)(v v':Value)(xs:List α):Prop:=
 Row e m enc base w' v' xs/\(∀u:World,Ext u w0->u.heap.size<=base->Ext u w')/\(∀k,k<w0.heap.size->v.ownBlock≠some k->w'.heap[k]? =w0.heap[k]?)/\(v'.ownBlock=v.ownBlock∨∃k,v'.ownBlock=some k/\w0.heap.size<=k)
theorem iP{α:Type}{t e:TypeId}{m b:Nat}{z:Value}{enc:α->Nat->Value}{base:Nat}{w0 w:World}{v:Value}{xs:List α}(q:Nat)(hq:w.heap.size=q)(ht:Tryz.prog.underlying t=some (.slice e))(hinfo:(Tryz.prog.info? e).map (fun i=>(i.zero,i.size,i.bytes))=some (some z,m,b))(hzs:z.cells.size=m)(hm:0<m)
 (H:Row e m enc base w0 v xs) (hx:Ext w0 w) (x:α) (h1:∀j,(enc x j).oneCell'=true) (cs:Array Value) (hcs:(aI m enc x).toArray=cs) (hb:base<=w0.heap.size) (hn:xs.length+1<=4194304) (hbb:b<=64) :
 ∃v' w',(Builtin.append_ #[t,t] t #[v,.slice (some ⟨q,0,none⟩) 1 1]).run Tryz.prog (w.alloc (.cells cs e))=.ok v' w'/\lI e m enc base w0 w' v v' (xs++[x]):=by
 subst hq hcs;have hrow:=H.ext hx;obtain⟨i,hi,hz,hs,hby⟩:=oq hinfo;have hl:(aI m enc x).length=1*m:=by simp[aI]
 obtain⟨v',w',hrun,hown,hg,_,hat⟩:=run_append_own_at (P:=Tryz.prog) (w:=w.alloc (.cells (aI m enc x).toArray e)) base t t e i z m b ht hi hz hs hby hzs hm v xs.length _ (World.ownsRow.alloc hrow _)
  ⟨w.heap.size,0,none⟩ 1 1 (aI m enc x) hl
  (fun j u hu=>by
   have hadd:(⟨w.heap.size,0,none⟩:Addr).add j=⟨w.heap.size,j,none⟩:=by unfold Addr.add;split<;>simp_all
   rw[hadd,cell_of_row _ _ j _ e (0,0) (heap_alloc_new w _)];simpa using hu)
  (fun u hu=>by simp[aI]at hu;obtain⟨j,_,rfl⟩:=hu;exact h1 j) (by simp only[maxLen];omega)
  (by have:(xs.length+1)*b<=4194304*64:=Nat.mul_le_mul hn hbb;omega) (by have:=hx.size;simp;omega)
 have hrow':Row e m enc base w' v' (xs++[x]):=by unfold Row;rw[List.flatMap_append,List.length_append];simpa using hown
 have h2:=hx.alloc (.cells (aI m enc x).toArray e);refine⟨v',w',hrun,hrow',fun u hu hl=>Ext.grown ((hu.trans hx).alloc _) hg (fun k hk=>Nat.le_trans hl (hrow.block k hk)),fun k hk hv=>?_,?_⟩
 ·exact(hg.block k (Nat.lt_of_lt_of_le hk h2.size) (fun e=>hv e.symm)).trans (Below.block h2 k hk)
 ·rcases hat with h|h
  ·exact .inl h
  ·exact .inr ⟨_,h,h2.size⟩
theorem Row.WV{α:Type}{e:TypeId}{m:Nat}{enc:α->Nat->Value}{base:Nat}{w:World}{v:Value}{xs:List α}(h:Row e m enc base w v xs){g:Nat}{es:Array MapEntry}{xN:Nat}(hg:w.heap[g]? =some (.map es xN)):v.ownBlock≠some g:=by
 intro e;rcases h.2 with ⟨rfl,_⟩|⟨g',cap,cur,rfl,hb,hg',_⟩
 ·simp[Value.ownBlock]at e
 ·simp[Value.ownBlock]at e;subst e;rw[hg]at hg';cases hg'
theorem j4.pushed{K:Type}[DecidableEq K]{iH:K->Value}{mm:K->Option Value}{g:Nat}{α:Type}{e:TypeId}{m:Nat}{enc:α->Nat->Value}{base:Nat}{w0 w':World}{v v':Value}{xs ys:List α}(h:j4 w0 g iH mm)(H:Row e m enc base w0 v ys)(hp:lI e m enc base w0 w' v v' xs):j4 w' g iH mm:=by have hlt:=h.lt;obtain⟨es,xN,l,hg,h2⟩:=h;exact⟨es,xN,l,(hp.2.2.1 g hlt (H.WV hg)).trans hg,h2⟩
theorem lI.cell{α:Type}{e:TypeId}{m:Nat}{enc:α->Nat->Value}{base:Nat}{w0 w':World}{v v':Value}{xs:List α}(hp:lI e m enc base w0 w' v v' xs){p:Addr}{u:Value}(hv:v.ownBlock≠some p.block)(hc:w0.cell? p=some u):w'.cell? p=some u:=by
 have hb:p.block<w0.heap.size:=by
  rcases Nat.lt_or_ge p.block w0.heap.size with h'|h'
  ·exact h'
  ·simp[World.cell?,Array.getElem?_eq_none h']at hc
 rw[<-hc];simp only[World.cell?,hp.2.2.1 p.block hb hv]
theorem Row.new{α:Type}{e:TypeId}{m:Nat}{enc:α->Nat->Value}{base:Nat}{w:World}{v:Value}{xs:List α}(h:Row e m enc base w v xs){k:Nat}(hk:w.heap.size<=k):v.ownBlock≠some k:=fun e=>by
 have:=(World.ownsRow.lt h k e).2
 omega
theorem Row.aS{K:Type}[DecidableEq K]{iH:K->Value}{mm:K->Option Value}{g:Nat}{α:Type}{e:TypeId}{m:Nat}{enc:α->Nat->Value}{base:Nat}{w:World}{v:Value}{xs:List α}(h:Row e m enc base w v xs)(hm:j4 w g iH mm)(o:Obj):Row e m enc base (aS w g o) v xs:=by obtain⟨es,xN,l,hg,_⟩:=hm;refine World.ownsRow.kept (row:=some g) h ⟨rfl,rfl,rfl,by simp[Proofs.YtomkjlklninhpaaGreatDoor.aS],fun k _ hk=>by simp only[Proofs.YtomkjlklninhpaaGreatDoor.aS,Array.getElem?_setIfInBounds];rw[if_neg (fun e=>hk (by rw[e]))]⟩ (.inr (h.WV hg))
theorem uR{base:Nat}{w0 w:World}(q:Nat)(hq:w.heap.size=q){v:Value}{xs:List aQ}(H:Row 71 3 aj base w0 v xs)(hx:Ext w0 w)(o:aQ)(hb:base<=w0.heap.size)(hn:xs.length+1<=4194304) :
 ∃v' w',(Builtin.append_ #[46,46] 46 #[v,.slice (some ⟨q,0,none⟩) 1 1]).run Tryz.prog (w.alloc (.cells #[.int .i64 o.kind,.int .i64 o.key,.int .i64 o.value] 71))=.ok v' w' /\
  lI 71 3 aj base w0 w' v v' (xs++[o]):=
 iP q hq Tryz.underlying46 kG rfl (by omega) H hx o (fun j=>sK o j) _ rfl hb hn (by omega)
def YA(w:World)(xs:List aQ)(e:Ending)(w':World):Prop:=∃v,e=.returned v/\Row 71 3 aj w.heap.size w' v xs/\Ext w w'
theorem GN{P:Program}{w:World}{ops:Array Oper}{rest:List Oper}{o:Oper}{a:Act}{Q:Exit->Act->World->Prop}{m:Operand}{T K E:TypeId}{g:Nat}{es:Array MapEntry}{xN:Nat}(hgd:o.guard=none)
 (ho:o.op=.call { callee:=.builtin .len,args:=#[m],argTypes:=#[T] }) (hT:P.underlying T=some (.map K E)) (hm:a.eval m=.map (some g)) (hs:w.heap[g]? =some (.map es xN))
 (h:wpList P ops Q rest (a.put o.dst (.int .i64 (es.size:Int))) w):wpList P ops Q (o :: rest) a w:=
 wpList_plain hgd fun K hK=>by
  have NQ:(getObj g).run P w=.ok (.map es xN) w:=by simp[getObj,Sem.run,hs]
  unfold Oper.wp execOp;simp only[ho,resolve,invoke,builtin,Builtin.len_,Sem.run_bind,Sem.run_pure,Result.andThen_ok,List.map_toArray,List.map_cons,List.map_nil,hm];simp only[run_underlying hT,Result.andThen_ok,NQ,Sem.run_bind,Sem.run_pure,List.getElem?_toArray,List.getElem?_cons_zero];exact hK _ _ h
def DY(ops:List aQ)(key:Int):Option Value:=(fB ops key).map fP
theorem TU(ops:List aQ)(o:aQ)(hw:iN o=true)(key:Int):(if key=o.key then some (fP o) else DY ops key)=DY (ops++[o]) key:=by
 unfold DY;rw[sV];by_cases h:key=o.key
 ·rw[if_pos h,if_pos ⟨hw,h.symm⟩];rfl
 ·rw[if_neg h,if_neg (fun e=>h e.2.symm)]
theorem TC(ops:List aQ)(o:aQ)(hw:iN o=false)(key:Int):DY ops key=DY (ops++[o]) key:=by unfold DY;rw[sV,if_neg (by simp[hw])]
theorem YT(W:World):(zeroValue 71).run Tryz.prog W=.ok (.agg #[.int .i64 0,.int .i64 0,.int .i64 0]) W:=by kernel_rfl
theorem kr(s:Int)(d:Bool){ov:Value}{ops:List aQ}(w:World)(h:aF 3 aj w ov ops)(hlen:ops.length<=2097152) :
 Calls Tryz.prog 145 #[.agg #[.int .i64 s,ov,.bool d]] w (YA w (bD ops)):=by
 obtain⟨A0,c0,rfl,_⟩:=id h;have HS:=aa h;have hmk:=@run_makeMap Tryz.prog;clear h;go_enter Tryz.func145,Tryz.ntmps145;go_wp2;clear hmk;go_loopw [14] (fun i wr=>Ext w wr/\∃k:Nat,k<=ops.length/\i=.int .i64 k/\Hid (j4 wr (w.heap.size+1) (Value.int .i64) (DY (ops.take k))/\Le wr (w.heap.size+1) k)) (fun i _=>ops.length-(intOf i).toNat)
 case atStart=>
  have hG:=j4.made (w.alloc (.cells #[.int .i64 s,.slice A0 ops.length c0,.bool d] 48)) (Value.int .i64);have hS:=Le.made (w.alloc (.cells #[.int .i64 s,.slice A0 ops.length c0,.bool d] 48));rw[show (w.alloc (.cells #[.int .i64 s,.slice A0 ops.length c0,.bool d] 48)).heap.size=w.heap.size+1 by simp]at hG hS;exact⟨((Ext.refl _).alloc _).alloc _,0,Nat.zero_le _,rfl,hG,hS⟩
 case round=>
  obtain⟨hb,k,hk,rfl,HI⟩:=hrel;by_cases hlt:k<ops.length
  ·obtain⟨A2,c2,hA2,hcc⟩:=HS.out.ext hb;injection hA2 with e1 e2 e3;subst e1 e3;obtain⟨b,off,rfl,hbl,hcc⟩:=hcc (by omega);obtain⟨o,ho⟩:=af hlt;have d0:wr.cell? ⟨b,off+k*3,none⟩=some (.int .i64 o.kind):=hcc k o ho 0 (by omega);have d1:wr.cell? ⟨b,off+k*3+1,none⟩=some (.int .i64 o.key):=hcc k o ho 1 (by omega);have d2:wr.cell? ⟨b,off+k*3+2,none⟩=some (.int .i64 o.value):=hcc k o ho 2 (by omega);have Ho:=aa ho;have hE:Hid (Ext wr ((wr.alloc (.cells #[.int .i64 o.kind,.int .i64 o.key,.int .i64 o.value] 71)).alloc (.cells #[.int .i64 o.kind,.int .i64 o.key,.int .i64 o.value] 71))):=((Ext.refl _).alloc _).alloc _;have hg1:w.heap.size<=w.heap.size+1:=by omega
   clear hcc ho e2
   cases hw:(o.kind==2) with
   | false=>
     go_wp2_with (go_at_call 93;refine(eX _ _ _ _).mono ?_;rw[hw];rintro e w' ⟨rfl,rfl⟩)
     go_roundw;case rel=>exact⟨hb.trans hE.out,k+1,by omega,by go_num,by
      rw[ah Ho.out];exact⟨(HI.out.1.ext hE.out).congr (TC _ _ hw),let ⟨es,xN,h1,h2⟩:=HI.out.2.ext hE.out;⟨es,xN,h1,by omega⟩⟩⟩
     case measure=>simp[intOf];omega
   | true=>
     obtain⟨ob,hu,hG,hS⟩:=fG Tryz.underlying202 (kY Tryz.underlying3) (HI.out.1.ext hE.out) o.key (fP o);have HG:=aa hG;have HSz:=aa (hS k (HI.out.2.ext hE.out));unfold fP at hu;clear hG hS;go_wp2_with (go_at_call 93;refine(eX _ _ _ _).mono ?_;rw[hw];rintro e w' ⟨rfl,rfl⟩)
     go_roundw;case rel=>exact⟨(hb.trans hE.out).aS hg1 _,k+1,by omega,by go_num,by
      rw[ah Ho.out];exact⟨HG.out.congr (TU _ _ hw),HSz.out⟩⟩
     case measure=>simp[intOf];omega
  ·obtain rfl:k=ops.length:=by omega
   obtain⟨es,xN,hes,hsz⟩:=HI.out.2;have yV:=aa hes;have hT:=HI.out.1;rw[List.take_length]at hT;have HT:=aa hT;obtain⟨q,hq⟩:∃q,es.size=q:=⟨_,rfl⟩;have HQ:=aa hq;have Kh:q<=2097152:=by omega
   have hmk:=gY (P:=Tryz.prog) 46 71 Tryz.underlying46 kG q (by omega) (by omega);clear hes hsz hT hq HI;go_wp2_with (at_len;refine GN rfl rfl Tryz.underlying202 rfl yV.out ?_;rw[HQ.out])
   clear hmk;have hbw:w.heap.size<=wr.heap.size:=hb.size;have HT0:=aa (HT.out.ext ((Ext.refl _).alloc (.cells (madeCells (Value.agg #[Value.int .i64 0,Value.int .i64 0,Value.int .i64 0]).cells (q*3)) 71)));have HB0:=aa (hb.alloc (.cells (madeCells (Value.agg #[Value.int .i64 0,Value.int .i64 0,Value.int .i64 0]).cells (q*3)) 71));have xw:Hid (Row 71 3 aj w.heap.size (wr.alloc (.cells (madeCells (Value.agg #[Value.int .i64 0,Value.int .i64 0,Value.int .i64 0]).cells (q*3)) 71)) (.slice (some ⟨wr.heap.size,0,none⟩) 0 q) ([]:List aQ)):=
    (jN _ q (by unfold maxLen;omega) (size_madeCells _ _)).low hbw
   clear HT yV HQ hbw;go_loopw [6,28] (fun o i wr=>Ext w wr/\∃k:Nat,k<=3/\i=.int .i64 k/\Hid (j4 wr (w.heap.size+1) (Value.int .i64) (DY ops)/\Row 71 3 aj w.heap.size wr o (wh ops k))) (fun _ i _=>3-(intOf i).toNat)
   case atStart=>exact⟨HB0.out,0,by omega,rfl,HT0.out,xw.out⟩
   case round=>
    obtain⟨hb2,k,hk,rfl,HI⟩:=hrel;have hkl:=lV ops k;have hbw:w.heap.size<=wr.heap.size:=hb2.size;by_cases hlt:k<3
    ·have hl1:=l8 Tryz.underlying202 (kY Tryz.underlying3) YT HI.out.1 (k:Int);have hnx:=aa (De ops k)
     cases Jf:fB ops (k:Int) with
     | none=>
       have hX:DY ops (k:Int)=none:=by unfold DY;rw[Jf];rfl
       rw[hX]at hl1;have Xt:=aa Jf;clear hX Jf;go_wp2;go_roundw;case rel=>exact⟨hb2.alloc _,k+1,by omega,by go_num,HI.out.1.ext ((Ext.refl _).alloc _),by rw[hnx.out,Xt.out];simpa using HI.out.2.ext ((Ext.refl _).alloc _)⟩
       case measure=>simp[intOf];omega
     | some o=>
       have hX:DY ops (k:Int)=some (.agg #[.int .i64 o.kind,.int .i64 o.key,.int .i64 o.value]):=by unfold DY;rw[Jf];rfl
       rw[hX]at hl1;have Xt:=aa Jf;obtain⟨v',w2,hrun,hP⟩:=uR (w:=wr.alloc (.cells #[.int .i64 o.kind,.int .i64 o.key,.int .i64 o.value] 71)) (wr.heap.size+1) (by simp) HI.out.2 ((Ext.refl _).alloc _) o hbw (by omega);have aU:=aa hrun;have HB2:=aa hP.1;have HE2:=aa (hP.2.1 w hb2 (Nat.le_refl _));have Su:=aa (HI.out.1.pushed HI.out.2 hP);clear hX Jf hrun hP;go_wp2_with (at_builtin;refine wpList_append_run rfl rfl rfl rfl aU.out ?_)
       go_roundw;case rel=>exact⟨HE2.out,k+1,by omega,by go_num,Su.out,by rw[hnx.out,Xt.out];exact HB2.out⟩
       case measure=>simp[intOf];omega
    ·obtain rfl:k=3:=by omega
     obtain⟨A',c',rfl,_⟩:=HI.out.2.cell.1;go_wp2;go_returns;exact⟨_,rfl,by rw[<-j6];exact HI.out.2,hb2⟩
def Cc(f:Int->Value)(ops:List aQ)(key:Int):Option Value:=(before ops key).map f
theorem nJ(f:Int->Value)(ops:List aQ)(o:aQ)(key:Int):(if key=o.key then some (f o.value) else Cc f ops key)=Cc f (ops++[o]) key:=by
 unfold Cc;rw[vV]
 split<;>rfl
theorem Jz(W:World):(zeroValue 4).run Tryz.prog W=.ok (.bool false) W:=by kernel_rfl
def ze(o x:aQ):Bool:=decide (o.kind=x.kind/\o.key=x.key/\o.value=x.value)
theorem JP{o x:aQ}:ze o x=true↔x=o:=by unfold ze;rw[decide_eq_true_eq];exact⟨fun h=>(aQ.ext' h.1 h.2.1 h.2.2).symm,fun h=>by subst h;exact⟨rfl,rfl,rfl⟩⟩
theorem Nb{v:Value}{xs:List aQ}(o:aQ)(w:World)(h:aF 3 aj w v xs)(hlen:xs.length<=2097152) :
 Calls Tryz.prog 307 #[v,fP o] w fun e w'=>e=.returned (.int .i64 (findAt (ze o) xs 0))/\Ext w w':=by
 obtain⟨A,c,rfl,hc0⟩:=h;have HC:=aa hc0;have hg:=AZ;clear hc0;show Calls Tryz.prog 307 #[.slice A xs.length c,.agg #[.int .i64 o.kind,.int .i64 o.key,.int .i64 o.value]] w _;go_enter Tryz.func307,Tryz.ntmps307;go_wp2;go_loopw [8] (fun i wr=>Ext (w.alloc (.cells #[.int .i64 o.kind,.int .i64 o.key,.int .i64 o.value] 71)) wr/\∃k:Nat,k<=xs.length/\i=.int .i64 k/\Hid (findAt (ze o) xs 0=findAt (ze o) (xs.drop k) k)) (fun i _=>xs.length-(intOf i).toNat)
 case atStart=>exact⟨Ext.refl _,0,Nat.zero_le _,rfl,rfl⟩
 case round=>
  obtain⟨hb,k,hk,rfl,HI⟩:=hrel;have hbb:=((Ext.refl w).alloc _).trans hb;by_cases hlt:k<xs.length
  ·obtain⟨b,off,rfl,hbl,hc⟩:=HC.out (by omega);obtain⟨x,hx⟩:=af hlt;have E0:∀e,(over wr e).cell? ⟨w.heap.size,0,none⟩=some (.int .i64 o.kind):=aG (hb.cell (av rfl));have E1:∀e,(over wr e).cell? ⟨w.heap.size,1,none⟩=some (.int .i64 o.key):=aG (hb.cell (av rfl));have E2:∀e,(over wr e).cell? ⟨w.heap.size,2,none⟩=some (.int .i64 o.value):=aG (hb.cell (av rfl));have d0:∀e,(over wr e).cell? ⟨b,off+k*3,none⟩=some (.int .i64 x.kind):=aG (hbb.cell (hc k x hx 0 (by omega)));have d1:∀e,(over wr e).cell? ⟨b,off+k*3+1,none⟩=some (.int .i64 x.key):=aG (hbb.cell (hc k x hx 1 (by omega)));have d2:∀e,(over wr e).cell? ⟨b,off+k*3+2,none⟩=some (.int .i64 x.value):=aG (hbb.cell (hc k x hx 2 (by omega)));have he:=fun W=>pY o.kind o.key o.value x.kind x.key x.value W;have hE:Hid (∀r,ze o x=r->decide (o.kind=x.kind/\o.key=x.key/\o.value=x.value)=r):=fun r hr=>hr;have Hx:=aa hx;clear hx hc
   cases hp:ze o x with
   | true=>
     rw[hE.out _ hp]at he;have hr:=aa (HI.out.trans (nO Hx.out hp));clear hp;go_wp2;refine aO (by kernel_rfl) (by kernel_rfl) ?_;repeat (go_big_quiet_step (fail))
     refine wpQuiet_nil ?_;intro w1 hb1;go_wp2;go_returns;exact⟨aX hr.out.symm,hbb.trans hb1⟩
   | false=>
     rw[hE.out _ hp]at he;have hr:=aa (HI.out.trans (mG Hx.out hp));clear hp;go_wp2;refine aO (by kernel_rfl) (by kernel_rfl) ?_;repeat (go_big_quiet_step (fail))
     refine wpQuiet_nil ?_;intro w1 hb1;go_wp2;go_roundw;case rel=>exact⟨hb.trans hb1,k+1,by omega,by go_num,hr⟩
     case measure=>simp[intOf];omega
  ·obtain rfl:k=xs.length:=by omega
   go_wp2;go_returns;exact⟨aX (by rw[HI.out];simp[findAt]),hbb⟩
theorem Fg{v:Value}{xs:List aQ}(o:aQ)(w:World)(h:aF 3 aj w v xs)(hlen:xs.length<=2097152) :
 Calls Tryz.prog 304 #[v,fP o] w fun e w'=>e=.returned (.bool (xs.any (ze o)))/\Ext w w':=by
 have H:=aa h;clear h;show Calls Tryz.prog 304 #[v,.agg #[.int .i64 o.kind,.int .i64 o.key,.int .i64 o.value]] w _;go_enter Tryz.func304,Tryz.ntmps304;go_wp2_with fail
 refine(Nb o _ (H.out.ext ((Ext.refl _).alloc _)) hlen).mono ?_
 rintro e w1 ⟨rfl,b1⟩;go_wp2;go_returns;exact⟨aN (nI),((Ext.refl _).alloc _).trans b1⟩
theorem aD{h:List aA}(hok:aC h=true):∀t∈h,t.ops.length<=2097152:=fun t ht=>by have:=bU (bY hok ht);omega
theorem rA{v:Value}{h:List aA}(key value:Int)(w:World)(H:gL w v h)(hok:aC h=true) :
 Calls Tryz.prog 197 #[v,.int .i64 key,.int .i64 value] w fun e w'=>e=.returned (.int .i64 (aB h key value))/\Ext w w':=by
 have hM:=aD hok;have hlen:h.length<=2097152:=by have:=aM hok;omega
 have hnt:jh h=true:=by simp only[aC,Bool.and_eq_true]at hok;exact hok.2
 obtain⟨A,c,rfl⟩:=H.slice;have HH:=aa H;have HM:=aa hM;have HN:=aa hnt;have dO:=aa hok;clear H hM hnt hok;go_enter Tryz.func197,Tryz.ntmps197;go_wp2_with fail
 refine(bN _ HH.out hlen HM.out).mono ?_
 rw[dO.out];rintro e w1 ⟨rfl,b1⟩;go_wp2_with fail
 refine(zW _ (HH.out.ext b1) hlen HM.out).mono ?_
 rintro e w2 ⟨b2,⟨hn,g,rfl,hG⟩|⟨hn,rfl⟩⟩
 ·have hl1:=l8 Tryz.underlying97 uV FW hG (key,value);unfold qH at hl1
  cases hlk:lookW (Bo h) (key,value) with
  | none=>
    have hX:yw (Bo h) (key,value)=none:=by unfold yw;rw[hlk];rfl
    have hR:=aa (show aB h key value=-1 by unfold aB;rw[hlk];rfl);rw[hX]at hl1;clear hX hlk hn hG;go_wp2;go_returns;exact⟨aX hR.out.symm,b1.trans b2⟩
  | some n=>
    have hX:yw (Bo h) (key,value)=some (.int .i64 (n:Int)):=by unfold yw;rw[hlk];rfl
    have hR:=aa (show aB h key value=n by unfold aB;rw[hlk];rfl);rw[hX]at hl1;clear hX hlk hn hG;go_wp2;go_returns;exact⟨aX hR.out.symm,b1.trans b2⟩
 ·exfalso;rw[HN.out]at hn;cases hn
theorem LF{h:List aA}{key value:Int}{n:Nat}{t:aA}(hw:aB h key value=n)(ht:h[n]? =some t)(hk:0<=key/\key<=2):iJ h key value=(bD t.ops).any (ze ⟨2,key,value⟩):=by
 unfold iJ;rw[hw,Int.toNat_natCast,show decide ((0:Int)<=(n:Int))=true by simp,Bool.true_and];have ho:opsOf h n=t.ops:=by simp[opsOf,ht]
 rw[ho,Bool.eq_iff_iff,List.any_eq_true];constructor
 ·intro hx
  cases hl:fB t.ops key with
  | none=>rw[hl]at hx;simp at hx
  | some o=>
    rw[hl]at hx;simp at hx;have h3:=j3 hl;refine⟨o,jD.2 ⟨by rw[h3.2.2];omega,by rw[h3.2.2];exact hl⟩,?_⟩;rw[JP];have hk2:o.kind=2:=by simpa[iN] using h3.2.1
    exact aQ.ext' hk2 h3.2.2 hx
 ·rintro⟨o,hm,he⟩;rw[JP]at he;subst he
  have:=(jD.1 hm).2
  simp only at this;rw[this];simp
theorem EI{v:Value}{h:List aA}(key value:Int)(w:World)(H:gL w v h)(hok:aC h=true)(hk:0<=key/\key<=2) :
 Calls Tryz.prog 291 #[v,.int .i64 key,.int .i64 value] w fun e w'=>e=.returned (.bool (iJ h key value))/\Ext w w':=by
 have hwr:=fo (h:=h) key value;obtain⟨A,c,rfl⟩:=H.slice;have HH:=aa H;have dO:=aa hok;have HK:=aa hk;clear H hk;have hM:=aD hok;obtain⟨z,hz⟩:∃z,aB h key value=z:=⟨_,rfl⟩;have hW:=fun w' (H:gL w' (.slice A h.length c) h)=>rA key value w' H hok;rw[hz]at hwr hW;have HW:=aa hW;have HZ:=aa hz;have HM:=aa hM;clear hz hW hok hM;by_cases hneg:z<0
 ·have hR:=aa (show iJ h key value=false by unfold iJ;rw[HZ.out,show decide (0<=z)=false by simp;omega];rfl);go_enter Tryz.func291,Tryz.ntmps291;go_wp2_with fail
  refine(HW.out _ HH.out).mono ?_
  rintro e w1 ⟨rfl,b1⟩;go_wp2;go_returns;exact⟨aN hR.out.symm,b1⟩
 ·obtain⟨n,rfl⟩:=Int.eq_ofNat_of_zero_le (show 0<=z by omega);have hn:n<h.length:=by omega
  obtain⟨t,ht⟩:=af hn;have hR:=aa (LF HZ.out ht HK.out);have hl:=HM.out t (List.mem_of_getElem? ht);obtain⟨b,off,rfl,hbl,hc⟩:=HH.out.head (by omega);obtain⟨ov,c0,c1,c2,hs⟩:=hc n t ht;have HS:=aa hs;have Jf:(bD t.ops).length<=3:=by rw[<-j6];exact lV _ _
  clear hc ht hs;go_enter Tryz.func291,Tryz.ntmps291;go_wp2_with fail
  refine(HW.out _ HH.out).mono ?_
  rintro e w1 ⟨rfl,b1⟩;replace c0:=b1.cell c0;replace c1:=b1.cell c1;replace c2:=b1.cell c2;go_wp2_with fail
  refine(kr t.az t.done _ (HS.out.ext b1) hl).mono ?_
  rintro e w2 ⟨v2,rfl,r2,b2⟩;have R2:=aa r2;clear r2;go_wp2_with fail
  refine(Fg ⟨2,key,value⟩ _ R2.out.cell.1 (by omega)).mono ?_
  rw[<-hR.out];rintro e w3 ⟨rfl,b3⟩;go_wp2;go_returns;exact⟨rfl,(b1.trans b2).trans b3⟩
theorem xB{h:List aA}{n:Nat}{o:aQ}(hx:mM o=false∨o.value=0∨aB h o.key o.value=n):eP h n o=0:=by unfold eP;rw[if_pos hx]
theorem Lc{v:Value}{h:List aA}(n:Nat)(o:aQ)(w:World)(H:gL w v h)(hok:aC h=true)(ho:gH o=true) :
 Calls Tryz.prog 262 #[v,.int .i64 (n:Int),fP o] w fun e w'=>e=.returned (.int .i64 (eP h n o))/\Ext w w':=by
 have hwr:=fo (h:=h) o.key o.value;have hkey:=iB ho;obtain⟨A,c,rfl⟩:=H.slice;have HH:=aa H;have hlen:=aM hok;clear H ho;obtain⟨z,hz⟩:∃z,aB h o.key o.value=z:=⟨_,rfl⟩;have hW:=fun w' (H:gL w' (.slice A h.length c) h)=>rA o.key o.value w' H hok;have hL:=fun w' (H:gL w' (.slice A h.length c) h)=>EI o.key o.value w' H hok hkey;rw[hz]at hwr hW;have HW:=aa hW;have HL:=aa hL;have hb0:=fun hx=>xB (h:=h) (n:=n) (o:=o) hx;have hb1:Hid (mM o=true->o.value≠0->z≠n->eP h n o=if z<0 then 1 else if gP h z.toNat=false then 2 else if iJ h o.key o.value=false then 3 else 0):=fun h1 h2 h3=>by unfold eP;rw[hz,if_neg (by simp[h1,h2,h3])]
 rw[hz]at hb0;have HB0:=aa hb0;clear hz hW hL hok hb0;show Calls Tryz.prog 262 #[.slice A h.length c,.int .i64 (n:Int),.agg #[.int .i64 o.kind,.int .i64 o.key,.int .i64 o.value]] w _;have go1:∀r,eP h n o=r->((o.kind==1)=false∨(o.value==0)=true∨(z==(n:Int))=true)->r=0 ->
  Calls Tryz.prog 262 #[.slice A h.length c,.int .i64 (n:Int),.agg #[.int .i64 o.kind,.int .i64 o.key,.int .i64 o.value]] w fun e w'=>e=.returned (.int .i64 r)/\Ext w w':=by
  intro r hr hx hr0;subst hr0;clear hr;have hE:Hid (Ext w (w.alloc (.cells #[.int .i64 o.kind,.int .i64 o.key,.int .i64 o.value] 71))):=(Ext.refl _).alloc _
  cases h1:(o.kind==1)<;>cases h2:(o.value==0)<;>cases h3:(z==(n:Int))<;>first
   | (exfalso;simp[h1,h2,h3]at hx;done)
   | (clear hx
      go_enter Tryz.func262,Tryz.ntmps262;go_wp2_with fail
      refine(HW.out _ (HH.out.ext hE.out)).mono ?_
      rintro e w1 ⟨rfl,b1⟩;have x0:w1.cell? ⟨w.heap.size,0,none⟩=some (.int .i64 o.kind):=b1.cell (av rfl);have x1:w1.cell? ⟨w.heap.size,1,none⟩=some (.int .i64 o.key):=b1.cell (av rfl);have x2:w1.cell? ⟨w.heap.size,2,none⟩=some (.int .i64 o.value):=b1.cell (av rfl);have hz:w.heap.size<w1.heap.size:=by have:=b1.size;simp at this;omega
      have Kn:=aa (hE.out.trans b1);clear b1;go_wp2_with (go_at_call 115;refine(fJ _ _ _ _).mono ?_;rw[h1];rintro e w' ⟨rfl,rfl⟩)
      go_returns;exact⟨rfl,Kn.out.alloc _⟩)
 by_cases h1:mM o=true;case neg=>exact go1 _ rfl (.inl (by simpa[mM] using h1)) (HB0.out (.inl (by simpa using h1)))
 by_cases h2:o.value=0
 ·exact go1 _ rfl (.inr (.inl (by simp[h2]))) (HB0.out (.inr (.inl h2)))
 by_cases h3:z=n
 ·exact go1 _ rfl (.inr (.inr (by simp[h3]))) (HB0.out (.inr (.inr h3)))
 have hr:=aa (hb1.out h1 h2 h3);have h1':(o.kind==1)=true:=h1;have h2':(o.value==0)=false:=by simpa using h2
 have h3':(z==(n:Int))=false:=by simpa using h3
 have hE:Hid (Ext w (w.alloc (.cells #[.int .i64 o.kind,.int .i64 o.key,.int .i64 o.value] 71))):=(Ext.refl _).alloc _;clear go1 h1 h2 h3 hb1 HB0;by_cases hneg:z<0
 ·go_enter Tryz.func262,Tryz.ntmps262;go_wp2_with fail
  refine(HW.out _ (HH.out.ext hE.out)).mono ?_
  rintro e w1 ⟨rfl,b1⟩;have x0:w1.cell? ⟨w.heap.size,0,none⟩=some (.int .i64 o.kind):=b1.cell (av rfl);have x1:w1.cell? ⟨w.heap.size,1,none⟩=some (.int .i64 o.key):=b1.cell (av rfl);have x2:w1.cell? ⟨w.heap.size,2,none⟩=some (.int .i64 o.value):=b1.cell (av rfl);have hz:w.heap.size<w1.heap.size:=by have:=b1.size;simp at this;omega
  have Kn:=aa (hE.out.trans b1);clear b1;go_wp2_with (go_at_call 115;refine(fJ _ _ _ _).mono ?_;rw[h1'];rintro e w' ⟨rfl,rfl⟩)
  go_returns;exact⟨aX (by rw[hr.out,if_pos hneg]),Kn.out.alloc _⟩
 ·obtain⟨m,rfl⟩:=Int.eq_ofNat_of_zero_le (show 0<=z by omega);have hm:m<h.length:=by omega
  obtain⟨t,ht⟩:=af hm;have hdo:Hid (gP h m=t.done):=by show _ = _;simp[gP,ht]
  obtain⟨b,off,rfl,hbl,hc⟩:=HH.out.head (by omega);obtain⟨ov,c0,c1,c2,hs⟩:=hc m t ht;clear hc ht hs c0 c1
  cases hd:t.done with
  | false=>
    rw[hd]at c2;go_enter Tryz.func262,Tryz.ntmps262;go_wp2_with fail
    refine(HW.out _ (HH.out.ext hE.out)).mono ?_
    rintro e w1 ⟨rfl,b1⟩;have x0:w1.cell? ⟨w.heap.size,0,none⟩=some (.int .i64 o.kind):=b1.cell (av rfl);have x1:w1.cell? ⟨w.heap.size,1,none⟩=some (.int .i64 o.key):=b1.cell (av rfl);have x2:w1.cell? ⟨w.heap.size,2,none⟩=some (.int .i64 o.value):=b1.cell (av rfl);have hz:w.heap.size<w1.heap.size:=by have:=b1.size;simp at this;omega
    have Kn:=aa (hE.out.trans b1);replace c2:=Kn.out.cell c2;have hbw:b<w1.heap.size:=Nat.lt_of_lt_of_le hbl Kn.out.size;clear b1;go_wp2_with (go_at_call 115;refine(fJ _ _ _ _).mono ?_;rw[h1'];rintro e w' ⟨rfl,rfl⟩)
    go_returns;exact⟨aX (by rw[hr.out,if_neg (by omega),Int.toNat_natCast,hdo.out,if_pos hd]),Kn.out.alloc _⟩
  | true=>
    rw[hd]at c2;have hr2:Hid (∀r,iJ h o.key o.value=r->eP h n o=if r=false then 3 else 0):=fun r e=>by subst e;rw[hr.out,if_neg (by omega),Int.toNat_natCast,hdo.out,if_neg (by simp[hd])]
    cases hlv:iJ h o.key o.value<;>(
     go_enter Tryz.func262,Tryz.ntmps262;go_wp2_with fail
     refine(HW.out _ (HH.out.ext hE.out)).mono ?_
     rintro e w1 ⟨rfl,b1⟩;have x0:w1.cell? ⟨w.heap.size,0,none⟩=some (.int .i64 o.kind):=b1.cell (av rfl);have x1:w1.cell? ⟨w.heap.size,1,none⟩=some (.int .i64 o.key):=b1.cell (av rfl);have x2:w1.cell? ⟨w.heap.size,2,none⟩=some (.int .i64 o.value):=b1.cell (av rfl);have hz:w.heap.size<w1.heap.size:=by have:=b1.size;simp at this;omega
     have Kn:=aa (hE.out.trans b1);replace c2:=Kn.out.cell c2;have hbw:b<w1.heap.size:=Nat.lt_of_lt_of_le hbl Kn.out.size;clear b1;go_wp2_with (go_at_call 115;refine(fJ _ _ _ _).mono ?_;rw[h1'];rintro e w' ⟨rfl,rfl⟩)
     refine(HL.out _ (HH.out.ext (Kn.out.alloc _))).mono ?_
     rw[hlv];rintro e w2 ⟨rfl,b2⟩;go_wp2;go_returns;exact⟨aX (by rw[hr2.out _ hlv];rfl),(Kn.out.alloc _).trans b2⟩)
