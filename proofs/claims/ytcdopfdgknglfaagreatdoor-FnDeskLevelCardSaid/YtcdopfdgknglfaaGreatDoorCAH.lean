/- Lemmas. -/
import Derived.Test.YtcdopfdgknglfaaGreatDoorCAE
import Derived.Test.YtcdopfdgknglfaaGreatDoorCAF
import Derived.Test.YtcdopfdgknglfaaGreatDoorCAG
set_option maxHeartbeats 16000000
set_option maxRecDepth 8000
set_option linter.all false
namespace Go.Proofs.YtcdopfdgknglfaaGreatDoor
open Go.RowKit
theorem lq:(Tryz.prog.info? 67).map (λi=>(i.zero,i.size,i.bytes))=some (some (.agg #[.int .i64 0,.int .i64 0,.int .i64 0]),3,24):=by kernel_rfl
theorem yc(x:aJ)(j:Nat):(encOpr x j).oneCell'=true:=by first|rfl|(unfold encOpr;split<;>rfl)
theorem DK{v:Value}{xs:List aJ}(w:World)(h:aI 3 encOpr w v xs)(hlen:xs.length<=2097152) :
 Calls Tryz.prog 109 #[v] w λe w'=>∃v',e=.returned v'/\Row 67 3 encOpr w.heap.size w' v' xs/\Ext w w':=by
 obtain⟨A,c,rfl,h'⟩:=id h;have heq:=λW=>Lib.run_eql_slice_nil (P:=Tryz.prog) W 46 67 A xs.length c 0 0 Tryz.underlying46
 cases A with
 | none=>
   have hx:xs=[]:=by
    rcases Nat.eq_zero_or_pos xs.length with h0|h0
    ·exact kZ h0
    ·obtain⟨b,off,hA,_⟩:=h' h0;cases hA
   subst hx;clear h h';simp only[jK]at heq ⊢;go_enter Tryz.func109,Tryz.ntmps109;go_wp2;go_returns;exact⟨_,rfl,Row.nil,af _⟩
 | some ad=>
   have hrow:Row 67 3 encOpr w.heap.size (w.alloc (.cells #[] 67)) (.slice (some ⟨w.heap.size,0,none⟩) 0 0) ([]:List aJ):=World.ownsRow_made w #[] 0 (ay _) (by simp[maxLen]) (by simp);obtain⟨v',w',hrun,hrow',hgrow⟩:=mU (P:=Tryz.prog) (t:=46) (ty:=46) (e:=67) Tryz.underlying46 lq rfl (by omega) hrow (h.ext ((af w).alloc (.cells #[] 67))) (λx _ j=>yc x j) (by simp;omega) (by omega) (by simp);have Ma:=aa hrow';have hg:=aa (Ext.grown ((af w).alloc (.cells #[] 67)) hgrow (λk hk=>by simp[Value.ownBlock]at hk;omega));have Mc:=aa hrun;clear h h' hrow hrow' hgrow hrun;go_enter Tryz.func109,Tryz.ntmps109;go_wp2_with (at_builtin;refine wpList_append_run rfl rfl rfl rfl Mc.out ?_)
   go_returns;exact⟨_,rfl,by simpa using Ma.out,hg.out⟩
theorem ny{α:Type}{m:Nat}{enc:α->Nat->Value}{w:World}{A:Option Addr}{n c:Nat}{xs:List α}(h:aI m enc w (.slice A n c) xs)(c':Nat):aI m enc w (.slice A n c') xs:=by obtain⟨A',c2,hA,hc⟩:=h;injection hA with e1 e2 e3;subst e1 e2;exact⟨A,c',rfl,hc⟩
theorem Gl{lo:Nat}{w:World}{A:Option Addr}{n c:Nat}(h:Own lo w (.slice A n c))(c':Nat):Own lo w (.slice A n c'):=λa n' c2 hv hn=>by injection hv with e1 e2 e3;subst e1 e2;exact h _ _ _ rfl hn
theorem wh{I:TypeId}{w:World}{A:Option Addr}{n c:Nat}(h:fT I w (.slice A n c))(c':Nat):fT I w (.slice A n c'):=λa n' c2 hv hn=>by injection hv with e1 e2 e3;subst e1 e2;exact h _ _ _ rfl hn
theorem rH(A:Option Addr)(n c:Nat)(w:World)(hc:n<=c)(hc2:c<=9223372036854775807) :
 Calls Tryz.prog 108 #[.slice A n c] w λe w'=>e=.returned (.slice A n n)/\w=w':=by
 go_enter Tryz.func108,Tryz.ntmps108;go_wp2;go_returns;exact⟨rfl,rfl⟩
theorem rF(s:Int)(d:Bool){ov:Value}{ops:List aJ}(w:World)(h:aI 3 encOpr w ov ops)(hlen:ops.length<=2097152) :
 Calls Tryz.prog 64 #[.agg #[.int .i64 s,ov,.bool d]] w λe w'=>∃A,e=.returned (.agg #[.int .i64 s,.slice A ops.length ops.length,.bool d])/\aI 3 encOpr w' (.slice A ops.length ops.length) ops/\Own w.heap.size w' (.slice A ops.length ops.length)/\fT 67 w' (.slice A ops.length ops.length)/\Ext w w':=by
 have H:=aa h;obtain⟨A0,c0,rfl,_⟩:=id h;clear h;go_enter Tryz.func64,Tryz.ntmps64;go_wp2_with fail
 have hE:Hid (Ext w ((w.alloc (.cells #[.int .i64 s,.slice A0 ops.length c0,.bool d] 48)).alloc (.cells #[.int .i64 0,.slice none 0 0,.bool false] 48))):=((af _).alloc _).alloc _;have hB1:Hid (kK ((w.alloc (.cells #[.int .i64 s,.slice A0 ops.length c0,.bool d] 48)).alloc (.cells #[.int .i64 0,.slice none 0 0,.bool false] 48)) w.heap.size 3):=(kK.made w #[.int .i64 s,.slice A0 ops.length c0,.bool d] _).ext ((af _).alloc _)
 refine(DK _ (H.out.ext hE.out) hlen).mono ?_
 rintro e w1 ⟨v1,rfl,r1,b1⟩;have hz:w.heap.size+1<w1.heap.size:=by have:=b1.size;simp at this;omega
 have x0:w1.cell? ⟨w.heap.size,0,none⟩=some (.int .i64 s):=b1.cell (((af _).alloc _).cell (az rfl));have x1:w1.cell? ⟨w.heap.size,1,none⟩=some (.slice A0 ops.length c0):=b1.cell (((af _).alloc _).cell (az rfl));have x2:w1.cell? ⟨w.heap.size,2,none⟩=some (.bool d):=b1.cell (((af _).alloc _).cell (az rfl));have y0:w1.cell? ⟨w.heap.size+1,0,none⟩=some (.int .i64 0):=b1.cell (jF (by simp) rfl);have y1:w1.cell? ⟨w.heap.size+1,1,none⟩=some (.slice none 0 0):=b1.cell (jF (by simp) rfl);have y2:w1.cell? ⟨w.heap.size+1,2,none⟩=some (.bool false):=b1.cell (jF (by simp) rfl);have f1:∀j,w1.frozen? ⟨w.heap.size,j,none⟩=false:=λj=>(b1.frozen (p:=⟨w.heap.size,j,none⟩) (by simp;omega)).trans ((((af (w.alloc _)).alloc _).frozen (p:=⟨w.heap.size,j,none⟩) (by simp)).trans (iy j rfl));have f2:∀j,w1.frozen? ⟨w.heap.size+1,j,none⟩=false:=λj=>(b1.frozen (p:=⟨w.heap.size+1,j,none⟩) (by simp)).trans (iy j (by simp));have g1:=f1 1;have g20:=f2 0;have g21:=f2 1;have g22:=f2 2;have R1:=aa r1;have B1:=aa (hE.out.trans b1);obtain⟨A1,c1,rfl,_⟩:=id r1.cell.1;have hcap:=r1.cap _ _ _ rfl;clear f1 f2 r1 b1 hB1;go_wp2_with (go_at_call 108;refine(rH A1 ops.length c1 _ hcap.1 hcap.2).mono ?_;rintro e w' ⟨rfl,rfl⟩)
 refine bodyPost_ret (v:=.agg #[.int .i64 s,.slice A1 ops.length ops.length,.bool d]) (by simp[results,Tryz.results64,go_sem,y0,y1,y2]) rfl ?_;have R2:=(((R1.out.Pf (a:=⟨w.heap.size,1,none⟩) (by simp<;>omega) (.slice A1 ops.length ops.length)).Pf (a:=⟨w.heap.size+1,0,none⟩) (by simp<;>omega) (.int .i64 s)).Pf (a:=⟨w.heap.size+1,1,none⟩) (by simp<;>omega) (.slice A1 ops.length ops.length)).Pf (a:=⟨w.heap.size+1,2,none⟩) (by simp<;>omega) (.bool d)
 refine⟨A1,rfl,ny R2.cell.1 _,Gl (R2.cell.2.mono (by simp<;>omega)) _,wh R2.Ng _,?_⟩
 exact(((B1.out.setCell (ay _) _).setCell (by simp<;>omega) _).setCell (by simp<;>omega) _).setCell (by simp<;>omega) _
theorem iX{α:Type}{E:TypeId}{m:Nat}{enc:α->Nat->Value}{w:World}(cs:Array Value)(cap:Nat)(hm:cap<=maxLen)(hs:cs.size=cap*m):Row E m enc w.heap.size (w.alloc (.cells cs E)) (.slice (some ⟨w.heap.size,0,none⟩) 0 cap) ([]:List α):=
 World.ownsRow_made w cs cap (ay _) hm hs
theorem nk{α:Type}{E:TypeId}{m:Nat}{enc:α->Nat->Value}{w:World}:Row E m enc w.heap.size (w.alloc (.cells #[] E)) (.slice (some ⟨w.heap.size,0,none⟩) 0 0) ([]:List α):=
 World.ownsRow_made w #[] 0 (ay _) (by simp[maxLen]) (by simp)
theorem BX{E I:TypeId}{w:World}(cs:Array Value)(cap:Nat)(hm:cap<=maxLen)(hs:cs.size=cap*3):uN E I w.heap.size (w.alloc (.cells cs E)) (.slice (some ⟨w.heap.size,0,none⟩) 0 cap) [] []:=
 ⟨rfl,iX cs cap hm hs,λ_ _ _ h=>by simp at h,λ_ _ _ _ _ h=>by simp at h⟩
theorem mX:(Tryz.prog.info? 48).map (λi=>(i.zero,i.size,i.bytes))=some (some (.agg #[.int .i64 0,.slice none 0 0,.bool false]),3,40):=by kernel_rfl
theorem iI:(Tryz.prog.info? 3).map (λi=>(i.zero,i.size,i.bytes))=some (some (.int .i64 0),1,8):=by kernel_rfl
theorem Gw{base:Nat}{w0 w:World}(q:Nat)(hq:w.heap.size=q){v:Value}{rs:List mo}{h:List aF}{A:Option Addr}{n c:Nat}{t:aF}(H:uN 48 67 base w0 v rs h)(hx:Ext w0 w)(hs:aI 3 encOpr w (.slice A n c) t.ops)(ho:Own w0.heap.size w (.slice A n c))(hi:fT 67 w (.slice A n c))(hcp:qM (.slice A n c))(hb:base<=w0.heap.size)(hn:rs.length+1<=4194304) :
 ∃v' w',(Builtin.append_ #[23,23] 23 #[v,.slice (some ⟨q,0,none⟩) 1 1]).run Tryz.prog (w.alloc (.cells #[.int .i64 t.aD,.slice A n c,.bool t.done] 48))=.ok v' w' /\
  uN 48 67 base w' v' (rs++[⟨t.aD,.slice A n c,t.done⟩]) (h++[t])/\∀u:World,Ext u w0->u.heap.size<=base->Ext u w':=by
 subst hq;have hrow:=H.2.1.ext hx;obtain⟨v',w',hrun,hrow',hg⟩:=o9 (P:=Tryz.prog) (t:=23) (ty:=23) (e:=48) Tryz.underlying23 mX rfl (by omega) hrow ⟨t.aD,.slice A n c,t.done⟩ (λj=>by
  match j with
  | 0=>rfl
  | 1=>rfl
  | _+2=>rfl) hn (by omega) (aR hb hx.size)
 refine⟨v',w',hrun,?_,λu hu hl=>Ext.grown ((hu.trans hx).alloc _) hg (λk hk=>aR hl (hrow.block k hk))⟩;have hy:=hx.alloc (.cells #[.int .i64 t.aD,.slice A n c,.bool t.done] 48);exact uN.push (by decide) H hy ⟨rfl,rfl,hs.ext ((af _).alloc _),hcp⟩ (ho.ext ((af _).alloc _)) (hi.ext ((af _).alloc _)) hb hrow' hg
theorem qD{v:Value}{h:List aF}(w:World)(H:lV w v h)(hlen:h.length<=2097152)(hM:∀t∈h,t.ops.length<=2097152) :
 Calls Tryz.prog 24 #[v] w (qc w h):=by
 obtain⟨A,c,rfl⟩:=H.slice;have HH:=aa H;have HM:=aa hM;have hmk:=fM (P:=Tryz.prog) 23 48 Tryz.underlying23 mX h.length (by omega) (by omega);clear H hM;go_enter Tryz.func24,Tryz.ntmps24;go_wp2;clear hmk;go_loopw [3,11] (λo i wr=>Ext w wr/\∃k:Nat,k<=h.length/\i=.int .i64 k/\Hid (∃rs,uN 48 67 w.heap.size wr o rs (h.take k))) (λ_ i _=>h.length-(intOf i).toNat)
 case atStart=>exact⟨(af _).alloc _,0,bR _,rfl,[],BX _ h.length (by unfold maxLen;omega) (size_madeCells _ _)⟩
 case round=>
  obtain⟨hb,k,hk,rfl,HI⟩:=hrel;by_cases hlt:k<h.length
  ·obtain⟨b,off,rfl,hbl,hc⟩:=HH.out.head (by omega);obtain⟨t,ht⟩:=au hlt;obtain⟨ov,c0,c1,c2,hs⟩:=hc k t ht;replace c0:=hb.cell c0;replace c1:=hb.cell c1;replace c2:=hb.cell c2;have hl:=HM.out t (aN ht);obtain⟨rs,hB⟩:=HI.out;obtain⟨A',c',rfl,_⟩:=id hs;have HS:=aa (hs.ext (hb.alloc (.cells #[.int .i64 t.aD,.slice A' t.ops.length c',.bool t.done] 48)));have HT:=aa ht;have HB:=aa hB;have hrl:rs.length<=k:=by rw[hB.1,ig];omega
   clear ht hc hs HI hB;go_wp2_with fail
   refine(rF t.aD t.done _ HS.out hl).mono ?_
   rintro e w1 ⟨A1,rfl,s1,o1,i1,b1⟩;have hbase:w.heap.size<=wr.heap.size:=hb.size;obtain⟨v',w2,hrun,hB2,hE2⟩:=Gw (t:=t) _ rfl HB.out (((af _).alloc _).trans b1) s1 (o1.mono (by simp)) i1 (jP (ay _) (by omega)) hbase (by omega);have cz:=aa hrun;have HB2:=aa hB2;have HE2:=aa (hE2 w hb (ay _));clear hrun hB2 hE2 s1 o1 i1;go_wp2_with (at_builtin;refine wpList_append_run rfl rfl rfl rfl cz.out ?_)
   go_roundw;case rel=>exact⟨HE2.out,k+1,by omega,by go_num,_,by rw[aj HT.out];exact HB2.out⟩
   case measure=>simp[intOf];omega
  ·obtain rfl:k=h.length:=by omega
   obtain⟨rs,hB⟩:=HI.out;have HB:=aa hB;obtain⟨A',c',rfl,_⟩:=hB.2.1.cell.1;clear hB HI;go_wp2;go_returns;have hB:=HB.out;rw[bY]at hB;obtain⟨d1,d2⟩:=hB.done (by decide);exact⟨_,rs,rfl,d1,d2,hb⟩
theorem Re{base:Nat}{w0 w:World}(q:Nat)(hq:w.heap.size=q){v:Value}{xs:List Nat}(H:Row 3 1 (one jE) base w0 v xs)(hx:Ext w0 w)(n:Nat)(hb:base<=w0.heap.size)(hn:xs.length+1<=4194304) :
 ∃v' w',(Builtin.append_ #[56,56] 56 #[v,.slice (some ⟨q,0,none⟩) 1 1]).run Tryz.prog (w.alloc (.cells #[.int .i64 (n:Int)] 3))=.ok v' w' /\
  Row 3 1 (one jE) base w' v' (xs++[n])/\∀u:World,Ext u w0->u.heap.size<=base->Ext u w':=by
 subst hq;have hrow:=H.ext hx;obtain⟨v',w',hrun,hrow',hg⟩:=o9 (P:=Tryz.prog) (t:=56) (ty:=56) (e:=3) Tryz.underlying56 iI rfl (by omega) hrow n (λj=>rfl) hn (by omega) (aR hb hx.size);exact⟨v',w',hrun,hrow',λu hu hl=>Ext.grown ((hu.trans hx).alloc _) hg (λk hk=>aR hl (hrow.block k hk))⟩
def XJ(w:World)(xs:List Nat)(e:Ending)(w':World):Prop:=∃v,e=.returned v/\Row 3 1 (one jE) w.heap.size w' v xs/\Ext w w'
def wG(h:List aF)(k:Nat):List Nat:=(List.range k).filter λn=>(h[n]?.map (·.done)).getD false
theorem Gt{h:List aF}{k:Nat}{t:aF}(ht:h[k]? =some t):wG h (k+1)=wG h k++if t.done=true then [k] else []:=by unfold wG;rw[kD,yl];congr 1;simp[uk,ht]
theorem Ia(h:List aF)(k:Nat):(wG h k).length<=k:=by
 have:=zM (λn=>(h[n]?.map (·.done)).getD false) (List.range k)
 simpa[wG] using this
theorem pg{v:Value}{h:List aF}(w:World)(H:lV w v h)(hlen:h.length<=2097152) :
 Calls Tryz.prog 205 #[v] w (XJ w (aB h)):=by
 obtain⟨A,c,rfl⟩:=H.slice;have HH:=aa H;have hmk:=fM (P:=Tryz.prog) 56 3 Tryz.underlying56 iI h.length (by omega) (by omega);clear H;go_enter Tryz.func205,Tryz.ntmps205;go_wp2;clear hmk;go_loopw [3,11] (λo i wr=>Ext w wr/\∃k:Nat,k<=h.length/\i=.int .i64 k/\Hid (Row 3 1 (one jE) w.heap.size wr o (wG h k))) (λ_ i _=>h.length-(intOf i).toNat)
 case atStart=>exact⟨(af _).alloc _,0,bR _,rfl,iX _ h.length (by unfold maxLen;omega) (by rw[Nat.mul_one];exact size_madeCells _ _)⟩
 case round=>
  obtain⟨hb,k,hk,rfl,HI⟩:=hrel;have hdl:=Ia h k;by_cases hlt:k<h.length
  ·obtain⟨b,off,rfl,hbl,hc⟩:=HH.out.head (by omega);obtain⟨t,ht⟩:=au hlt;obtain⟨ov,c0,c1,c2,hs⟩:=hc k t ht;replace c0:=hb.cell c0;replace c1:=hb.cell c1;replace c2:=hb.cell c2;obtain⟨A',c',rfl,_⟩:=id hs;have hnx:=aa (Gt ht);have hbase:w.heap.size<=wr.heap.size:=hb.size;clear ht hc hs
   cases hd:t.done with
   | true=>
     rw[hd]at c2;obtain⟨v',w2,hrun,hB2,hE2⟩:=Re (w:=wr.alloc (.cells #[.int .i64 t.aD,.slice A' t.ops.length c',.bool true] 48)) (wr.heap.size+1) (by simp) HI.out ((af _).alloc _) k hbase (by omega);have cz:=aa hrun;have HB2:=aa hB2;have HE2:=aa (hE2 w hb (ay _));clear hrun hB2 hE2;go_wp2_with (at_builtin;refine wpList_append_run rfl rfl rfl rfl cz.out ?_)
     go_roundw;case rel=>exact⟨HE2.out,k+1,by omega,by go_num,by rw[hnx.out,ah hd];exact HB2.out⟩
     case measure=>simp[intOf];omega
   | false=>
     rw[hd]at c2;go_wp2;go_roundw;case rel=>exact⟨hb.alloc _,k+1,by omega,by go_num,by rw[hnx.out,ak (by simp[hd]),oP];exact HI.out.ext ((af _).alloc _)⟩
     case measure=>simp[intOf];omega
  ·obtain rfl:k=h.length:=by omega
   obtain⟨A',c',rfl,_⟩:=HI.out.cell.1;go_wp2;go_returns;exact⟨_,rfl,HI.out,hb⟩
theorem dY{P:Program}{ops:Array Oper}{o:Oper}{a:Act}{w w':World}{K:Act->World->Prop}{Q:Exit->Act->World->Prop}{E:Prop}{s x:Operand}{t:TypeId}{v u v':Value}(hgd:o.guard=none)
 (ho:o.op=.call { callee:=.builtin .append,args:=#[s,x],argTypes:=#[t,t] }) (hs:a.eval s=v) (hx:a.eval x=u) (hrun:(Builtin.append_ #[t,t] o.type #[v,u]).run P w=.ok v' w')
 (h:K (a.put o.dst v') w'):if Region.wanted o (yielded ops a.tmps)=true then Oper.wp P o a w K Q else E:=by
 have hw:Region.wanted o (yielded ops a.tmps)=true:=by simp[Region.wanted,hgd]
 rw[ah hw];unfold Oper.wp execOp;simp only[ho,resolve,invoke,builtin,Sem.run_bind,Sem.run_pure,Result.andThen_ok,List.map_toArray,iF,nH,hs,hx,hrun];exact h
def lF{α:Type}(e:TypeId)(m:Nat)(enc:α->Nat->Value)(base:Nat)(w0 w':World)(v v':Value)(xs:List α):Prop:=
 Row e m enc base w' v' xs/\(∀u:World,Ext u w0->u.heap.size<=base->Ext u w')/\(∀k,k<w0.heap.size->v.ownBlock≠some k->w'.heap[k]? =w0.heap[k]?)/\(v'.ownBlock=v.ownBlock∨∃k,v'.ownBlock=some k/\w0.heap.size<=k)
theorem jQ{α:Type}{t e:TypeId}{m b:Nat}{z:Value}{enc:α->Nat->Value}{base:Nat}{w0 w:World}{v:Value}{xs:List α}(q:Nat)(hq:w.heap.size=q)(ht:Tryz.prog.underlying t=some (.slice e))(hinfo:(Tryz.prog.info? e).map (λi=>(i.zero,i.size,i.bytes))=some (some z,m,b))(hzs:z.cells.size=m)(hm:0<m)
 (H:Row e m enc base w0 v xs) (hx:Ext w0 w) (x:α) (h1:∀j,(enc x j).oneCell'=true) (cs:Array Value) (hcs:(aG m enc x).toArray=cs) (hb:base<=w0.heap.size) (hn:xs.length+1<=4194304) (hbb:b<=64) :
 ∃v' w',(Builtin.append_ #[t,t] t #[v,.slice (some ⟨q,0,none⟩) 1 1]).run Tryz.prog (w.alloc (.cells cs e))=.ok v' w'/\lF e m enc base w0 w' v v' (xs++[x]):=by
 subst hq hcs;have hrow:=H.ext hx;obtain⟨i,hi,hz,hs,hby⟩:=mQ hinfo;have hl:(aG m enc x).length=1*m:=by simp[aG]
 obtain⟨v',w',hrun,hown,hg,_,hat⟩:=run_append_own_at (P:=Tryz.prog) (w:=w.alloc (.cells (aG m enc x).toArray e)) base t t e i z m b ht hi hz hs hby hzs hm v xs.length _ (World.ownsRow.alloc hrow _)
  ⟨w.heap.size,0,none⟩ 1 1 (aG m enc x) hl
  (λj u hu=>by
   have hadd:(⟨w.heap.size,0,none⟩:Addr).add j=⟨w.heap.size,j,none⟩:=by unfold Addr.add;split<;>simp_all
   rw[hadd,cell_of_row _ _ j _ e (0,0) (dx w _)];simpa using hu)
  (λu hu=>by simp[aG]at hu;obtain⟨j,_,rfl⟩:=hu;exact h1 j) (by simp only[maxLen];omega)
  (by have:(xs.length+1)*b<=4194304*64:=Nat.mul_le_mul hn hbb;omega) (by have:=hx.size;simp;omega)
 have hrow':Row e m enc base w' v' (xs++[x]):=by unfold Row;rw[kI,bN];simpa using hown
 have h2:=hx.alloc (.cells (aG m enc x).toArray e);refine⟨v',w',hrun,hrow',λu hu hl=>Ext.grown ((hu.trans hx).alloc _) hg (λk hk=>aR hl (hrow.block k hk)),λk hk hv=>?_,?_⟩
 ·exact(hg.block k (dJ hk h2.size) (λe=>hv e.symm)).trans (Below.block h2 k hk)
 ·rcases hat with h|h
  ·exact .inl h
  ·exact .inr ⟨_,h,h2.size⟩
theorem Row.MO{α:Type}{e:TypeId}{m:Nat}{enc:α->Nat->Value}{base:Nat}{w:World}{v:Value}{xs:List α}(h:Row e m enc base w v xs){g:Nat}{es:Array MapEntry}{sP:Nat}(hg:w.heap[g]? =some (.map es sP)):v.ownBlock≠some g:=by
 intro e;rcases h.2 with ⟨rfl,_⟩|⟨g',cap,cur,rfl,hb,hg',_⟩
 ·simp[Value.ownBlock]at e
 ·simp[Value.ownBlock]at e;subst e;rw[hg]at hg';cases hg'
theorem iJ.pushed{K:Type}[DecidableEq K]{fC:K->Value}{mm:K->Option Value}{g:Nat}{α:Type}{e:TypeId}{m:Nat}{enc:α->Nat->Value}{base:Nat}{w0 w':World}{v v':Value}{xs ys:List α}(h:iJ w0 g fC mm)(H:Row e m enc base w0 v ys)(hp:lF e m enc base w0 w' v v' xs):iJ w' g fC mm:=by have hlt:=h.lt;obtain⟨es,sP,l,hg,h2⟩:=h;exact⟨es,sP,l,(hp.2.2.1 g hlt (H.MO hg)).trans hg,h2⟩
theorem lF.cell{α:Type}{e:TypeId}{m:Nat}{enc:α->Nat->Value}{base:Nat}{w0 w':World}{v v':Value}{xs:List α}(hp:lF e m enc base w0 w' v v' xs){p:Addr}{u:Value}(hv:v.ownBlock≠some p.block)(hc:w0.cell? p=some u):w'.cell? p=some u:=by
 have hb:p.block<w0.heap.size:=by
  rcases eX p.block w0.heap.size with h'|h'
  ·exact h'
  ·simp[World.cell?,oJ h']at hc
 rw[<-hc];simp only[World.cell?,hp.2.2.1 p.block hb hv]
theorem Row.new{α:Type}{e:TypeId}{m:Nat}{enc:α->Nat->Value}{base:Nat}{w:World}{v:Value}{xs:List α}(h:Row e m enc base w v xs){k:Nat}(hk:w.heap.size<=k):v.ownBlock≠some k:=λe=>by
 have:=(World.ownsRow.lt h k e).2
 omega
theorem Row.aK{K:Type}[DecidableEq K]{fC:K->Value}{mm:K->Option Value}{g:Nat}{α:Type}{e:TypeId}{m:Nat}{enc:α->Nat->Value}{base:Nat}{w:World}{v:Value}{xs:List α}(h:Row e m enc base w v xs)(hm:iJ w g fC mm)(o:Obj):Row e m enc base (aK w g o) v xs:=by obtain⟨es,sP,l,hg,_⟩:=hm;refine World.ownsRow.kept (row:=some g) h ⟨rfl,rfl,rfl,by simp[Proofs.YtcdopfdgknglfaaGreatDoor.aK],λk _ hk=>by simp only[Proofs.YtcdopfdgknglfaaGreatDoor.aK,Array.getElem?_setIfInBounds];rw[ak (λe=>hk (by rw[e]))]⟩ (.inr (h.MO hg))
theorem IQ{base:Nat}{w0 w:World}(q:Nat)(hq:w.heap.size=q){v:Value}{xs:List aJ}(H:Row 67 3 encOpr base w0 v xs)(hx:Ext w0 w)(o:aJ)(hb:base<=w0.heap.size)(hn:xs.length+1<=4194304) :
 ∃v' w',(Builtin.append_ #[46,46] 46 #[v,.slice (some ⟨q,0,none⟩) 1 1]).run Tryz.prog (w.alloc (.cells #[.int .i64 o.kind,.int .i64 o.key,.int .i64 o.value] 67))=.ok v' w' /\
  lF 67 3 encOpr base w0 w' v v' (xs++[o]):=
 jQ q hq Tryz.underlying46 lq rfl (by omega) H hx o (λj=>yc o j) _ rfl hb hn (by omega)
def Wq(w:World)(xs:List aJ)(e:Ending)(w':World):Prop:=∃v,e=.returned v/\Row 67 3 encOpr w.heap.size w' v xs/\Ext w w'
theorem Ae{P:Program}{w:World}{ops:Array Oper}{rest:List Oper}{o:Oper}{a:Act}{Q:Exit->Act->World->Prop}{m:Operand}{T K E:TypeId}{g:Nat}{es:Array MapEntry}{sP:Nat}(hgd:o.guard=none)
 (ho:o.op=.call { callee:=.builtin .len,args:=#[m],argTypes:=#[T] }) (hT:P.underlying T=some (.map K E)) (hm:a.eval m=.map (some g)) (hs:w.heap[g]? =some (.map es sP))
 (h:wpList P ops Q rest (a.put o.dst (.int .i64 (es.size:Int))) w):wpList P ops Q (o :: rest) a w:=
 wpList_plain hgd λK hK=>by
  have EP:(getObj g).run P w=.ok (.map es sP) w:=by simp[getObj,Sem.run,hs]
  unfold Oper.wp execOp;simp only[ho,resolve,invoke,builtin,Builtin.len_,Sem.run_bind,Sem.run_pure,Result.andThen_ok,List.map_toArray,iF,nH,hm];simp only[run_underlying hT,Result.andThen_ok,EP,Sem.run_bind,Sem.run_pure,List.getElem?_toArray,List.getElem?_cons_zero];exact hK _ _ h
def xS(ops:List aJ)(key:Int):Option Value:=(dm ops key).map fZ
theorem J9(ops:List aJ)(o:aJ)(hw:jl o=true)(key:Int):(if key=o.key then some (fZ o) else xS ops key)=xS (ops++[o]) key:=by
 unfold xS;rw[tV];by_cases h:key=o.key
 ·rw[ah h,ah ⟨hw,h.symm⟩];rfl
 ·rw[ak h,ak (λe=>h e.2.symm)]
theorem Lu(ops:List aJ)(o:aJ)(hw:jl o=false)(key:Int):xS ops key=xS (ops++[o]) key:=by unfold xS;rw[tV,ak (by simp[hw])]
theorem Ot(W:World):(zeroValue 67).run Tryz.prog W=.ok (.agg #[.int .i64 0,.int .i64 0,.int .i64 0]) W:=by kernel_rfl
theorem iY(s:Int)(d:Bool){ov:Value}{ops:List aJ}(w:World)(h:aI 3 encOpr w ov ops)(hlen:ops.length<=2097152) :
 Calls Tryz.prog 148 #[.agg #[.int .i64 s,ov,.bool d]] w (Wq w (aV ops)):=by
 obtain⟨A0,c0,rfl,_⟩:=id h;have HS:=aa h;have hmk:=@run_makeMap Tryz.prog;clear h;go_enter Tryz.func148,Tryz.ntmps148;go_wp2;clear hmk;go_loopw [14] (λi wr=>Ext w wr/\∃k:Nat,k<=ops.length/\i=.int .i64 k/\Hid (iJ wr (w.heap.size+1) (Value.int .i64) (xS (ops.take k))/\DZ wr (w.heap.size+1) k)) (λi _=>ops.length-(intOf i).toNat)
 case atStart=>
  have hG:=iJ.made (w.alloc (.cells #[.int .i64 s,.slice A0 ops.length c0,.bool d] 48)) (Value.int .i64);have hS:=DZ.made (w.alloc (.cells #[.int .i64 s,.slice A0 ops.length c0,.bool d] 48));rw[show (w.alloc (.cells #[.int .i64 s,.slice A0 ops.length c0,.bool d] 48)).heap.size=w.heap.size+1 by simp]at hG hS;exact⟨((af _).alloc _).alloc _,0,bR _,rfl,hG,hS⟩
 case round=>
  obtain⟨hb,k,hk,rfl,HI⟩:=hrel;by_cases hlt:k<ops.length
  ·obtain⟨A2,c2,hA2,hcc⟩:=HS.out.ext hb;injection hA2 with e1 e2 e3;subst e1 e3;obtain⟨b,off,rfl,hbl,hcc⟩:=hcc (by omega);obtain⟨o,ho⟩:=au hlt;have d0:wr.cell? ⟨b,off+k*3,none⟩=some (.int .i64 o.kind):=hcc k o ho 0 (by omega);have d1:wr.cell? ⟨b,off+k*3+1,none⟩=some (.int .i64 o.key):=hcc k o ho 1 (by omega);have d2:wr.cell? ⟨b,off+k*3+2,none⟩=some (.int .i64 o.value):=hcc k o ho 2 (by omega);have Ho:=aa ho;have hE:Hid (Ext wr ((wr.alloc (.cells #[.int .i64 o.kind,.int .i64 o.key,.int .i64 o.value] 67)).alloc (.cells #[.int .i64 o.kind,.int .i64 o.key,.int .i64 o.value] 67))):=((af _).alloc _).alloc _;have hg1:w.heap.size<=w.heap.size+1:=by omega
   clear hcc ho e2
   cases hw:(o.kind==2) with
   | false=>
     go_wp2_with (go_at_call 87;refine(dD _ _ _ _).mono ?_;rw[hw];rintro e w' ⟨rfl,rfl⟩)
     go_roundw;case rel=>exact⟨hb.trans hE.out,k+1,by omega,by go_num,by
      rw[aj Ho.out];exact⟨(HI.out.1.ext hE.out).congr (Lu _ _ hw),let ⟨es,sP,h1,h2⟩:=HI.out.2.ext hE.out;⟨es,sP,h1,by omega⟩⟩⟩
     case measure=>simp[intOf];omega
   | true=>
     obtain⟨ob,hu,hG,hS⟩:=dP Tryz.underlying196 (jG Tryz.underlying3) (HI.out.1.ext hE.out) o.key (fZ o);have HG:=aa hG;have HSz:=aa (hS k (HI.out.2.ext hE.out));unfold fZ at hu;clear hG hS;go_wp2_with (go_at_call 87;refine(dD _ _ _ _).mono ?_;rw[hw];rintro e w' ⟨rfl,rfl⟩)
     go_roundw;case rel=>exact⟨(hb.trans hE.out).aK hg1 _,k+1,by omega,by go_num,by
      rw[aj Ho.out];exact⟨HG.out.congr (J9 _ _ hw),HSz.out⟩⟩
     case measure=>simp[intOf];omega
  ·obtain rfl:k=ops.length:=by omega
   obtain⟨es,sP,hes,hsz⟩:=HI.out.2;have J8:=aa hes;have hT:=HI.out.1;rw[bY]at hT;have HT:=aa hT;obtain⟨q,hq⟩:∃q,es.size=q:=⟨_,rfl⟩;have HQ:=aa hq;have BH:q<=2097152:=by omega
   have hmk:=fM (P:=Tryz.prog) 46 67 Tryz.underlying46 lq q (by omega) (by omega);clear hes hsz hT hq HI;go_wp2_with (at_len;refine Ae rfl rfl Tryz.underlying196 rfl J8.out ?_;rw[HQ.out])
   clear hmk;have hbw:w.heap.size<=wr.heap.size:=hb.size;have HT0:=aa (HT.out.ext ((af _).alloc (.cells (madeCells (Value.agg #[Value.int .i64 0,Value.int .i64 0,Value.int .i64 0]).cells (q*3)) 67)));have HB0:=aa (hb.alloc (.cells (madeCells (Value.agg #[Value.int .i64 0,Value.int .i64 0,Value.int .i64 0]).cells (q*3)) 67));have CP:Hid (Row 67 3 encOpr w.heap.size (wr.alloc (.cells (madeCells (Value.agg #[Value.int .i64 0,Value.int .i64 0,Value.int .i64 0]).cells (q*3)) 67)) (.slice (some ⟨wr.heap.size,0,none⟩) 0 q) ([]:List aJ)):=
    (iX _ q (by unfold maxLen;omega) (size_madeCells _ _)).low hbw
   clear HT J8 HQ hbw;go_loopw [6,28] (λo i wr=>Ext w wr/\∃k:Nat,k<=3/\i=.int .i64 k/\Hid (iJ wr (w.heap.size+1) (Value.int .i64) (xS ops)/\Row 67 3 encOpr w.heap.size wr o (uC ops k))) (λ_ i _=>3-(intOf i).toNat)
   case atStart=>exact⟨HB0.out,0,by omega,rfl,HT0.out,CP.out⟩
   case round=>
    obtain⟨hb2,k,hk,rfl,HI⟩:=hrel;have hkl:=nD ops k;have hbw:w.heap.size<=wr.heap.size:=hb2.size;by_cases hlt:k<3
    ·have hl1:=kg Tryz.underlying196 (jG Tryz.underlying3) Ot HI.out.1 (k:Int);have hnx:=aa (EF ops k)
     cases Cn:dm ops (k:Int) with
     | none=>
       have hX:xS ops (k:Int)=none:=by unfold xS;rw[Cn];rfl
       rw[hX]at hl1;have R6:=aa Cn;clear hX Cn;go_wp2;go_roundw;case rel=>exact⟨hb2.alloc _,k+1,by omega,by go_num,HI.out.1.ext ((af _).alloc _),by rw[hnx.out,R6.out];simpa using HI.out.2.ext ((af _).alloc _)⟩
       case measure=>simp[intOf];omega
     | some o=>
       have hX:xS ops (k:Int)=some (.agg #[.int .i64 o.kind,.int .i64 o.key,.int .i64 o.value]):=by unfold xS;rw[Cn];rfl
       rw[hX]at hl1;have R6:=aa Cn;obtain⟨v',w2,hrun,hP⟩:=IQ (w:=wr.alloc (.cells #[.int .i64 o.kind,.int .i64 o.key,.int .i64 o.value] 67)) (wr.heap.size+1) (by simp) HI.out.2 ((af _).alloc _) o hbw (by omega);have cz:=aa hrun;have HB2:=aa hP.1;have HE2:=aa (hP.2.1 w hb2 (ay _));have Sb:=aa (HI.out.1.pushed HI.out.2 hP);clear hX Cn hrun hP;go_wp2_with (at_builtin;refine wpList_append_run rfl rfl rfl rfl cz.out ?_)
       go_roundw;case rel=>exact⟨HE2.out,k+1,by omega,by go_num,Sb.out,by rw[hnx.out,R6.out];exact HB2.out⟩
       case measure=>simp[intOf];omega
    ·obtain rfl:k=3:=by omega
     obtain⟨A',c',rfl,_⟩:=HI.out.2.cell.1;go_wp2;go_returns;exact⟨_,rfl,by rw[<-kR];exact HI.out.2,hb2⟩
def vP(f:Int->Value)(ops:List aJ)(key:Int):Option Value:=(before ops key).map f
theorem lK(f:Int->Value)(ops:List aJ)(o:aJ)(key:Int):(if key=o.key then some (f o.value) else vP f ops key)=vP f (ops++[o]) key:=by
 unfold vP;rw[wZ]
 split<;>rfl
theorem Cs(W:World):(zeroValue 4).run Tryz.prog W=.ok (.bool false) W:=by kernel_rfl
def vk(o x:aJ):Bool:=decide (o.kind=x.kind/\o.key=x.key/\o.value=x.value)
theorem Ct{o x:aJ}:vk o x=true↔x=o:=by unfold vk;rw[eG];exact⟨λh=>(aJ.ext' h.1 h.2.1 h.2.2).symm,λh=>by subst h;exact⟨rfl,rfl,rfl⟩⟩
theorem EC{v:Value}{xs:List aJ}(o:aJ)(w:World)(h:aI 3 encOpr w v xs)(hlen:xs.length<=2097152) :
 Calls Tryz.prog 302 #[v,fZ o] w λe w'=>e=.returned (.int .i64 (findAt (vk o) xs 0))/\Ext w w':=by
 obtain⟨A,c,rfl,hc0⟩:=h;have HC:=aa hc0;have hg:=Fz;clear hc0;show Calls Tryz.prog 302 #[.slice A xs.length c,.agg #[.int .i64 o.kind,.int .i64 o.key,.int .i64 o.value]] w _;go_enter Tryz.func302,Tryz.ntmps302;go_wp2;go_loopw [8] (λi wr=>Ext (w.alloc (.cells #[.int .i64 o.kind,.int .i64 o.key,.int .i64 o.value] 67)) wr/\∃k:Nat,k<=xs.length/\i=.int .i64 k/\Hid (findAt (vk o) xs 0=findAt (vk o) (xs.drop k) k)) (λi _=>xs.length-(intOf i).toNat)
 case atStart=>exact⟨af _,0,bR _,rfl,rfl⟩
 case round=>
  obtain⟨hb,k,hk,rfl,HI⟩:=hrel;have hbb:=((af w).alloc _).trans hb;by_cases hlt:k<xs.length
  ·obtain⟨b,off,rfl,hbl,hc⟩:=HC.out (by omega);obtain⟨x,hx⟩:=au hlt;have E0:∀e,(over wr e).cell? ⟨w.heap.size,0,none⟩=some (.int .i64 o.kind):=fI (hb.cell (az rfl));have E1:∀e,(over wr e).cell? ⟨w.heap.size,1,none⟩=some (.int .i64 o.key):=fI (hb.cell (az rfl));have E2:∀e,(over wr e).cell? ⟨w.heap.size,2,none⟩=some (.int .i64 o.value):=fI (hb.cell (az rfl));have d0:∀e,(over wr e).cell? ⟨b,off+k*3,none⟩=some (.int .i64 x.kind):=fI (hbb.cell (hc k x hx 0 (by omega)));have d1:∀e,(over wr e).cell? ⟨b,off+k*3+1,none⟩=some (.int .i64 x.key):=fI (hbb.cell (hc k x hx 1 (by omega)));have d2:∀e,(over wr e).cell? ⟨b,off+k*3+2,none⟩=some (.int .i64 x.value):=fI (hbb.cell (hc k x hx 2 (by omega)));have he:=λW=>tQ o.kind o.key o.value x.kind x.key x.value W;have hE:Hid (∀r,vk o x=r->decide (o.kind=x.kind/\o.key=x.key/\o.value=x.value)=r):=λr hr=>hr;have Hx:=aa hx;clear hx hc
   cases hp:vk o x with
   | true=>
     rw[hE.out _ hp]at he;have hr:=aa (HI.out.trans (lu Hx.out hp));clear hp;go_wp2;refine fP (by kernel_rfl) (by kernel_rfl) ?_;repeat (go_big_quiet_step (fail))
     refine tC ?_;intro w1 hb1;go_wp2;go_returns;exact⟨dH hr.out.symm,hbb.trans hb1⟩
   | false=>
     rw[hE.out _ hp]at he;have hr:=aa (HI.out.trans (kr Hx.out hp));clear hp;go_wp2;refine fP (by kernel_rfl) (by kernel_rfl) ?_;repeat (go_big_quiet_step (fail))
     refine tC ?_;intro w1 hb1;go_wp2;go_roundw;case rel=>exact⟨hb.trans hb1,k+1,by omega,by go_num,hr⟩
     case measure=>simp[intOf];omega
  ·obtain rfl:k=xs.length:=by omega
   go_wp2;go_returns;exact⟨dH (by rw[HI.out];simp[findAt]),hbb⟩
theorem zU{v:Value}{xs:List aJ}(o:aJ)(w:World)(h:aI 3 encOpr w v xs)(hlen:xs.length<=2097152) :
 Calls Tryz.prog 299 #[v,fZ o] w λe w'=>e=.returned (.bool (xs.any (vk o)))/\Ext w w':=by
 have H:=aa h;clear h;show Calls Tryz.prog 299 #[v,.agg #[.int .i64 o.kind,.int .i64 o.key,.int .i64 o.value]] w _;go_enter Tryz.func299,Tryz.ntmps299;go_wp2_with fail
 refine(EC o _ (H.out.ext ((af _).alloc _)) hlen).mono ?_
 rintro e w1 ⟨rfl,b1⟩;go_wp2;go_returns;exact⟨aU (lD),((af _).alloc _).trans b1⟩
theorem bD{h:List aF}(hok:aH h=true):∀t∈h,t.ops.length<=2097152:=λt ht=>by have:=eY (dW hok ht);omega
theorem oG{v:Value}{h:List aF}(key value:Int)(w:World)(H:lV w v h)(hok:aH h=true) :
 Calls Tryz.prog 204 #[v,.int .i64 key,.int .i64 value] w λe w'=>e=.returned (.int .i64 (aQ h key value))/\Ext w w':=by
 have hM:=bD hok;have hlen:h.length<=2097152:=by have:=aT hok;omega
 have hnt:jT h=true:=by simp only[aH,bK]at hok;exact hok.2
 obtain⟨A,c,rfl⟩:=H.slice;have HH:=aa H;have HM:=aa hM;have HN:=aa hnt;have jh:=aa hok;clear H hM hnt hok;go_enter Tryz.func204,Tryz.ntmps204;go_wp2_with fail
 refine(aZ _ HH.out hlen HM.out).mono ?_
 rw[jh.out];rintro e w1 ⟨rfl,b1⟩;go_wp2_with fail
 refine(uH _ (HH.out.ext b1) hlen HM.out).mono ?_
 rintro e w2 ⟨b2,⟨hn,g,rfl,hG⟩|⟨hn,rfl⟩⟩
 ·have hl1:=kg Tryz.underlying71 rq zD hG (key,value);unfold nV at hl1
  cases hlk:lookW (Bo h) (key,value) with
  | none=>
    have hX:ug (Bo h) (key,value)=none:=by unfold ug;rw[hlk];rfl
    have hR:=aa (show aQ h key value=-1 by unfold aQ;rw[hlk];rfl);rw[hX]at hl1;clear hX hlk hn hG;go_wp2;go_returns;exact⟨dH hR.out.symm,b1.trans b2⟩
  | some n=>
    have hX:ug (Bo h) (key,value)=some (.int .i64 (n:Int)):=by unfold ug;rw[hlk];rfl
    have hR:=aa (show aQ h key value=n by unfold aQ;rw[hlk];rfl);rw[hX]at hl1;clear hX hlk hn hG;go_wp2;go_returns;exact⟨dH hR.out.symm,b1.trans b2⟩
 ·exfalso;rw[HN.out]at hn;cases hn
theorem DC{h:List aF}{key value:Int}{n:Nat}{t:aF}(hw:aQ h key value=n)(ht:h[n]? =some t)(hk:0<=key/\key<=2):kM h key value=(aV t.ops).any (vk ⟨2,key,value⟩):=by
 unfold kM;rw[hw,oN,show decide ((0:Int)<=(n:Int))=true by simp,Bool.true_and];have ho:opsOf h n=t.ops:=by simp[opsOf,ht]
 rw[ho,lH,gN];constructor
 ·intro hx
  cases hl:dm t.ops key with
  | none=>rw[hl]at hx;simp at hx
  | some o=>
    rw[hl]at hx;simp at hx;have h3:=iM hl;refine⟨o,gY.2 ⟨by rw[h3.2.2];omega,by rw[h3.2.2];exact hl⟩,?_⟩;rw[Ct];have hk2:o.kind=2:=by simpa[jl] using h3.2.1
    exact aJ.ext' hk2 h3.2.2 hx
 ·rintro⟨o,hm,he⟩;rw[Ct]at he;subst he
  have:=(gY.1 hm).2
  simp only at this;rw[this];simp
theorem zz{v:Value}{h:List aF}(key value:Int)(w:World)(H:lV w v h)(hok:aH h=true)(hk:0<=key/\key<=2) :
 Calls Tryz.prog 288 #[v,.int .i64 key,.int .i64 value] w λe w'=>e=.returned (.bool (kM h key value))/\Ext w w':=by
 have hwr:=eU (h:=h) key value;obtain⟨A,c,rfl⟩:=H.slice;have HH:=aa H;have jh:=aa hok;have HK:=aa hk;clear H hk;have hM:=bD hok;obtain⟨z,hz⟩:∃z,aQ h key value=z:=⟨_,rfl⟩;have hW:=λw' (H:lV w' (.slice A h.length c) h)=>oG key value w' H hok;rw[hz]at hwr hW;have HW:=aa hW;have HZ:=aa hz;have HM:=aa hM;clear hz hW hok hM;by_cases hneg:z<0
 ·have hR:=aa (show kM h key value=false by unfold kM;rw[HZ.out,show decide (0<=z)=false by simp;omega];rfl);go_enter Tryz.func288,Tryz.ntmps288;go_wp2_with fail
  refine(HW.out _ HH.out).mono ?_
  rintro e w1 ⟨rfl,b1⟩;go_wp2;go_returns;exact⟨aU hR.out.symm,b1⟩
 ·obtain⟨n,rfl⟩:=iH (show 0<=z by omega);have hn:n<h.length:=by omega
  obtain⟨t,ht⟩:=au hn;have hR:=aa (DC HZ.out ht HK.out);have hl:=HM.out t (aN ht);obtain⟨b,off,rfl,hbl,hc⟩:=HH.out.head (by omega);obtain⟨ov,c0,c1,c2,hs⟩:=hc n t ht;have HS:=aa hs;have Cn:(aV t.ops).length<=3:=by rw[<-kR];exact nD _ _
  clear hc ht hs;go_enter Tryz.func288,Tryz.ntmps288;go_wp2_with fail
  refine(HW.out _ HH.out).mono ?_
  rintro e w1 ⟨rfl,b1⟩;replace c0:=b1.cell c0;replace c1:=b1.cell c1;replace c2:=b1.cell c2;go_wp2_with fail
  refine(iY t.aD t.done _ (HS.out.ext b1) hl).mono ?_
  rintro e w2 ⟨v2,rfl,r2,b2⟩;have R2:=aa r2;clear r2;go_wp2_with fail
  refine(zU ⟨2,key,value⟩ _ R2.out.cell.1 (by omega)).mono ?_
  rw[<-hR.out];rintro e w3 ⟨rfl,b3⟩;go_wp2;go_returns;exact⟨rfl,(b1.trans b2).trans b3⟩
theorem BG{h:List aF}{n:Nat}{o:aJ}(hx:mh o=false∨o.value=0∨aQ h o.key o.value=n):gp h n o=0:=by unfold gp;rw[ah hx]
theorem De{v:Value}{h:List aF}(n:Nat)(o:aJ)(w:World)(H:lV w v h)(hok:aH h=true)(ho:jm o=true) :
 Calls Tryz.prog 264 #[v,.int .i64 (n:Int),fZ o] w λe w'=>e=.returned (.int .i64 (gp h n o))/\Ext w w':=by
 have hwr:=eU (h:=h) o.key o.value;have hkey:=jr ho;obtain⟨A,c,rfl⟩:=H.slice;have HH:=aa H;have hlen:=aT hok;clear H ho;obtain⟨z,hz⟩:∃z,aQ h o.key o.value=z:=⟨_,rfl⟩;have hW:=λw' (H:lV w' (.slice A h.length c) h)=>oG o.key o.value w' H hok;have hL:=λw' (H:lV w' (.slice A h.length c) h)=>zz o.key o.value w' H hok hkey;rw[hz]at hwr hW;have HW:=aa hW;have HL:=aa hL;have hb0:=λhx=>BG (h:=h) (n:=n) (o:=o) hx;have hb1:Hid (mh o=true->o.value≠0->z≠n->gp h n o=if z<0 then 1 else if eH h z.toNat=false then 2 else if kM h o.key o.value=false then 3 else 0):=λh1 h2 h3=>by unfold gp;rw[hz,ak (by simp[h1,h2,h3])]
 rw[hz]at hb0;have HB0:=aa hb0;clear hz hW hL hok hb0;show Calls Tryz.prog 264 #[.slice A h.length c,.int .i64 (n:Int),.agg #[.int .i64 o.kind,.int .i64 o.key,.int .i64 o.value]] w _;have go1:∀r,gp h n o=r->((o.kind==1)=false∨(o.value==0)=true∨(z==(n:Int))=true)->r=0 ->
  Calls Tryz.prog 264 #[.slice A h.length c,.int .i64 (n:Int),.agg #[.int .i64 o.kind,.int .i64 o.key,.int .i64 o.value]] w λe w'=>e=.returned (.int .i64 r)/\Ext w w':=by
  intro r hr hx hr0;subst hr0;clear hr;have hE:Hid (Ext w (w.alloc (.cells #[.int .i64 o.kind,.int .i64 o.key,.int .i64 o.value] 67))):=(af _).alloc _
  cases h1:(o.kind==1)<;>cases h2:(o.value==0)<;>cases h3:(z==(n:Int))<;>first
   | (exfalso;simp[h1,h2,h3]at hx;done)
   | (clear hx
      go_enter Tryz.func264,Tryz.ntmps264;go_wp2_with fail
      refine(HW.out _ (HH.out.ext hE.out)).mono ?_
      rintro e w1 ⟨rfl,b1⟩;have x0:w1.cell? ⟨w.heap.size,0,none⟩=some (.int .i64 o.kind):=b1.cell (az rfl);have x1:w1.cell? ⟨w.heap.size,1,none⟩=some (.int .i64 o.key):=b1.cell (az rfl);have x2:w1.cell? ⟨w.heap.size,2,none⟩=some (.int .i64 o.value):=b1.cell (az rfl);have hz:w.heap.size<w1.heap.size:=by have:=b1.size;simp at this;omega
      have En:=aa (hE.out.trans b1);clear b1;go_wp2_with (go_at_call 118;refine(dL _ _ _ _).mono ?_;rw[h1];rintro e w' ⟨rfl,rfl⟩)
      go_returns;exact⟨rfl,En.out.alloc _⟩)
 by_cases h1:mh o=true;case neg=>exact go1 _ rfl (.inl (by simpa[mh] using h1)) (HB0.out (.inl (by simpa using h1)))
 by_cases h2:o.value=0
 ·exact go1 _ rfl (.inr (.inl (by simp[h2]))) (HB0.out (.inr (.inl h2)))
 by_cases h3:z=n
 ·exact go1 _ rfl (.inr (.inr (by simp[h3]))) (HB0.out (.inr (.inr h3)))
 have hr:=aa (hb1.out h1 h2 h3);have h1':(o.kind==1)=true:=h1;have h2':(o.value==0)=false:=by simpa using h2
 have h3':(z==(n:Int))=false:=by simpa using h3
 have hE:Hid (Ext w (w.alloc (.cells #[.int .i64 o.kind,.int .i64 o.key,.int .i64 o.value] 67))):=(af _).alloc _;clear go1 h1 h2 h3 hb1 HB0;by_cases hneg:z<0
 ·go_enter Tryz.func264,Tryz.ntmps264;go_wp2_with fail
  refine(HW.out _ (HH.out.ext hE.out)).mono ?_
  rintro e w1 ⟨rfl,b1⟩;have x0:w1.cell? ⟨w.heap.size,0,none⟩=some (.int .i64 o.kind):=b1.cell (az rfl);have x1:w1.cell? ⟨w.heap.size,1,none⟩=some (.int .i64 o.key):=b1.cell (az rfl);have x2:w1.cell? ⟨w.heap.size,2,none⟩=some (.int .i64 o.value):=b1.cell (az rfl);have hz:w.heap.size<w1.heap.size:=by have:=b1.size;simp at this;omega
  have En:=aa (hE.out.trans b1);clear b1;go_wp2_with (go_at_call 118;refine(dL _ _ _ _).mono ?_;rw[h1'];rintro e w' ⟨rfl,rfl⟩)
  go_returns;exact⟨dH (by rw[hr.out,ah hneg]),En.out.alloc _⟩
 ·obtain⟨m,rfl⟩:=iH (show 0<=z by omega);have hm:m<h.length:=by omega
  obtain⟨t,ht⟩:=au hm;have hdo:Hid (eH h m=t.done):=by show _ = _;simp[eH,ht]
  obtain⟨b,off,rfl,hbl,hc⟩:=HH.out.head (by omega);obtain⟨ov,c0,c1,c2,hs⟩:=hc m t ht;clear hc ht hs c0 c1
  cases hd:t.done with
  | false=>
    rw[hd]at c2;go_enter Tryz.func264,Tryz.ntmps264;go_wp2_with fail
    refine(HW.out _ (HH.out.ext hE.out)).mono ?_
    rintro e w1 ⟨rfl,b1⟩;have x0:w1.cell? ⟨w.heap.size,0,none⟩=some (.int .i64 o.kind):=b1.cell (az rfl);have x1:w1.cell? ⟨w.heap.size,1,none⟩=some (.int .i64 o.key):=b1.cell (az rfl);have x2:w1.cell? ⟨w.heap.size,2,none⟩=some (.int .i64 o.value):=b1.cell (az rfl);have hz:w.heap.size<w1.heap.size:=by have:=b1.size;simp at this;omega
    have En:=aa (hE.out.trans b1);replace c2:=En.out.cell c2;have hbw:b<w1.heap.size:=dJ hbl En.out.size;clear b1;go_wp2_with (go_at_call 118;refine(dL _ _ _ _).mono ?_;rw[h1'];rintro e w' ⟨rfl,rfl⟩)
    go_returns;exact⟨dH (by rw[hr.out,ak (by omega),oN,hdo.out,ah hd]),En.out.alloc _⟩
  | true=>
    rw[hd]at c2;have hr2:Hid (∀r,kM h o.key o.value=r->gp h n o=if r=false then 3 else 0):=λr e=>by subst e;rw[hr.out,ak (by omega),oN,hdo.out,ak (by simp[hd])]
    cases hlv:kM h o.key o.value<;>(
     go_enter Tryz.func264,Tryz.ntmps264;go_wp2_with fail
     refine(HW.out _ (HH.out.ext hE.out)).mono ?_
     rintro e w1 ⟨rfl,b1⟩;have x0:w1.cell? ⟨w.heap.size,0,none⟩=some (.int .i64 o.kind):=b1.cell (az rfl);have x1:w1.cell? ⟨w.heap.size,1,none⟩=some (.int .i64 o.key):=b1.cell (az rfl);have x2:w1.cell? ⟨w.heap.size,2,none⟩=some (.int .i64 o.value):=b1.cell (az rfl);have hz:w.heap.size<w1.heap.size:=by have:=b1.size;simp at this;omega
     have En:=aa (hE.out.trans b1);replace c2:=En.out.cell c2;have hbw:b<w1.heap.size:=dJ hbl En.out.size;clear b1;go_wp2_with (go_at_call 118;refine(dL _ _ _ _).mono ?_;rw[h1'];rintro e w' ⟨rfl,rfl⟩)
     refine(HL.out _ (HH.out.ext (En.out.alloc _))).mono ?_
     rw[hlv];rintro e w2 ⟨rfl,b2⟩;go_wp2;go_returns;exact⟨dH (by rw[hr2.out _ hlv];rfl),(En.out.alloc _).trans b2⟩)
structure Pl where
 who:Int
 at_:Int
def encPl(x:Pl):Nat->Value
 | 0=>.int .i64 x.who
 | _=>.int .i64 x.at_
theorem AQ:(Tryz.prog.info? 231).map (λi=>(i.zero,i.size,i.bytes))=some (some (.agg #[.int .i64 0,.int .i64 0]),2,16):=by kernel_rfl
theorem MG(x:Pl)(j:Nat):(encPl x j).oneCell'=true:=by unfold encPl;split<;>rfl
theorem ME{base:Nat}{w0 w:World}(q:Nat)(hq:w.heap.size=q){v:Value}{xs:List Pl}(H:Row 231 2 encPl base w0 v xs)(hx:Ext w0 w)(o:Pl)(hb:base<=w0.heap.size)(hn:xs.length+1<=4194304) :
 ∃v' w',(Builtin.append_ #[207,207] 207 #[v,.slice (some ⟨q,0,none⟩) 1 1]).run Tryz.prog (w.alloc (.cells #[.int .i64 o.who,.int .i64 o.at_] 231))=.ok v' w' /\
  lF 231 2 encPl base w0 w' v v' (xs++[o]):=
 jQ q hq Tryz.underlying207 AQ rfl (by omega) H hx o (λj=>MG o j) _ rfl hb hn (by omega)
def pq(xs:List Pl)(b:Bool)(most:Nat):Prop:=decide (0<xs.length)=b/\xs.length<=most
theorem pq.push{xs:List Pl}{b:Bool}{most:Nat}(h:pq xs b most)(p:Pl):pq (xs++[p]) true (most+1):=⟨by simp,by have:=h.2;simp;omega⟩
theorem pq.or{xs:List Pl}{b:Bool}{most:Nat}(h:pq xs b most):pq xs (b || false) (most+1):=⟨by rw[Bool.or_false];exact h.1,by have:=h.2;omega⟩
theorem yP(who:Int)(s:Int)(d:Bool){ov:Value}{ops:List aJ}(w:World)(h:aI 3 encOpr w ov ops)(hlen:ops.length<=6) :
 Calls Tryz.prog 263 #[.int .i64 who,.agg #[.int .i64 s,ov,.bool d]] w λe w'=>∃v xs,e=.returned v/\Row 231 2 encPl w.heap.size w' v xs/\pq xs (yN ops) ops.length/\Ext w w':=by
 obtain⟨A0,c0,rfl,_⟩:=id h;have HS:=aa h;have hmk:=@run_makeMap Tryz.prog;clear h;go_enter Tryz.func263,Tryz.ntmps263;go_wp2;clear hmk;go_loopw [5,16] (λo i wr=>Ext w wr/\∃k:Nat,k<=ops.length/\i=.int .i64 k/\Hid (iJ wr (w.heap.size+2) (Value.int .i64) (vP (Value.int .i64) (ops.take k))/\∃xs,Row 231 2 encPl w.heap.size wr o xs/\pq xs (xm ops k) k)) (λ_ i _=>ops.length-(intOf i).toNat)
 case atStart=>
  refine⟨(((af _).alloc _).alloc _).alloc _,0,bR _,rfl,?_,[],?_,?_⟩
  ·have hG:=iJ.made ((w.alloc (.cells #[.int .i64 s,.slice A0 ops.length c0,.bool d] 48)).alloc (.cells #[] 231)) (Value.int .i64);rw[show ((w.alloc (.cells #[.int .i64 s,.slice A0 ops.length c0,.bool d] 48)).alloc (.cells #[] 231)).heap.size=w.heap.size+2 by simp]at hG;exact hG
  ·have hR:=nk (E:=231) (m:=2) (enc:=encPl) (w:=w.alloc (.cells #[.int .i64 s,.slice A0 ops.length c0,.bool d] 48));rw[show (w.alloc (.cells #[.int .i64 s,.slice A0 ops.length c0,.bool d] 48)).heap.size=w.heap.size+1 by simp]at hR
   exact(hR.low (by omega)).ext ((af _).alloc _)
  ·exact⟨rfl,ay _⟩
 case round=>
  obtain⟨hb,k,hk,rfl,HI⟩:=hrel;have hbw:w.heap.size<=wr.heap.size:=hb.size;obtain⟨hG0,xs,hR0,hS0⟩:=HI.out;have Sg:=aa hG0;have CP:=aa hR0;have MZ:=aa hS0;have hxl:=hS0.2;clear HI hG0 hR0 hS0;by_cases hlt:k<ops.length
  ·obtain⟨A2,c2,hA2,hcc⟩:=HS.out.ext hb;injection hA2 with e1 e2 e3;subst e1 e3;obtain⟨b,off,rfl,hbl,hcc⟩:=hcc (by omega);obtain⟨o,ho⟩:=au hlt;have d0:wr.cell? ⟨b,off+k*3,none⟩=some (.int .i64 o.kind):=hcc k o ho 0 (by omega);have d1:wr.cell? ⟨b,off+k*3+1,none⟩=some (.int .i64 o.key):=hcc k o ho 1 (by omega);have d2:wr.cell? ⟨b,off+k*3+2,none⟩=some (.int .i64 o.value):=hcc k o ho 2 (by omega);have Ho:=aa ho;have hg1:w.heap.size<=w.heap.size+2:=by omega
   have hE1:Hid (Ext wr (wr.alloc (.cells #[.int .i64 o.kind,.int .i64 o.key,.int .i64 o.value] 67))):=(af _).alloc _;have hE:Hid (Ext wr ((wr.alloc (.cells #[.int .i64 o.kind,.int .i64 o.key,.int .i64 o.value] 67)).alloc (.cells #[.int .i64 o.kind,.int .i64 o.key,.int .i64 o.value] 67))):=((af _).alloc _).alloc _;have hl1:=kg Tryz.underlying286 (jG Tryz.underlying3) zD (Sg.out.ext hE1.out) o.key;have hoa:Hid (∀r,before (ops.take k) o.key=r->Cr ops k=(mh o&&(match r with|some v=>v != o.value|none=>false))):=λr hr=>by subst hr;show _ = _;unfold Cr;rw[ho];rfl
   clear hcc ho e2;have skip:∀(r:Bool),Cr ops k=r->r=false->Hid (pq xs (xm ops (k+1)) (k+1)):=λr e1 e2=>by show pq _ _ _;rw[yK,e1,e2];exact MZ.out.or
   have SK:=aa skip;obtain⟨ob,hu,hG,-⟩:=dP Tryz.underlying286 (jG Tryz.underlying3) (Sg.out.ext hE.out) o.key (.int .i64 o.value);have HG:=aa hG;have HR2:Hid (Row 231 2 encPl w.heap.size (aK _ (w.heap.size+2) ob) u5 xs):=(CP.out.ext hE.out).aK (Sg.out.ext hE.out) ob;clear hG skip
   cases hbf:before (ops.take k) o.key with
   | none=>
     have hX:vP (Value.int .i64) (ops.take k) o.key=none:=by unfold vP;rw[hbf];rfl
     rw[hX]at hl1;have LK:=hoa.out _ hbf;have Tz:=SK.out _ LK (by simp);clear hX hbf LK hoa;cases hr:(o.kind==1)<;>(
      go_wp2_with (go_at_call 118;refine(dL _ _ _ _).mono ?_;rw[hr];rintro e w' ⟨rfl,rfl⟩)
      go_roundw;case rel=>exact⟨(hb.trans hE.out).aK hg1 _,k+1,by omega,by go_num,by
       rw[aj Ho.out];exact⟨HG.out.congr (lK _ _ _),xs,HR2.out,Tz.out⟩⟩
      case measure=>simp[intOf];omega)
   | some vb=>
     have hX:vP (Value.int .i64) (ops.take k) o.key=some (.int .i64 vb):=by unfold vP;rw[hbf];rfl
     rw[hX]at hl1;have LK:=aa (hoa.out _ hbf);clear hX hbf hoa
     cases hr:(o.kind==1) with
     | false=>
       have Tz:=SK.out _ LK.out (by simp[mh,hr]);go_wp2_with (go_at_call 118;refine(dL _ _ _ _).mono ?_;rw[hr];rintro e w' ⟨rfl,rfl⟩)
       go_roundw;case rel=>exact⟨(hb.trans hE.out).aK hg1 _,k+1,by omega,by go_num,by
        rw[aj Ho.out];exact⟨HG.out.congr (lK _ _ _),xs,HR2.out,Tz.out⟩⟩
       case measure=>simp[intOf];omega
     | true=>
       cases hne:(vb != o.value) with
       | false=>
         have Tz:=SK.out _ LK.out (by simp[mh,hr,hne]);go_wp2_with (go_at_call 118;refine(dL _ _ _ _).mono ?_;rw[hr];rintro e w' ⟨rfl,rfl⟩)
         go_roundw;case rel=>exact⟨(hb.trans hE.out).aK hg1 _,k+1,by omega,by go_num,by
          rw[aj Ho.out];exact⟨HG.out.congr (lK _ _ _),xs,HR2.out,Tz.out⟩⟩
         case measure=>simp[intOf];omega
       | true=>
         have hyes:Hid (xm ops (k+1)=true):=by show _ = _;rw[yK,LK.out];simp[mh,hr,hne]
         clear hu HG HR2 SK;have Qq:=CP.out.ext hE.out;obtain⟨v',w2,hrun,hP⟩:=ME (w:=((wr.alloc (.cells #[.int .i64 o.kind,.int .i64 o.key,.int .i64 o.value] 67)).alloc (.cells #[.int .i64 o.kind,.int .i64 o.key,.int .i64 o.value] 67))) (wr.heap.size+1+1) (by simp) Qq (af _) ⟨who,k⟩ (aR hbw hE.out.size) (by omega);have HE2:=aa (hP.2.1 w (hb.trans hE.out) (ay _));have hM2:=(Sg.out.ext hE.out).pushed Qq hP;obtain⟨ob,hu,hG,-⟩:=dP Tryz.underlying286 (jG Tryz.underlying3) hM2 o.key (.int .i64 o.value);have HG:=aa hG;have cz:=aa hrun;have hnew:=CP.out.new (ay wr.heap.size);have k0:w2.cell? ⟨wr.heap.size,0,none⟩=some (.int .i64 o.kind):=hP.cell hnew (((af _).alloc _).cell (az rfl));have k1:w2.cell? ⟨wr.heap.size,1,none⟩=some (.int .i64 o.key):=hP.cell hnew (((af _).alloc _).cell (az rfl));have k2:w2.cell? ⟨wr.heap.size,2,none⟩=some (.int .i64 o.value):=hP.cell hnew (((af _).alloc _).cell (az rfl));have HR2:Hid (Row 231 2 encPl w.heap.size (aK w2 (w.heap.size+2) ob) v' (xs++[⟨who,k⟩])):=hP.1.aK hM2 ob;clear hrun hP hG hM2 hnew Qq
         go_wp2_with (first
          | (go_at_call 118;refine(dL _ _ _ _).mono ?_;rw[hr];rintro e w' ⟨rfl,rfl⟩)
          | (at_builtin;refine wpList_append_run rfl rfl rfl rfl cz.out ?_))
         go_roundw;case rel=>exact⟨HE2.out.aK hg1 _,k+1,by omega,by go_num,by
          rw[aj Ho.out,hyes.out];exact⟨HG.out.congr (lK _ _ _),_,HR2.out,MZ.out.push _⟩⟩
         case measure=>simp[intOf];omega
  ·obtain rfl:k=ops.length:=by omega
   obtain⟨A',c',rfl,_⟩:=id CP.out.cell.1;go_wp2;go_returns;exact⟨_,xs,rfl,CP.out,MZ.out,hb⟩
theorem Row.same{α:Type}{e:TypeId}{m:Nat}{enc:α->Nat->Value}{base:Nat}{w w':World}{v:Value}{xs:List α}(h:Row e m enc base w v xs)(hk:∀k,v.ownBlock=some k->w'.heap[k]? =w.heap[k]?):Row e m enc base w' v xs:=
 ⟨h.1,h.2.imp id λ⟨g,cap,cur,a,b,hg,rest⟩=>⟨g,cap,cur,a,b,by rw[hk g (by rw[a];rfl)];exact hg,rest⟩⟩
theorem Row.pushed{α β:Type}{e e':TypeId}{m m':Nat}{enc:α->Nat->Value}{enc':β->Nat->Value}{base base':Nat}{w0 w':World}{v v' u:Value}{xs zs:List α}{ys:List β}(h:Row e' m' enc' base' w0 u ys)(H:Row e m enc base w0 v zs)(hne:e≠e')(hp:lF e m enc base w0 w' v v' xs):Row e' m' enc' base' w' u ys:=
 h.same λk hk=>hp.2.2.1 k (World.ownsRow.lt h k hk).2 (λe1=>by
  rcases JJ H h hne with h0|h0
  ·rw[h0]at hk;cases hk
  ·exact h0 (by rw[hk,e1]))
theorem xY{base:Nat}{w:World}{A:Option Addr}{n c:Nat}{xs:List Nat}(h:Row 3 1 (one jE) base w (.slice A n c) xs)(hn:0<xs.length):n=xs.length/\∃b off,A=some ⟨b,off,none⟩/\b<w.heap.size/\∀(k:Nat) m,xs[k]? =some m->w.cell? ⟨b,off+k,none⟩=some (.int .i64 (m:Int)):=by obtain⟨A',c',hA,hc⟩:=h.cell.1.Si;injection hA with e1 e2 e3;subst e1 e2;obtain⟨b,off,hb,hlt,hc⟩:=hc hn;exact⟨rfl,b,off,hb,hlt,λk m hm=>hc k m hm⟩
theorem xu(h:List aF)(f:Nat->Bool):(aB h).any f=(List.range h.length).any λn=>eH h n&&f n:=by unfold aB;rw[List.any_filter];rfl
theorem nE{h:List aF}{n:Nat}(hm:n∈aB h):n<h.length/\eH h n=true:=by unfold aB at hm;rw[lC]at hm;exact⟨by simpa using hm.1,hm.2⟩
theorem jA(h:List aF):(aB h).length<=h.length:=by
 have:=zM (λn=>(h[n]?.map (·.done)).getD false) (List.range h.length)
 simpa[aB] using this
def wW(h:List aF)(kind:Int)(m:Nat):Bool:=((aB h).take m).any (qZ h kind)
theorem G9{h:List aF}{kind:Int}{m n:Nat}(hm:(aB h)[m]? =some n):wW h kind (m+1)=(wW h kind m || qZ h kind n):=by unfold wW;rw[aj hm,List.any_append];simp
theorem KF(h:List aF)(kind:Int):wW h kind (aB h).length=gT h kind:=by unfold wW gT;rw[bY,xu]
theorem BD{v:Value}{h:List aF}(kind:Int)(w:World)(H:lV w v h)(hok:aH h=true)(hk:1<=kind/\kind<=4) :
 Calls Tryz.prog 242 #[v,.int .i64 kind] w λe w'=>∃A n c,e=.returned (.slice A n c)/\decide (0<n)=gT h kind/\n<=1000/\Ext w w':=by
 obtain⟨A,c,rfl⟩:=H.slice;have HH:=aa H;have jh:=aa hok;have hlen:=aT hok;have hkb:kV kind 1 4=true:=cK.2 hk;have hdl:=jA h;have hmk:∀W:World,(Instr.makeSlice 207 (.int .i64 0) (.int .i64 0)).run Tryz.prog W=.ok (.slice (some ⟨W.heap.size,0,none⟩) 0 0) (W.alloc (.cells (madeCells (Value.agg #[Value.int .i64 0,Value.int .i64 0]).cells (0*2)) 231)):=fM (P:=Tryz.prog) 207 231 Tryz.underlying207 AQ 0 (by omega) (by omega);clear H hok;go_enter Tryz.func242,Tryz.ntmps242;go_wp2_with fail
 refine(aZ _ HH.out (by omega) (bD jh.out)).mono ?_
 rw[jh.out];rintro e w1 ⟨rfl,b1⟩;go_wp2_with (go_at_call 106;refine(bQ _ _ _ _).mono ?_;rw[hkb];rintro e w' ⟨rfl,rfl⟩)
 have hE1:Hid (Ext w (w1.alloc (.cells (madeCells (Value.agg #[Value.int .i64 0,Value.int .i64 0]).cells (0*2)) 231))):=b1.alloc _
 refine(pg _ (HH.out.ext hE1.out) (by omega)).mono ?_
 rintro e w2 ⟨vd,rfl,rd,b2⟩;have RD:=aa rd;obtain⟨Ad,cd,rfl,_⟩:=id rd.cell.1;have HB2:=aa (hE1.out.trans b2);have hR:Row 231 2 encPl w1.heap.size (w1.alloc (.cells (madeCells (Value.agg #[Value.int .i64 0,Value.int .i64 0]).cells (0*2)) 231)) (.slice (some ⟨w1.heap.size,0,none⟩) 0 0) ([]:List Pl):=iX _ 0 (by unfold maxLen;omega) (size_madeCells _ _);have HR:=aa ((hR.low b1.size).ext b2);clear hR rd b1 b2 hmk;go_wp2;go_loopw [5,22] (λo i wr=>Ext w wr/\∃m:Nat,m<=(aB h).length/\i=.int .i64 m/\Hid (Row 3 1 (one jE) w.heap.size wr (.slice Ad (aB h).length cd) (aB h)/\∃xs,Row 231 2 encPl w.heap.size wr o xs/\pq xs (wW h kind m) (m*6))) (λ_ i _=>(aB h).length-(intOf i).toNat)
 case atStart=>exact⟨HB2.out,0,bR _,rfl,RD.out.low hE1.out.size,[],HR.out,rfl,ay _⟩
 case round=>
  obtain⟨hb,m,hm,rfl,HI⟩:=hrel;have hbw:w.heap.size<=wr.heap.size:=hb.size;obtain⟨hD,xs,hR0,hS0⟩:=HI.out;have HD:=aa hD;have CP:=aa hR0;have MZ:=aa hS0;have hxl:=hS0.2;clear HI hR0 hS0 hD RD HR;by_cases hlt:m<(aB h).length
  ·obtain⟨n,hn⟩:=au hlt;obtain⟨hnl,hnd⟩:=nE (aN hn);obtain⟨-,bd,Kl,rfl,hbd,hcd⟩:=xY HD.out (by omega);have cn:=hcd m n hn;obtain⟨b,off,rfl,hbl,hc⟩:=HH.out.head (by omega);obtain⟨t,ht⟩:=au hnl;obtain⟨ov,c0,c1,c2,hs⟩:=hc n t ht;replace c0:=hb.cell c0;replace c1:=hb.cell c1;replace c2:=hb.cell c2;have HT:=aa ht;have hto:=dW jh.out (aN ht);have hol:=eY hto;have UF:=aa hto;have HS:=aa hs;have hnx:=aa (G9 (kind:=kind) hn);have M7:=aa (dM ht);clear hn hnd hc ht hs hto hcd;by_cases h4:kind=4
   ·have h4':(kind==4)=true:=by simp[h4]
    have hbt:Hid (qZ h kind n=yN t.ops):=by show _ = _;rw[qZ,ah h4,M7.out]
    clear h4;go_wp2_with fail
    refine(yP n t.aD t.done _ (HS.out.ext hb) hol).mono ?_
    rintro e w3 ⟨v3,ys,rfl,r3,s3,b3⟩;obtain⟨A3,c3,rfl,_⟩:=id r3.cell.1;have U8:=CP.out.ext b3;obtain⟨v4,w4,hrun,hrow4,hg4⟩:=mU (P:=Tryz.prog) (t:=207) (ty:=207) (e:=231) Tryz.underlying207 AQ rfl (by omega) U8 r3.cell.1 (λx _ j=>MG x j) (by have:=s3.2;omega) (by omega) (aR hbw b3.size);have cz:=aa hrun;have mI:=aa hrow4;have JW:=aa (Ext.grown (hb.trans b3) hg4 (λk hk=>U8.block k hk));have HD4:Hid (Row 3 1 (one jE) w.heap.size w4 (.slice (some ⟨bd,Kl,none⟩) (aB h).length cd) (aB h)):=World.ownsRow.kept (HD.out.ext b3) hg4 (JJ U8 (HD.out.ext b3) (by decide));have GM:Hid (pq (xs++ys) (wW h kind (m+1)) ((m+1)*6)):=by
     refine⟨?_,?_⟩
     ·rw[hnx.out,hbt.out,<-MZ.out.1,<-s3.1,bN,lH];simp only[eG,qo];omega
     ·rw[bN];have:=s3.2;omega
    clear hrun hrow4 hg4 r3 s3 U8;go_wp2_with (at_builtin;refine wpList_append_run rfl rfl rfl rfl cz.out ?_)
    go_roundw;case rel=>exact⟨JW.out,m+1,by omega,by go_num,HD4.out,_,mI.out,GM.out⟩
    case measure=>simp[intOf];omega
   ·have h4':(kind==4)=false:=by simpa using h4
    have hbt:Hid (qZ h kind n=t.ops.any λo=>gp h n o==kind):=by show _ = _;rw[qZ,ak h4,M7.out]
    obtain⟨A',c',rfl,_⟩:=id HS.out;clear h4;go_wp2;go_loopw [5,42] (λo i wr=>Ext w wr/\∃j:Nat,j<=t.ops.length/\i=.int .i64 j/\Hid (Row 3 1 (one jE) w.heap.size wr (.slice (some ⟨bd,Kl,none⟩) (aB h).length cd) (aB h)/\∃xs,Row 231 2 encPl w.heap.size wr o xs/\pq xs (wW h kind m || yX h n kind t.ops j) (m*6+j))) (λ_ i _=>t.ops.length-(intOf i).toNat)
    case atStart=>exact⟨hb,0,bR _,rfl,HD.out,xs,CP.out,by
     have:yX h n kind t.ops 0=false:=rfl
     rw[this,Bool.or_false];exact MZ.out⟩
    case round=>
     obtain⟨hb2,j,hj,rfl,HJ⟩:=hrel;have hbw2:w.heap.size<=wr.heap.size:=hb2.size;obtain⟨hD,ys,hR2,hS2⟩:=HJ.out;have HD2:=aa hD;have HR2:=aa hR2;have HS2:=aa hS2;have hyl:=hS2.2;clear HJ hR2 hS2 hD;by_cases hjt:j<t.ops.length
     ·obtain⟨A2,c2',hA2,hcc⟩:=HS.out.ext hb2;injection hA2 with e1 e2 e3;subst e1 e3;obtain⟨b',off',rfl,DF,hcc⟩:=hcc (by omega);obtain⟨o,ho⟩:=au hjt;have d0:wr.cell? ⟨b',off'+j*3,none⟩=some (.int .i64 o.kind):=hcc j o ho 0 (by omega);have d1:wr.cell? ⟨b',off'+j*3+1,none⟩=some (.int .i64 o.key):=hcc j o ho 1 (by omega);have d2:wr.cell? ⟨b',off'+j*3+2,none⟩=some (.int .i64 o.value):=hcc j o ho 2 (by omega);have SX:=jc UF.out (aN ho);have hbn:=aa (Jb (h:=h) (n:=n) (kind:=kind) ho);have hE2:Hid (Ext wr (wr.alloc (.cells #[.int .i64 o.kind,.int .i64 o.key,.int .i64 o.value] 67))):=(af _).alloc _;obtain⟨r,hr⟩:∃r,gp h n o=r:=⟨_,rfl⟩;have XY:=λw' H=>De n o w' (v:=.slice (some ⟨b,off,none⟩) h.length c) H jh.out SX;rw[hr]at XY;have HBK:=aa XY;have HRr:=aa hr;clear hcc ho e2 hr XY SX
      cases R8:(r==kind) with
      | true=>
        go_wp2_with fail
        refine(HBK.out _ (HH.out.ext (hb2.trans hE2.out))).mono ?_
        rintro e w3 ⟨rfl,b3⟩;obtain⟨v',w4,hrun,hP⟩:=ME w3.heap.size rfl HR2.out (hE2.out.trans b3) ⟨n,j⟩ hbw2 (by omega);have cz:=aa hrun;have Jt:=aa hP.1;have JW:=aa (hP.2.1 w hb2 (ay _));have HD4:=aa (HD2.out.pushed HR2.out (by decide) hP);clear hrun hP;go_wp2_with (at_builtin;refine wpList_append_run rfl rfl rfl rfl cz.out ?_)
        go_roundw;case rel=>exact⟨JW.out,j+1,by omega,by go_num,HD4.out,_,Jt.out,by
         rw[hbn.out,HRr.out,R8,Bool.or_true,Bool.or_true];exact HS2.out.push _⟩
        case measure=>simp[intOf];omega
      | false=>
        go_wp2_with fail
        refine(HBK.out _ (HH.out.ext (hb2.trans hE2.out))).mono ?_
        rintro e w3 ⟨rfl,b3⟩;have GI:=aa (hE2.out.trans b3);go_wp2;go_roundw;case rel=>exact⟨hb2.trans GI.out,j+1,by omega,by go_num,HD2.out.ext GI.out,ys,HR2.out.ext GI.out,by
         rw[hbn.out,HRr.out,R8,Bool.or_false];exact⟨HS2.out.1,by have:=HS2.out.2;omega⟩⟩
        case measure=>simp[intOf];omega
     ·obtain rfl:j=t.ops.length:=by omega
      go_wp2;go_roundw;case rel=>exact⟨hb2,m+1,by omega,by go_num,HD2.out,ys,HR2.out,by
       rw[hnx.out,hbt.out]
       have:yX h n kind t.ops t.ops.length=t.ops.any λo=>gp h n o==kind:=by unfold yX;rw[bY]
       rw[<-this];exact⟨HS2.out.1,by have:=HS2.out.2;omega⟩⟩
      case measure=>simp[intOf];omega
  ·obtain rfl:m=(aB h).length:=by omega
   obtain⟨A',c',rfl,_⟩:=id CP.out.cell.1;have hcp:=CP.out.cap _ _ _ rfl;have hfin:=MZ.out.1;rw[KF]at hfin;have HF:=aa hfin;clear hfin;go_wp2;go_returns;exact⟨_,_,_,rfl,HF.out,by omega,hb⟩
