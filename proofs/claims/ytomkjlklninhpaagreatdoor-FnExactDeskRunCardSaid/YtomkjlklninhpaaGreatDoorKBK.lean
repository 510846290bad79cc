/- Lemmas. -/
import Derived.Test.YtomkjlklninhpaaGreatDoorKBC
import Derived.Test.YtomkjlklninhpaaGreatDoorKBI
import Derived.Test.YtomkjlklninhpaaGreatDoorKBJ
set_option maxHeartbeats 16000000
set_option maxRecDepth 8000
set_option linter.all false
namespace Go.Proofs.YtomkjlklninhpaaGreatDoor
open Go.RowKit
def I1o(lo:Nat)(w:World)(u:Value)(xs:List Int):Prop:=I1 w u xs/\∀a n c,u=.slice (some a) n c->0<n->lo<=a.block
theorem Ul{T:TypeId}(lo:Nat)(hne:3≠T):rR T (I1o lo):=⟨fun _ _ _ _ h hk=>⟨mo.keep h.1 hk hne,h.2⟩,fun _ _ _ h=>let ⟨A,c,e,_⟩:=mo.slice h.1;⟨A,_,c,e⟩⟩
theorem YN{lo base:Nat}{w0 w:World}(q:Nat)(hq:w.heap.size=q){v:Value}{xss:List (List Int)}(H:Bs 57 (I1o lo) base w0 v xss)(hx:Ext w0 w){u:Value}{xs:List Int}(hu:I1o lo w u xs)(hb:base<=w0.heap.size)(hn:xss.length+1<=4194304) :
 ∃v' w',(Builtin.append_ #[83,83] 83 #[v,.slice (some ⟨q,0,none⟩) 1 1]).run Tryz.prog (w.alloc (.cells #[u] 57))=.ok v' w'/\Bs 57 (I1o lo) base w' v' (xss++[xs])/\(∀U:World,Ext U w0->U.heap.size<=base->Ext U w'):=
 let ⟨v',w',h1,h2,h3,_⟩:=Bs.push q hq Tryz.underlying83 tQ rfl (Ul lo (by decide)) H hx hu hb hn (by omega)
 ⟨v',w',h1,h2,h3⟩
theorem Cn{v:Value}{xss:List (List Int)}(w:World)(h:I2 w v xss)(hl:xss.length<=100)(hx:∀xs∈xss,xs.length<=1000) :
 Calls Tryz.prog 83 #[v] w fun e w'=>∃v',e=.returned v'/\Bs 57 (I1o w.heap.size) w.heap.size w' v' xss/\Ext w w':=by
 obtain⟨A,c,rfl,_⟩:=Ls.slice h;have H:=aa h;have HX:=aa hx;have hst:=dZ (T:=83) (by decide);clear h hx;go_enter Tryz.func83,Tryz.ntmps83;go_wp2;go_loopw [3,4] (fun o i wr=>Ext w wr/\∃k:Nat,k<=xss.length/\i=.int .i64 (k:Int)/\Hid (Bs 57 (I1o w.heap.size) w.heap.size wr o (xss.take k))) (fun _ i _=>xss.length-(intOf i).toNat)
 case atStart=>exact⟨(Ext.refl _).alloc _,0,Nat.zero_le _,rfl,Bs.nil w⟩
 case round=>
  obtain⟨hb,k,hk,rfl,HI⟩:=hrel;by_cases hlt:k<xss.length
  ·obtain⟨xs,hxs⟩:=af hlt;obtain⟨b,off,rfl,_,hc⟩:=Ls.cells (Ls.ext H.out hst hb) (by omega);obtain⟨u,hu,hP⟩:=hc k xs hxs;obtain⟨Au,cu,rfl,_⟩:=mo.slice hP;have hxl:=HX.out xs (List.mem_of_getElem? hxs);have HT:=aa (ah hxs);obtain⟨v1,w1,lD,iM,zU⟩:=mJ (w:=wr) wr.heap.size rfl Tryz.underlying57 bQ rfl (by omega) (hP.1.U1) (fun x _ j=>rfl) (by omega) (by omega);have b1:=zU wr (Ext.refl _);have ho1:=iM.cell.2;have hs1:I1o w.heap.size w1 v1 xs:=⟨mo.dm iM,fun a n c e hn=>Nat.le_trans hb.size (ho1 a n c e hn).1⟩;obtain⟨A1,c1,rfl,_⟩:=hs1.1.slice;have hC:=HI.out;obtain⟨cur,jo⟩:∃cur,cur=xss.take k:=⟨_,rfl⟩;have hcl:cur.length<=100:=by rw[jo,List.length_take];omega
   rw[<-jo]at hC;obtain⟨Ao,co,rfl,_⟩:=hC.slice;obtain⟨v2,w2,kK,hB2,hE2⟩:=YN w1.heap.size rfl hC b1 hs1 hb.size (by omega);have mH:=aa lD;have oO:=aa kK;have HB2:=aa hB2;have HE2:=aa (hE2 w hb (Nat.le_refl _));have HCU:=aa jo;clear hc hP hxs lD iM zU hs1 ho1 hC jo kK hB2 hE2 HI b1;go_wp2_with (first|(at_builtin;refine wpList_append_run rfl rfl rfl rfl mH.out ?_;clear mH)|(at_builtin;refine wpList_append_run rfl rfl rfl rfl oO.out ?_;clear oO))
   go_roundw;case rel=>exact⟨HE2.out,k+1,by omega,by go_num,by rw[HT.out,<-HCU.out];exact HB2.out⟩
   case measure=>simp[intOf];omega
  ·obtain rfl:k=xss.length:=by omega
   have hr:=HI.out;rw[List.take_length]at hr;have HR:=aa hr;obtain⟨A',c',rfl,_⟩:=hr.slice;clear hr HI;go_wp2;go_returns;exact⟨_,rfl,HR.out,hb⟩
theorem KI:∀(n:Nat) (v:Value) (xs:List Int) (w:World),xs.length=n->n<=6->I1 w v xs ->
 Calls Tryz.prog 82 #[v] w fun e w'=>∃v',e=.returned v'/\Rl w w' v' xs:=by
 intro n
 induction n with
 | zero=>
   intro v xs w hx _ h;obtain rfl:xs=[]:=List.eq_nil_of_length_eq_zero hx;obtain⟨A,c,rfl,_⟩:=h.slice;clear h;have h0:I1 (w.alloc (.cells #[] 3)) (.slice (some ⟨w.heap.size,0,none⟩) 0 0) []:=.dm (bT);have h1:=(Bs.Yb (T:=57) (dZ (T:=83) (by decide)) _ h0);have H1:=aa h1;clear h0 h1;go_enter Tryz.func82,Tryz.ntmps82;go_wp2;go_returns;have ho:∀k,(Value.slice (some ⟨(w.alloc (.cells #[] 3)).heap.size,0,none⟩) 1 1).ownBlock=some k->w.heap.size<=k:=fun k hk=>Nat.le_trans ((Ext.refl w).alloc (.cells #[] 3)).size (H1.out.own k hk).1;have hd:=H1.out.done;have hsz:(w.alloc (.cells #[] 3)).heap.size=w.heap.size+1:=by simp
   rw[hsz]at ho hd;exact⟨_,rfl,hd,ho,((Ext.refl _).alloc _).alloc _⟩
 | succ n ih=>
   intro v xs w hx hn h;obtain⟨A,c,rfl,hc1,hc2⟩:=h.slice;have H:=aa h;have HIH:=aa ih;have hpos:0<xs.length:=by omega
   have HX:=aa hx;have h6:xs.length<=6:=by omega
   have hz:((xs.length:Int)==0)=false:=beq_eq_false_iff_ne.2 (by omega);have hst:=dZ (T:=83) (by decide);clear h ih hx;go_enter Tryz.func82,Tryz.ntmps82;go_wp2;go_loopw [3,4] (fun o i wr=>Ext w wr/\∃k:Nat,k<=xs.length/\i=.int .i64 k/\Hid (Bs 57 I1 w.heap.size wr o (fU xs k))) (fun _ i _=>xs.length-(intOf i).toNat)
   case atStart=>exact⟨(Ext.refl _).alloc _,0,Nat.zero_le _,rfl,Bs.nil w⟩
   case round=>
    obtain⟨hb,k,hk,rfl,HI⟩:=hrel;have hbw:w.heap.size<=wr.heap.size:=hb.size;by_cases hlt:k<xs.length
    ·obtain⟨x,hx⟩:=af hlt;obtain⟨b,off,rfl,hb2,hc⟩:=H.out.cells (by omega);have hI:=H.out.ext hb;have HC0:Hid (w.cell? ⟨b,off+k,none⟩=some (.int .i64 x)):=hc k x hx;obtain⟨V1,Mt,hp1⟩:∃V,(∀W,(Instr.slice 57 (.slice (some ⟨b,off,none⟩) xs.length c) none (some (.int .i64 (k:Int))) none).run Tryz.prog W=.ok (.slice V (k-0) (c-0)) W)/\I1 wr (.slice V (k-0) (c-0)) (part xs 0 k):=
      ⟨_,mR (P:=Tryz.prog) (A:=some ⟨b,off,none⟩) (n:=xs.length) (c:=c) Tryz.underlying57 bQ k (by omega),I1.part hI 0 k (by omega) (by omega)⟩
     obtain⟨V2,RN,hp2⟩:∃V,(∀W,(Instr.slice 57 (.slice (some ⟨b,off,none⟩) xs.length c) (some (.int .i64 ((k:Int)+1))) none none).run Tryz.prog W=.ok (.slice V (xs.length-(k+1)) (c-(k+1))) W)/\I1 wr (.slice V (xs.length-(k+1)) (c-(k+1))) (part xs (k+1) xs.length):=
      ⟨_,mh (P:=Tryz.prog) (A:=some ⟨b,off,none⟩) (n:=xs.length) (c:=c) Tryz.underlying57 bQ (k+1) (by omega),I1.part hI (k+1) xs.length (by omega) (Nat.le_refl _)⟩
     simp only[Nat.sub_zero]at Mt hp1;have hwrap:IntKind.i64.wrap ((k:Int)+1)=(k:Int)+1:=IntWalk.i64_in _ (by omega);have hfl:=Dm xs k;have hle:(xs.eraseIdx k).length=n:=by rw[List.length_eraseIdx,if_pos hlt];have:=HX.out;omega
     have hl1:(part xs 0 k).length<=6:=by rw[qd (by omega)];omega
     have hl2:(part xs (k+1) xs.length).length<=6:=by rw[qd (Nat.le_refl _)];omega
     obtain⟨v1,w1,lD,iM,zU⟩:=mJ (w:=wr.drew) wr.heap.size rfl Tryz.underlying57 bQ rfl (by omega) (hp1.ext ((Ext.refl _).drew)).1.U1 (fun x _ j=>rfl) (by omega) (by omega);have b1:=zU wr ((Ext.refl _).drew);obtain⟨v2,w2,kK,hrow2,hg2⟩:=kL (P:=Tryz.prog) (t:=57) (ty:=57) (e:=3) Tryz.underlying57 bQ rfl (by omega) iM ((hp2.ext b1).1.U1) (fun x _ j=>rfl) (by omega) (by omega) b1.size;have b2:Ext wr w2:=Ext.grown b1 hg2 (fun k hk=>iM.block k hk);obtain⟨A1,n1,c1,rfl⟩:=iK iM;obtain⟨A2,n2,c2,rfl⟩:=iK hrow2;have mH:Hid ((Builtin.append_ #[57,57] 57 #[.slice (some ⟨wr.heap.size,0,none⟩) 0 0,.slice V1 k c]).run Tryz.prog (wr.alloc (.cells #[] 3)).drew=.ok (.slice A1 n1 c1) w1):=lD;have oO:=aa kK;have hp1':I1 w2 (.slice A2 n2 c2) (xs.eraseIdx k):=by
      have:=mo.dm hrow2
      rw[show part xs 0 k++part xs (k+1) xs.length=xs.eraseIdx k by rw[<-hfl];simp]at this;exact this
     have HB1:=aa b2;have HC:=aa (HIH.out _ (xs.eraseIdx k) w2 hle (by omega) hp1');have HXK:Hid (xs.getD k 0=x):=by show _ = _;simp[List.getD,hx]
     have FO:=aa (Nat.le_trans (Nat.le_of_eq (mI (xs.eraseIdx k))) (F9 _ (by rw[hle];omega)));have HPT:=aa (Nat.le_trans (Hl h6 k hk) (show k*120<=720 by omega));have UI:=aa hle;clear hc hp1 hp2 hI hx hfl lD kK iM hrow2 zU hg2 b1 b2 hp1' hl1 hl2 hle;go_wp2;go_region_held3 (fun _=>True) (trivial) ((first|(refine aJ (by rfl) (by rfl) (by rfl) (by rfl) mH.out ?_;clear mH)|(refine aJ (by rfl) (by rfl) (by rfl) (by rfl) oO.out ?_)))
     go_wp2_with (go_at_call 82;refine HC.out.mono ?_;rintro e w3 ⟨v3,rfl,hres⟩;obtain⟨hr1,hr2,hr3⟩:=hres;obtain⟨A3,c3,rfl,hd1,hd2⟩:=hr1.slice;have HR:=aa hr1;have HR2:=aa hr2;have HR3:=aa hr3;clear hr1 hr2 hr3)
     have hpl:=FO.out;have hpp:=MW (xs.eraseIdx k);generalize hps:perms (xs.eraseIdx k)=ps at HR hd1 hd2 hpl hpp;obtain⟨b3,zh,rfl,hb3,hcc⟩:=HR.out.cells hpp;have hb4:wr.heap.size<=b3:=Nat.le_trans HB1.out.size (HR2.out b3 rfl);have b2:Ext wr w3:=HB1.out.trans HR3.out;clear hcc HB1 HR2 HR3;obtain⟨wo,rfl⟩:∃wo:World,wo=wr:=⟨_,rfl⟩;obtain⟨Ao,co,rfl,ho1,ho2⟩:=HI.out.slice;have HI2:Hid (Bs 57 I1 w.heap.size w3 (.slice Ao (fU xs k).length co) (fU xs k)):=HI.out.ext hst b2;have HOW:Hid ((Value.slice Ao (fU xs k).length co).ownBlock≠some b3):=fun e=>by have:=(HI.out.own _ e).2;omega
     clear HI;have Pn:=aa (And.intro (hb.trans b2) hb3);have HPS:=aa hps;clear hps b2 hb4;go_wp2;go_loopw [3,7] (fun o i wr=>Ext w wr/\∃j:Nat,j<=ps.length/\i=.int .i64 j/\Hid (Bs 57 I1 w.heap.size wr o (fU xs k++(ps.take j).map (x :: ·))/\o.ownBlock≠some b3)/\Hid (b3<wr.heap.size)/\Hid (I2 wr (.slice (some ⟨b3,zh,none⟩) ps.length c3) ps)) (fun _ i _=>ps.length-(intOf i).toNat)
     case atStart=>exact⟨Pn.out.1,0,Nat.zero_le _,rfl,⟨by simpa using HI2.out,HOW.out⟩,Pn.out.2,HR.out⟩
     case round=>
      obtain⟨hv,j,hj,rfl,HJ,HB3,HR⟩:=hrel;by_cases hlt2:j<ps.length
      ·obtain⟨p,hp⟩:=af hlt2;have hb3:=HB3.out;obtain⟨b',off',e,_,hcc⟩:=HR.out.cells (by omega);injection e with e;injection e with e1 e2;subst e1 e2;obtain⟨u,hu,hP⟩:=hcc j p hp;obtain⟨Au,cu,rfl,hu1,hu2⟩:=mo.slice hP;have Na:p.length<=6:=by
        have:=(nW (xs:=xs.eraseIdx k) (p:=p) (by rw[HPS.out];exact List.mem_of_getElem? hp)).length_eq
        have:=UI.out
        omega
       have r1:Row 3 1 (one encI) wr.heap.size (wr.drew.alloc (.cells #[.int .i64 x] 3)) (.slice (some ⟨wr.heap.size,0,none⟩) 1 1) [x]:=Row.lit wr.drew #[.int .i64 x] 3 [x] (by simp[aI,one,encI]) (by simp);have hE0:Ext wr (wr.drew.alloc (.cells #[.int .i64 x] 3)):=((Ext.refl _).drew).alloc _;obtain⟨v4,w4,lD,hrow3,hg3⟩:=kL (P:=Tryz.prog) (t:=57) (ty:=57) (e:=3) Tryz.underlying57 bQ rfl (by omega) r1 ((hP.ext hE0).1.U1) (fun x _ j=>rfl) (by simp;omega) (by omega) hE0.size;obtain⟨cx,hcx⟩:∃cx,cx=[x]++p:=⟨_,rfl⟩;rw[<-hcx]at hrow3;obtain⟨A4,c4,rfl,_⟩:=(mo.dm hrow3).slice;have b3':Ext wr w4:=Ext.grown hE0 hg3 (fun k hk=>r1.block k hk);have Nv:(fU xs k++(ps.take j).map (x :: ·)).length+1<=4194304:=by
        have:=HPT.out
        simp;omega
       obtain⟨cur,jo⟩:∃cur,cur=fU xs k++(ps.take j).map (x :: ·):=⟨_,rfl⟩;have Za:=HJ.out;rw[<-jo]at Nv Za;obtain⟨Ao,co,rfl,_⟩:=Za.1.slice;obtain⟨v5,w5,kK,hB4,Sy,hK4,hS4,hO4⟩:=Cb w4.heap.size rfl Za.1 b3' (mo.dm hrow3) hv.size Nv;have H4:Hid (Bs 57 I1 w.heap.size w5 v5 (fU xs k++(ps.take (j+1)).map (x :: ·))/\v5.ownBlock≠some b3):=by
        refine⟨?_,?_⟩
        ·rw[ah hp,List.map_append,<-List.append_assoc,<-jo];rw[hcx]at hB4;exact hB4
        ·rcases hO4 with h|⟨kk,h,h'⟩
         ·rw[h];exact HJ.out.2
         ·rw[h];intro e;injection e with e;omega
       have HR4:Hid (I2 w5 (.slice (some ⟨b3,zh,none⟩) ps.length c3) ps):=Ls.same HR.out (by omega) (hS4 _ hb3 HJ.out.2) (dZ (by decide)) hK4;have sH:Hid (b3<w5.heap.size):=Nat.lt_of_lt_of_le hb3 hK4.1;have wV:=aa (Sy w hv (Nat.le_refl _));have mH:Hid ((Builtin.append_ #[57,57] 57 #[.slice (some ⟨wr.heap.size,0,none⟩) 1 1,.slice Au p.length cu]).run Tryz.prog (wr.alloc (.cells #[.int .i64 x] 3)).drew=.ok (.slice A4 cx.length c4) w4):=lD;have oO:=aa kK;have C0:=hv.cell HC0.out;have C1:=b3'.cell C0;have D1:=b3'.cell hu;have C2:=wV.out.cell HC0.out;have D2:w5.cell? ⟨b3,zh+j,none⟩=some (.slice Au p.length cu):=by rw[<-hu];simp only[World.cell?,hS4 _ hb3 HJ.out.2]
       have hbr:b<wr.heap.size:=Nat.lt_of_lt_of_le hb2 hv.size;have ad8:b<w4.heap.size:=Nat.lt_of_lt_of_le hbr b3'.size;have aej:b3<w4.heap.size:=Nat.lt_of_lt_of_le hb3 b3'.size;have i1:(k:Int)<(xs.length:Int):=by omega
       have i2:(0:Int)<=(k:Int):=by omega
       have i3:(j:Int)<(ps.length:Int):=by omega
       have i4:(0:Int)<=(j:Int):=by omega
       clear hcc hP hp Za jo hcx r1 hrow3 hg3 lD kK hB4 Sy hK4 hS4 hO4 HJ HR hE0 b3';go_wp2;go_region_held3 (fun W=>W.cell? ⟨b,off+k,none⟩=some (.int .i64 x)/\W.cell? ⟨b3,zh+j,none⟩=some (.slice Au p.length cu)) (go_keep) ((first|(refine aJ (by rfl) (by rfl) (by rfl) (by rfl) mH.out ?_;clear mH)|(refine aJ (by rfl) (by rfl) (by rfl) (by rfl) oO.out ?_)))
       clear C0 C1 D1 C2 D2 hbr ad8 aej hu;go_wp2;go_roundw;case rel=>exact⟨wV.out,j+1,by omega,by go_num,H4.out,sH.out,HR4.out⟩
       case measure=>simp[intOf];omega
      ·obtain rfl:j=ps.length:=by omega
       have hJ0:=HJ.out.1;rw[List.take_length,<-HPS.out,<-HXK.out,<-um]at hJ0;have HJ':=aa hJ0;clear hJ0;clear HJ HR;go_wp2;go_roundw;case rel=>exact⟨hv,k+1,by omega,by go_num,HJ'.out⟩
       case measure=>simp[intOf];omega
    ·obtain rfl:k=xs.length:=by omega
     have hd:=HI.out;rw[<-BV hpos]at hd;have HD:=aa hd;obtain⟨A',c',rfl,_⟩:=hd.slice;have HO:=aa hd.own;clear hd HI;go_wp2;go_returns;exact⟨_,rfl,HD.out.done,fun k hk=>(HO.out k hk).1,hb⟩
def EF(base q:Nat)(W:World)(v:Value)(xss:List (List Int)):Prop:=
 ∃us:List Value,Row 57 1 (one QD) base W v us/\us.length=xss.length/\∀(i:Nat) u x,us[i]? =some u->xss[i]? =some x->I1 W u x/\∀a n c,u=.slice (some a) n c->0<n->a.block≠q
theorem I1.grown{W W':World}{q:Nat}{u:Value}{x:List Int}(h:I1 W u x)(hq:∀a n c,u=.slice (some a) n c->0<n->a.block≠q)(hg:W.grownBy W' (some q)):I1 W' u x:=by
 have hr:∀a n c,u=.slice (some a) n c->0<n->(some q:Option Nat)≠some a.block:=fun a n c e hn e'=>by injection e' with e';exact hq a n c e hn e'.symm
 exact⟨(h.1.U1.grown hg hr).YB,h.2.1.grown hg hr,h.2.2⟩
theorem EF.grown{base q:Nat}{W W':World}{v:Value}{xss:List (List Int)}(h:EF base q W v xss)(hq:∃cs fr,W.heap[q]? =some (.cells cs 3 fr))(hg:W.grownBy W' (some q)):Bs 57 I1 base W' v xss:=by
 obtain⟨us,h1,h2,h3⟩:=h;refine⟨us,?_,h2,fun i u x hu hx=>(h3 i u x hu hx).1.grown (h3 i u x hu hx).2 hg⟩;refine World.ownsRow.kept (row:=some q) h1 hg ?_
 cases hv:v.ownBlock with
 | none=>exact .inl rfl
 | some k=>
   refine .inr (fun e=>?_);injection e with e;subst e;rcases h1.2 with ⟨rfl,_⟩|⟨g,cap,cur,rfl,hb,hgg,_⟩
   ·simp[Value.ownBlock]at hv
   ·simp[Value.ownBlock]at hv;subst hv;obtain⟨cs,fr,hx⟩:=hq;rw[hgg]at hx;injection hx with hx;injection hx with _ h5 _;exact absurd h5 (by decide)
theorem FL{v:Value}{h:List aA}(w:World)(H:gL w v h)(hok:aC h=true) :
 Calls Tryz.prog 57 #[v] w fun e w'=>∃v',e=.returned v'/\I3 w' v' (eZ h)/\Ext w w':=by
 obtain⟨A,c,rfl⟩:=H.slice;have dO:=aa hok;have hlen:=aM hok;have hil:∀k:Int,(aP h k).length<=6:=fun k=>Nat.le_trans (gJ h k) (by omega);have Zj:=aa hil;have OC:=aa (nQ w H (by omega) (aD hok));clear H hok hil;go_enter Tryz.func57,Tryz.ntmps57;go_wp2_with fail
 refine OC.out.mono ?_;rintro e w1 ⟨v1,rs,rfl,UL,-,b1⟩;have hH1:gL w1 v1 h:=⟨rs,UL⟩;obtain⟨A1,c1,rfl⟩:=hH1.slice;have HH:=aa hH1;have HV:=aa (bu w1 hH1 (by omega) (aD dO.out));rw[dO.out]at HV;have HB1:=aa b1;clear UL hH1 b1;go_wp2_with fail
 refine HV.out.mono ?_;rintro e w2 ⟨rfl,b2⟩;have Xc:=aa (HH.out.ext b2);have HB2:=aa (HB1.out.trans b2);have HIN:=aa (fun W (b:Ext w2 W) (k:Nat) (hk:k<3)=>uT (k:Int) W (Xc.out.ext b) dO.out (bL.2 (by omega)));clear b2;go_wp2;go_loopw [3,4] (fun p i wr=>Ext w2 wr/\∃k:Nat,k<=3/\i=.int .i64 k/\p=.int .i64 (jc h k:Nat)) (fun _ i _=>3-(intOf i).toNat)
 case atStart=>exact⟨Ext.refl _,0,by omega,rfl,rfl⟩
 case round=>
  obtain⟨hb,k,hk,rfl,rfl⟩:=hrel;by_cases hlt:k<3
  ·have RQ:=Zj.out (k:Int);have hq:=rU Zj.out k;have hq2:720 ^ k<=518400:=(show k=0∨k=1∨k=2 by omega).elim (by rintro rfl;decide) fun h=>h.elim (by rintro rfl;decide) (by rintro rfl;decide);have hnx:Hid (jc h (k+1)=jc h k*fact (aP h (k:Int)).length):=rfl;obtain⟨p,hp⟩:∃p,jc h k=p:=⟨_,rfl⟩;rw[hp]at hq hnx ⊢;have abd:=aa (fun W (b:Ext w2 W)=>HIN.out W b k hlt);obtain⟨xs,hxs⟩:∃xs,aP h (k:Int)=xs:=⟨_,rfl⟩;rw[hxs]at RQ hnx abd;have hd3:decide ((k:Int)<=2)=true:=decide_eq_true (by omega);have HB:=aa hb;clear hp hxs hb;go_wp2;go_loopw [3,5] (fun q i wr=>Ext w2 wr/\∃j:Nat,1<=j/\(j=1∨j<=xs.length)/\i=.int .i64 ((j:Int)+1)/\q=.int .i64 ((p*fact j:Nat):Int)) (fun _ i _=>8-(intOf i).toNat)
   case atStart=>exact⟨HB.out,1,by omega,.inl rfl,rfl,by simp[fact]⟩
   case round=>
    obtain⟨hb,j,hj1,hj,rfl,rfl⟩:=hrel;have hj6:j<=6:=by omega
    by_cases hjt:j+1<=xs.length
    ·have hf:p*fact j<=518400*720:=Nat.mul_le_mul (Nat.le_trans hq hq2) (zH (by omega));have hf2:p*fact (j+1)<=518400*720:=Nat.mul_le_mul (Nat.le_trans hq hq2) (zH (by omega));have he:Hid (p*fact (j+1)=p*fact j*(j+1)):=by show _ = _;rw[fact,Nat.mul_assoc]
     have hwrap:IntKind.i64.wrap (((p*fact j:Nat):Int)*((j:Int)+1))=((p*fact (j+1):Nat):Int):=by rw[he.out];rw[he.out]at hf2;rw[show ((p*fact j:Nat):Int)*((j:Int)+1)=((p*fact j*(j+1):Nat):Int) by rw[Int.natCast_mul (p*fact j)];rfl];exact IntWalk.i64_in _ (by omega)
     obtain⟨q,hq3⟩:∃q,p*fact j=q:=⟨_,rfl⟩;obtain⟨q',hq4⟩:∃q',p*fact (j+1)=q':=⟨_,rfl⟩;rw[hq3,hq4]at hwrap;rw[hq3];have HQ4:=aa hq4;have hji:(j:Int)+1<=(xs.length:Int):=by omega
     clear hq3 hq4 hf hf2 he hq;go_wp2_with fail
     refine(abd.out _ hb).mono ?_
     rintro e w3 ⟨v3,rfl,r3,b3⟩;obtain⟨A3,c3,rfl,_⟩:=id r3.cell.1;clear r3;go_wp2;go_roundw;case rel=>exact⟨hb.trans b3,j+1,by omega,.inr hjt,by go_num,by rw[HQ4.out]⟩
     case measure=>simp[intOf];omega
    ·have HF:Hid (jc h (k+1)=p*fact j):=by
      show _ = _;rw[hnx.out];rcases hj with rfl|hj
      ·have:xs.length=0∨xs.length=1:=by omega
       rcases this with e|e<;>rw[e]<;>rfl
      ·rw[show xs.length=j by omega]
     have hji:¬((j:Int)+1<=(xs.length:Int)):=by omega
     obtain⟨q,hq3⟩:∃q,p*fact j=q:=⟨_,rfl⟩;rw[hq3]at HF ⊢;clear hq3 hq;go_wp2_with fail
     refine(abd.out _ hb).mono ?_
     rintro e w3 ⟨v3,rfl,r3,b3⟩;obtain⟨A3,c3,rfl,_⟩:=id r3.cell.1;clear r3;go_wp2;go_roundw;case rel=>exact⟨hb.trans b3,k+1,by omega,by go_num,by rw[HF.out]⟩
     case measure=>simp[intOf];omega
  ·obtain rfl:k=3:=by omega
   have hq:=rU Zj.out 3;rw[pE]at hq ⊢;rw[show ((3:Nat):Int)=3 from rfl];clear hlt hk;by_cases hm:iw h<=200
   ·have HR:Hid (eZ h=bG h 3):=if_pos ⟨dO.out,hm⟩;have HM:=aa hm;have h0:I2 (wr.alloc (.cells #[] 57)) (.slice (some ⟨wr.heap.size,0,none⟩) 0 0) []:=(Bs.nil wr).done;have H0:=aa (Bs.Yb (T:=83) rE _ h0).done;have hs1:(wr.alloc (.cells #[] 57)).heap.size=wr.heap.size+1:=by simp
    rw[hs1]at H0;clear h0 hs1;obtain⟨m,hm2⟩:∃m,iw h=m:=⟨_,rfl⟩;rw[hm2]at hq hm ⊢;have BU:=aa ((hb.alloc (.cells #[] 57)).alloc (.cells #[.slice (some ⟨wr.heap.size,0,none⟩) 0 0] 83));clear hm2 hb;go_wp2;clear hq hm;go_loopw [6,7] (fun o i wr=>Ext w2 wr/\∃k:Nat,k<=3/\i=.int .i64 k/\Hid (I3 wr o (bG h k))) (fun _ i _=>3-(intOf i).toNat)
    case atStart=>exact⟨BU.out,0,by omega,rfl,H0.out⟩
    case round=>
     obtain⟨hb,k,hk,rfl,HI⟩:=hrel;by_cases hlt:k<3
     ·obtain⟨Ao,co,rfl,_⟩:=HI.out.slice;have RQ:=Zj.out (k:Int);have hd3:decide ((k:Int)<=2)=true:=decide_eq_true (by omega);have HIK:=aa (HIN.out _ hb k hlt);have HB:=aa hb;clear hb;go_wp2_with fail
      refine HIK.out.mono ?_;rintro e w4 ⟨v4,rfl,r4,b4⟩;have HO4:=aa (KI _ v4 (aP h (k:Int)) w4 rfl RQ (mo.dm r4));obtain⟨A4,c4,rfl,_⟩:=id r4.cell.1;clear r4;go_wp2_with fail
      refine HO4.out.mono ?_;rintro e w5 ⟨v5,rfl,hr1,-,hr3⟩;have hpl:=mI (aP h (k:Int));have Na:∀p∈perms (aP h (k:Int)),p.length<=6:=fun p hp=>by rw[(nW hp).length_eq];exact RQ
      have HGN:=aa (fun j bg (hbg:(bG h k)[j]? =some bg)=>tX (k:=k) hbg);obtain⟨ps,hps⟩:∃ps,perms (aP h (k:Int))=ps:=⟨_,rfl⟩;rw[hps]at hr1 hpl Na HGN;obtain⟨Ap,cp,rfl,_⟩:=Ls.slice hr1;have HPS:=aa hr1;have FO:=aa hpl;have aax:=aa Na;have HI5:=aa (HI.out.ext (T':=89) (Ls.stays (dZ (by decide)) (by decide)) (b4.trans hr3));have Ea:=aa (HB.out.trans (b4.trans hr3));have hsz5:w5.heap.size=w5.heap.size:=rfl;clear hps hr1 hpl Na hr3 b4 HI hsz5;have HN:Hid (Bs 83 I2 w5.heap.size (w5.alloc (.cells #[] 83)) (.slice (some ⟨w5.heap.size,0,none⟩) 0 0) (gp h k 0)):=by
       show Bs _ _ _ _ _ _
       have:=Bs.nil (T:=83) (P:=I2) w5
       simpa[gp] using this
      go_wp2;go_loopw [9,10] (fun o i wr=>Ext w5 wr/\∃j:Nat,j<=(bG h k).length/\i=.int .i64 j/\Hid (Bs 83 I2 w5.heap.size wr o (gp h k j))) (fun _ i _=>(bG h k).length-(intOf i).toNat)
      case atStart=>exact⟨(Ext.refl _).alloc _,0,by omega,rfl,HN.out⟩
      case round=>
       obtain⟨hb2,j,hj,rfl,HJ⟩:=hrel;by_cases hjt:j<(bG h k).length
       ·obtain⟨b2,off2,rfl,abl,hc2⟩:=HI5.out.cells (by omega);obtain⟨bg,hbg⟩:=af hjt;obtain⟨ub,hub,hPb⟩:=hc2 j bg hbg;obtain⟨Ab,cb,rfl,_⟩:=Ls.slice hPb;have Iy:=aa hPb;have hbl:=lM (List.mem_of_getElem? hbg);have ac1:bg.length<=2:=by omega
        have HBL:=aa (ql (List.mem_of_getElem? hbg));have aea:=aa (HGN.out j bg hbg);have Wv:=aa (fun i hi=>GZ (i:=i) hlt HM.out hjt hi);have HUB:=aa hub;have hji:decide ((j:Int)<((bG h k).length:Int))=true:=decide_eq_true (by omega);have HJ2:Hid (∀o,Bs 83 I2 w5.heap.size wr o (gp h k j)->Bs 83 I2 w5.heap.size wr o (gp h k j++grownBy (ps.take 0) bg)):=fun o ho=>by rw[show grownBy (ps.take 0) bg=[] by simp[grownBy],List.append_nil];exact ho
        have HJ3:=aa (HJ2.out _ HJ.out);have HB2:=aa hb2;clear hc2 hPb hbg hbl hub HJ2 HJ hb2;go_wp2;go_loopw [9,11] (fun o i wr=>Ext w5 wr/\∃i':Nat,i'<=ps.length/\i=.int .i64 i'/\Hid (Bs 83 I2 w5.heap.size wr o (gp h k j++grownBy (ps.take i') bg))) (fun _ i _=>ps.length-(intOf i).toNat)
        case atStart=>exact⟨HB2.out,0,by omega,rfl,HJ3.out⟩
        case round=>
         obtain⟨hb3,i,hi,rfl,HK⟩:=hrel;by_cases hit:i<ps.length
         ·obtain⟨p,hp⟩:=af hit;obtain⟨bp,VM,rfl,afF,hcp⟩:=Ls.cells HPS.out (by omega);obtain⟨up,hup,hPp⟩:=hcp i p hp;obtain⟨Aq,cq,rfl,hq1,hq2⟩:=mo.slice hPp;have hp6:=aax.out p (List.mem_of_getElem? hp);have HPP:=aa hPp;have Xw:=aa (zG (b:=bg) hp);have hK:=HK.out;obtain⟨cur,jo⟩:∃cur,cur=gp h k j++grownBy (ps.take i) bg:=⟨_,rfl⟩;rw[<-jo]at hK;have hnl:cur.length<=200:=by
           have:=Wv.out i (by have:=FO.out;omega)
           rw[jo,List.length_append,grownBy,List.length_map,List.length_take];omega
          obtain⟨An,cn,rfl,_⟩:=hK.slice;have HCU:=aa jo;have HKC:=aa hK;have HX0:Hid (∀V,Ext w5 V->V.cell? ⟨b2,off2+j,none⟩=some (.slice Ab bg.length cb)/\V.cell? ⟨bp,VM+i,none⟩=some (.slice Aq p.length cq)):=fun V bb=>⟨bb.cell HUB.out,bb.cell hup⟩;have HOWN:Hid (∀V,Ext wr V->Calls Tryz.prog 83 #[.slice Ab bg.length cb] V fun e w'=>∃v',e=.returned v'/\Bs 57 (I1o V.heap.size) V.heap.size w' v' bg/\Ext V w'):=fun V bb=>
           Cn V (Iy.out.ext (T':=83) (dZ (by decide)) (hb3.trans bb)) (by omega) (fun x hx=>by have:=HBL.out x hx;omega)
          have jl:Hid (∀(V:World) (cv:Value) (q:Nat),EF wr.heap.size q V cv bg->Row 3 1 (one encI) wr.heap.size V (.slice (some ⟨q,0,none⟩) 0 0) ([]:List Int)->Ext wr V ->
           ∃D1 n1 c1 V1 D2 n2 c2 V2 D3 n3 c3 V3,(Builtin.append_ #[57,57] 57 #[.slice (some ⟨q,0,none⟩) 0 0,.slice Aq p.length cq]).run Tryz.prog V=.ok (.slice D1 n1 c1) V1 /\
            (Builtin.append_ #[83,83] 83 #[cv,.slice (some ⟨V1.heap.size,0,none⟩) 1 1]).run Tryz.prog (V1.alloc (.cells #[.slice D1 n1 c1] 57))=.ok (.slice D2 n2 c2) V2 /\
            (Builtin.append_ #[89,89] 89 #[.slice An cur.length cn,.slice (some ⟨V2.heap.size,0,none⟩) 1 1]).run Tryz.prog (V2.alloc (.cells #[.slice D2 n2 c2] 83))=.ok (.slice D3 n3 c3) V3 /\
            Ext wr V1/\Ext wr V2/\Ext w5 V3/\Bs 83 I2 w5.heap.size V3 (.slice D3 n3 c3) (gp h k j++grownBy (ps.take (i+1)) bg)):=fun V cv q hcopy sJ hx=>by
           have hq:∃cs fr,V.heap[q]? =some (.cells cs 3 fr):=by
            rcases sJ.2 with ⟨e,_⟩|⟨g,cap,curr,e,_,hg,_⟩
            ·cases e
            ·injection e with e _ _;injection e with e;injection e with e;subst e;exact⟨_,_,hg⟩
           obtain⟨v1,V1,lD,iM,hg1⟩:=kL (P:=Tryz.prog) (t:=57) (ty:=57) (e:=3) Tryz.underlying57 bQ rfl (by omega) sJ ((HPP.out.ext (hb3.trans hx)).1.U1) (fun x _ j=>rfl) (by simp;omega) (by omega) hx.size;have x1:Ext wr V1:=Ext.grown hx hg1 (fun k hk=>sJ.block k hk);have hc1:=hcopy.grown hq hg1;have hu1:I1 V1 v1 p:=by have:=mo.dm iM;rwa [List.nil_append]at this
           obtain⟨D1,m1,d1,rfl⟩:=iK iM;obtain⟨v2,V2,kK,hB2,hE2,_⟩:=Cb V1.heap.size rfl hc1 (Ext.refl V1) hu1 x1.size (by omega);have x2:Ext wr V2:=hE2 wr x1 (Nat.le_refl _);obtain⟨D2,d2,rfl,_⟩:=hB2.slice;obtain⟨v3,V3,EL,hB3,LZ,_⟩:=RV V2.heap.size rfl HKC.out x2 hB2.done hb3.size (by omega);obtain⟨D3,d3,rfl,_⟩:=hB3.slice;exact⟨D1,m1,d1,V1,D2,_,d2,V2,D3,_,d3,V3,lD,kK,EL,x1,x2,LZ w5 hb3 (Nat.le_refl _),by rw[Xw.out,<-List.append_assoc,<-HCU.out];exact hB3⟩
          clear hcp hPp hp hK jo HK hup;go_wp2;refine wp_region_held_drew (S:=fun V:World=>V.cell? ⟨b2,off2+j,none⟩=some (.slice Ab bg.length cb)/\V.cell? ⟨bp,VM+i,none⟩=some (.slice Aq p.length cq)) (by kernel_rfl) (HX0.out _ (hb3.trans (Ext.refl _)).drew) (fun hHeld=>?_);simp only[List.size_toArray,List.length_cons,List.length_nil,Nat.zero_add,Nat.reduceAdd];refine eu 0 (.slice An cur.length cn) rfl (Or.inl ⟨by kernel_rfl,fun V ⟨s1,s2⟩=>by go_simp⟩) hHeld ?_;try go_frame
          refine eu 1 (.slice (some ⟨b2,off2,none⟩) (bG h k).length co) rfl (Or.inl ⟨by kernel_rfl,fun V ⟨s1,s2⟩=>by go_simp⟩) hHeld ?_;try go_frame
          refine eu 2 (.int .i64 (j:Int)) rfl (Or.inl ⟨by kernel_rfl,fun V ⟨s1,s2⟩=>by go_simp⟩) hHeld ?_;try go_frame
          refine eu 3 (.pointer (some ⟨b2,off2+j,none⟩)) rfl (Or.inl ⟨by kernel_rfl,fun V ⟨s1,s2⟩=>by go_simp⟩) hHeld ?_;try go_frame
          refine eu 4 (.slice Ab bg.length cb) rfl (Or.inl ⟨by kernel_rfl,fun V ⟨s1,s2⟩=>by go_simp⟩) hHeld ?_;try go_frame
          refine eu 7 (.slice (some ⟨bp,VM,none⟩) ps.length cp) rfl (Or.inl ⟨by kernel_rfl,fun V ⟨s1,s2⟩=>by go_simp⟩) hHeld ?_;try go_frame
          refine eu 8 (.int .i64 (i:Int)) rfl (Or.inl ⟨by kernel_rfl,fun V ⟨s1,s2⟩=>by go_simp⟩) hHeld ?_;try go_frame
          refine eu 9 (.pointer (some ⟨bp,VM+i,none⟩)) rfl (Or.inl ⟨by kernel_rfl,fun V ⟨s1,s2⟩=>by go_simp⟩) hHeld ?_;try go_frame
          refine eu 10 (.slice Aq p.length cq) rfl (Or.inl ⟨by kernel_rfl,fun V ⟨s1,s2⟩=>by go_simp⟩) hHeld ?_;try go_frame
          refine wpAnyH_ready (rs:=[5,6]) (by kernel_rfl) (by simp) ?_;refine AllReadyH.cons rfl (fun K hK=>?_) (AllReadyH.cons rfl (fun K hK=>?_) AllReadyH.nil)
          ·go_simp
           refine(HOWN.out _ ((Ext.refl wr).drew)).mono ?_
           rintro e V2 ⟨v2,rfl,hcp,b2'⟩;obtain⟨us,hu1,hu2,hu3⟩:=hcp;obtain⟨Av,nv,cv,rfl⟩:=iK hu1;refine hK.out _ _ (HX0.out _ (hb3.trans ((Ext.refl wr).drew.trans b2'))) (fun hHeld=>?_);clear hK K;try go_frame
           refine wpAnyH_ready (rs:=[6]) (by kernel_rfl) (by simp) ?_;refine AllReadyH.cons rfl (fun K hK=>?_) AllReadyH.nil;go_simp;refine hK.out _ _ (HX0.out _ (hb3.trans (((Ext.refl wr).drew.trans b2').alloc _))) (fun hHeld=>?_);clear hK K;try go_frame
           have hE9:Ext V2 (V2.alloc (.cells #[] 3)):=(Ext.refl _).alloc _;have hcopy:EF wr.heap.size V2.heap.size (V2.alloc (.cells #[] 3)) (.slice Av nv cv) bg:=⟨us,Row.ext (hu1.low (by first|exact Nat.le_refl _|simp)) hE9,hu2,fun i u x h1 h2=>⟨mo.ext (hu3 i u x h1 h2).1 hE9,fun a n c e hn=>by obtain⟨cs,fr,hg⟩:=(hu3 i u x h1 h2).1.2.1 a n c e hn;have:=(Array.getElem?_eq_some_iff.1 hg).1;omega⟩⟩;have sJ:Row 3 1 (one encI) wr.heap.size (V2.alloc (.cells #[] 3)) (.slice (some ⟨V2.heap.size,0,none⟩) 0 0) ([]:List Int):=bT.low ((Ext.refl wr).drew.trans b2').size;have hx:=((Ext.refl wr).drew.trans b2').alloc (.cells #[] 3);obtain⟨D1,n1,c1,V1,D2,n2,c2,V2,D3,n3,c3,V3,hr1,hr2,hr3,x1,x2,x3,hbs⟩:=jl.out _ _ _ hcopy sJ hx;have HR1:=aa hr1;have HR2:=aa hr2;have HR3:=aa hr3;have LW:=aa x1;have uP:=aa x2;have Vt:=aa x3;have G8:=aa hbs;clear hcopy sJ hx hr1 hr2 hr3 x1 x2 x3 hbs;refine wpAnyH_ready (rs:=[11]) (by kernel_rfl) (by simp) ?_;refine AllReadyH.cons rfl (fun K hK=>?_) AllReadyH.nil;refine aJ (by rfl) (by rfl) (by rfl) (by rfl) HR1.out ?_;refine hK.out _ _ (HX0.out _ (hb3.trans (LW.out))) (fun hHeld=>?_);clear hK K;try go_frame
           refine wpAnyH_ready (rs:=[12]) (by kernel_rfl) (by simp) ?_;refine AllReadyH.cons rfl (fun K hK=>?_) AllReadyH.nil;go_simp;refine hK.out _ _ (HX0.out _ (hb3.trans (LW.out.alloc _))) (fun hHeld=>?_);clear hK K;try go_frame
           refine wpAnyH_ready (rs:=[13]) (by kernel_rfl) (by simp) ?_;refine AllReadyH.cons rfl (fun K hK=>?_) AllReadyH.nil;refine aJ (by rfl) (by rfl) (by rfl) (by rfl) HR2.out ?_;refine hK.out _ _ (HX0.out _ (hb3.trans (uP.out))) (fun hHeld=>?_);clear hK K;try go_frame
           refine wpAnyH_ready (rs:=[14]) (by kernel_rfl) (by simp) ?_;refine AllReadyH.cons rfl (fun K hK=>?_) AllReadyH.nil;go_simp;refine hK.out _ _ (HX0.out _ (hb3.trans (uP.out.alloc _))) (fun hHeld=>?_);clear hK K;try go_frame
           refine wpAnyH_ready (rs:=[15]) (by kernel_rfl) (by simp) ?_;refine AllReadyH.cons rfl (fun K hK=>?_) AllReadyH.nil;refine aJ (by rfl) (by rfl) (by rfl) (by rfl) HR3.out ?_;refine hK.out _ _ (HX0.out _ (Vt.out)) (fun hHeld=>?_);clear hK K;try go_frame
           refine wpAnyH_ready (rs:=[16]) (by kernel_rfl) (by simp) ?_;refine AllReadyH.cons rfl (fun K hK=>?_) AllReadyH.nil;go_simp;refine hK.out _ _ (HX0.out _ (Vt.out)) (fun hHeld=>?_);clear hK K;try go_frame
           refine wpAnyH_done (by kernel_rfl) ?_ _;clear hHeld;go_wp2;go_roundw;case rel=>exact⟨Vt.out,i+1,by omega,by go_num,G8.out⟩
           case measure=>simp[intOf];omega
          ·go_simp;refine hK.out _ _ (HX0.out _ (hb3.trans ((Ext.refl wr).drew.alloc _))) (fun hHeld=>?_);clear hK K;try go_frame
           refine wpAnyH_ready (rs:=[5]) (by kernel_rfl) (by simp) ?_;refine AllReadyH.cons rfl (fun K hK=>?_) AllReadyH.nil;go_simp
           refine(HOWN.out _ ((Ext.refl wr).drew.alloc (.cells #[] 3))).mono ?_
           rintro e V2 ⟨v2,rfl,hcp,b2'⟩;obtain⟨us,hu1,hu2,hu3⟩:=hcp;obtain⟨Av,nv,cv,rfl⟩:=iK hu1;refine hK.out _ _ (HX0.out _ (hb3.trans (((Ext.refl wr).drew.alloc (.cells #[] 3)).trans b2'))) (fun hHeld=>?_);clear hK K;try go_frame
           have hcopy:EF wr.heap.size wr.heap.size V2 (.slice Av nv cv) bg:=⟨us,hu1.low (by first|exact Nat.le_refl _|simp),hu2,fun i u x h1 h2=>⟨(hu3 i u x h1 h2).1,fun a n c e hn=>by have:=(hu3 i u x h1 h2).2 a n c e hn;simp at this;omega⟩⟩;have sJ:Row 3 1 (one encI) wr.heap.size V2 (.slice (some ⟨wr.heap.size,0,none⟩) 0 0) ([]:List Int):=Row.ext (bT (w:=wr.drew)) b2';have hx:=((Ext.refl wr).drew.alloc (.cells #[] 3)).trans b2';obtain⟨D1,n1,c1,V1,D2,n2,c2,V2,D3,n3,c3,V3,hr1,hr2,hr3,x1,x2,x3,hbs⟩:=jl.out _ _ _ hcopy sJ hx;have HR1:=aa hr1;have HR2:=aa hr2;have HR3:=aa hr3;have LW:=aa x1;have uP:=aa x2;have Vt:=aa x3;have G8:=aa hbs;clear hcopy sJ hx hr1 hr2 hr3 x1 x2 x3 hbs;refine wpAnyH_ready (rs:=[11]) (by kernel_rfl) (by simp) ?_;refine AllReadyH.cons rfl (fun K hK=>?_) AllReadyH.nil;refine aJ (by rfl) (by rfl) (by rfl) (by rfl) HR1.out ?_;refine hK.out _ _ (HX0.out _ (hb3.trans (LW.out))) (fun hHeld=>?_);clear hK K;try go_frame
           refine wpAnyH_ready (rs:=[12]) (by kernel_rfl) (by simp) ?_;refine AllReadyH.cons rfl (fun K hK=>?_) AllReadyH.nil;go_simp;refine hK.out _ _ (HX0.out _ (hb3.trans (LW.out.alloc _))) (fun hHeld=>?_);clear hK K;try go_frame
           refine wpAnyH_ready (rs:=[13]) (by kernel_rfl) (by simp) ?_;refine AllReadyH.cons rfl (fun K hK=>?_) AllReadyH.nil;refine aJ (by rfl) (by rfl) (by rfl) (by rfl) HR2.out ?_;refine hK.out _ _ (HX0.out _ (hb3.trans (uP.out))) (fun hHeld=>?_);clear hK K;try go_frame
           refine wpAnyH_ready (rs:=[14]) (by kernel_rfl) (by simp) ?_;refine AllReadyH.cons rfl (fun K hK=>?_) AllReadyH.nil;go_simp;refine hK.out _ _ (HX0.out _ (hb3.trans (uP.out.alloc _))) (fun hHeld=>?_);clear hK K;try go_frame
           refine wpAnyH_ready (rs:=[15]) (by kernel_rfl) (by simp) ?_;refine AllReadyH.cons rfl (fun K hK=>?_) AllReadyH.nil;refine aJ (by rfl) (by rfl) (by rfl) (by rfl) HR3.out ?_;refine hK.out _ _ (HX0.out _ (Vt.out)) (fun hHeld=>?_);clear hK K;try go_frame
           refine wpAnyH_ready (rs:=[16]) (by kernel_rfl) (by simp) ?_;refine AllReadyH.cons rfl (fun K hK=>?_) AllReadyH.nil;go_simp;refine hK.out _ _ (HX0.out _ (Vt.out)) (fun hHeld=>?_);clear hK K;try go_frame
           refine wpAnyH_done (by kernel_rfl) ?_ _;clear hHeld;go_wp2;go_roundw;case rel=>exact⟨Vt.out,i+1,by omega,by go_num,G8.out⟩
           case measure=>simp[intOf];omega
         ·obtain rfl:i=ps.length:=by omega
          have hk:=HK.out;rw[List.take_length,<-aea.out]at hk;have HK':=aa hk;clear HK hk;go_wp2;go_roundw;case rel=>exact⟨hb3,j+1,by omega,by go_num,HK'.out⟩
          case measure=>simp[intOf];omega
       ·obtain rfl:j=(bG h k).length:=by omega
        have hd:=HJ.out.done;rw[Dh]at hd;have HD:=aa hd;clear HJ hd;go_wp2;go_roundw;case rel=>exact⟨Ea.out.trans hb2,k+1,by omega,by go_num,HD.out⟩
        case measure=>simp[intOf];omega
     ·obtain rfl:k=3:=by omega
      obtain⟨Ao,co,rfl,_⟩:=HI.out.slice;go_wp2;go_returns;exact⟨_,rfl,by rw[HR.out];exact HI.out,HB2.out.trans hb⟩
   ·have HR:Hid (eZ h=[]):=if_neg fun hc=>hm hc.2;have hmi:(200:Int)<((iw h:Nat):Int):=by omega
    obtain⟨m,hm2⟩:∃m,iw h=m:=⟨_,rfl⟩;rw[hm2]at hmi ⊢;clear hm2 hm hq;go_wp2;go_returns;exact⟨_,rfl,by rw[HR.out];exact(Bs.nil (T:=83) (P:=I2) wr).done,(HB2.out.trans hb).alloc _⟩
theorem EE{h:List aA}{ds:List Edge}{l:Nat}(ha:fA h ds (l+1)=false):fI h ds (l+1)=fI h ds l:=vO ha
theorem VF{ds:List Edge}{many:Nat}(hm:many<=6)(hok:∀e∈ds,edgeOk many e){e:Edge}(he:edgeOk many e)(hk:e.kind=3){fn tn:Nat}(hfn:e.dV=(fn:Int))(htn:e.to=(tn:Int)){f:List Int}(hF:uC (gD ds 2) (fn:Int) many many f){d:Int}(hd:f[tn]? =some d):lW ds e=decide (0<=d):=by
 have hfl:=vP (k:=2) hok;have hlt:fn<many:=by have:=he.1.2;omega
 have h1:=U2 hF hlt hfl hd;have h2:=Wl (es:=ds) hm hfl he;rw[(uh hok).2.1]at h1 h2;rw[<-hfn,<-htn]at h1;unfold lW;rw[hk,Bool.eq_iff_iff,Bool.and_eq_true,h2,decide_eq_true_eq,h1];simp
theorem Gw{v:Value}{ds:List Edge}(many:Nat)(kind:Int)(w:World)(hm:many<=6)(h:aF 3 aR w v ds)(hl:ds.length<=144)(hok:∀e∈ds,edgeOk many e)(hk:1<=kind/\kind<=4) :
 Calls Tryz.prog 112 #[.int .i64 (many:Int),v,.int .i64 kind] w fun e w'=>e=.returned (.bool (dX ds kind))/\Ext w w':=by
 obtain⟨A,c,rfl,hc⟩:=id h;have HC:=aa hc;have HV:=aa (fun W (b:Ext w W)=>uI many W hm (h.ext b) hl hok);have hkk:kind=1∨kind=2∨kind=4∨kind=3:=by omega
 clear hc hk;rcases hkk with rfl|rfl|rfl|rfl
 ·obtain⟨hA,HE⟩:dX ds 1=Bz (gD ds 1)/\(∀e∈gD ds 1,edgeOk many e):=⟨by rw[(uh hok).1];simp[dX],vP hok⟩;have BJ:(gD ds 1).length<=144:=Nat.le_trans (List.length_filter_le _ _) hl;have HU:=aa (fun W (b:Ext w W)=>qN 1 W (h.ext b) (by omega));have ZV:=aa (fun W v (hh:aF 3 aR W v (gD ds 1))=>vJ many W hm hh BJ HE);rw[hA];clear h hok hA HE BJ;go_enter Tryz.func112,Tryz.ntmps112;go_wp2_with fail
  refine(HV.out _ (Ext.refl _)).mono ?_
  rintro e w1 ⟨rfl,b1⟩;go_wp2_with fail
  refine(HU.out _ b1).mono ?_
  rintro e w2 ⟨v2,rfl,r2,b2⟩;have UZ:=aa (ZV.out w2 _ r2.cell.1);obtain⟨A2,c2,rfl,_⟩:=id r2.cell.1;clear r2;go_wp2_with fail
  refine UZ.out.mono ?_;rintro e w3 ⟨A3,n3,c3,rfl,Jl,ZQ,b3⟩
  cases hcy:Bz (gD ds 1) with
  | true=>
    have hn:(0:Int)<(n3:Int):=by have:=Jl.2 hcy;omega
    have HD:Hid (decide (0<n3)=Bz (gD ds 1)):=by show _ = _;rw[hcy];simp;omega
    clear Jl hcy;go_wp2;go_returns;exact⟨aN HD.out,(b1.trans b2).trans b3⟩
  | false=>
    have hn:¬((0:Int)<(n3:Int)):=fun e=>by have:=Jl.1 (by omega);rw[hcy]at this;cases this
    have HD:Hid (decide (0<n3)=Bz (gD ds 1)):=by show _ = _;rw[hcy];simp;omega
    clear Jl hcy;go_wp2;go_returns;exact⟨aN HD.out,(b1.trans b2).trans b3⟩
 ·obtain⟨hA,HE⟩:dX ds 2=Bz (gD ds 2)/\(∀e∈gD ds 2,edgeOk many e):=⟨by rw[(uh hok).2.1];simp[dX],vP hok⟩;have BJ:(gD ds 2).length<=144:=Nat.le_trans (List.length_filter_le _ _) hl;have HU:=aa (fun W (b:Ext w W)=>qN 2 W (h.ext b) (by omega));have ZV:=aa (fun W v (hh:aF 3 aR W v (gD ds 2))=>vJ many W hm hh BJ HE);rw[hA];clear h hok hA HE BJ;go_enter Tryz.func112,Tryz.ntmps112;go_wp2_with fail
  refine(HV.out _ (Ext.refl _)).mono ?_
  rintro e w1 ⟨rfl,b1⟩;go_wp2_with fail
  refine(HU.out _ b1).mono ?_
  rintro e w2 ⟨v2,rfl,r2,b2⟩;have UZ:=aa (ZV.out w2 _ r2.cell.1);obtain⟨A2,c2,rfl,_⟩:=id r2.cell.1;clear r2;go_wp2_with fail
  refine UZ.out.mono ?_;rintro e w3 ⟨A3,n3,c3,rfl,Jl,ZQ,b3⟩
  cases hcy:Bz (gD ds 2) with
  | true=>
    have hn:(0:Int)<(n3:Int):=by have:=Jl.2 hcy;omega
    have HD:Hid (decide (0<n3)=Bz (gD ds 2)):=by show _ = _;rw[hcy];simp;omega
    clear Jl hcy;go_wp2;go_returns;exact⟨aN HD.out,(b1.trans b2).trans b3⟩
  | false=>
    have hn:¬((0:Int)<(n3:Int)):=fun e=>by have:=Jl.1 (by omega);rw[hcy]at this;cases this
    have HD:Hid (decide (0<n3)=Bz (gD ds 2)):=by show _ = _;rw[hcy];simp;omega
    clear Jl hcy;go_wp2;go_returns;exact⟨aN HD.out,(b1.trans b2).trans b3⟩
 ·obtain⟨hA,HE⟩:dX ds 4=Bz (gD ds 3)/\(∀e∈gD ds 3,edgeOk many e):=⟨by rw[(uh hok).2.2];simp[dX],vP hok⟩;have BJ:(gD ds 3).length<=144:=Nat.le_trans (List.length_filter_le _ _) hl;have HU:=aa (fun W (b:Ext w W)=>qN 3 W (h.ext b) (by omega));have ZV:=aa (fun W v (hh:aF 3 aR W v (gD ds 3))=>vJ many W hm hh BJ HE);rw[hA];clear h hok hA HE BJ;go_enter Tryz.func112,Tryz.ntmps112;go_wp2_with fail
  refine(HV.out _ (Ext.refl _)).mono ?_
  rintro e w1 ⟨rfl,b1⟩;go_wp2_with fail
  refine(HU.out _ b1).mono ?_
  rintro e w2 ⟨v2,rfl,r2,b2⟩;have UZ:=aa (ZV.out w2 _ r2.cell.1);obtain⟨A2,c2,rfl,_⟩:=id r2.cell.1;clear r2;go_wp2_with fail
  refine UZ.out.mono ?_;rintro e w3 ⟨A3,n3,c3,rfl,Jl,ZQ,b3⟩
  cases hcy:Bz (gD ds 3) with
  | true=>
    have hn:(0:Int)<(n3:Int):=by have:=Jl.2 hcy;omega
    have HD:Hid (decide (0<n3)=Bz (gD ds 3)):=by show _ = _;rw[hcy];simp;omega
    clear Jl hcy;go_wp2;go_returns;exact⟨aN HD.out,(b1.trans b2).trans b3⟩
  | false=>
    have hn:¬((0:Int)<(n3:Int)):=fun e=>by have:=Jl.1 (by omega);rw[hcy]at this;cases this
    have HD:Hid (decide (0<n3)=Bz (gD ds 3)):=by show _ = _;rw[hcy];simp;omega
    clear Jl hcy;go_wp2;go_returns;exact⟨aN HD.out,(b1.trans b2).trans b3⟩
 ·have hA:dX ds 3=ds.any (lW ds):=by simp[dX]
  have HA:=aa hA;have dO:=aa hok;have HE:=aa (vP (k:=2) hok);have BJ:(gD ds 2).length<=144:=Nat.le_trans (List.length_filter_le _ _) hl;have HU:=aa (fun W (b:Ext w W)=>qN 2 W (h.ext b) (by omega));have HFF:=aa (fun W v (hh:aF 3 aR W v (gD ds 2)) (t:Nat) (ht:t<many)=>J4 many t W hm ht hh (by omega) HE.out);clear h hok hA;go_enter Tryz.func112,Tryz.ntmps112;go_wp2_with fail
  refine(HV.out _ (Ext.refl _)).mono ?_
  rintro e w1 ⟨rfl,b1⟩;go_wp2_with fail
  refine(HU.out _ b1).mono ?_
  rintro e w2 ⟨v2,rfl,r2,b2⟩;obtain⟨A2,c2,rfl,_⟩:=id r2.cell.1;have HF:=aa (fun W (b:Ext w2 W)=>HFF.out W _ (r2.cell.1.ext b));have HB2:=aa (b1.trans b2);clear r2 b1 b2;go_wp2;go_loopw [8] (fun i wr=>Ext w2 wr/\∃k:Nat,k<=ds.length/\i=.int .i64 (k:Int)/\Hid (∀(i:Nat) x,i<k->ds[i]? =some x->lW ds x=false)) (fun i _=>ds.length-(intOf i).toNat)
  case atStart=>exact⟨Ext.refl _,0,Nat.zero_le _,rfl,fun i x hi=>absurd hi (Nat.not_lt_zero _)⟩
  case round=>
   obtain⟨hv,k,hk,rfl,HI⟩:=hrel;by_cases hlt:k<ds.length
   ·obtain⟨b,off,rfl,hbl,hcc⟩:=HC.out (by omega);obtain⟨y,hy⟩:=af hlt;have hoe:=dO.out y (List.mem_of_getElem? hy);have hx:=HB2.out.trans hv;have d0:=hx.cell (hcc k y hy 0 (by omega));have d1:=hx.cell (hcc k y hy 1 (by omega));have d2:=hx.cell (hcc k y hy 2 (by omega));simp only[aR,Nat.add_zero]at d0 d1 d2;obtain⟨fn,hfn⟩:=Int.eq_ofNat_of_zero_le hoe.1.1;obtain⟨tn,htn⟩:=Int.eq_ofNat_of_zero_le hoe.2.1.1;have hfm:fn<many:=by have:=hoe.1.2;omega
    have htm:tn<many:=by have:=hoe.2.1.2;omega
    have HY:=aa hy;have HEM:=aa (List.mem_of_getElem? hy);have HFN:=aa hfn;have HTN:=aa htn;have HEO:=aa hoe;rw[show (y.dV:Int)=(fn:Int) from hfn]at d0;rw[show (y.to:Int)=(tn:Int) from htn]at d1;have i1:(k:Int)<(ds.length:Int):=by omega
    have i2:(0:Int)<=(k:Int):=by omega
    have i3:(0:Int)<=(tn:Int):=by omega
    have i4:(tn:Int)<(many:Int):=by omega
    clear hcc hy hoe hfn htn hx;by_cases hk3:y.kind=3
    ·have HK3:=aa hk3;rw[hk3]at d2;clear hk3;go_wp2;refine wp_region_held_drew (S:=(fun V:World=>V.cell? ⟨b,off+k*3,none⟩=some (.int .i64 (fn:Int))/\V.cell? ⟨b,off+k*3+1,none⟩=some (.int .i64 (tn:Int))/\V.cell? ⟨b,off+k*3+2,none⟩=some (.int .i64 3))) (by kernel_rfl) ⟨d0,d1,d2⟩ (fun hHeld=>?_);simp only[List.size_toArray,List.length_cons,List.length_nil,Nat.zero_add,Nat.reduceAdd];refine eu 0 (.slice (some ⟨b,off,none⟩) ds.length c) rfl (Or.inl ⟨by kernel_rfl,fun V ⟨s1,s2,s3⟩=>by go_simp⟩) hHeld ?_;try go_frame
     refine eu 1 (.int .i64 (k:Int)) rfl (Or.inl ⟨by kernel_rfl,fun V ⟨s1,s2,s3⟩=>by go_simp⟩) hHeld ?_;try go_frame
     refine eu 2 (.pointer (some ⟨b,off+k*3,none⟩)) rfl (Or.inl ⟨by kernel_rfl,fun V ⟨s1,s2,s3⟩=>by go_simp⟩) hHeld ?_;try go_frame
     refine eu 3 (.pointer (some ⟨b,off+k*3+2,none⟩)) rfl (Or.inl ⟨by kernel_rfl,fun V ⟨s1,s2,s3⟩=>by go_simp⟩) hHeld ?_;try go_frame
     refine eu 4 (.int .i64 3) rfl (Or.inl ⟨by kernel_rfl,fun V ⟨s1,s2,s3⟩=>by go_simp⟩) hHeld ?_;try go_frame
     refine eu 5 (.bool true) rfl (Or.inl ⟨by kernel_rfl,fun V ⟨s1,s2,s3⟩=>by go_simp⟩) hHeld ?_;try go_frame
     refine eu 6 (.bool true) rfl (Or.inl ⟨by kernel_rfl,fun V ⟨s1,s2,s3⟩=>by go_simp⟩) hHeld ?_;try go_frame
     refine eu 7 (.int .i64 (many:Int)) rfl (Or.inl ⟨by kernel_rfl,fun V ⟨s1,s2,s3⟩=>by go_simp⟩) hHeld ?_;try go_frame
     refine eu 8 (.slice A2 (gD ds 2).length c2) rfl (Or.inl ⟨by kernel_rfl,fun V ⟨s1,s2,s3⟩=>by go_simp⟩) hHeld ?_;try go_frame
     refine eu 9 (.slice (some ⟨b,off,none⟩) ds.length c) rfl (Or.inl ⟨by kernel_rfl,fun V ⟨s1,s2,s3⟩=>by go_simp⟩) hHeld ?_;try go_frame
     refine eu 10 (.int .i64 (k:Int)) rfl (Or.inl ⟨by kernel_rfl,fun V ⟨s1,s2,s3⟩=>by go_simp⟩) hHeld ?_;try go_frame
     refine eu 11 (.pointer (some ⟨b,off+k*3,none⟩)) rfl (Or.inl ⟨by kernel_rfl,fun V ⟨s1,s2,s3⟩=>by go_simp⟩) hHeld ?_;try go_frame
     refine eu 12 (.pointer (some ⟨b,off+k*3,none⟩)) rfl (Or.inl ⟨by kernel_rfl,fun V ⟨s1,s2,s3⟩=>by go_simp⟩) hHeld ?_;try go_frame
     refine eu 13 (.int .i64 (fn:Int)) rfl (Or.inl ⟨by kernel_rfl,fun V ⟨s1,s2,s3⟩=>by go_simp⟩) hHeld ?_;try go_frame
     refine eu 15 (.slice (some ⟨b,off,none⟩) ds.length c) rfl (Or.inl ⟨by kernel_rfl,fun V ⟨s1,s2,s3⟩=>by go_simp⟩) hHeld ?_;try go_frame
     refine eu 16 (.int .i64 (k:Int)) rfl (Or.inl ⟨by kernel_rfl,fun V ⟨s1,s2,s3⟩=>by go_simp⟩) hHeld ?_;try go_frame
     refine eu 17 (.pointer (some ⟨b,off+k*3,none⟩)) rfl (Or.inl ⟨by kernel_rfl,fun V ⟨s1,s2,s3⟩=>by go_simp⟩) hHeld ?_;try go_frame
     refine eu 18 (.pointer (some ⟨b,off+k*3+1,none⟩)) rfl (Or.inl ⟨by kernel_rfl,fun V ⟨s1,s2,s3⟩=>by go_simp⟩) hHeld ?_;try go_frame
     refine eu 19 (.int .i64 (tn:Int)) rfl (Or.inl ⟨by kernel_rfl,fun V ⟨s1,s2,s3⟩=>by go_simp⟩) hHeld ?_;try go_frame
     refine wpAnyH_ready (rs:=[14]) (by kernel_rfl) (by simp) ?_;refine AllReadyH.cons rfl (fun K hK=>?_) AllReadyH.nil;go_simp
     refine(HF.out _ hv.drew fn hfm).mono ?_
     rintro e w6 ⟨g,cg,f,rfl,hI,UU,-,b6⟩;have d0:=b6.cell d0;have d1:=b6.cell d1;have d2:=b6.cell d2;obtain⟨dt,hdt⟩:=af (show tn<f.length by rw[UU.len];exact htm);have dI:w6.cell? ⟨g,tn,none⟩=some (.int .i64 dt):=by have:=hI.at_ tn dt hdt;rwa [Nat.zero_add]at this
     have qz:=aa (VF hm dO.out HEO.out HK3.out HFN.out HTN.out UU hdt);have HX6:=aa (hv.drew.trans b6);clear hI UU hdt b6;refine hK.out _ _ ⟨d0,d1,d2⟩ (fun hHeld=>?_);clear hK K;try go_frame
     refine eu 20 (.pointer (some ⟨g,tn,none⟩)) rfl (Or.inl ⟨by kernel_rfl,fun V ⟨s1,s2,s3⟩=>by go_simp⟩) hHeld ?_;try go_frame
     refine wpAnyH_ready (rs:=[21]) (by kernel_rfl) (by simp) ?_;refine AllReadyH.cons rfl (fun K hK=>?_) AllReadyH.nil;go_simp;refine hK.out _ _ ⟨d0,d1,d2⟩ (fun hHeld=>?_);clear hK K;try go_frame
     by_cases hd0:0<=dt
     ·have HR:Hid (dX ds 3=true):=by show _ = _;rw[HA.out,List.any_eq_true];exact⟨_,HEM.out,by rw[qz.out,decide_eq_true hd0]⟩
      refine eu 22 (.bool true) rfl (Or.inl ⟨by kernel_rfl,fun V ⟨s1,s2,s3⟩=>by go_simp⟩) hHeld ?_;try go_frame
      refine eu 23 (.bool true) rfl (Or.inl ⟨by kernel_rfl,fun V ⟨s1,s2,s3⟩=>by go_simp⟩) hHeld ?_;try go_frame
      refine wpAnyH_done (by kernel_rfl) ?_ _;clear hHeld d0 d1 d2 dI;go_wp2;go_returns;exact⟨aN HR.out.symm,HB2.out.trans HX6.out⟩
     ·have HN:Hid (lW ds y=false):=by show _ = _;rw[qz.out,decide_eq_false hd0]
      refine eu 22 (.bool false) rfl (Or.inl ⟨by kernel_rfl,fun V ⟨s1,s2,s3⟩=>by go_simp⟩) hHeld ?_;try go_frame
      refine eu 23 (.bool false) rfl (Or.inl ⟨by kernel_rfl,fun V ⟨s1,s2,s3⟩=>by go_simp⟩) hHeld ?_;try go_frame
      refine wpAnyH_done (by kernel_rfl) ?_ _;clear hHeld d0 d1 d2 dI;go_wp2;go_roundw;case rel=>exact⟨HX6.out,k+1,by omega,by go_num,fun i x hi hx=>by
       rcases Nat.lt_or_ge i k with h'|h'
       ·exact HI.out i x h' hx
       ·obtain rfl:i=k:=by omega
        rw[HY.out]at hx;cases hx;exact HN.out⟩
      case measure=>simp[intOf];omega
    ·have HN:Hid (lW ds y=false):=by show _ = _;simp[lW,hk3]
     have q1:(y.kind==3)=false:=by simp[hk3]
     have e0:∀e,(over wr e).cell? ⟨b,off+k*3,none⟩=some (.int .i64 (fn:Int)):=aG d0;have e1:∀e,(over wr e).cell? ⟨b,off+k*3+1,none⟩=some (.int .i64 (tn:Int)):=aG d1;have e2:∀e,(over wr e).cell? ⟨b,off+k*3+2,none⟩=some (.int .i64 y.kind):=aG d2;clear hk3;go_wp2;refine aO (by kernel_rfl) (by kernel_rfl) ?_;repeat (go_big_quiet_step (fail))
     refine wpQuiet_nil ?_;intro w3 hb3;clear e0 e1 e2 d0 d1 d2;go_wp2;go_roundw;case rel=>exact⟨hv.trans hb3,k+1,by omega,by go_num,fun i x hi hx=>by
      rcases Nat.lt_or_ge i k with h'|h'
      ·exact HI.out i x h' hx
      ·obtain rfl:i=k:=by omega
       rw[HY.out]at hx;cases hx;exact HN.out⟩
     case measure=>simp[intOf];omega
   ·obtain rfl:k=ds.length:=by omega
    have HR:Hid (dX ds 3=false):=by
     show _ = _;rw[HA.out,List.any_eq_false];intro x hx;obtain⟨i,hi,rfl⟩:=List.getElem_of_mem hx;rw[HI.out i _ hi (List.getElem?_eq_getElem hi)]
     decide
    go_wp2;go_returns;exact⟨aN HR.out.symm,HB2.out.trans hv⟩
theorem BP{v u:Value}{h:List aA}{os:List (List Int)}(l:Nat)(w:World)(H:gL w v h)(hok:aC h=true)(hu:I2 w u os)(ho:jQ h os)(hl:l<=4) :
 Calls Tryz.prog 84 #[v,u,.int .i64 (l:Int)] w fun e w'=>e=.returned (.bool (fA h (bZ h os) l))/\Ext w w':=by
 obtain⟨A,c,rfl⟩:=H.slice;have hlen:=aM hok;have hst:=dZ (T:=83) (by decide);have qz:=aa (fun W (b:Ext w W)=>rZ W (H.ext b) hok (hu.ext hst b) ho);have HED:=aa (fun W (b:Ext w W)=>KR W (H.ext b) hok (hu.ext hst b) ho);have HRR:=aa (fun W (b:Ext w W)=>DK W (H.ext b) hok);have b0:jR (l:Int) 0 4=true:=bL.2 (by omega);obtain⟨r,hr⟩:∃r,fA h (bZ h os) l=r:=⟨_,rfl⟩;rw[hr];clear H hu ho;go_enter Tryz.func84,Tryz.ntmps84;go_wp2_with fail
 refine(qz.out _ (Ext.refl _)).mono ?_
 rintro e w1 ⟨rfl,b1⟩;go_wp2_with (first|(go_at_call 48;refine(dY _ _ _ _).mono ?_;rw[b0];rintro e w' ⟨rfl,rfl⟩)|fail)
 refine(HED.out _ b1).mono ?_
 rintro e w2 ⟨v2,ds,rfl,r2,hmem,hdl,b2⟩;have hed:∀e∈ds,edgeOk h.length e:=fun e he=>vG ((hmem e).1 he);have HS:Hid (r=fA h ds l):=hr.symm.trans (y9 hmem l).symm;have HA:=aa (fun W (b:Ext w2 W) k hk=>Gw h.length k W hlen (r2.cell.1.ext b) hdl hed hk);obtain⟨A2,c2,rfl,_⟩:=id r2.cell.1;have HB2:=aa (b1.trans b2);clear r2 hmem hed b1 b2 hr;go_wp2;go_loopw [8] (fun i wr=>Ext w2 wr/\∃k:Nat,k<=l/\i=.int .i64 ((k:Int)+1)/\Hid (mO ds k=false)) (fun i _=>l+1-(intOf i).toNat)
 case atStart=>exact⟨Ext.refl _,0,Nat.zero_le _,rfl,rfl⟩
 case round=>
  obtain⟨hv,k,hk,rfl,HI⟩:=hrel;by_cases hlt:k<l
  ·have hki:(k:Int)+1<=(l:Int):=by omega
   have HAK:=aa (HA.out _ hv ((k:Int)+1) (by omega));have HN:=aa (wH ds k)
   cases ha:dX ds ((k:Int)+1) with
   | true=>
     rw[ha]at HAK HN;have HF:Hid (fA h ds l=false):=by
      show _ = _;have h1:mO ds (k+1)=true:=by rw[HN.out,Bool.or_true]
      rw[fA,Jo (by omega) h1];rfl
     clear ha;go_wp2_with fail
     refine HAK.out.mono ?_;rintro e w3 ⟨rfl,b3⟩;go_wp2;go_returns;exact⟨aN (HS.out.trans HF.out).symm,(HB2.out.trans hv).trans b3⟩
   | false=>
     rw[ha]at HAK HN;have HF:Hid (mO ds (k+1)=false):=by show _ = _;rw[HN.out,HI.out];rfl
     clear ha;go_wp2_with fail
     refine HAK.out.mono ?_;rintro e w3 ⟨rfl,b3⟩;go_wp2;go_roundw;case rel=>exact⟨hv.trans b3,k+1,by omega,by go_num,HF.out⟩
     case measure=>simp[intOf];omega
  ·obtain rfl:k=l:=by omega
   have hki:¬((k:Int)+1<=(k:Int)):=by omega
   by_cases h2:k<2
   ·have HF:Hid (fA h ds k=true):=by show _ = _;rw[fA,HI.out,decide_eq_true h2];rfl
    have h2i:(k:Int)<2:=by omega
    clear h2;go_wp2;go_returns;exact⟨aN (HS.out.trans HF.out).symm,HB2.out.trans hv⟩
   ·have HF:Hid (fA h ds k=gG h):=by show _ = _;rw[fA,HI.out,decide_eq_false h2];simp
    have h2i:¬((k:Int)<2):=by omega
    clear h2;go_wp2_with fail
    refine(HRR.out _ (HB2.out.trans hv)).mono ?_
    rintro e w3 ⟨rfl,b3⟩;go_wp2;go_returns;exact⟨aN (HS.out.trans HF.out).symm,(HB2.out.trans hv).trans b3⟩
theorem Kk{v u:Value}{h:List aA}{os:List (List Int)}(w:World)(H:gL w v h)(hok:aC h=true)(hu:I2 w u os)(ho:jQ h os) :
 Calls Tryz.prog 58 #[v,u] w fun e w'=>e=.returned (.int .i64 ((jP h (bZ h os):Nat):Int))/\Ext w w':=by
 obtain⟨A,c,rfl⟩:=H.slice;have hst:=dZ (T:=83) (by decide);have HLA:=aa (fun W (b:Ext w W) l hl=>BP l W (H.ext b) hok (hu.ext hst b) ho hl);obtain⟨ds,hds⟩:∃ds,bZ h os=ds:=⟨_,rfl⟩;rw[hds]at HLA ⊢;have HLR:Hid (jP h ds=fI h ds 4):=rfl;clear H hu ho hds;go_enter Tryz.func58,Tryz.ntmps58;go_wp2;go_loopw [5] (fun i wr=>Ext w wr/\∃m:Nat,m<=4/\i=.int .i64 (m:Int)/\Hid (jP h ds=fI h ds m)) (fun i _=>(intOf i).toNat)
 case atStart=>exact⟨Ext.refl _,4,by omega,rfl,HLR.out⟩
 case round=>
  obtain⟨hv,m,hm,rfl,HI⟩:=hrel;have HC:=aa (HLA.out _ hv m hm);have hm0:(0:Int)<=(m:Int):=by omega
  cases ha:fA h ds m with
  | true=>
    rw[ha]at HC;have HF:Hid (jP h ds=m):=HI.out.trans (xS ha);clear ha;go_wp2_with fail
    refine HC.out.mono ?_;rintro e w3 ⟨rfl,b3⟩;go_wp2;go_returns;exact⟨aX (by rw[HF.out]),hv.trans b3⟩
  | false=>
    rw[ha]at HC;obtain⟨m',rfl⟩:∃m',m=m'+1:=by
     cases m with
     | zero=>rw[zP]at ha;cases ha
     | succ m'=>exact⟨m',rfl⟩
    have HF:Hid (jP h ds=fI h ds m'):=HI.out.trans (EE ha);have hwm:IntKind.i64.wrap ((((m'+1:Nat):Int))-1)=(m':Int):=by rw[show (((m'+1:Nat):Int))-1=(m':Int) by omega];exact IntWalk.i64_in _ (by omega)
    clear ha;go_wp2_with fail
    refine HC.out.mono ?_;rintro e w3 ⟨rfl,b3⟩;go_wp2;go_roundw;case rel=>exact⟨hv.trans b3,m',by omega,by go_num,HF.out⟩
    case measure=>simp[intOf]
theorem Gu{v:Value}{h:List aA}(w:World)(H:gL w v h)(hok:aC h=true) :
 Calls Tryz.prog 28 #[v] w fun e w'=>e=.returned (.int .i64 (qP h))/\Ext w w':=by
 obtain⟨A,c,rfl⟩:=H.slice;have HAO:=aa (FL w H hok);have HLO:=aa (fun W (b:Ext w W) u os (hu:I2 W u os) (ho:jQ h os)=>Kk W (H.ext b) hok hu ho);have dO:=aa (fun os (hm:os∈eZ h)=>yZ hm);have hl:=xC h;have HBR:Hid (qP h=kV h (eZ h) (eZ h).length):=rfl;clear H hok;obtain⟨al,hal⟩:∃al,eZ h=al:=⟨_,rfl⟩;rw[hal]at HAO dO hl HBR;clear hal;have aeZ:rR 89 I2:=Ls.stays (dZ (by decide)) (by decide);obtain⟨xb,hxb⟩:∃xb,qP h=xb:=⟨_,rfl⟩;rw[hxb]at HBR ⊢;clear hxb;go_enter Tryz.func28,Tryz.ntmps28;go_wp2_with fail
 refine HAO.out.mono ?_;rintro e w1 ⟨v1,rfl,h1,b1⟩;obtain⟨A1,c1,rfl,_⟩:=Ls.slice h1;have H1:=aa h1;have HB1:=aa b1;clear h1 b1;go_wp2;go_loopw [3,5] (fun o i wr=>Ext w1 wr/\∃k:Nat,k<=al.length/\i=.int .i64 (k:Int)/\o=.int .i64 (kV h al k)) (fun _ i _=>al.length-(intOf i).toNat)
 case atStart=>exact⟨Ext.refl _,0,Nat.zero_le _,rfl,rfl⟩
 case round=>
  obtain⟨hv,k,hk,rfl,rfl⟩:=hrel;by_cases hlt:k<al.length
  ·obtain⟨os,hos⟩:=af hlt;obtain⟨b,off,rfl,_,hc⟩:=Ls.cells (H1.out.ext aeZ hv) (by omega);obtain⟨u,hu,hP⟩:=hc k os hos;obtain⟨Au,cu,rfl,_⟩:=Ls.slice hP;have HL:=aa (HLO.out _ (HB1.out.trans hv) _ os hP (dO.out os (List.mem_of_getElem? hos)));have HN:=aa (CO (h:=h) hos);have hbi:=Jt h al k;have hlr:=wN h (bZ h os);obtain⟨m,hm⟩:∃m,jP h (bZ h os)=m:=⟨_,rfl⟩;obtain⟨x,hx⟩:∃x,kV h al k=x:=⟨_,rfl⟩;rw[hm]at HL HN hlr;rw[hx]at HN hbi ⊢;clear hc hP hos hm hx;go_wp2_with fail
   refine HL.out.mono ?_;rintro e w3 ⟨rfl,b3⟩;go_wp2;go_roundw;case rel=>exact⟨hv.trans b3,k+1,by omega,by go_num,by rw[HN.out]⟩
   case measure=>simp[intOf];omega
  ·obtain rfl:k=al.length:=by omega
   rw[<-HBR.out];go_wp2;go_returns;exact⟨rfl,HB1.out.trans hv⟩
