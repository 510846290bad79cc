/- Lemmas. -/
import Derived.Test.YtcdopfdgknglfaaGreatDoorCAQ
set_option maxHeartbeats 16000000
set_option maxRecDepth 8000
set_option linter.all false
namespace Go.Proofs.YtcdopfdgknglfaaGreatDoor
open Go.RowKit
theorem LY{n:Nat}(h:n<100):Lib.decDigits n=dh n:=by
 have:∀n∈List.range 100,Lib.decDigits n=dh n:=by decide +kernel
 exact this n (j5.2 h)
theorem nJ(x:Int)(w:World)(h0:0<=x)(h1:x<100) :
 Calls Tryz.prog 49 #[.int .i64 x] w λe w'=>e=.returned (.string (tx (dh x.toNat)))/\w=w':=by
 obtain⟨n,rfl⟩:=iH h0
 refine(Tryz.strconv_Itoa_small n (by omega) w).mono ?_
 rintro e w' ⟨rfl,rfl⟩;refine⟨?_,rfl⟩;rw[LY (by omega)];rfl
theorem yT(a b c:Int)(w:World) :
 Calls Tryz.prog 50 #[.agg #[.int .i64 a,.int .i64 b,.int .i64 c]] w λe w'=>e=.returned (.string (tx [bu ⟨a,b,c⟩]))/\Ext w w':=by
 have hl:bu ⟨a,b,c⟩=if (a==2)=true then 119 else 114:=rfl
 rw[hl];clear hl;cases h:(a==2)<;>(
  go_enter Tryz.func50,Tryz.ntmps50;go_wp2_with (go_at_call 87;refine(dD _ _ _ _).mono ?_;rw[h];rintro e w' ⟨rfl,rfl⟩)
  go_returns;exact⟨rfl,((af _).alloc _).alloc _⟩)
theorem og(o:aJ)(w:World) :
 Calls Tryz.prog 40 #[fZ o] w λe w'=>e=.returned (.string (tx (jg o)))/\Ext w w':=by
 obtain⟨a,b,c⟩:=o;show Calls Tryz.prog 40 #[.agg #[.int .i64 a,.int .i64 b,.int .i64 c]] w _
 cases h:jm ⟨a,b,c⟩ with
 | false=>
   have ht:jg ⟨a,b,c⟩=[]:=by simp[jg,h]
   rw[ht];clear ht;go_enter Tryz.func40,Tryz.ntmps40;go_wp2_with (go_at_call 82;refine(qd ⟨a,b,c⟩ _).mono ?_;rw[h];rintro e w1 ⟨rfl,b1⟩)
   go_returns;exact⟨rfl,((af _).alloc _).trans b1⟩
 | true=>
   have ht:jg ⟨a,b,c⟩=[bu ⟨a,b,c⟩]++dh b.toNat++[61]++dh c.toNat:=by
    have:=jr h
    rw[jg,ah h,vD];simp only at this;have hk:dh b.toNat=[mW b.toNat]:=by unfold dh;rw[ah (by omega)]
    rw[hk];rfl
   have h0:0<=b/\b<100:=by have:=jr h;simp only at this;omega
   have h1:0<=c/\c<100:=by have:=nA h;simp only at this;omega
   rw[ht];clear ht;have l1:=nQ b.toNat;have l2:=nQ c.toNat;have a1:=dI [bu ⟨a,b,c⟩] (dh b.toNat) (by simp;omega);have a2:∀w,(Op.stringOp .add (tx ([bu ⟨a,b,c⟩]++dh b.toNat)) ⟨#[61]⟩).run Tryz.prog w = _:=dI _ [61] (by simp;omega);have a3:=dI ([bu ⟨a,b,c⟩]++dh b.toNat++[61]) (dh c.toNat) (by simp;omega);generalize tx ([bu ⟨a,b,c⟩]++dh b.toNat++[61]++dh c.toNat)=y3 at *;generalize tx ([bu ⟨a,b,c⟩]++dh b.toNat++[61])=y2 at *;generalize tx ([bu ⟨a,b,c⟩]++dh b.toNat)=y1 at *;obtain⟨z1,hz1⟩:∃z,tx [bu ⟨a,b,c⟩]=z:=⟨_,rfl⟩;obtain⟨z2,hz2⟩:∃z,tx (dh b.toNat)=z:=⟨_,rfl⟩;obtain⟨z3,hz3⟩:∃z,tx (dh c.toNat)=z:=⟨_,rfl⟩;rw[hz1,hz2]at a1;rw[hz3]at a3;have HZ:=aa (aL hz1 (aL hz2 hz3));clear hz1 hz2 hz3 l1 l2;go_enter Tryz.func40,Tryz.ntmps40;go_wp2_with (go_at_call 82;refine(qd ⟨a,b,c⟩ _).mono ?_;rw[h];rintro e w1 ⟨rfl,b1⟩)
   have c0:w1.cell? ⟨w.heap.size,0,none⟩=some (.int .i64 a):=b1.cell (az rfl);have c1:w1.cell? ⟨w.heap.size,1,none⟩=some (.int .i64 b):=b1.cell (az rfl);have c2:w1.cell? ⟨w.heap.size,2,none⟩=some (.int .i64 c):=b1.cell (az rfl);go_region_held3 (λW=>W.cell? ⟨w.heap.size,0,none⟩=some (.int .i64 a)/\W.cell? ⟨w.heap.size,1,none⟩=some (.int .i64 b)/\W.cell? ⟨w.heap.size,2,none⟩=some (.int .i64 c)) (exact⟨by assumption,by assumption,by assumption⟩) ((first|(go_at_call 50;refine(yT _ _ _ _).mono ?_;rw[HZ.out.1];rintro e w2 ⟨rfl,b2⟩;have d0:=b2.cell c0;have d1:=b2.cell c1;have d2:=b2.cell c2)|(go_at_call 49;first|(refine(nJ b _ h0.1 h0.2).mono ?_;rw[HZ.out.2.1];rintro e w' ⟨rfl,rfl⟩)|(refine(nJ c _ h1.1 h1.2).mono ?_;rw[HZ.out.2.2];rintro e w' ⟨rfl,rfl⟩))))
   go_wp2;go_returns;exact⟨rfl,(((af _).alloc _).trans b1).drew.trans b2⟩
theorem tT(sep:List UInt8):∀ws:List (List UInt8),Lib.join ws sep=joinL sep ws
 | []=>rfl
 | [x]=>by simp[Lib.join,joinL]
 | x :: y :: r=>by rw[fV sep x (y :: r) (by simp),<-tT sep (y :: r)];simp[Lib.join,List.intercalate,List.intersperse]
theorem yI{v:Value}{ws:List (List UInt8)}(sep:List UInt8)(w:World)(h:aI 1 encS w v ws)(hc:qM v)(hn:ws.length<=1000000)(hM:∀x∈ws,x.length<=1000000)(hs:sep.length<=1000000) :
 Calls Tryz.prog 51 #[v,.string (tx sep)] w λe w'=>e=.returned (.string (tx (joinL sep ws)))/\Ext w w':=by
 obtain⟨A,c,rfl,hcc⟩:=h;rcases Nat.eq_zero_or_pos ws.length with h0|h0
 ·obtain rfl:=kZ h0
  refine(Tryz.strings_Join_none A c (tx sep) w).mono ?_
  rintro e w' ⟨rfl,rfl⟩;exact⟨rfl,af _⟩
 ·obtain⟨b,off,rfl,hbl,hcc⟩:=hcc h0;have hl:(ws.map tx).length=ws.length:=by simp
  have hm:(ws.map tx).map (λx=>x.data.toList)=ws:=by rw[ND];exact(List.map_congr_left (λx _=>Dp x)).trans (List.map_id _)
  have hj:=mY sep 1000000 ws hM;have hk:=Nat.mul_le_mul hn (show 1000000+sep.length<=2000000 by omega);have hcap:=hc _ _ _ rfl
  have:=Tryz.strings_Join b off c (ws.map tx) (tx sep) w (λj x hx=>by
   rw[jM]at hx;obtain⟨l,hl,rfl⟩:=qi.1 hx
   have:=hcc j l hl 0 (by omega)
   simpa[encS] using this) hbl (by rw[hl];omega) (by rw[hl];exact hcap.1) (by rw[hm,tT];exact aR hj (aR hk (by omega)))
  rw[hm,tT,hl]at this;exact this
theorem uV(t:aF)(ov:Value)(w:World)(h:aI 3 encOpr w ov t.ops)(hlen:t.ops.length<=2097152) :
 Calls Tryz.prog 135 #[sM t ov] w λe w'=>e=.returned (.string (tx (jU t)))/\Ext w w':=by
 obtain⟨A,c,rfl,_⟩:=id h;have HS:=aa h;have HV:=aa (λW (hb:Ext w W)=>sV t _ W (h.ext hb) hlen);clear h;show Calls Tryz.prog 135 #[.agg #[.int .i64 t.aD,.slice A t.ops.length c,.bool t.done]] w _
 cases hk:eP t with
 | false=>
   have ht:Hid (jU t=[]):=by show _ = _;simp[jU,hk]
   rw[ht.out];go_enter Tryz.func135,Tryz.ntmps135;go_wp2_with (go_at_call 43;refine(HV.out _ ((af _).alloc _)).mono ?_;rw[hk];rintro e w1 ⟨rfl,b1⟩)
   go_returns;exact⟨rfl,((af _).alloc _).trans b1⟩
 | true=>
   have hs0:0<=t.aD/\t.aD<10:=by have:=lG hk;omega
   have hol:t.ops.length<=6:=eY hk;have HK:=aa hk;have a1:∀w,(Op.stringOp .add ⟨#[115]⟩ (tx (dh t.aD.toNat))).run Tryz.prog w = _:=dI [115] (dh t.aD.toNat) (by have:=nQ t.aD.toNat;simp;omega);have yG:dh t.aD.toNat=[mW t.aD.toNat]:=by unfold dh;rw[ah (by omega)]
   rw[yG]at a1;obtain⟨z1,hz1⟩:∃z,tx [mW t.aD.toNat]=z:=⟨_,rfl⟩;obtain⟨z2,hz2⟩:∃z,tx ([115]++[mW t.aD.toNat])=z:=⟨_,rfl⟩;rw[hz1,hz2]at a1;rw[<-yG]at hz1;have HZ:=aa (aL hz1 hz2);clear hz1 hz2 yG;go_enter Tryz.func135,Tryz.ntmps135;go_wp2_with fail
   refine(HV.out _ ((af _).alloc _)).mono ?_
   rw[hk];rintro e w1 ⟨rfl,b1⟩;have B1:Hid (Ext w w1):=((af _).alloc _).trans b1;have c0:w1.cell? ⟨w.heap.size,0,none⟩=some (.int .i64 t.aD):=b1.cell (az rfl);have c1:w1.cell? ⟨w.heap.size,1,none⟩=some (.slice A t.ops.length c):=b1.cell (az rfl);have c2:w1.cell? ⟨w.heap.size,2,none⟩=some (.bool t.done):=b1.cell (az rfl);have hlt:w.heap.size<w1.heap.size:=by have:=b1.size;simp at this;omega
   clear b1;have HW:Hid (gZ t=[[115,mW t.aD.toNat],if t.done then [111,107] else [111,102,102]]++t.ops.map vD):=rfl;have HT:Hid (jU t=joinL [32] (gZ t)):=by show _ = _;rw[jU,ah hk];rfl
   clear hk;cases hd:t.done<;>(
    go_wp2_with (go_at_call 49;refine(nJ t.aD _ hs0.1 (by omega)).mono ?_;rw[HZ.out.1];rintro e w' ⟨rfl,rfl⟩)
    obtain⟨hw0,HH⟩:∃hw0,Hid (hw0=[[115,mW t.aD.toNat],if t.done then [111,107] else [111,102,102]]):=⟨_,rfl⟩;go_loopw [3,21] (λv i wr=>Ext w1 wr/\∃j:Nat,j<=t.ops.length/\i=.int .i64 (j:Int)/\Hid (Row 9 1 encS w1.heap.size wr v (hw0++(t.ops.take j).map vD))) (λ_ i _=>t.ops.length-(intOf i).toNat)
    case atStart=>
     refine⟨?_,0,bR _,rfl,?_⟩
     ·first
      | exact(af _).alloc _
      | exact((af _).alloc _).setCell (ay _) _
     ·show Row _ _ _ _ _ _ _;rw[HH.out,hd,rX,nH,oP,<-HZ.out.2]
      first
      | exact JO w1 [115,mW t.aD.toNat] [111,102,102]
      | exact JO w1 [115,mW t.aD.toNat] [111,107]
    case round=>
     obtain⟨hb,j,hj,rfl,HR⟩:=hrel;by_cases hjt:j<t.ops.length
     ·obtain⟨A2,c3,hA2,hcc⟩:=(HS.out.ext B1.out).ext hb;injection hA2 with e1 e2 e3;subst e1 e3;obtain⟨b',off',rfl,DF,hcc⟩:=hcc (by omega);obtain⟨o,ho⟩:=au hjt;have d0:wr.cell? ⟨b',off'+j*3,none⟩=some (.int .i64 o.kind):=hcc j o ho 0 (by omega);have d1:wr.cell? ⟨b',off'+j*3+1,none⟩=some (.int .i64 o.key):=hcc j o ho 1 (by omega);have d2:wr.cell? ⟨b',off'+j*3+2,none⟩=some (.int .i64 o.value):=hcc j o ho 2 (by omega);have M7:=jc HK.out (aN ho);have HO:=aa ho;have hot:jg o=vD o:=by rw[jg,ah M7]
      have HOT:=aa hot;obtain⟨zo,R5⟩:∃z,tx (jg o)=z:=⟨_,rfl⟩;have Vt:=aa R5;have hle:w1.heap.size<=wr.heap.size:=hb.size;have Xu:(hw0++(t.ops.take j).map vD).length<=10:=by have h1:=HH.out;subst h1;simp;omega
      have HHL:=aa Xu;clear hcc ho e2 M7 hot R5 Xu;go_wp2_with fail
      refine(og o _).mono ?_
      rw[Vt.out];rintro e w2 ⟨rfl,b2⟩;have hE2:Hid (Ext wr w2):=((af _).alloc _).trans b2;obtain⟨v',w3,hrun,hrow,hg⟩:=o9 (P:=Tryz.prog) (t:=31) (ty:=31) (e:=9) Tryz.underlying31 kG rfl (by omega) (HR.out.ext hE2.out) (vD o) (λ_=>rfl) (by have:=HHL.out;omega) (by omega) (aR hle hE2.out.size);have hce:(aG 1 encS (vD o)).toArray=#[.string zo]:=by rw[<-Vt.out,HOT.out];rfl
      rw[hce]at hrun hg;have cz:=aa hrun;have mI:=aa hrow;have GI:Hid (Ext w1 w3):=Ext.grown ((hb.trans hE2.out).alloc _) hg (λk hk=>(HR.out.ext hE2.out).block k hk);clear hrun hrow hg hce b2;go_wp2_with (at_builtin;refine wpList_append_run rfl rfl rfl rfl cz.out ?_)
      go_roundw;case rel=>exact⟨GI.out,j+1,by omega,by go_num,by rw[aj HO.out,j3,<-jN];exact mI.out⟩
      case measure=>simp[intOf];omega
     ·obtain rfl:j=t.ops.length:=by omega
      obtain⟨A5,c5,rfl,_⟩:=HR.out.cell.1;have HR2:Hid (Row 9 1 encS w1.heap.size wr (.slice A5 (hw0++(t.ops.take t.ops.length).map vD).length c5) (gZ t)):=by
       show Row _ _ _ _ _ _ _
       have:=HR.out
       rw[bY]at this ⊢;rw[HW.out,<-HH.out];exact this
      generalize (hw0++(t.ops.take t.ops.length).map vD).length=n5 at HR2;have HJ:=aa (yI [32] wr HR2.out.cell.1 HR2.out.cap (by rw[HW.out];simp;omega) (λx hx=>by
       rw[HW.out]at hx;simp only[iR,iC,dX,yh,or_false]at hx;rcases hx with (rfl|rfl)|⟨o,_,rfl⟩
       ·show 2<=1000000;omega
       ·split<;>simp
       ·have:=JB o;omega) (by simp))
      clear HR;go_wp2_with (go_at_call 51;refine HJ.out.mono ?_;rintro e w4 ⟨rfl,b4⟩)
      go_returns;exact⟨by rw[HT.out];rfl,(B1.out.trans hb).trans b4⟩)
def xP(l:List UInt8):Value:=.string (tx l)
theorem L8(a b:List UInt8):(tx a==tx b)=decide (a=b):=by
 have h0:(tx a==tx b)=((tx a).data==(tx b).data):=rfl;rw[h0];by_cases h:a=b
 ·subst h;simp
 ·rw[jW h,oO];intro e;refine h (Qo ?_);show ByteArray.mk (tx a).data=ByteArray.mk (tx b).data;rw[e]
theorem FC(k:List UInt8):∀(es:List MapEntry) (l:List (List UInt8 × Value)) (i:Nat),es.map (λe=>(e.key,e.val))=l.map (λp=>(xP p.1,p.2)) ->
 Instr.findNow .string (xP k) es i=some ((l.findIdx? (λp=>p.1==k)).map λj=>(i+j,(l[j]?.map (·.2)).getD undef))
 | [],[],i,_=>by simp[Instr.findNow]
 | [],_ :: _,_,h=>by simp at h
 | _ :: _,[],_,h=>by simp at h
 | e :: es,p :: l,i,h=>by
   simp only[iF,List.cons.injEq,Prod.mk.injEq]at h;obtain⟨⟨hk,hv⟩,h⟩:=h;have ih:=FC k es l (i+1) h;rw[Instr.findNow,hk,hv];unfold xP at *;simp only[Instr.sameNow,L8];by_cases e:k=p.1
   ·subst e;simp[List.findIdx?_cons]
   ·have e2:(p.1==k)=false:=by simp;exact λh=>e h.symm
    rw[jW e];simp only[ih,List.findIdx?_cons,e2];simp only[Option.map_map,Bool.false_eq_true,if_false]
    cases l.findIdx? (λp=>p.1==k) with
    | none=>rfl
    | some j=>simp;omega
theorem iQ{P:Program}{KT:TypeId}(hK:P.underlying KT=some .string):wR P KT xP where
 check b k W:=Go.MapKept.run_checkKey hK (by simp[Go.MapKept.IsKey,xP]) b 9999
 find k es l h W:=by
  simp only[Instr.findKey,Sem.run_bind,run_underlying hK,Result.andThen_ok,FC k es l 0 h,Sem.run_pure,kP];have e:(λp:List UInt8 × Value=>p.1==k)=λp=>@BEq.beq _ instBEqOfDecidableEq p.1 k:=by funext p;show (p.1==k)=decide (p.1=k);rw[lH,beq_iff_eq,eG]
  rw[e]
 stay k W:=by simp[Instr.keyThatStays,Instr.sameBits,xP,L8]
def Cb:Go.Shelf.Ren:=⟨fun|167=>134|n=>Tryz.lays156_ren.f n,Tryz.lays156_ren.t,Tryz.lays156_ren.g⟩
theorem Sm:Go.Proofs.Lays.n167 Tryz.prog Cb:={ Tryz.lays156 with
 f167:=Tryz.func134.trans (fU some (by kernel_rfl))
 f240:=Tryz.lays156.f240
 f276:=Tryz.lays156.f276
 t5:=Tryz.underlying5
 a5:=Tryz.isAgg5
 z5:=Tryz.sizeOf5
 v5:=Tryz.zeroValue5 }
theorem Rn:Builder.Extra Tryz.prog Cb:={ Tryz.Builder_Extra_156 with }
theorem Yx:Go.Proofs.Lays.n166 Tryz.prog Tryz.lays156_ren:={ Tryz.lays156 with }
def Rx(B b:Nat)(l:List UInt8)(w:World):Prop:=Lib.IsBuilder 123 5 B b (Lib.byteCells l) w
theorem BL(B b:Nat)(l:List UInt8)(c:UInt8)(w:World)(h:Rx B b l w)(hl:l.length<=1000000)(hB:B<=w.heap.size) :
 Calls Tryz.prog 134 #[.pointer (some ⟨b,0,none⟩),.int .u8 (c.toNat:Int)] w λe w'=>e=.returned .nilIface/\Rx B b (l++[c]) w'/\Below B w w':=by
 refine Calls.mono (Any.Builder_WriteByte Sm Rn B b (Lib.byteCells l) (c.toNat:Int) w h (by rw[Lib.byteCells_length];omega) hB) ?_;rintro e w' ⟨rfl,h1,h2⟩;exact⟨rfl,.inr (by rw[Lib.byteCells_append];exact h1),h2⟩
theorem qz(B b:Nat)(l s:List UInt8)(w:World)(h:Rx B b l w)(hl:l.length<=1000000)(hs:s.length<=1000000)(hB:B<=w.heap.size) :
 Calls Tryz.prog 93 #[.pointer (some ⟨b,0,none⟩),.string (tx s)] w λe w'=>e=.returned (.tuple #[.int .i64 s.length,.nilIface])/\Rx B b (l++s) w'/\Below B w w':=by
 refine Calls.mono (Any.Builder_WriteString Yx Tryz.Builder_Extra_156 B b (Lib.byteCells l) (tx s) w h (by rw[Lib.byteCells_length,eZ];omega) hB) ?_;rintro e w' ⟨rfl,h1,h2⟩;exact⟨rfl,.inr (by rw[Lib.byteCells_append];exact h1),h2⟩
theorem Bz(B b:Nat)(l:List UInt8)(w:World)(h:Rx B b l w)(hB:B<=w.heap.size) :
 Calls Tryz.prog 94 #[.pointer (some ⟨b,0,none⟩)] w λe w'=>e=.returned (.string (tx l))/\Below B w w':=Tryz.Builder_String_any B b l w h hB
theorem O5(w:World):Rx w.heap.size w.heap.size [] (w.alloc (.cells #[.pointer none,.slice none 0 0] 123)):=
 .inl ⟨ay _,_,dx w _,World.ownsRow_nil _ _ _ _,by simp[Value.ownBlock]⟩
theorem Dj(x:Int)(w:World):Calls Tryz.prog 132 #[.int .i64 x] w λe w'=>e=.returned (.bool (!kV x 0 1000))/\w=w':=by
 cases h:kV x 0 1000<;>(
  go_enter Tryz.func132,Tryz.ntmps132;go_wp2_with (go_at_call 133;refine(He _ _).mono ?_;rw[h];rintro e w' ⟨rfl,rfl⟩)
  go_returns;exact⟨rfl,rfl⟩)
theorem EG(args:Array Value)(W:World):(callFunc 132 args).run Tryz.prog W=.ok (.enter 132 args) W:=by kernel_rfl
theorem Le{xs:List Int}:(numsL xs).length<=xs.length*3:=by
 have:=mY [32] 2 (xs.map λx=>dh x.toNat) (λw hw=>by obtain⟨x,_,rfl⟩:=dX.1 hw;exact nQ _)
 simpa[numsL] using this
theorem Kg{xs:List Int}{x:Int}(hx:xs[0]? =some x):numsL (xs.take 1)=dh x.toNat:=by
 cases xs with
 | nil=>cases hx
 | cons a r=>cases hx;simp[numsL,joinL]
theorem Jl{xs:List Int}{k:Nat}{x:Int}(hk:0<k)(hx:xs[k]? =some x):numsL (xs.take (k+1))=numsL (xs.take k)++[32]++dh x.toNat:=by
 unfold numsL;rw[aj hx,j3];exact um [32] _ _ (λh=>by
  have:=fU List.length h
  have hl:=(aS.1 hx).1;simp at this;rcases this with h|h
  ·omega
  ·subst h;simp at hl)
theorem wF{v:Value}{xs:List Int}(w:World)(h:mD encI w v xs)(hlen:xs.length<=1000)(hx:∀x∈xs,0<=x/\x<100) :
 Calls Tryz.prog 99 #[v] w λe w'=>e=.returned (.string (tx (numsL xs)))/\Ext w w':=by
 obtain⟨A,c,rfl,_⟩:=id h;have HS:=aa h;have HX:=aa hx;have hany:xs.any (λx=>!kV x 0 1000)=false:=by
  rw[List.any_eq_false];intro x hm
  have:=hx x hm
  simp[kV];omega
 have HC:=aa (nW w 132 #[] (λx=>!kV x 0 1000) h (by omega) EG (λx _ W _=>(Dj x W).mono (by rintro e w' ⟨rfl,rfl⟩;exact⟨rfl,af _⟩)));rw[hany]at HC;clear h hx hany;go_enter Tryz.func99,Tryz.ntmps99;go_wp2_with (go_at_call 131;refine HC.out.mono ?_;rintro e w1 ⟨rfl,b1⟩)
 go_loopw [10] (λi wr=>Ext w1 wr/\∃k:Nat,k<=xs.length/\i=.int .i64 (k:Int)/\Hid (Rx w1.heap.size w1.heap.size (numsL (xs.take k)) wr)) (λi _=>xs.length-(intOf i).toNat)
 case atStart=>exact⟨(af _).alloc _,0,bR _,rfl,O5 w1⟩
 case round=>
  obtain⟨hb,k,hk,rfl,HB⟩:=hrel;by_cases hlt:k<xs.length
  ·obtain⟨A',c',e,hcc⟩:=(HS.out.ext b1).ext hb;injection e with e1 e2 e3;subst e1 e3;obtain⟨b',off',rfl,DF,hcc⟩:=hcc (by omega);obtain⟨x,hx⟩:=au hlt;have d0:wr.cell? ⟨b',off'+k,none⟩=some (.int .i64 x):=hcc k x hx;have hx0:=HX.out x (aN hx);have Vs:=aa hx;have hle:w1.heap.size<=wr.heap.size:=hb.size;have hl1:(numsL (xs.take k)).length<=3000:=by have h1:=Le (xs:=xs.take k);have h2:=List.length_take_le k xs;omega
   have HB2:=HB;clear hcc hx e2 HB;by_cases hk0:0<k
   ·have HN:=aa (Jl hk0 Vs.out);have hkd:decide (0<k)=true:=kQ hk0;clear hk0;go_wp2_with (first|(go_at_call 134;refine(BL _ _ _ 32 _ HB2.out (by omega) hle).mono ?_;rintro e w2 ⟨rfl,h2,b2⟩;have H2:=aa h2;have hE2:Hid (Ext w1 w2):=Below.trans hb b2;have hle2:=hE2.out.size;clear h2 b2)|(go_at_call 49;refine(nJ x _ hx0.1 hx0.2).mono ?_;rintro e w' ⟨rfl,rfl⟩)|(go_at_call 93;refine(qz _ _ _ (dh x.toNat) _ H2.out (by simp;omega) (by have:=nQ x.toNat;omega) hle2).mono ?_;rintro e w3 ⟨rfl,h3,b3⟩;have H3:=aa h3;have GI:Hid (Ext w1 w3):=Below.trans hE2.out b3;clear h3 b3))
    go_roundw;case rel=>exact⟨GI.out,k+1,by omega,by go_num,by rw[HN.out];exact H3⟩
    case measure=>simp[intOf];omega
   ·obtain rfl:k=0:=by omega
    have HN:=aa (Kg Vs.out);have h00:numsL (xs.take 0)=[]:=rfl;rw[h00]at HB2;rw[gL]at d0;clear hk0 h00;go_wp2_with (first|(go_at_call 49;refine(nJ x _ hx0.1 hx0.2).mono ?_;rintro e w' ⟨rfl,rfl⟩)|(go_at_call 93;refine(qz _ _ _ (dh x.toNat) _ HB2.out (by simp) (by have:=nQ x.toNat;omega) hle).mono ?_;rintro e w3 ⟨rfl,h3,b3⟩;have H3:=aa h3;have GI:Hid (Ext w1 w3):=Below.trans hb b3;clear h3 b3))
    go_roundw;case rel=>exact⟨GI.out,1,by omega,by go_num,by rw[HN.out];exact H3⟩
    case measure=>simp[intOf];omega
  ·obtain rfl:k=xs.length:=by omega
   have hle:w1.heap.size<=wr.heap.size:=hb.size;rw[bY]at HB;go_wp2_with (go_at_call 94;refine(Bz _ _ _ _ HB.out hle).mono ?_;rintro e w3 ⟨rfl,b3⟩)
   go_returns;exact⟨rfl,b1.trans (Below.trans hb b3)⟩
theorem y7(x:Int)(w:World)(h0:0<=x)(h1:x<=4) :
 Calls Tryz.prog 96 #[.int .i64 x] w λe w'=>e=.returned (.string (tx (levL x.toNat)))/\Ext w w':=by
 have hx:x=0∨x=1∨x=2∨x=3∨x=4:=by omega
 clear h0 h1;rcases hx with rfl|rfl|rfl|rfl|rfl<;>(
  go_enter Tryz.func96,Tryz.ntmps96;go_wp2_with (go_at_call 106;refine(bQ _ _ _ _).mono ?_;rintro e w' ⟨rfl,rfl⟩)
  go_returns;exact⟨rfl,(af _).alloc _⟩)
theorem wU(l:List UInt8)(w:World) :
 Calls Tryz.prog 98 #[.string (tx l)] w λe w'=>e=.returned (.string (tx (QJ l)))/\w=w':=by
 by_cases h:l=[]
 ·subst h;go_enter Tryz.func98,Tryz.ntmps98;have hq:(tx []).toList.isEmpty=true:=by rw[eu];rfl
  go_wp2;go_returns;exact⟨rfl,rfl⟩
 ·have he:QJ l=l:=ak h;rw[he]
  have hq:(tx l).toList.isEmpty=false:=by rw[eu];cases l with
   | nil=>exact absurd rfl h
   | cons=>rfl
  clear h he;go_enter Tryz.func98,Tryz.ntmps98;go_wp2;go_returns;exact⟨rfl,rfl⟩
theorem Kj(w:World):Calls Tryz.prog 11 #[] w λe w'=>e=.returned (.bool true)/\Ext w w':=by
 have h1:(tx (jg ⟨2,0,5⟩)).toList=[119,48,61,53]:=by rw[eu];decide
 obtain⟨z,hz⟩:∃z,tx (jg ⟨2,0,5⟩)=z:=⟨_,rfl⟩;have HT:=aa (og ⟨2,0,5⟩);rw[hz]at h1 HT;clear hz;go_enter Tryz.func11,Tryz.ntmps11;go_wp2_with fail
 refine(HT.out w).mono ?_
 rintro e w1 ⟨rfl,b1⟩;go_wp2;go_returns;exact⟨rfl,b1⟩
