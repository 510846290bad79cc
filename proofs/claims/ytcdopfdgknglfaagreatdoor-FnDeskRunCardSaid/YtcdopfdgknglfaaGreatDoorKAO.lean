/- Lemmas. -/
import Derived.Test.YtcdopfdgknglfaaGreatDoorKAK
import Derived.Test.YtcdopfdgknglfaaGreatDoorKAN
import Derived.RangeFuncWrites
import Derived.ProofKit
import Derived.LaidMore
import Derived.OpenShut
import Derived.Stop.Joined
import Derived.Deep.Slices
import Derived.Deep.Fields
import Derived.ChangeSame
import Derived.ChangeOld
import Derived.Lib.SmallJoins
import Derived.SliceStrings
import Derived.LaidLaws
import Derived.Lib.LaidU8
import Derived.LaidSub
import Derived.Shelf.Vars
import Derived.Handed
set_option maxHeartbeats 16000000
set_option maxRecDepth 8000
set_option linter.all false
namespace Go.Proofs.YtcdopfdgknglfaaGreatDoor
open Go.RowKit
theorem XX{n:Nat}(h:n<100):Lib.decDigits n=bT n:=by
 have:∀n∈List.range 100,Lib.decDigits n=bT n:=by decide +kernel
 exact this n (Q6.2 h)
theorem sH(x:Int)(w:World)(h0:0<=x)(h1:x<100) :
 Calls Tryz.prog 49 #[.int .i64 x] w λe w'=>e=.returned (.string (tx (bT x.toNat)))/\w=w':=by
 obtain⟨n,rfl⟩:=dZ h0
 refine(Tryz.strconv_Itoa_small n (by omega) w).mono ?_
 rintro e w' ⟨rfl,rfl⟩;refine⟨?_,rfl⟩;rw[XX (by omega)];rfl
theorem I6(a b c:Int)(w:World) :
 Calls Tryz.prog 50 #[.agg #[.int .i64 a,.int .i64 b,.int .i64 c]] w λe w'=>e=.returned (.string (tx [bN ⟨a,b,c⟩]))/\Ext w w':=by
 have hl:bN ⟨a,b,c⟩=if (a==2)=true then 119 else 114:=rfl
 rw[hl];clear hl;cases h:(a==2)<;>(
  go_enter Tryz.func50,Tryz.ntmps50;go_wp2_with (go_at_call 87;refine(gI _ _ _ _).mono ?_;rw[h];rintro e w' ⟨rfl,rfl⟩)
  go_returns;exact⟨rfl,((af _).alloc _).alloc _⟩)
theorem tX(o:aV)(w:World) :
 Calls Tryz.prog 40 #[iG o] w λe w'=>e=.returned (.string (tx (iZ o)))/\Ext w w':=by
 obtain⟨a,b,c⟩:=o;show Calls Tryz.prog 40 #[.agg #[.int .i64 a,.int .i64 b,.int .i64 c]] w _
 cases h:iY ⟨a,b,c⟩ with
 | false=>
   have ht:iZ ⟨a,b,c⟩=[]:=by simp[iZ,h]
   rw[ht];clear ht;go_enter Tryz.func40,Tryz.ntmps40;go_wp2_with (go_at_call 82;refine(vD ⟨a,b,c⟩ _).mono ?_;rw[h];rintro e w1 ⟨rfl,b1⟩)
   go_returns;exact⟨rfl,((af _).alloc _).trans b1⟩
 | true=>
   have ht:iZ ⟨a,b,c⟩=[bN ⟨a,b,c⟩]++bT b.toNat++[61]++bT c.toNat:=by
    have:=jE h
    rw[iZ,aj h,uQ];simp only at this;have hk:bT b.toNat=[kX b.toNat]:=by unfold bT;rw[aj (by omega)]
    rw[hk];rfl
   have h0:0<=b/\b<100:=by have:=jE h;simp only at this;omega
   have h1:0<=c/\c<100:=by have:=lS h;simp only at this;omega
   rw[ht];clear ht;have l1:=kE b.toNat;have l2:=kE c.toNat;have a1:=bX [bN ⟨a,b,c⟩] (bT b.toNat) (by simp;omega);have a2:∀w,(Op.stringOp .add (tx ([bN ⟨a,b,c⟩]++bT b.toNat)) ⟨#[61]⟩).run Tryz.prog w = _:=bX _ [61] (by simp;omega);have a3:=bX ([bN ⟨a,b,c⟩]++bT b.toNat++[61]) (bT c.toNat) (by simp;omega);generalize tx ([bN ⟨a,b,c⟩]++bT b.toNat++[61]++bT c.toNat)=y3 at *;generalize tx ([bN ⟨a,b,c⟩]++bT b.toNat++[61])=y2 at *;generalize tx ([bN ⟨a,b,c⟩]++bT b.toNat)=y1 at *;obtain⟨z1,hz1⟩:∃z,tx [bN ⟨a,b,c⟩]=z:=⟨_,rfl⟩;obtain⟨z2,hz2⟩:∃z,tx (bT b.toNat)=z:=⟨_,rfl⟩;obtain⟨z3,hz3⟩:∃z,tx (bT c.toNat)=z:=⟨_,rfl⟩;rw[hz1,hz2]at a1;rw[hz3]at a3;have HZ:=aa (aB hz1 (aB hz2 hz3));clear hz1 hz2 hz3 l1 l2;go_enter Tryz.func40,Tryz.ntmps40;go_wp2_with (go_at_call 82;refine(vD ⟨a,b,c⟩ _).mono ?_;rw[h];rintro e w1 ⟨rfl,b1⟩)
   have c0:w1.cell? ⟨w.heap.size,0,none⟩=some (.int .i64 a):=b1.cell (aF rfl);have c1:w1.cell? ⟨w.heap.size,1,none⟩=some (.int .i64 b):=b1.cell (aF rfl);have c2:w1.cell? ⟨w.heap.size,2,none⟩=some (.int .i64 c):=b1.cell (aF rfl);go_region_held3 (λW=>W.cell? ⟨w.heap.size,0,none⟩=some (.int .i64 a)/\W.cell? ⟨w.heap.size,1,none⟩=some (.int .i64 b)/\W.cell? ⟨w.heap.size,2,none⟩=some (.int .i64 c)) (exact⟨by assumption,by assumption,by assumption⟩) ((first|(go_at_call 50;refine(I6 _ _ _ _).mono ?_;rw[HZ.out.1];rintro e w2 ⟨rfl,b2⟩;have d0:=b2.cell c0;have d1:=b2.cell c1;have d2:=b2.cell c2)|(go_at_call 49;first|(refine(sH b _ h0.1 h0.2).mono ?_;rw[HZ.out.2.1];rintro e w' ⟨rfl,rfl⟩)|(refine(sH c _ h1.1 h1.2).mono ?_;rw[HZ.out.2.2];rintro e w' ⟨rfl,rfl⟩))))
   go_wp2;go_returns;exact⟨rfl,(((af _).alloc _).trans b1).drew.trans b2⟩
theorem AA(sep:List UInt8):∀ws:List (List UInt8),Lib.join ws sep=joinL sep ws
 | []=>rfl
 | [x]=>by simp[Lib.join,joinL]
 | x :: y :: r=>by rw[jA sep x (y :: r) (by simp),<-AA sep (y :: r)];simp[Lib.join,List.intercalate,List.intersperse]
theorem Jd{v:Value}{ws:List (List UInt8)}(sep:List UInt8)(w:World)(h:aL 1 encS w v ws)(hc:tN v)(hn:ws.length<=1000000)(hM:∀x∈ws,x.length<=1000000)(hs:sep.length<=1000000) :
 Calls Tryz.prog 51 #[v,.string (tx sep)] w λe w'=>e=.returned (.string (tx (joinL sep ws)))/\Ext w w':=by
 obtain⟨A,c,rfl,hcc⟩:=h;rcases Nat.eq_zero_or_pos ws.length with h0|h0
 ·obtain rfl:=mZ h0
  refine(Tryz.strings_Join_none A c (tx sep) w).mono ?_
  rintro e w' ⟨rfl,rfl⟩;exact⟨rfl,af _⟩
 ·obtain⟨b,off,rfl,hbl,hcc⟩:=hcc h0;have hl:(ws.map tx).length=ws.length:=by simp
  have hm:(ws.map tx).map (λx=>x.data.toList)=ws:=by rw[Xl];exact(List.map_congr_left (λx _=>M4 x)).trans (List.map_id _)
  have hj:=qd sep 1000000 ws hM;have hk:=Nat.mul_le_mul hn (show 1000000+sep.length<=2000000 by omega);have hcap:=hc _ _ _ rfl
  have:=Tryz.strings_Join b off c (ws.map tx) (tx sep) w (λj x hx=>by
   rw[jT]at hx;obtain⟨l,hl,rfl⟩:=kL.1 hx
   have:=hcc j l hl 0 (by omega)
   simpa[encS] using this) hbl (by rw[hl];omega) (by rw[hl];exact hcap.1) (by rw[hm,AA];exact aX hj (aX hk (by omega)))
  rw[hm,AA,hl]at this;exact this
theorem BP(t:aG)(ov:Value)(w:World)(h:aL 3 encOpr w ov t.ops)(hlen:t.ops.length<=2097152) :
 Calls Tryz.prog 135 #[o9 t ov] w λe w'=>e=.returned (.string (tx (jd t)))/\Ext w w':=by
 obtain⟨A,c,rfl,_⟩:=id h;have HS:=aa h;have HV:=aa (λW (hb:Ext w W)=>zF t _ W (h.ext hb) hlen);clear h;show Calls Tryz.prog 135 #[.agg #[.int .i64 t.az,.slice A t.ops.length c,.bool t.done]] w _
 cases hk:dG t with
 | false=>
   have ht:Hid (jd t=[]):=by show _ = _;simp[jd,hk]
   rw[ht.out];go_enter Tryz.func135,Tryz.ntmps135;go_wp2_with (go_at_call 43;refine(HV.out _ ((af _).alloc _)).mono ?_;rw[hk];rintro e w1 ⟨rfl,b1⟩)
   go_returns;exact⟨rfl,((af _).alloc _).trans b1⟩
 | true=>
   have hs0:0<=t.az/\t.az<10:=by have:=kS hk;omega
   have hol:t.ops.length<=6:=dF hk;have HK:=aa hk;have a1:∀w,(Op.stringOp .add ⟨#[115]⟩ (tx (bT t.az.toNat))).run Tryz.prog w = _:=bX [115] (bT t.az.toNat) (by have:=kE t.az.toNat;simp;omega);have G8:bT t.az.toNat=[kX t.az.toNat]:=by unfold bT;rw[aj (by omega)]
   rw[G8]at a1;obtain⟨z1,hz1⟩:∃z,tx [kX t.az.toNat]=z:=⟨_,rfl⟩;obtain⟨z2,hz2⟩:∃z,tx ([115]++[kX t.az.toNat])=z:=⟨_,rfl⟩;rw[hz1,hz2]at a1;rw[<-G8]at hz1;have HZ:=aa (aB hz1 hz2);clear hz1 hz2 G8;go_enter Tryz.func135,Tryz.ntmps135;go_wp2_with fail
   refine(HV.out _ ((af _).alloc _)).mono ?_
   rw[hk];rintro e w1 ⟨rfl,b1⟩;have B1:Hid (Ext w w1):=((af _).alloc _).trans b1;have c0:w1.cell? ⟨w.heap.size,0,none⟩=some (.int .i64 t.az):=b1.cell (aF rfl);have c1:w1.cell? ⟨w.heap.size,1,none⟩=some (.slice A t.ops.length c):=b1.cell (aF rfl);have c2:w1.cell? ⟨w.heap.size,2,none⟩=some (.bool t.done):=b1.cell (aF rfl);have hlt:w.heap.size<w1.heap.size:=by have:=b1.size;simp at this;omega
   clear b1;have HW:Hid (dB t=[[115,kX t.az.toNat],if t.done then [111,107] else [111,102,102]]++t.ops.map uQ):=rfl;have HT:Hid (jd t=joinL [32] (dB t)):=by show _ = _;rw[jd,aj hk];rfl
   clear hk;cases hd:t.done<;>(
    go_wp2_with (go_at_call 49;refine(sH t.az _ hs0.1 (by omega)).mono ?_;rw[HZ.out.1];rintro e w' ⟨rfl,rfl⟩)
    obtain⟨hw0,HH⟩:∃hw0,Hid (hw0=[[115,kX t.az.toNat],if t.done then [111,107] else [111,102,102]]):=⟨_,rfl⟩;go_loopw [3,21] (λv i wr=>Ext w1 wr/\∃j:Nat,j<=t.ops.length/\i=.int .i64 (j:Int)/\Hid (Row 9 1 encS w1.heap.size wr v (hw0++(t.ops.take j).map uQ))) (λ_ i _=>t.ops.length-(intOf i).toNat)
    case atStart=>
     refine⟨?_,0,aT _,rfl,?_⟩
     ·first
      | exact(af _).alloc _
      | exact((af _).alloc _).setCell (av _) _
     ·show Row _ _ _ _ _ _ _;rw[HH.out,hd,aaD,kN,jh,<-HZ.out.2]
      first
      | exact TI w1 [115,kX t.az.toNat] [111,102,102]
      | exact TI w1 [115,kX t.az.toNat] [111,107]
    case round=>
     obtain⟨hb,j,hj,rfl,HR⟩:=hrel;by_cases hjt:j<t.ops.length
     ·obtain⟨A2,c3,hA2,hcc⟩:=(HS.out.ext B1.out).ext hb;injection hA2 with e1 e2 e3;subst e1 e3;obtain⟨b',off',rfl,ru,hcc⟩:=hcc (by omega);obtain⟨o,ho⟩:=ah hjt;have d0:wr.cell? ⟨b',off'+j*3,none⟩=some (.int .i64 o.kind):=hcc j o ho 0 (by omega);have d1:wr.cell? ⟨b',off'+j*3+1,none⟩=some (.int .i64 o.key):=hcc j o ho 1 (by omega);have d2:wr.cell? ⟨b',off'+j*3+2,none⟩=some (.int .i64 o.value):=hcc j o ho 2 (by omega);have yZ:=gD HK.out (aM ho);have HO:=aa ho;have hot:iZ o=uQ o:=by rw[iZ,aj yZ]
      have Pj:=aa hot;obtain⟨zo,TE⟩:∃z,tx (iZ o)=z:=⟨_,rfl⟩;have HZO:=aa TE;have hle:w1.heap.size<=wr.heap.size:=hb.size;have hhl:(hw0++(t.ops.take j).map uQ).length<=10:=by have h1:=HH.out;subst h1;simp;omega
      have HHL:=aa hhl;clear hcc ho e2 yZ hot TE hhl;go_wp2_with fail
      refine(tX o _).mono ?_
      rw[HZO.out];rintro e w2 ⟨rfl,b2⟩;have hE2:Hid (Ext wr w2):=((af _).alloc _).trans b2;obtain⟨v',w3,hrun,hrow,hg⟩:=sJ (P:=Tryz.prog) (t:=31) (ty:=31) (e:=9) kY jG rfl (by omega) (HR.out.ext hE2.out) (uQ o) (λ_=>rfl) (by have:=HHL.out;omega) (by omega) (aX hle hE2.out.size);have hce:(aH 1 encS (uQ o)).toArray=#[.string zo]:=by rw[<-HZO.out,Pj.out];rfl
      rw[hce]at hrun hg;have bH:=aa hrun;have rA:=aa hrow;have NK:Hid (Ext w1 w3):=Ext.grown ((hb.trans hE2.out).alloc _) hg (λk hk=>(HR.out.ext hE2.out).block k hk);clear hrun hrow hg hce b2;go_wp2_with (at_builtin;refine wpList_append_run rfl rfl rfl rfl bH.out ?_)
      go_roundw;case rel=>exact⟨NK.out,j+1,by omega,by go_num,by rw[ak HO.out,rR,<-jM];exact rA.out⟩
      case measure=>simp[intOf];omega
     ·obtain rfl:j=t.ops.length:=by omega
      obtain⟨A5,c5,rfl,_⟩:=HR.out.cell.1;have HR2:Hid (Row 9 1 encS w1.heap.size wr (.slice A5 (hw0++(t.ops.take t.ops.length).map uQ).length c5) (dB t)):=by
       show Row _ _ _ _ _ _ _
       have:=HR.out
       rw[bM]at this ⊢;rw[HW.out,<-HH.out];exact this
      generalize (hw0++(t.ops.take t.ops.length).map uQ).length=n5 at HR2;have HJ:=aa (Jd [32] wr HR2.out.cell.1 HR2.out.cap (by rw[HW.out];simp;omega) (λx hx=>by
       rw[HW.out]at hx;simp only[iR,mM,fV,agH,or_false]at hx;rcases hx with (rfl|rfl)|⟨o,_,rfl⟩
       ·show 2<=1000000;omega
       ·split<;>simp
       ·have:=vR o;omega) (by simp))
      clear HR;go_wp2_with (go_at_call 51;refine HJ.out.mono ?_;rintro e w4 ⟨rfl,b4⟩)
      go_returns;exact⟨by rw[HT.out];rfl,(B1.out.trans hb).trans b4⟩)
structure Env (w:World):Prop where
 max:∃m,w.cell? ⟨0,0,none⟩=some (.int .i64 m)
 syn:∃te pe,w.cell? ⟨4,0,none⟩=some (.iface te pe)
 rng:∃te pe,w.cell? ⟨5,0,none⟩=some (.iface te pe)
theorem Env.ext{w w':World}(h:Env w)(hb:Ext w w'):Env w':=
 ⟨let ⟨m,h⟩:=h.max;⟨m,hb.cell h⟩,let ⟨m,n,h⟩:=h.syn;⟨m,n,hb.cell h⟩,let ⟨m,n,h⟩:=h.rng;⟨m,n,hb.cell h⟩⟩
theorem atoi_numL{n:Nat}(h:n<100):Lib.atoiAll (bT n)=.ok (n:Int):=by
 have:∀n∈List.range 100,(match Lib.atoiAll (bT n) with | .ok v=>v==(n:Int)|_=>false)=true:=by decide +kernel
 have:=this n (Q6.2 h)
 split at this
 ·rename_i v e;rw[e,eq_of_beq this]
 ·cases this
theorem Ot(l:List UInt8)(w:World)(hE:Env w)(hl:l.length<=281474976710656) :
 Calls Tryz.prog 177 #[.string (tx l)] w λe w'=>∃(v:Int) (ev:Value),e=.returned (.tuple #[.int .i64 v,ev])/\Ext w w'/\(Lib.atoiAll l=.ok v/\ev=.nilIface∨(∀v,Lib.atoiAll l≠.ok v)/\∃te pe,ev=.iface te pe):=by
 cases h:Lib.atoiAll l with
 | ok v=>
   refine(Tryz.strconv_Atoi_ok (tx l) (by rw[dR];omega) v h w).mono ?_
   rintro e w' ⟨rfl,h2⟩;refine⟨v,.nilIface,rfl,?_,.inl ⟨rfl,rfl⟩⟩;rcases h2 with rfl|⟨t,rfl⟩
   ·exact af _
   ·exact Lib.bytesWorld_below w _ t
 | range=>
   obtain⟨te,pe,hv⟩:=hE.rng
   refine(Tryz.strconv_Atoi_range (tx l) (by rw[dR];omega) h _ w hv (.inr ⟨te,pe,rfl⟩)).mono ?_
   rintro e w' ⟨N,rfl,h1,h2,h3⟩;exact⟨_,_,rfl,h3,.inr ⟨λv e=>(by cases e),_,_,rfl⟩⟩
 | _=>
   obtain⟨te,pe,hv⟩:=hE.syn
   refine(Tryz.strconv_Atoi_syntax (tx l) (by rw[dR];omega) h _ w hv (.inr ⟨te,pe,rfl⟩)).mono ?_
   rintro e w' ⟨N,rfl,h1,h2,h3⟩;exact⟨_,_,rfl,h3,.inr ⟨λv e=>(by cases e),_,_,rfl⟩⟩
def Ya(r:Option aV):Value:=.tuple #[iG (r.getD ⟨0,0,0⟩),.bool r.isSome]
theorem OV(l:List UInt8)(w:World)(hE:Env w)(hl:l.length<=1100000) :
 Calls Tryz.prog 139 #[.string (tx l)] w λe w'=>e=.returned (Ya (iy l))/\Ext w w':=by
 by_cases h4:l.length<4
 ·have hr:Hid (iy l=none):=BO h4;have hs:decide (((tx l).size:Int)<4)=true:=by rw[dR];simp;omega
  rw[hr.out];clear h4;generalize tx l=z at *;go_enter Tryz.func139,Tryz.ntmps139;go_wp2;go_returns;exact⟨rfl,(af _).alloc _⟩
 ·match l,hl,h4 with
  | [],_,h4=>exact absurd (by simp) h4
  | [_],_,h4=>exact absurd (by simp) h4
  | [_,_],_,h4=>exact absurd (by simp) h4
  | [_,_,_],_,h4=>exact absurd (by simp) h4
  | a :: b :: c :: d :: r,hl,_=>
    have hs:((tx (a :: b :: c :: d :: r)).size:Int)<4↔False:=by rw[dR];simp;omega
    have hs3:(3:Int)<=((tx (a :: b :: c :: d :: r)).size:Int):=by rw[dR];simp;omega
    have hi0:=lT (l:=a :: b :: c :: d :: r) (k:=0) rfl 0 rfl;have hi1:=lT (l:=a :: b :: c :: d :: r) (k:=1) rfl 1 rfl;have hx:=Nr (a :: b :: c :: d :: r) 3;have HR:=aa (λv=>Qh (a:=a) (b:=b) (c:=c) (d:=d) (r:=r) (v:=v));have HAT:=aa (λW (hb:Ext w W)=>Ot (d :: r) W (hE.ext hb) (by simp at hl ⊢;omega));rw[show (a :: b :: c :: d :: r).drop 3=d :: r from rfl]at hx;have hb0:(0:Int)<=(b.toNat:Int):=by omega
    have hb1:(b.toNat:Int)<=255:=by have:=b.toNat_lt;omega
    have hwb:IntKind.i64.wrap ((b.toNat:Int)-48)=(b.toNat:Int)-48:=dL _ ⟨by omega,by omega⟩;obtain⟨l0,hl0⟩:∃l0,a :: b :: c :: d :: r=l0:=⟨_,rfl⟩;rw[hl0]at hs hs3 hi0 hi1 hx HR ⊢;clear hl hl0 hE;obtain⟨y,hy⟩:∃y,tx (d :: r)=y:=⟨_,rfl⟩;rw[hy]at hx HAT;obtain⟨z,hz⟩:∃z,tx l0=z:=⟨_,rfl⟩;rw[hz]at hs hs3 hi0 hi1 hx ⊢;have HZ:=aa hz;clear hy hz;have hka:∀t,((a.toNat:Int)==119)=t->(if a=119 then (2:Int) else 1)=if t then 2 else 1:=λt ht=>by
     have:a=119↔((a.toNat:Int)==119)=true:=by rw[beq_iff_eq,<-UInt8.toNat_inj];exact⟨λe=>by rw[e];rfl,λe=>by have:(119:UInt8).toNat=119:=rfl;omega⟩
     rw[<-ht];by_cases e:a=119
     ·rw[aj e,aj (this.1 e)]
     ·rw[au e,au (λe'=>e (this.2 e'))]
    obtain⟨kd,hkd⟩:∃kd:Int,(if a=119 then (2:Int) else 1)=kd:=⟨_,rfl⟩;rw[hkd]at HR hka;clear hkd;obtain⟨bn,hbn⟩:∃bn:Int,(b.toNat:Int)=bn:=⟨_,rfl⟩;rw[hbn]at hi1 HR hb0 hb1 hwb;clear hbn;obtain⟨an,JN⟩:∃an:Int,(a.toNat:Int)=an:=⟨_,rfl⟩;rw[JN]at hi0 hka;clear JN
    cases hk:(an==119) with
    | false=>
      have HK:=aa (hka _ hk);go_enter Tryz.func139,Tryz.ntmps139;go_wp2_with fail
      refine(HAT.out _ (((af _).alloc _).alloc _)).mono ?_
      rintro e w1 ⟨v,ev,rfl,b1,hcase⟩;have hv:∀n,n<100->d :: r=bT n->v=(n:Int):=λn hn e=>by
       rw[e,atoi_numL hn]at hcase;rcases hcase with ⟨e1,_⟩|⟨e1,_⟩
       ·injection e1 with e1;exact e1.symm
       ·exact absurd rfl (e1 _)
      have hR:=HR.out v hv;have hkd:=HK.out;simp only[Bool.false_eq_true,if_true,if_false]at hkd;subst hkd;have HR1:=aa hR;have e0:=b1.cell (p:=⟨w.heap.size+1,0,none⟩) (iU (by simp) rfl);have e1:=b1.cell (p:=⟨w.heap.size+1,1,none⟩) (iU (by simp) rfl);have e2:=b1.cell (p:=⟨w.heap.size+1,2,none⟩) (iU (by simp) rfl);have f2:w1.frozen? ⟨w.heap.size+1,2,none⟩=false:=by rw[b1.frozen (by simp)];exact jf 2 (by simp)
      have B1:Hid (Ext w w1):=(((af _).alloc _).alloc _).trans b1;have fz:∀j,w1.frozen? ⟨w.heap.size,j,none⟩=false:=λj=>by
       rw[b1.frozen (by simp<;>omega),((af _).alloc _).frozen (by simp)]
       exact jf j rfl
      have t0:=b1.cell (p:=⟨w.heap.size,0,none⟩) (((af _).alloc _).cell (aF rfl));have t1:=b1.cell (p:=⟨w.heap.size,1,none⟩) (((af _).alloc _).cell (aF rfl));have t2:=b1.cell (p:=⟨w.heap.size,2,none⟩) (((af _).alloc _).cell (aF rfl));have b1s:w.heap.size<w1.heap.size:=by have:=b1.size;simp at this;omega
      clear hcase hv hR HK hka b1;go_wp2_with fail
      refine(tX ⟨1,bn-48,v⟩ _).mono ?_
      rintro e w2 ⟨rfl,b2⟩;have E3:(w1.setCell ⟨w.heap.size+1,2,none⟩ (.int .i64 v)).cell? ⟨w.heap.size+1,2,none⟩=some (.int .i64 v):=fJ e2 _;have g0:=b2.cell ((aC (by simp) _).trans e0);have g1:=b2.cell ((aC (by simp) _).trans e1);have g2:=b2.cell E3;have t0:=b2.cell ((aC (by simp) _).trans t0);have t1:=b2.cell ((aC (by simp) _).trans t1);have t2:=b2.cell ((aC (by simp) _).trans t2);have fw:∀j,w2.frozen? ⟨w.heap.size,j,none⟩=false:=λj=>by rw[b2.frozen (by have:=B1.out.size;rw[World.size_setCell];have:=b1s;omega),World.frozen?_setCell];exact fz j
      have fw0:=fw 0;have fw1:=fw 1;have fw2:=fw 2;clear fw fz;have HB:=aa ((B1.out.setCell (p:=⟨w.heap.size+1,2,none⟩) (by simp) (.int .i64 v)).trans b2);by_cases hc:iZ ⟨1,bn-48,v⟩=l0
      ·have hr:Hid (iy l0 = _):=HR1.out.1 hc;rw[hc,HZ.out];clear hc e0 e1 e2 f2 E3 b2;go_wp2;obtain⟨y0,y1,y2⟩:=eT (.int .i64 1) (.int .i64 (bn-48)) (.int .i64 v) t0 t1 t2;refine bodyPost_ret (v:=.tuple #[.agg #[.int .i64 1,.int .i64 (bn-48),.int .i64 v],.bool true]) (by simp[results,Tryz.results139,go_sem,y0,y1,y2]) rfl ?_;exact⟨by rw[hr.out];rfl,(((HB.out.setCell (p:=⟨w.heap.size,0,none⟩) (av _) _).setCell (p:=⟨w.heap.size,1,none⟩) (av _) _).setCell (p:=⟨w.heap.size,2,none⟩) (av _) _)⟩
      ·have hr:Hid (iy l0=none):=HR1.out.2 hc;obtain⟨z2,hz2⟩:∃z2,tx (iZ ⟨1,bn-48,v⟩)=z2:=⟨_,rfl⟩;have hq:(z2.toList==z.toList)=false:=by rw[<-hz2,<-HZ.out,fA,fA];simpa using hc
       rw[hz2];clear hc e0 e1 e2 f2 E3 b2 hz2;go_wp2;obtain⟨y0,y1,y2⟩:=eT (.int .i64 0) (.int .i64 0) (.int .i64 0) t0 t1 t2;refine bodyPost_ret (v:=.tuple #[.agg #[.int .i64 0,.int .i64 0,.int .i64 0],.bool false]) (by simp[results,Tryz.results139,go_sem,y0,y1,y2]) rfl ?_;exact⟨by rw[hr.out];rfl,(((HB.out.setCell (p:=⟨w.heap.size,0,none⟩) (av _) _).setCell (p:=⟨w.heap.size,1,none⟩) (av _) _).setCell (p:=⟨w.heap.size,2,none⟩) (av _) _)⟩
    | true=>
      have HK:=aa (hka _ hk);go_enter Tryz.func139,Tryz.ntmps139;go_wp2_with fail
      refine(HAT.out _ (((af _).alloc _).alloc _)).mono ?_
      rintro e w1 ⟨v,ev,rfl,b1,hcase⟩;have hv:∀n,n<100->d :: r=bT n->v=(n:Int):=λn hn e=>by
       rw[e,atoi_numL hn]at hcase;rcases hcase with ⟨e1,_⟩|⟨e1,_⟩
       ·injection e1 with e1;exact e1.symm
       ·exact absurd rfl (e1 _)
      have hR:=HR.out v hv;have hkd:=HK.out;simp only[Bool.false_eq_true,if_true,if_false]at hkd;subst hkd;have HR1:=aa hR;have e0:=b1.cell (p:=⟨w.heap.size+1,0,none⟩) (iU (by simp) rfl);have e1:=b1.cell (p:=⟨w.heap.size+1,1,none⟩) (iU (by simp) rfl);have e2:=b1.cell (p:=⟨w.heap.size+1,2,none⟩) (iU (by simp) rfl);have f2:w1.frozen? ⟨w.heap.size+1,2,none⟩=false:=by rw[b1.frozen (by simp)];exact jf 2 (by simp)
      have B1:Hid (Ext w w1):=(((af _).alloc _).alloc _).trans b1;have fz:∀j,w1.frozen? ⟨w.heap.size,j,none⟩=false:=λj=>by
       rw[b1.frozen (by simp<;>omega),((af _).alloc _).frozen (by simp)]
       exact jf j rfl
      have t0:=b1.cell (p:=⟨w.heap.size,0,none⟩) (((af _).alloc _).cell (aF rfl));have t1:=b1.cell (p:=⟨w.heap.size,1,none⟩) (((af _).alloc _).cell (aF rfl));have t2:=b1.cell (p:=⟨w.heap.size,2,none⟩) (((af _).alloc _).cell (aF rfl));have b1s:w.heap.size<w1.heap.size:=by have:=b1.size;simp at this;omega
      clear hcase hv hR HK hka b1;go_wp2_with fail
      refine(tX ⟨2,bn-48,v⟩ _).mono ?_
      rintro e w2 ⟨rfl,b2⟩;have E3:(w1.setCell ⟨w.heap.size+1,2,none⟩ (.int .i64 v)).cell? ⟨w.heap.size+1,2,none⟩=some (.int .i64 v):=fJ e2 _;have g0:=b2.cell ((aC (by simp) _).trans e0);have g1:=b2.cell ((aC (by simp) _).trans e1);have g2:=b2.cell E3;have t0:=b2.cell ((aC (by simp) _).trans t0);have t1:=b2.cell ((aC (by simp) _).trans t1);have t2:=b2.cell ((aC (by simp) _).trans t2);have fw:∀j,w2.frozen? ⟨w.heap.size,j,none⟩=false:=λj=>by rw[b2.frozen (by have:=B1.out.size;rw[World.size_setCell];have:=b1s;omega),World.frozen?_setCell];exact fz j
      have fw0:=fw 0;have fw1:=fw 1;have fw2:=fw 2;clear fw fz;have HB:=aa ((B1.out.setCell (p:=⟨w.heap.size+1,2,none⟩) (by simp) (.int .i64 v)).trans b2);by_cases hc:iZ ⟨2,bn-48,v⟩=l0
      ·have hr:Hid (iy l0 = _):=HR1.out.1 hc;rw[hc,HZ.out];clear hc e0 e1 e2 f2 E3 b2;go_wp2;obtain⟨y0,y1,y2⟩:=eT (.int .i64 2) (.int .i64 (bn-48)) (.int .i64 v) t0 t1 t2;refine bodyPost_ret (v:=.tuple #[.agg #[.int .i64 2,.int .i64 (bn-48),.int .i64 v],.bool true]) (by simp[results,Tryz.results139,go_sem,y0,y1,y2]) rfl ?_;exact⟨by rw[hr.out];rfl,(((HB.out.setCell (p:=⟨w.heap.size,0,none⟩) (av _) _).setCell (p:=⟨w.heap.size,1,none⟩) (av _) _).setCell (p:=⟨w.heap.size,2,none⟩) (av _) _)⟩
      ·have hr:Hid (iy l0=none):=HR1.out.2 hc;obtain⟨z2,hz2⟩:∃z2,tx (iZ ⟨2,bn-48,v⟩)=z2:=⟨_,rfl⟩;have hq:(z2.toList==z.toList)=false:=by rw[<-hz2,<-HZ.out,fA,fA];simpa using hc
       rw[hz2];clear hc e0 e1 e2 f2 E3 b2 hz2;go_wp2;obtain⟨y0,y1,y2⟩:=eT (.int .i64 0) (.int .i64 0) (.int .i64 0) t0 t1 t2;refine bodyPost_ret (v:=.tuple #[.agg #[.int .i64 0,.int .i64 0,.int .i64 0],.bool false]) (by simp[results,Tryz.results139,go_sem,y0,y1,y2]) rfl ?_;exact⟨by rw[hr.out];rfl,(((HB.out.setCell (p:=⟨w.heap.size,0,none⟩) (av _) _).setCell (p:=⟨w.heap.size,1,none⟩) (av _) _).setCell (p:=⟨w.heap.size,2,none⟩) (av _) _)⟩
def ZX(B:Nat)(Kp:World->World->Prop)(I Ix:World->Prop)(W:World):Exit->Act->World->Prop
 | .normal,_,W'=>KeepsFrom B W W'/\Kp W W'/\I W'
 | .ret,_,W'=>KeepsFrom B W W'/\Ix W'
 | _,_,_=>False
def Yx{α:Type}(n:Nat)(P:Program)(g:Nat)(lb:Array Value)(encs:α->Array Value)(c:Nat)(Kp:World->World->Prop)(S Sp:List α->Prop)(N:Nat)(w:World):Prop:=
 ∀(l:Nat) (J Jx:List α->World->Prop) (W:World),Below w.heap.size w W->(∀s W v,J s W->J s (W.setCell ⟨c,0,none⟩ v)) ->
  (∀pre x W1,J pre W1->pre.length<N->YieldAt Fence.wide (n-1) P l (encs x) W1 λe W'=>(e=.returned (.bool true)/\J (pre++[x]) W'/\Kp W1 W')∨(e=.returned (.bool false)/\Jx (pre++[x]) W')) ->
  J [] W->CallsIn Fence.wide n P g (#[.func (.yield l) #[] #[]]++lb) W λe W'=>(∃v,e=.returned v)/\((∃xs,S xs/\J xs W')∨∃pre,Sp pre/\Jx pre W')
theorem NN{α:Type}{P:Program}{n c:Nat}{g:Operand}{ps:Array Tmp}{assign body:Code}{Q:Exit->Act->World->Prop}{a:Act}{w:World}(h1:1<=n){gf:Nat}{lb:Array Value}(hg:a.eval g=.func (.func gf) #[] lb)
 (eg:∀args w,(callFunc gf args).run P w=.ok (.enter gf args) w) {encs:α->Array Value} {Kp:World->World->Prop} {S Sp:List α->Prop} {N:Nat} {w0:World} (hseq:Yx (n-1) P gf lb encs c Kp S Sp N w0)
 (hKt:∀{A B C:World},Kp A B->Kp B C->Kp A C) (hKb:∀(W:World) (l:Nat) (o o':Obj),w.heap.size<=l->W.heap[l]? =some o->o.isCells=false->o.isWalk=false->Kp W (W.putObj l o')) (hb0:Below w0.heap.size w0 w) (hc:c<w.heap.size) (hps:∀x,(encs x).size=ps.size)
 (I Ix:List α->World->Prop) (hI:OwnFrom w.heap.size I) (hIx:OwnFrom w.heap.size Ix) (hIc:∀s W v,I s W->I s (W.setCell ⟨c,0,none⟩ v)) (h0:I [] w) (a₁:α->Act)
 (hassign:∀(l:Nat) (x:α) (W:World) (K:Act->World->Prop),K (a₁ x) W->assign.wpIn (Fence.wide.inRound l) (n-1-1) P (Exit.then K (λ_ _ _=>False)) { tmps:=(ps.zip (encs x)).foldl (λt (p,v)=>t.setIfInBounds p v) a.tmps,defers:=[] } W)
 (hbody:∀(l:Nat) (pre:List α) (x:α) (W:World),I pre W->pre.length<N->body.wpIn (Fence.wide.inRound l) (n-1-1) P (ZX w.heap.size Kp (I (pre++[x])) (Ix (pre++[x])) W) (a₁ x) W)
 (hdone:∀(D:Nat) (xs:List α) (W:World),w.heap.size<=D->S xs->I xs W->W.heap[D]? =some (.deferred (some []))->Q .normal { a with defers:={ target:=.collected D,args:=#[] } :: a.defers } W)
 (hstop:∀(D:Nat) (pre:List α) (W:World),w.heap.size<=D->Sp pre->Ix pre W->W.heap[D]? =some (.deferred (some []))->Code.ret.wpIn Fence.wide n P Q { a with defers:={ target:=.collected D,args:=#[] } :: a.defers } W) :
 (Code.rangeFunc g ps assign body).wpIn Fence.wide n P Q a w:=by
 refine wpIn_rangeFunc ?_;intro fn hfn;obtain⟨rc,hrc⟩:∃rc:LoopState->Option Code->Loop,rc=λst pe=>{ state:=st,pending:=pe,fn,tmps:=a.tmps,params:=ps,assign,body,defers:=w.heap.size }:=⟨_,rfl⟩
 let Bk:LoopState->Option Code->World->Prop:=λst pe W=>W.heap[w.heap.size+1]? =some (.loop (rc st pe))/\W.heap[w.heap.size]? =some (.deferred (some []))
 have hput:∀{st st':LoopState} {pe pe':Option Code} {W:World},Bk st pe W->Bk st' pe' (W.putObj (w.heap.size+1) (.loop (rc st' pe'))):=λh=>
  ⟨World.putObj_heap_same (fF.1 h.1).1,(World.putObj_heap_other (by omega)).trans h.2⟩
 obtain⟨W1,hW1⟩:∃W1,(w.alloc (.deferred (some []))).alloc (.loop (rc .ready none))=W1:=⟨_,rfl⟩;have hB1:Bk .ready none W1:=by
  subst hW1;refine⟨?_,?_⟩
  ·have:=World.alloc_heap_new (w.alloc (.deferred (some []))) (.loop (rc .ready none))
   rwa [World.size_alloc]at this
  ·exact(Below.heap_alloc _ _ _ (by simp)).trans (World.alloc_heap_new w _)
 have hI1:I [] W1:=hW1▸hI.alloc _ (hI.alloc _ h0);have hb1:Below w0.heap.size w0 W1:=hW1▸hb0.trans ((((Below.refl _ w).alloc (av _) _).alloc (by simp) _).mono hb0.size);refine⟨w.heap.size+1,[{ target:=.collected w.heap.size,args:=#[] }],W1,{ target:=.fn (.func gf) lb,args:=#[.func (.yield (w.heap.size+1)) #[] #[]] },W1,gf,#[.func (.yield (w.heap.size+1)) #[] #[]]++lb,W1,?_,?_,λ_ _=>trivial,?_,λ_=>h1,?_⟩
 ·rw[<-hW1,hrc];exact run_enterLoop_outer _ _ _ _ _
 ·simp only[resolve,hg];simp[go_sem]
 ·simp[invoke,go_sem,eg]
 refine(hseq (w.heap.size+1) (λpre W=>I pre W/\Bk .ready none W) (λpre W=>Ix pre W/\Bk .done (some .ret) W) W1 hb1 (λs W v h=>⟨hIc s W v h.1,?_,?_⟩) ?_ ⟨hI1,hB1⟩).mono ?_
 ·exact(Below.heap_setCell _ _ _ _ (by simp;omega)).trans h.2.1
 ·exact(Below.heap_setCell _ _ _ _ (by simp;omega)).trans h.2.2
 ·rintro pre x W ⟨hi,hbk⟩ hlen;have hy:=run_yield (P:=P) (args:=encs x) hbk.1 (by rw[hrc];exact hps x);rw[hrc]at hy;refine⟨fn,_,assign,body,hy,roundIn_of_wpIn hfn (hassign _ x W _ ⟨_,run_beginRound hbk.1 (by rw[hrc]),?_⟩)⟩;have adm:({ rc .ready none with state:=.busy }:Loop)=rc .busy none:=by rw[hrc]
  rw[adm];have hbk2:Bk .busy none (W.putObj (w.heap.size+1) (.loop (rc .busy none))):=hput hbk;have afB:Kp W (W.putObj (w.heap.size+1) (.loop (rc .busy none))):=hKb _ _ _ _ (by omega) hbk.1 rfl rfl;have hi2:I pre (W.putObj (w.heap.size+1) (.loop (rc .busy none))):=hI.putObj _ hi (by omega) hbk.1 rfl;refine wpIn_mono (hbody _ pre x _ hi2 hlen) ?_;have hkeep:∀W3,KeepsFrom w.heap.size (W.putObj (w.heap.size+1) (.loop (rc .busy none))) W3->Bk .busy none W3:=λW3 k=>⟨k.same _ _ (by omega) hbk2.1 rfl,k.same _ _ (av _) hbk2.2 rfl⟩;intro e a3 W3 hp
  cases e with
  | normal=>
    obtain⟨hk3,hkp3,hi3⟩:=hp;have hb3:=hkeep W3 hk3;have hr:=run_endRound (P:=P) none hb3.1;have er:({ rc .busy none with state:=if (none:Option Code).isNone then .ready else .done,pending:=none }:Loop)=rc .ready none:=by rw[hrc];rfl
    rw[er]at hr;exact⟨_,_,hr,.inl ⟨rfl,⟨hI.putObj _ hi3 (by omega) hb3.1 rfl,hput hb3⟩,hKt (hKt afB hkp3) (hKb _ _ _ _ (by omega) hb3.1 rfl rfl)⟩⟩
  | ret=>
    obtain⟨hk3,hi3⟩:=hp;have hb3:=hkeep W3 hk3;have hr:=run_endRound (P:=P) (some .ret) hb3.1;have er:({ rc .busy none with state:=if (some Code.ret).isNone then .ready else .done,pending:=some .ret }:Loop)=rc .done (some .ret):=by rw[hrc];rfl
    rw[er]at hr;exact⟨_,_,hr,.inr ⟨rfl,hIx.putObj _ hi3 (by omega) hb3.1 rfl,hput hb3⟩⟩
  | exit id=>exact hp.elim
  | goto t=>exact hp.elim
  | panic ch=>exact hp.elim
  | outgrown=>exact hp.elim
 ·rintro e W2 ⟨⟨v,rfl⟩,(⟨xs,hS,hi,hbk⟩|⟨pre,hSp,hi,hbk⟩)⟩
  ·have hr:=run_endLoop (P:=P) hbk.1 (by rw[hrc];simp);have ep:(rc .ready none).pending=none:=by rw[hrc]
   rw[ep]at hr;exact⟨none,_,hr,hdone _ xs _ (av _) hS (hI.putObj _ hi (by omega) hbk.1 rfl) ((World.putObj_heap_other (by omega)).trans hbk.2)⟩
  ·have hr:=run_endLoop (P:=P) hbk.1 (by rw[hrc];simp);have ep:(rc .done (some .ret)).pending=some .ret:=by rw[hrc]
   rw[ep]at hr;exact⟨some .ret,_,hr,hstop _ pre _ (av _) hSp (hIx.putObj _ hi (by omega) hbk.1 rfl) ((World.putObj_heap_other (by omega)).trans hbk.2)⟩
section
attribute [local go_sem] Oper.semAt_some
abbrev Tt:={x:List UInt8 // x.length<=1048576}
def ab0(w:World)(c:Nat):Nat:=match w.cell? ⟨c,0,none⟩ with
 | some (.string b)=>b.size
 | _=>0
theorem T9{w:World}{c:Nat}{l:List UInt8}(h:w.cell? ⟨c,0,none⟩=some (.string (tx l))):ab0 w c=l.length:=by unfold ab0;rw[h];rfl
theorem UX(l:List UInt8)(m:Int)(w:World)(hm:w.cell? ⟨0,0,none⟩=some (.int .i64 m))(hl:l.length<=2097152) :
 Calls Tryz.prog 215 #[.string (tx l),.string ⟨#[59,32]⟩] w λe w'=>e=.returned (.int .i64 (Lib.index l [59,32]))/\w'=w:=
 Tryz.strings_Index (tx l) (tx [59,32]) m w (by rw[dR];omega) hm
theorem wG{n₀ lo hi:Nat}{W W':World}{B:Nat}{t:TypeId}{v:Value}(h:Boxed W B t v)(k:yx n₀ lo hi W W')(h1:lo<=B)(h2:B<hi):Boxed W' B t v:=(k.2 B h1 h2).trans h
theorem Km(n:Nat)(hn:1<=n)(c n₀:Nat)(l0:Tt)(m:Int)(w:World)(hg:0<n₀)(hcn:n₀<=c)(hm:w.cell? ⟨0,0,none⟩=some (.int .i64 m))
 (h0:Boxed w c 9 (.string (tx l0.1))) (h1:Boxed w (c+1) 9 (.string ⟨#[59,32]⟩)) (h2:Boxed w (c+2) 3 (.int .i64 0)) :
 Yx n Tryz.prog 219 #[.pointer (some ⟨c+1,0,none⟩),.pointer (some ⟨c,0,none⟩),.pointer (some ⟨c+2,0,none⟩)] (λx:Tt=>#[.string (tx x.1)]) c (yx n₀ c (c+3)) (λys=>ys.map (·.1)=splitS l0.1) (λys=>∃r,splitS l0.1=ys.map (·.1)++r) (splitS l0.1).length w:=λl J Jx W hW hJs hY hJ0=>by
 have hc:=h2.lt;have hWm:=(hW.cell (p:=⟨0,0,none⟩) (by simp;omega)).trans hm;have b0:=aQ h0 hW;have b1:=aQ h1 hW;have b2:=aQ h2 hW;clear hW hm h0 h1 h2 hc w;refine callsIn_of_wp Tryz.func219 rfl trivial ?_ rfl;simp only[Tryz.ntmps219,List.size_toArray,eO,iJ,Nat.reduceAdd,Nat.reduceSub,Array.replicate_succ,Array.replicate_zero,List.push_toArray,List.append_toArray,List.nil_append,List.cons_append];have cs:=b1.cell;have HB:=aa (aB b0 (aB b1 b2));clear b0 b1 b2
 gi_wp2
 clear cs
 gi_loopw [] (λwr=>∃(pre:List Tt) (rest:List UInt8),Hid (splitS l0.1=pre.map (·.1)++splitS rest/\rest.length<=1048576/\J pre wr/\Boxed wr c 9 (.string (tx rest))/\Boxed wr (c+1) 9 (.string ⟨#[59,32]⟩)/\Boxed wr (c+2) 3 (.int .i64 0)/\wr.cell? ⟨0,0,none⟩=some (.int .i64 m))) (λwr=>ab0 wr c)
 case atStart=>exact⟨[],l0.1,rfl,l0.2,hJ0,HB.out.1,HB.out.2.1,HB.out.2.2,hWm⟩
 case round=>
  obtain⟨pre,rest,HR⟩:=hrel;obtain⟨hsp,hrl,hJ,b0,b1,b2,hmm⟩:=HR.out;have c0:=b0.cell;have f0:=b0.frozen;have c1:=b1.cell;have c2:=b2.cell;have HI:=aa (UX rest m wr hmm (by omega));have HLEN:=aa (T9 c0);have JP:=aa (aB b0 (aB b1 (aB b2 hmm)));have KO:=aa hsp;have hsz:(tx rest).size=rest.length:=dR rest;rcases rP rest [59,32] with hi|⟨i,hi⟩
  ·have hs1:=(vo rest).1 hi;rw[hi]at HI;rw[hs1]at hsp;have hpl:pre.length<(splitS l0.1).length:=by rw[hsp];simp
   obtain⟨fn,tmps,assign,body,hy,hR⟩:=hY pre ⟨rest,hrl⟩ wr hJ hpl
   dsimp only at hy
   have jR:Hid ((pre++[(⟨rest,hrl⟩:Tt)]).map (·.1)=splitS l0.1):=by show _ = _;rw[hsp];simp
   generalize tx rest=z at *;clear HR hsp hJ b0 b1 b2 hmm hY hJs HB hWm
   gi_wp2_with (refine⟨trivial,?_⟩;gi_at_call 215;refine(callsIn_wide.2 HI.out).mono ?_;rintro e w' ⟨rfl,rfl⟩)
   refine hR.mono ?_;rintro e W3 (⟨rfl,hJ3,hk3⟩|⟨rfl,hJx3⟩)
   ·gi_wp2
    go_end0
    exact⟨⟨_,rfl⟩,.inl ⟨_,jR.out,hJ3⟩⟩
   ·gi_wp2
    go_end0
    exact⟨⟨_,rfl⟩,.inr ⟨_,⟨[],by rw[jR.out,jh]⟩,hJx3⟩⟩
  ·have hs2:=(vo rest).2 i hi;have hroom:=Lib.index_room rest [59,32] (by omega);rw[hi]at HI hroom;simp only[eO,iJ]at hroom;rw[hs2]at hsp;have hpl:pre.length<(splitS l0.1).length:=by rw[hsp];simp
   have hfl:(rest.take i).length<=1048576:=by rw[eY];omega
   obtain⟨fn,tmps,assign,body,hy,hR⟩:=hY pre ⟨rest.take i,hfl⟩ wr hJ hpl
   dsimp only at hy
   have x1:(tx rest).extract 0 i=tx (rest.take i):=by rw[pG];rfl
   have x2:(tx rest).extract (i+2) (tx rest).size=tx (rest.drop (i+2)):=Nr rest (i+2);have hi0:(0:Int)<=(i:Int):=by omega
   have hi1:(i:Int)<=(rest.length:Int):=by omega
   have hi2:(i:Int)+2<=(rest.length:Int):=by omega
   have hw0:IntKind.i64.wrap ((i:Int)+0)=(i:Int):=dL _ ⟨by omega,by omega⟩;have hw2:IntKind.i64.wrap ((i:Int)+2)=((i+2:Nat):Int):=dL _ ⟨by omega,by omega⟩;have jC:Hid (splitS l0.1=(pre++[(⟨rest.take i,hfl⟩:Tt)]).map (·.1)++splitS (rest.drop (i+2))):=by show _ = _;rw[hsp];simp
   obtain⟨y1,hy1⟩:∃y,tx (rest.take i)=y:=⟨_,rfl⟩;obtain⟨y2,hy2⟩:∃y,tx (rest.drop (i+2))=y:=⟨_,rfl⟩;rw[hy1]at x1 hy;rw[hy2]at x2;have V9:=aa hy2;obtain⟨z,hz⟩:∃z,tx rest=z:=⟨_,rfl⟩;rw[hz]at HI hsz x1 x2 c0 JP;rw[hsz]at x2;clear HR hsp hJ b0 b1 b2 hmm hY HB hWm hy1 hy2 hz hroom hs2
   gi_wp2_with (refine⟨trivial,?_⟩;gi_at_call 215;refine(callsIn_wide.2 HI.out).mono ?_;rintro e w' ⟨rfl,rfl⟩)
   refine hR.mono ?_;rintro e W3 (⟨rfl,hJ3,hk3⟩|⟨rfl,hJx3⟩)
   ·have g0:=wG JP.out.1 hk3 (av _) (by omega);have g1:=wG JP.out.2.1 hk3 (by omega) (by omega);have g2:=wG JP.out.2.2.1 hk3 (by omega) (by omega);have gm:=(hk3.1.cell (p:=⟨0,0,none⟩) hg).trans JP.out.2.2.2;have c0:=g0.cell;have f0:=g0.frozen;have c1:=g1.cell;have c2:=g2.cell;have hne1:(⟨c,0,none⟩:Addr).block≠c+1:=by simp
    have hne2:(⟨c,0,none⟩:Addr).block≠c+2:=by simp
    have HG:Hid (Boxed (W3.setCell ⟨c,0,none⟩ (.string y2)) c 9 (.string (tx (rest.drop (i+2))))/\Boxed (W3.setCell ⟨c,0,none⟩ (.string y2)) (c+1) 9 (.string ⟨#[59,32]⟩)/\Boxed (W3.setCell ⟨c,0,none⟩ (.string y2)) (c+2) 3 (.int .i64 0)/\(W3.setCell ⟨c,0,none⟩ (.string y2)).cell? ⟨0,0,none⟩=some (.int .i64 m)):=by
     refine⟨?_,kr g1 hne1 _,kr g2 hne2 _,(aC (by intro e;injection e with e _ _;omega) _).trans gm⟩
     have:=g0.set (.string y2)
     rw[<-V9.out]at this ⊢;exact this
    have HJ3:=aa (hJs _ _ (.string y2) hJ3);clear g0 g1 g2 gm hJ3 hk3 hR hy hJs hne1 hne2
    gi_wp2
    go_roundw;case rel=>exact⟨pre++[⟨rest.take i,hfl⟩],rest.drop (i+2),jC.out,by rw[rX];omega,HJ3.out,HG.out⟩
    case measure=>
     rw[HLEN.out,T9 HG.out.1.cell,rX];omega
   ·gi_wp2
    refine bodyPost_ret (results_none rfl _ _ _) rfl ?_;exact⟨⟨_,rfl⟩,.inr ⟨_,⟨_,jC.out⟩,hJx3⟩⟩
end
def Scan(p:Nat)(W:World)(ws:List (List UInt8))(bad:Bool):Prop:=
 ∃v,W.heap[p]? =some (.cells #[v,.bool bad] 149 (0,0))/\aL 1 encS W v ws/\tN v/\jD 9 W v
theorem heap_set{W:World}{p i:Nat}{cs:Array Value}{t:TypeId}{fr:Nat × Nat}(h:W.heap[p]? =some (.cells cs t fr))(u:Value):(W.setCell ⟨p,i,none⟩ u).heap[p]? =some (.cells (cs.setIfInBounds i u) t fr):=by simp[World.setCell,lW,h]
theorem yE{I:TypeId}{X:Nat->Prop}{w w':World}{u:Value}(h:jD I w u)(k:dz X w w')(hx:∀a n c,u=.slice (some a) n c->0<n->¬X a.block):jD I w' u:=λa n c hu hn=>by obtain⟨cs,fr,hg⟩:=h a n c hu hn;exact⟨cs,fr,k.heap hg (hx a n c hu hn)⟩
theorem Pz{I T:TypeId}{W:World}{v:Value}{p:Nat}{cs:Array Value}{fr:Nat × Nat}(h:jD I W v)(hp:W.heap[p]? =some (.cells cs T fr))(hne:I≠T):∀a n c,v=.slice (some a) n c->0<n->a.block≠p:=λa n c hv hn e=>by obtain⟨cs',fr',hg⟩:=h a n c hv hn;rw[e,hp]at hg;injection hg with hg;injection hg with _ e _;exact hne e.symm
theorem Scan.frX{p:Nat}{X:Nat->Prop}{W W':World}{ws:List (List UInt8)}{bad:Bool}(h:Scan p W ws bad)(k:dz X W W')(hp:¬X p)(hx:∀b cs fr,W.heap[b]? =some (.cells cs 9 fr)->¬X b):Scan p W' ws bad:=by
 obtain⟨v,h1,h2,h3,h4⟩:=h;have hf:∀a n c,v=.slice (some a) n c->0<n->¬X a.block:=λa n c hv hn=>by obtain⟨cs,fr,hg⟩:=h4 a n c hv hn;exact hx _ cs fr hg
 exact⟨v,k.heap h1 hp,h2.frX k hf,h3,yE h4 k hf⟩
theorem Scan.ext{p:Nat}{W W':World}{ws:List (List UInt8)}{bad:Bool}(h:Scan p W ws bad)(k:Ext W W'):Scan p W' ws bad:=
 h.frX (X:=λ_=>False) (.bK k) (λe=>e) (λ_ _ _ _ e=>e)
theorem Scan.mark{p:Nat}{W:World}{ws:List (List UInt8)}{bad:Bool}(h:Scan p W ws bad)(b:Bool):Scan p (W.setCell ⟨p,1,none⟩ (.bool b)) ws b:=by obtain⟨v,h1,h2,h3,h4⟩:=h;have hf:=Pz h4 h1 (by decide);have k:dz (λi=>i=p) W (W.setCell ⟨p,1,none⟩ (.bool b)):=dz.setCell (X:=λi=>i=p) (dz.refl _ _) (.inl rfl) _;exact⟨v,heap_set h1 _,h2.frX k hf,h3,yE h4 k hf⟩
theorem Scan.step{p:Nat}{W:World}{ws ws':List (List UInt8)}{bad:Bool}(h:Scan p W ws bad){v':Value}(h2:aL 1 encS W v' ws')(h3:tN v')(h4:jD 9 W v'):Scan p (W.setCell ⟨p,0,none⟩ v') ws' bad:=by obtain⟨v,h1,_,_,_⟩:=h;have hf:=Pz h4 h1 (by decide);have k:dz (λi=>i=p) W (W.setCell ⟨p,0,none⟩ v'):=dz.setCell (X:=λi=>i=p) (dz.refl _ _) (.inl rfl) _;exact⟨v',heap_set h1 _,h2.frX k hf,h3,yE h4 k hf⟩
theorem Scan.cells{p:Nat}{W:World}{ws:List (List UInt8)}{bad:Bool}(h:Scan p W ws bad):∃A c,W.cell? ⟨p,0,none⟩=some (.slice A ws.length c)/\W.cell? ⟨p,1,none⟩=some (.bool bad)/\(∀j,W.frozen? ⟨p,j,none⟩=false)/\aL 1 encS W (.slice A ws.length c) ws/\jD 9 W (.slice A ws.length c)/\ws.length<=c/\c<=9223372036854775807:=by obtain⟨v,h1,h2,h3,h4⟩:=h;obtain⟨A,c,rfl,_⟩:=id h2;exact⟨A,c,by simp[World.cell?,h1],by simp[World.cell?,h1],λj=>by simp[World.frozen?,h1],h2,h4,h3 _ _ _ rfl⟩
def TB(T:TypeId)(W:World)(q:Nat):Prop:=∃cs fr,W.heap[q]? =some (.cells cs T fr)
theorem TB.set{T:TypeId}{W:World}{q:Nat}(h:TB T W q)(i:Nat)(u:Value):TB T (W.setCell ⟨q,i,none⟩ u) q:=by obtain⟨cs,fr,h⟩:=h;exact⟨_,fr,heap_set h u⟩
theorem TB.frX{T:TypeId}{X:Nat->Prop}{W W':World}{q:Nat}(h:TB T W q)(k:dz X W W')(hq:¬X q):TB T W' q:=by obtain⟨cs,fr,h⟩:=h;exact⟨cs,fr,k.heap h hq⟩
theorem TB.ne{T U:TypeId}{W:World}{p q:Nat}(h:TB T W p)(k:TB U W q)(hne:T≠U):p≠q:=λe=>by subst e;obtain⟨_,_,h⟩:=h;obtain⟨_,_,k⟩:=k;rw[h]at k;injection k with k;injection k with _ e _;exact hne e
theorem TB.dS{α:Type}{e:TypeId}{m:Nat}{enc:α->Nat->Value}{base:Nat}{W:World}{v:Value}{xs:List α}(h:Row e m enc base W v xs){k:Nat}(hk:v.ownBlock=some k):TB e W k:=by
 rcases h.2 with ⟨rfl,_⟩|⟨g,cap,cur,rfl,h1,h2,h3⟩
 ·cases hk
 ·have e1:g=k:=by simpa[Value.ownBlock] using hk
  subst e1;exact⟨cur,_,h2⟩
theorem Scan.tb{p:Nat}{W:World}{ws:List (List UInt8)}{bad:Bool}(h:Scan p W ws bad):TB 149 W p:=let ⟨_,h1,_⟩:=h;⟨_,_,h1⟩
theorem Scan.far{p:Nat}{X:Nat->Prop}{W W':World}{ws:List (List UInt8)}{bad:Bool}(h:Scan p W ws bad)(k:dz X W W')(hX:∀q,X q->∃T,TB T W q/\T≠149/\T≠9):Scan p W' ws bad:=by
 refine h.frX k (λe=>?_) (λb cs fr hb e=>?_)
 ·obtain⟨T,h1,h2,_⟩:=hX p e;exact TB.ne h1 h.tb h2 rfl
 ·obtain⟨T,h1,_,h2⟩:=hX b e;exact TB.ne h1 ⟨cs,fr,hb⟩ h2 rfl
theorem Scan.other{p q:Nat}{T:TypeId}{W:World}{ws:List (List UInt8)}{bad:Bool}(h:Scan p W ws bad)(hq:TB T W q)(hT:T≠149/\T≠9)(i:Nat)(u:Value):Scan p (W.setCell ⟨q,i,none⟩ u) ws bad:=
 h.far (X:=λk=>k=q) (dz.setCell (X:=λk=>k=q) (dz.refl _ _) (.inl rfl) _) (λ_ e=>⟨T,e▸hq,hT⟩)
theorem BG{p:Nat}{ws:List (List UInt8)}{bad:Bool}(W:World)(H:Scan p W ws bad)(hl:ws.length<=2097152) :
 Calls Tryz.prog 138 #[.pointer (some ⟨p,0,none⟩)] W λe W'=>e=.returned (.string (tx (ws.headD [])))/\Scan p W' ws.tail (bad || ws.isEmpty)/\dz (λk=>k=p) W W':=by
 obtain⟨A,c,c0,c1,fz,hs,hty,hc1,hc2⟩:=H.cells;have f0:=fz 0;have f1:=fz 1;have HS:=aa (aB hs hty);have HH:=aa H;clear fz H hty
 cases ws with
 | nil=>
   clear hs;simp only[iJ]at *;go_enter Tryz.func138,Tryz.ntmps138;go_wp2;go_returns;exact⟨rfl,by simpa using HH.out.mark true,dz.setCell (X:=λi=>i=p) (dz.refl _ _) (.inl rfl) _⟩
 | cons x r=>
   obtain⟨A2,c2,e,hcc⟩:=hs;injection e with e1 e2 e3;subst e1 e3;obtain⟨b,off,rfl,hbl,hcc⟩:=hcc (by simp);have d0:=hcc 0 x rfl 0 (by omega);simp only[Nat.zero_mul,fE,encS]at d0;obtain⟨z,hz⟩:∃z,tx x=z:=⟨_,rfl⟩;rw[hz]at d0;have HZ:=aa hz;have HC:=aa hcc;obtain⟨n,hn⟩:∃n,(x :: r).length=n:=⟨_,rfl⟩;rw[hn]at c0 hc1 HS hl;have hn1:(1:Int)<=(n:Int):=by rw[<-hn];simp;omega
   have HN:=aa hn;clear hcc hz e2 hn;have HE:Hid (∀a m d,(.slice (some a) m d:Value)=.slice (some ⟨b,off,none⟩) n c->True):=λ_ _ _ _=>trivial;go_enter Tryz.func138,Tryz.ntmps138;go_wp2
   ·go_returns;have hn:=HN.out;simp only[eO]at hn;have hr:r=[]:=mZ (by omega);subst hr;refine⟨by rw[<-HZ.out];rfl,?_,dz.setCell (X:=λi=>i=p) (dz.refl _ _) (.inl rfl) _⟩;refine Scan.step (ws':=[]) HH.out ?_ (λ_ _ _ e=>by injection e with _ e2 e3;omega) (λa m d e hm=>by injection e with e1 e2 e3;omega)
    have:n-1=0:=by omega
    first
     | (rw[this];exact aL.nil _ _ _ _ _)
     | exact aL.nil _ _ _ _ _
   ·go_returns;have hn:=HN.out;simp only[eO]at hn;refine⟨by rw[<-HZ.out];rfl,?_,dz.setCell (X:=λi=>i=p) (dz.refl _ _) (.inl rfl) _⟩;refine Scan.step (ws':=r) HH.out ⟨_,_,by rw[<-hn,Nat.add_sub_cancel],λ_=>⟨b,off+1,rfl,hbl,λi y hy j hj=>?_⟩⟩ (λ_ _ _ e=>by injection e with _ e2 e3;omega) (λa m d e hm=>?_)
    ·have:=HC.out (i+1) y (by simpa using hy) j hj
     rw[show off+1+i*1+j=off+(i+1)*1+j by omega];exact this
    ·injection e with e1 e2 e3;injection e1 with e1;subst e1;exact HS.out.2 ⟨b,off,none⟩ _ _ rfl (by omega)
theorem Yb(l:List UInt8)(W:World):Calls Tryz.prog 176 #[.string (tx l),.string ⟨#[115]⟩] W λe W'=>e=.returned (.tuple #[.string (tx (if l.head? =some 115 then l.drop 1 else l)),.bool (l.head? == some 115)])/\W=W':=by
 refine(Tryz.strings_CutPrefix (tx l) (tx [115]) W).mono ?_
 rintro e W' ⟨rfl,rfl⟩;refine⟨?_,rfl⟩;rw[M4,M4]
 cases l with
 | nil=>rfl
 | cons a r=>
   by_cases h:a=115
   ·subst h;simp[Lib.trimPrefix,Lib.hasPrefix,tx]
   ·have h':¬115=a:=λe=>h e.symm;have e1:([115]:List UInt8).isPrefixOf (a :: r)=false:=by simp[List.isPrefixOf,h']
    simp[Lib.trimPrefix,Lib.hasPrefix,tx,h,e1]
theorem Et{p:Nat}{ws:List (List UInt8)}{bad:Bool}(W:World)(H:Scan p W ws bad)(hl:ws.length<=2097152)(hE:∀W',dz (λk=>k=p) W W'->Env W')(hw:∀x∈ws,x.length<=2097152) :
 Calls Tryz.prog 137 #[.pointer (some ⟨p,0,none⟩)] W λe W'=>∃(n:Int) (b':Bool),e=.returned (.int .i64 n)/\Scan p W' ws.tail b'/\dz (λk=>k=p) W W'/\(∀s:Nat,s<10->ws.head? =some [115,kX s]->n=(s:Int)/\b'=bad)/\(ws.headD []=[]->b'=true):=by
 have HE:=aa hE;obtain⟨x,hx⟩:∃x,ws.headD []=x:=⟨_,rfl⟩;have hxl:x.length<=2097152:=by
  rw[<-hx]
  cases ws with
  | nil=>simp
  | cons a r=>exact hw a (by simp)
 have HN:=aa (BG W H hl);rw[hx]at HN;have HC:=aa (λW=>Yb x W);obtain⟨b1,hb1⟩:∃b1,(bad || ws.isEmpty)=b1:=⟨_,rfl⟩;rw[hb1]at HN;obtain⟨y,hy⟩:∃y,(if x.head? =some 115 then x.drop 1 else x)=y:=⟨_,rfl⟩;have hyl:y.length<=2097152:=by
  rw[<-hy];split
  ·rw[rX];omega
  ·exact hxl
 obtain⟨ok,hok⟩:∃ok,(x.head? == some 115)=ok:=⟨_,rfl⟩;rw[hy,hok]at HC;have HX:=aa (aB hx (aB hb1 (aB hy hok)));obtain⟨zx,hzx⟩:∃z,tx x=z:=⟨_,rfl⟩;obtain⟨zy,UY⟩:∃z,tx y=z:=⟨_,rfl⟩;have HA:=aa (λW (h:Env W)=>Ot y W h (by omega));rw[hzx]at HN HC;rw[UY]at HC HA;clear H hl hE hw hx hxl hb1 hy hyl hok hzx UY;have hfin:Hid (∀(n:Int) (ev:Value) (b' en:Bool),(Lib.atoiAll y=.ok n/\ev=.nilIface∨(∀v,Lib.atoiAll y≠.ok v)/\∃te pe,ev=.iface te pe)->(ev=.nilIface->en=false)->b'=(b1 || !ok || en)->(∀s:Nat,s<10->ws.head? =some [115,kX s]->n=(s:Int)/\b'=bad)/\(ws.headD []=[]->b'=true)):=λn ev b' en hc hen hb=>by
  obtain⟨q1,q2,q3,q4⟩:=HX.out;subst hb;constructor
  ·intro s hs he
   cases ws with
   | nil=>cases he
   | cons a r=>
     simp only[List.head?_cons,Option.some.injEq]at he;simp only[List.headD_cons]at q1;subst q1 he;have ey:y=bT s:=by rw[<-q3];unfold bT;rw[aj hs];rfl
     rw[ey,atoi_numL (by omega)]at hc;rcases hc with ⟨e1,rfl⟩|⟨e1,_⟩
     ·injection e1 with e1;refine⟨e1.symm,?_⟩;rw[<-q2,<-q4,hen rfl];simp
     ·exact absurd rfl (e1 _)
  ·intro he
   have:ok=false:=by rw[<-q4,<-q1,he];rfl
   rw[this];simp
 go_enter Tryz.func137,Tryz.ntmps137;go_wp2_with fail
 refine HN.out.mono ?_;rintro e W1 ⟨rfl,s1,k1⟩;have S1:=aa s1;have K1:=aa k1;clear s1 k1;go_wp2_with fail
 refine(HC.out _).mono ?_
 rintro e W' ⟨rfl,rfl⟩;go_wp2_with fail
 refine(HA.out _ (HE.out _ K1.out)).mono ?_
 rintro e W2 ⟨n,ev,rfl,b2,hc⟩;have S2:=aa (S1.out.ext b2);have K2:=aa (K1.out.ext b2);have HF:=aa (λb' en=>hfin.out n ev b' en hc);obtain⟨A,c,c0,c1,fz,_⟩:=S2.out.cells;have f1:=fz 1;clear c0 fz b2 S1 K1;have hev:ev=.nilIface∨∃te pe,ev=.iface te pe:=hc.elim (λh=>.inl h.2) (λh=>.inr h.2);clear hc;rcases hev with rfl|⟨te,pe,rfl⟩
 ·cases b1<;>cases ok<;>(
   go_wp2;go_returns;exact⟨n,_,rfl,S2.out.mark _,K2.out.setCell (.inl rfl) _,HF.out _ false (λ_=>rfl) rfl⟩)
 ·cases b1<;>cases ok<;>(
   go_wp2;go_returns;exact⟨n,_,rfl,S2.out.mark _,K2.out.setCell (.inl rfl) _,HF.out _ true (λh=>(by cases h)) rfl⟩)
theorem UL{a b:UInt8}{o:aV}(h:gq o=true)(e:[a,b]=mg o):(⟨if (a.toNat:Int)=119 then 2 else 1,(b.toNat:Int)-48,0⟩:aV)=o:=by
 have k1:=jy h;have k2:=mV h;unfold mg at e;injection e with e1 e2;injection e2 with e2 _;have hb:b.toNat=48+o.key.toNat:=by rw[e2];exact qA (by omega)
 refine aV.ext' ?_ ?_ ?_
 ·simp only;rw[e1];unfold bN jQ;rcases kF h with q|q<;>rw[q]<;>simp
 ·simp only;omega
 ·simp only;omega
theorem Nl{p:Nat}{ws:List (List UInt8)}{bad:Bool}(W:World)(H:Scan p W ws bad)(hl:ws.length<=2097152) :
 Calls Tryz.prog 141 #[.pointer (some ⟨p,0,none⟩)] W λe W'=>∃(o:aV) (b':Bool),e=.returned (iG o)/\Scan p W' ws.tail b'/\dz (λk=>k=p) W W'/\∀o',gq o'=true->ws.head? =some (mg o')->o=o'/\b'=bad:=by
 have hp:p<W.heap.size:=by obtain⟨v,h1,_⟩:=H;exact(fF.1 h1).1
 have HN:=aa (λW' (h:Scan p W' ws bad)=>BG W' h hl);have hA:dz (λk=>k=p) W (W.alloc (.cells #[.int .i64 0,.int .i64 0,.int .i64 0] 67)):=(dz.refl _ _).alloc _;have HS:=aa (H.ext ((af _).alloc (.cells #[.int .i64 0,.int .i64 0,.int .i64 0] 67)));have HA:=aa hA;clear H hl hA;obtain⟨b1,hb1⟩:∃b1,(bad || ws.isEmpty)=b1:=⟨_,rfl⟩;obtain⟨x,hx⟩:∃x,ws.headD []=x:=⟨_,rfl⟩;rw[hb1,hx]at HN;have hhead:Hid (∀y,ws.head? =some y->x=y/\b1=bad):=λy hy=>by
  cases ws with
  | nil=>cases hy
  | cons a r=>simp only[List.head?_cons,Option.some.injEq]at hy;subst hy;exact⟨hx.symm,by rw[<-hb1];simp⟩
 clear hb1 hx;by_cases h2:x.length=2;case neg=>
  have hs:(((tx x).size:Int) != 2)=true:=by rw[dR,bne_iff_ne];omega
  have hno:Hid (∀o',gq o'=true->ws.head? =some (mg o')->False):=λo' _ he=>h2 (by rw[(hhead.out _ he).1];rfl);generalize tx x=z at *;clear h2;go_enter Tryz.func141,Tryz.ntmps141;go_wp2_with fail
  refine(HN.out _ HS.out).mono ?_
  rintro e W1 ⟨rfl,s1,k1⟩;have S1:=aa s1;have K1:=aa (HA.out.trans k1);obtain⟨A,c,c0,c1,fz,_⟩:=s1.cells;have f1:=fz 1;have q0:=k1.cell (p:=⟨W.heap.size,0,none⟩) (aF rfl) (by simp;omega);have q1:=k1.cell (p:=⟨W.heap.size,1,none⟩) (aF rfl) (by simp;omega);have q2:=k1.cell (p:=⟨W.heap.size,2,none⟩) (aF rfl) (by simp;omega);have fq:∀j,W1.frozen? ⟨W.heap.size,j,none⟩=false:=λj=>(k1.frozen (by simp) (by simp;omega)).trans (jf j rfl);have fq0:=fq 0;have fq1:=fq 1;have fq2:=fq 2;have OB:Hid (TB 67 W1 W.heap.size):=TB.frX ⟨_,_,dP W _⟩ k1 (by omega);have hpn:(⟨p,1,none⟩:Addr)≠⟨W.heap.size,0,none⟩/\(⟨p,1,none⟩:Addr)≠⟨W.heap.size,1,none⟩/\(⟨p,1,none⟩:Addr)≠⟨W.heap.size,2,none⟩:=by refine⟨?_,?_,?_⟩<;>(intro e;injection e with e _ _;omega)
  have WM:=aa hpn;clear c0 fz fq s1 k1 hpn;have r0:=(aC WM.out.1 (.bool true)).trans q0;have r1:=(aC WM.out.2.1 (.bool true)).trans q1;have r2:=(aC WM.out.2.2 (.bool true)).trans q2;go_wp2;obtain⟨y0,y1,y2⟩:=eT (.int .i64 0) (.int .i64 0) (.int .i64 0) r0 r1 r2;refine bodyPost_ret (v:=.agg #[.int .i64 0,.int .i64 0,.int .i64 0]) (by simp[results,Tryz.results141,go_sem,y0,y1,y2]) rfl ?_;have S2:=S1.out.mark true;have B2:TB 67 (W1.setCell ⟨p,1,none⟩ (.bool true)) W.heap.size:=OB.out.frX (X:=λk=>k=p) (dz.setCell (X:=λk=>k=p) (dz.refl _ _) (.inl rfl) _) (by omega);exact⟨⟨0,0,0⟩,true,rfl,((S2.other B2 (by decide) _ _).other (B2.set _ _) (by decide) _ _).other ((B2.set _ _).set _ _) (by decide) _ _,(((K1.out.setCell (.inl rfl) _).setCell (.inr (av _)) _).setCell (.inr (av _)) _).setCell (.inr (av _)) _,λo' ho he=>(hno.out o' ho he).elim⟩
 case pos=>
  match x,h2 with
  | [a,b],_=>
    have hs:(((tx [a,b]).size:Int) != 2)=false:=by rw[dR];rfl
    have hi0:=lT (l:=[a,b]) (k:=0) rfl 0 rfl;have hi1:=lT (l:=[a,b]) (k:=1) rfl 1 rfl;have hb0:(0:Int)<=(b.toNat:Int):=by omega
    have hb1:(b.toNat:Int)<=255:=by have:=b.toNat_lt;omega
    have hwb:IntKind.i64.wrap ((b.toNat:Int)-48)=(b.toNat:Int)-48:=dL _ ⟨by omega,by omega⟩;have HO:Hid (∀o',gq o'=true->ws.head? =some (mg o')->(⟨if (a.toNat:Int)=119 then 2 else 1,(b.toNat:Int)-48,0⟩:aV)=o'/\b1=bad):=λo' ho he=>⟨UL ho (hhead.out _ he).1,(hhead.out _ he).2⟩;generalize tx [a,b]=z at *;generalize (a.toNat:Int)=an at *;generalize (b.toNat:Int)=bn at *;clear hhead;by_cases hk:an=119;all_goals (
     have hkd:(an==119)=decide (an=119):=by by_cases h:an=119<;>simp[h]
     go_enter Tryz.func141,Tryz.ntmps141;go_wp2_with fail
     refine(HN.out _ HS.out).mono ?_
     rintro e W1 ⟨rfl,s1,k1⟩;have S1:=aa s1;have K1:=aa (HA.out.trans k1);have q0:=k1.cell (p:=⟨W.heap.size,0,none⟩) (aF rfl) (by simp;omega);have q1:=k1.cell (p:=⟨W.heap.size,1,none⟩) (aF rfl) (by simp;omega);have q2:=k1.cell (p:=⟨W.heap.size,2,none⟩) (aF rfl) (by simp;omega);have fq:∀j,W1.frozen? ⟨W.heap.size,j,none⟩=false:=λj=>(k1.frozen (by simp) (by simp;omega)).trans (jf j rfl);have fq0:=fq 0;have fq1:=fq 1;have fq2:=fq 2;have OB:Hid (TB 67 W1 W.heap.size):=TB.frX ⟨_,_,dP W _⟩ k1 (by omega);have hpn:(⟨p,1,none⟩:Addr)≠⟨W.heap.size,0,none⟩/\(⟨p,1,none⟩:Addr)≠⟨W.heap.size,1,none⟩/\(⟨p,1,none⟩:Addr)≠⟨W.heap.size,2,none⟩:=by refine⟨?_,?_,?_⟩<;>(intro e;injection e with e _ _;omega)
     have WM:=aa hpn;have hsz:W.heap.size<W1.heap.size:=by have:=k1.size;simp at this;omega
     clear fq s1 k1 hpn WM;go_wp2
     first
     | (obtain⟨x0,x1,x2⟩:=eT (.int .i64 1) (.int .i64 (bn-48)) (.int .i64 0) q0 q1 q2
        have X:=(af (((W1.setCell ⟨W.heap.size,0,none⟩ (.int .i64 1)).setCell ⟨W.heap.size,1,none⟩ (.int .i64 (bn-48))).setCell ⟨W.heap.size,2,none⟩ (.int .i64 0))).alloc (.cells #[.int .i64 1,.int .i64 (bn-48),.int .i64 0] 67);have y0:=X.cell x0;have y1:=X.cell x1;have y2:=X.cell x2;refine bodyPost_ret (v:=.agg #[.int .i64 1,.int .i64 (bn-48),.int .i64 0]) (by simp[results,Tryz.results141,go_sem,y0,y1,y2]) rfl ?_;exact⟨⟨1,bn-48,0⟩,b1,rfl,(((S1.out.other OB.out (by decide) _ _).other (OB.out.set _ _) (by decide) _ _).other ((OB.out.set _ _).set _ _) (by decide) _ _).ext X,(((K1.out.setCell (.inr (av _)) _).setCell (.inr (av _)) _).setCell (.inr (av _)) _).ext X,λo' ho he=>(by have:=HO.out o' ho he;rw[au hk]at this;exact this)⟩)
     | (obtain⟨x0,x1,x2⟩:=eT (.int .i64 2) (.int .i64 (bn-48)) (.int .i64 0) q0 q1 q2
        have X:=(af (((W1.setCell ⟨W.heap.size,0,none⟩ (.int .i64 2)).setCell ⟨W.heap.size,1,none⟩ (.int .i64 (bn-48))).setCell ⟨W.heap.size,2,none⟩ (.int .i64 0))).alloc (.cells #[.int .i64 2,.int .i64 (bn-48),.int .i64 0] 67);have y0:=X.cell x0;have y1:=X.cell x1;have y2:=X.cell x2;refine bodyPost_ret (v:=.agg #[.int .i64 2,.int .i64 (bn-48),.int .i64 0]) (by simp[results,Tryz.results141,go_sem,y0,y1,y2]) rfl ?_;exact⟨⟨2,bn-48,0⟩,b1,rfl,(((S1.out.other OB.out (by decide) _ _).other (OB.out.set _ _) (by decide) _ _).other ((OB.out.set _ _).set _ _) (by decide) _ _).ext X,(((K1.out.setCell (.inr (av _)) _).setCell (.inr (av _)) _).setCell (.inr (av _)) _).ext X,λo' ho he=>(by have:=HO.out o' ho he;rw[aj hk]at this;exact this)⟩))
theorem UK(l:List UInt8)(w:World)(hE:Env w)(hl:l.length<=2097152):Calls Tryz.prog 136 #[.string (tx l),.string ⟨#[32]⟩] w λe w'=>e=.returned (.slice (some ⟨w.heap.size,0,none⟩) (splitL 32 l).length (splitL 32 l).length)/\w'=w.alloc (.cells ((splitL 32 l).map λx=>.string (tx x)).toArray 9):=by
 obtain⟨m,hm⟩:=hE.max
 refine(Tryz.strings_Split (tx l) (tx [32]) m w (by rw[dR];omega) hm (by rw[dR];simp)).mono ?_
 rintro e w' ⟨rfl,rfl⟩;have h1:(Lib.splitB (tx [32]) 0 (Lib.countB (tx l) (tx [32])) (tx l)).map (·.data.toList)=splitL 32 l:=by rw[Lib.splitB_data];exact Cu 32 _ l rfl
 have h2:(Lib.splitB (tx [32]) 0 (Lib.countB (tx l) (tx [32])) (tx l)).map Value.string=(splitL 32 l).map λx=>.string (tx x):=by rw[<-h1,Xl];exact List.map_congr_left (λb _=>agB Value.string (adU b).symm)
 have h3:Lib.countB (tx l) (tx [32])+1=(splitL 32 l).length:=(MG 32 l).symm;rw[h2,h3];exact⟨rfl,rfl⟩
theorem Qj(ws:List (List UInt8))(w:World):aL 1 encS (w.alloc (.cells (ws.map λx=>.string (tx x)).toArray 9)) (.slice (some ⟨w.heap.size,0,none⟩) ws.length ws.length) ws/\jD 9 (w.alloc (.cells (ws.map λx=>.string (tx x)).toArray 9)) (.slice (some ⟨w.heap.size,0,none⟩) ws.length ws.length):=by
 refine⟨⟨_,_,rfl,λ_=>⟨_,0,rfl,by simp,λi x hx j hj=>?_⟩⟩,λa n c e hn=>?_⟩
 ·obtain rfl:j=0:=by omega
  refine aF ?_;simp[hx,encS]
 ·injection e with e1 _ _;injection e1 with e1;subst e1;exact⟨_,_,dP w _⟩
theorem KZ(l:List UInt8)(w:World)(hE:Env w)(hl:l.length<=2097152):Calls Tryz.prog 136 #[.string (tx l),.string ⟨#[32]⟩] w λe w'=>∃g,e=.returned (.slice (some ⟨g,0,none⟩) (splitL 32 l).length (splitL 32 l).length)/\aL 1 encS w' (.slice (some ⟨g,0,none⟩) (splitL 32 l).length (splitL 32 l).length) (splitL 32 l)/\jD 9 w' (.slice (some ⟨g,0,none⟩) (splitL 32 l).length (splitL 32 l).length)/\Ext w w':=by
 refine(UK l w hE hl).mono ?_
 rintro e w' ⟨rfl,rfl⟩
 have:=Qj (splitL 32 l) w
 exact⟨_,rfl,this.1,this.2,(af _).alloc _⟩
def Ua(w:World)(p:Nat):Nat:=match w.cell? ⟨p,0,none⟩ with
 | some (.slice _ n _)=>n
 | _=>0
theorem Scan.left{p:Nat}{W:World}{ws:List (List UInt8)}{bad:Bool}(h:Scan p W ws bad):Ua W p=ws.length:=by obtain⟨A,c,c0,_⟩:=h.cells;unfold Ua;rw[c0]
def yJ(l:List UInt8)(n:Int)(d bad:Bool)(ops:List aV):Prop:=∀t',dG t'=true->splitL 32 l=dB t'->bad=false/\n=t'.az/\d=t'.done/\ops=t'.ops.take ops.length
theorem LW(l:List UInt8)(w:World)(hE:Env w)(hl:l.length<=1048576)(hne:l≠[]) :
 Calls Tryz.prog 101 #[.string (tx l)] w λe w'=>∃(t:aG) (ov:Value),e=.returned (.tuple #[o9 t ov,.bool (dQ l).isSome])/\aL 3 encOpr w' ov t.ops/\tN ov/\(∀t',dQ l=some t'->t=t')/\(∀a n c,ov=.slice (some a) n c->0<n->w.heap.size<=a.block)/\Ext w w':=by
 have HE:=aa hE;have HL:=aa (aB hl hne);have KO:=aa (λW (h:Ext w W)=>KZ l W (hE.ext h) (by omega));have hwl:(splitL 32 l).length<=1048577:=by have:=pq 32 l;omega
 have HX:=aa (p9 32 l);obtain⟨z,hz⟩:∃z,tx l=z:=⟨_,rfl⟩;have HZ:=aa hz;rw[hz]at KO;rw[hz];obtain⟨ws,hws⟩:∃ws,splitL 32 l=ws:=⟨_,rfl⟩;rw[hws]at KO hwl HX;have Ku:=aa hws;clear hE hl hne hz hws;go_enter Tryz.func101,Tryz.ntmps101;go_wp2_with fail
 refine(KO.out _ ((af _).alloc _)).mono ?_
 rintro e W1 ⟨g,rfl,hs,hty,b1⟩;have hw1:w.heap.size<W1.heap.size:=by have:=b1.size;simp at this;omega
 have T0:W1.cell? ⟨w.heap.size,0,none⟩=some (.int .i64 0):=b1.cell (aF rfl);have T1:W1.cell? ⟨w.heap.size,1,none⟩=some (.slice none 0 0):=b1.cell (aF rfl);have T2:W1.cell? ⟨w.heap.size,2,none⟩=some (.bool false):=b1.cell (aF rfl);have TF:∀j,W1.frozen? ⟨w.heap.size,j,none⟩=false:=λj=>(b1.frozen (by simp)).trans (jf j rfl);have HT:=aa (aB T0 (aB T1 (aB T2 TF)));have hS2:Scan W1.heap.size (W1.alloc (.cells #[.slice (some ⟨g,0,none⟩) ws.length ws.length,.bool false] 149)) ws false:=
  ⟨_,dP W1 _,hs.ext ((af _).alloc _),nG (av _) (by omega),hty.ext ((af _).alloc _)⟩
 have HB1:Hid (Ext w W1):=((af _).alloc _).trans b1;have U0:=aa (Et _ hS2 (by omega) (λW' k=>HE.out.ext (dz.out (HB1.out.alloc _) k (λi e=>by rw[e];exact HB1.out.size))) (λx hx=>by have:=HX.out x hx;have:=HL.out.1;omega));clear hs hty b1 hS2 T0 T1 T2 TF;obtain⟨P,hP⟩:∃P,W1.heap.size=P:=⟨_,rfl⟩;have HP:=aa hP;go_wp2_with fail
 rw[hP]at U0;refine U0.out.mono ?_;rintro e W3 ⟨n,b3,rfl,s3,k3,KE,he3⟩;have HK3:Hid (dz (λk=>k=P) W1 W3):=dz.trans ((dz.refl _ _).alloc _) k3;have H3:=aa (aB KE he3);have jC:=aa (BG W3 s3 (by rw[List.length_tail];omega));clear s3 k3 KE he3 U0;obtain⟨x2,hx2⟩:∃x2,ws.tail.headD []=x2:=⟨_,rfl⟩;have sV:=aa hx2;obtain⟨z2,hz2⟩:∃z2,tx x2=z2:=⟨_,rfl⟩;obtain⟨d,hd⟩:∃d,(z2.toList==[111,107])=d:=⟨_,rfl⟩;have HD:Hid ((x2==[111,107])=d):=by show _ = _;rw[<-hd,<-hz2,fA]
 rw[hx2,hz2]at jC;clear hx2 hz2;go_wp2_with fail
 refine jC.out.mono ?_;rintro e W4 ⟨rfl,s4,k4⟩;have K6:=aa s4;have HK4:Hid (dz (λk=>k=P) W1 W4):=HK3.out.trans k4;clear s4 k4 jC HK3;obtain⟨B,hB⟩:∃B,W4.heap.size=B:=⟨_,rfl⟩;have HBQ:=aa hB;go_wp2_with fail
 have hW4:P<W4.heap.size:=bR (by obtain⟨_,_,h⟩:=K6.out.tb;exact(fF.1 h).1) (av _);have agz:Hid (Ext w W4):=dz.out HB1.out HK4.out (λi e=>by rw[e,<-HP.out];exact HB1.out.size);have RP:Hid (∀W,dz (λk=>k=P) W1 W->Ext w W):=λW k=>dz.out HB1.out k (λi e=>by rw[e,<-HP.out];exact HB1.out.size);have zh:Hid (yJ l n d (match ws.tail with | []=>true|_=>b3) []):=λt' hk he=>by rw[Ku.out]at he;have hd:=HD.out;have hx2:=sV.out;have h3:=H3.out.1 t'.az.toNat (by have:=kS hk;omega);rw[he]at hx2 h3 ⊢;obtain⟨h4,h5⟩:=h3 rfl;refine⟨h5,by have:=kS hk;omega,?_,by simp⟩;rw[<-hd,<-hx2];simp only[dB,List.tail_cons,List.headD_cons];cases t'.done<;>decide
 obtain⟨b4,hb4⟩:∃b4,(b3 || ws.tail.isEmpty)=b4:=⟨_,rfl⟩;rw[hb4]at K6;replace zh:Hid (yJ l n d b4 []):=by
  have h:=zh.out;rw[<-hb4]
  cases hw:ws.tail with
  | nil=>rw[hw]at h;show yJ _ _ _ _ _;simpa using h
  | cons a r=>rw[hw]at h;show yJ _ _ _ _ _;simpa using h
 clear hb4 HD H3 sV;go_loopw [] (λwr=>dz (λk=>k=P) W1 wr/\Hid (∃(b':Bool) (rem:List (List UInt8)) (ops:List aV) (ov:Value),Scan P wr rem b'/\wr.heap[B]? =some (.cells #[.int .i64 n,ov,.bool d] 48 (0,0))/\Row 67 3 encOpr P wr ov ops/\yJ l n d b' ops/\rem=ws.drop (2+ops.length)/\ops.length<=ws.length)) (λwr=>Ua wr P)
 case atStart=>
  refine⟨HK4.out.alloc _,b4,ws.tail.tail,[],.slice none 0 0,K6.out.ext ((af _).alloc _),?_,Row.nil,zh.out,?_,aT _⟩
  ·rw[<-HBQ.out];exact dP W4 _
  ·rw[<-List.drop_one,<-List.drop_one,agM];rfl
 case round=>
  obtain⟨hb,HI⟩:=hrel;obtain⟨b',rem,ops,ov,hsc,hbx,hrow,hinv,Yh,hol⟩:=HI.out;obtain⟨A,c,c0,c1,fz,_⟩:=hsc.cells;have f1:=fz 1;obtain⟨A5,c5,rfl,_⟩:=id hrow.cell.1;have B0:wr.cell? ⟨B,0,none⟩=some (.int .i64 n):=by simp[World.cell?,hbx]
  have B1:wr.cell? ⟨B,1,none⟩=some (.slice A5 ops.length c5):=by simp[World.cell?,hbx]
  have B2:wr.cell? ⟨B,2,none⟩=some (.bool d):=by simp[World.cell?,hbx]
  have Ru:=aa hinv;have UT:=aa hsc;have JP:=aa hbx;have rA:=aa hrow;have MB:=aa Yh;have hcap:=hrow.cap _ _ _ rfl;clear HI hsc hbx hrow hinv Yh fz
  cases b' with
  | true=>
    have mF:Hid (dQ l=none):=nK λt' hk he=>by cases (Ru.out t' hk he).1
    have X:=hb;have t0:=X.cell HT.out.1 (by simp;omega);have t1:=X.cell HT.out.2.1 (by simp;omega);have t2:=X.cell HT.out.2.2.1 (by simp;omega);have tf:∀j,wr.frozen? ⟨w.heap.size,j,none⟩=false:=λj=>(X.frozen hw1 (by simp;omega)).trans (HT.out.2.2.2 j);have tf0:=tf 0;have tf1:=tf 1;have tf2:=tf 2;have XE:=aa (RP.out _ X);clear tf X;clear c0 B0 B1 B2;go_wp2;obtain⟨y0,y1,y2⟩:=eT (.int .i64 0) (.slice none 0 0) (.bool false) t0 t1 t2;refine bodyPost_ret (v:=.tuple #[.agg #[.int .i64 0,.slice none 0 0,.bool false],.bool false]) (by simp[results,Tryz.results101,go_sem,y0,y1,y2]) rfl ?_;exact⟨⟨0,[],false⟩,.slice none 0 0,by rw[mF.out];rfl,aL.nil _ _ _ _ _,nG (av _) (by omega),λt' ht=>(by rw[mF.out]at ht;cases ht),λa n c e=>(by cases e),((XE.out.setCell (av _) _).setCell (av _) _).setCell (av _) _⟩
  | false=>
    cases rem with
    | nil=>
      have hall:Hid (∀t',dG t'=true->splitL 32 l=dB t'->n=t'.az/\d=t'.done/\ops=t'.ops):=λt' hk he=>by obtain⟨_,e1,e2,e3⟩:=Ru.out t' hk he;refine⟨e1,e2,?_⟩;have h0:=agB List.length MB.out;rw[<-Ku.out,he]at h0;simp[dB]at h0;rw[e3,jX (by omega)]
      have HTT:=aa (λW (h:Ext wr W)=>BP ⟨n,ops,d⟩ _ W (rA.out.cell.1.ext h) (by simp only;omega));go_wp2_with fail
      refine(HTT.out _ (af _)).mono ?_
      rintro e W5 ⟨rfl,b5⟩;have B0:=b5.cell B0;have B1:=b5.cell B1;have B2:=b5.cell B2;have HCP:=aa (yh n d W5 (rA.out.cell.1.ext b5) (by omega));have BS:=aa (hb.ext b5);clear c0 c1 f1 b5 hb HTT;by_cases hc:jd ⟨n,ops,d⟩=l
      ·have hyes:Hid (dQ l=some ⟨n,ops,d⟩):=by
        show _ = _;unfold jd at hc;split at hc
        ·rename_i hk;exact oJ.2 ⟨hk,hc⟩
        ·exact absurd hc.symm HL.out.2
       rw[hc,HZ.out];clear hc;go_wp2_with fail
       refine HCP.out.mono ?_;rintro e W6 ⟨A6,rfl,hs6,ho6,_,b6⟩;have HS6:=aa (aB hs6 ho6);have hw5:w.heap.size<W5.heap.size:=bR hw1 BS.out.size;have X:=BS.out.ext b6;have t0:=X.cell HT.out.1 (by simp;omega);have t1:=X.cell HT.out.2.1 (by simp;omega);have t2:=X.cell HT.out.2.2.1 (by simp;omega);have tf:∀j,W6.frozen? ⟨w.heap.size,j,none⟩=false:=λj=>(X.frozen hw1 (by simp;omega)).trans (HT.out.2.2.2 j);have tf0:=tf 0;have tf1:=tf 1;have tf2:=tf 2;have XE:=aa (RP.out _ X);clear tf X;clear hs6 ho6 b6 B0 B1 B2;go_wp2;obtain⟨y0,y1,y2⟩:=eT (.int .i64 n) (.slice A6 ops.length ops.length) (.bool d) t0 t1 t2;refine bodyPost_ret (v:=.tuple #[.agg #[.int .i64 n,.slice A6 ops.length ops.length,.bool d],.bool true]) (by simp[results,Tryz.results101,go_sem,y0,y1,y2]) rfl ?_;have k6:dz (λi=>i=w.heap.size) W6 (((W6.setCell ⟨w.heap.size,0,none⟩ (.int .i64 n)).setCell ⟨w.heap.size,1,none⟩ (.slice A6 ops.length ops.length)).setCell ⟨w.heap.size,2,none⟩ (.bool d)):=
        ((dz.setCell (X:=λi=>i=w.heap.size) (dz.refl _ _) (.inl rfl) _).setCell (.inl rfl) _).setCell (.inl rfl) _
       exact⟨⟨n,ops,d⟩,.slice A6 ops.length ops.length,by rw[hyes.out];rfl,HS6.out.1.frX k6 (λa m c e hm=>(by have:=(HS6.out.2 a m c e hm).1;omega)),nG (av _) (by omega),λt' ht=>(by rw[hyes.out]at ht;cases ht;rfl),λa m c e hm=>(by have:=(HS6.out.2 a m c e hm).1;have:=(RP.out _ BS.out).size;omega),((XE.out.setCell (av _) _).setCell (av _) _).setCell (av _) _⟩
      ·have mF:Hid (dQ l=none):=nK λt' hk he=>hc (by
        obtain⟨e1,e2,e3⟩:=hall.out t' hk he;have ht:(⟨n,ops,d⟩:aG)=t':=by cases t';simp only at e1 e2 e3;rw[e1,e2,e3]
        rw[ht,jd,aj hk,nk,<-he,Az])
       obtain⟨z5,hz5⟩:∃z5,tx (jd ⟨n,ops,d⟩)=z5:=⟨_,rfl⟩;have hq:(z5.toList==z.toList)=false:=by rw[<-hz5,<-HZ.out,fA,fA];simpa using hc
       rw[hz5];have X:=BS.out;have t0:=X.cell HT.out.1 (by simp;omega);have t1:=X.cell HT.out.2.1 (by simp;omega);have t2:=X.cell HT.out.2.2.1 (by simp;omega);have tf:∀j,W5.frozen? ⟨w.heap.size,j,none⟩=false:=λj=>(X.frozen hw1 (by simp;omega)).trans (HT.out.2.2.2 j);have tf0:=tf 0;have tf1:=tf 1;have tf2:=tf 2;have XE:=aa (RP.out _ X);clear tf X;clear hc hz5 B0 B1 B2;go_wp2;obtain⟨y0,y1,y2⟩:=eT (.int .i64 0) (.slice none 0 0) (.bool false) t0 t1 t2;refine bodyPost_ret (v:=.tuple #[.agg #[.int .i64 0,.slice none 0 0,.bool false],.bool false]) (by simp[results,Tryz.results101,go_sem,y0,y1,y2]) rfl ?_;exact⟨⟨0,[],false⟩,.slice none 0 0,by rw[mF.out];rfl,aL.nil _ _ _ _ _,nG (av _) (by omega),λt' ht=>(by rw[mF.out]at ht;cases ht),λa n c e=>(by cases e),((XE.out.setCell (av _) _).setCell (av _) _).setCell (av _) _⟩
    | cons x r=>
      have hrl:(x :: r).length<=1048577:=by rw[MB.out,rX];omega
      have hxw:ws[2+ops.length]? =some x:=by
       have:=agB (λl=>l[0]?) MB.out
       simp only[List.getElem?_cons_zero,Bd,fE]at this;exact this.symm
      have hxl:=HX.out x (aM hxw);have aeB:ops.length+1<=ws.length:=by have:=(bG.1 hxw).1;omega
      have hr2:Hid (r=ws.drop (2+(ops.length+1))):=by
       have:=agB List.tail MB.out
       rw[List.tail_drop]at this;exact this
      obtain⟨zx,hzx⟩:∃zx,tx x=zx:=⟨_,rfl⟩;have jC:=aa (BG wr UT.out (by omega));simp only[List.headD_cons,List.tail_cons,List.isEmpty_cons,Bool.or_false]at jC;rw[hzx]at jC;obtain⟨o,ho⟩:∃o,(iy x).getD ⟨0,0,0⟩=o:=⟨_,rfl⟩;obtain⟨ok,hok⟩:∃ok,(iy x).isSome=ok:=⟨_,rfl⟩;have adh:Hid (yJ l n d (!ok) (ops++[o])):=λt' hk he=>by obtain⟨_,e1,e2,e3⟩:=Ru.out t' hk he;have hx2:=hxw;rw[<-Ku.out,he,show 2+ops.length=ops.length+1+1 by omega]at hx2;simp only[dB,List.getElem?_cons_succ,jT]at hx2;obtain⟨o',ho',hxo⟩:=kL.1 hx2;have hrd:iy x=some o':=lI.2 ⟨gD hk (aM ho'),hxo⟩;rw[hrd]at ho hok;simp only[Option.getD_some,Option.isSome_some]at ho hok;subst ho hok;refine⟨rfl,e1,e2,?_⟩;rw[dw,oN,ak ho',<-e3]
      have JM:Hid (∀W,Ext w W->Calls Tryz.prog 139 #[.string zx] W λe w'=>e=.returned (.tuple #[.agg #[.int .i64 o.kind,.int .i64 o.key,.int .i64 o.value],.bool ok])/\Ext W w'):=λW h=>by
       have:=OV x W (HE.out.ext h) (by have:=HL.out.1;omega)
       unfold Ya at this;rw[ho,hok,hzx]at this;exact this
      have HPN:Hid (P≠B):=λe=>by
       have:=TB.ne UT.out.tb ⟨_,_,JP.out⟩ (by decide)
       exact this e
      have OT:=aa UT.out.left;clear hxw hxl ho hok hzx hrl f1;obtain⟨kd,ky,vl⟩:=o;simp only at JM;go_wp2_with fail
      refine jC.out.mono ?_;rintro e W5 ⟨rfl,s5,k5⟩;have NH:=aa s5;have HK5:=aa k5;clear s5 k5;go_wp2_with fail
      refine(JM.out _ (RP.out _ (hb.trans HK5.out))).mono ?_
      rintro e W6 ⟨rfl,b6⟩;have hS6:=NH.out.ext b6;have hK6:=HK5.out.ext b6;obtain⟨A,c,c0,c1,fz,_⟩:=hS6.cells;have f1:=fz 1;have hPB:=HPN.out;have hBP:=hPB.symm;have B0:=hK6.cell B0 (by simpa using hBP);have B1:=hK6.cell B1 (by simpa using hBP);have B2:=hK6.cell B2 (by simpa using hBP);have KB:dz (λk=>k=P) wr ((W6.setCell ⟨P,1,none⟩ (.bool (!ok))).alloc (.cells #[.int .i64 kd,.int .i64 ky,.int .i64 vl] 67)):=(hK6.setCell (.inl rfl) _).alloc _;have FN:=eU rA.out KB (λk hk=>TB.ne (TB.dS rA.out hk) UT.out.tb (by decide));have hPW:P<=W6.heap.size:=aX (aai (by obtain⟨_,_,h⟩:=hS6.tb;exact(fF.1 h).1)) (av _);obtain⟨v',w7,hrun,hp⟩:=jY (W6.heap.size+1) (by simp) eG mq rfl (by omega) FN (af _) ⟨kd,ky,vl⟩ (λj=>wh _ j) #[.int .i64 kd,.int .i64 ky,.int .i64 vl] rfl (by simp;omega) (by omega) (by omega);have hT7:=jV FN hp (dz.out (af W1) (hb.trans KB) (λi e=>(by rw[e,HP.out];omega))) (by rw[HP.out];omega);obtain⟨A7,c7,rfl,_⟩:=id hp.1.cell.1;rw[show (ops++[(⟨kd,ky,vl⟩:aV)]).length=ops.length+1 by simp]at hp hrun;have bH:=aa hrun;have Fq:=hT7.heap (KB.heap JP.out (by simpa using hBP)) (λe=>TB.ne (TB.dS FN e) ⟨_,_,KB.heap JP.out (by simpa using hBP)⟩ (by decide) rfl);have g1:w7.cell? ⟨B,1,none⟩=some (.slice A5 ops.length c5):=by simp[World.cell?,Fq]
      have gf:w7.frozen? ⟨B,1,none⟩=false:=by simp[World.frozen?,Fq]
      have ac7:Scan P ((W6.setCell ⟨P,1,none⟩ (.bool (!ok))).alloc (.cells #[.int .i64 kd,.int .i64 ky,.int .i64 vl] 67)) r (!ok):=(hS6.mark (!ok)).ext ((af _).alloc _);have aaB:=ac7.far hT7 (λq e=>⟨_,TB.dS FN e,by decide,by decide⟩);have ad8:Hid (Scan P (w7.setCell ⟨B,1,none⟩ (.slice A7 (ops.length+1) c7)) r (!ok)):=aaB.other ⟨_,_,Fq⟩ (by decide) _ _;have afb:Hid ((w7.setCell ⟨B,1,none⟩ (.slice A7 (ops.length+1) c7)).heap[B]? =some (.cells #[.int .i64 n,.slice A7 (ops.length+1) c7,.bool d] 48 (0,0))):=heap_set Fq _;have adH:Hid (Row 67 3 encOpr P (w7.setCell ⟨B,1,none⟩ (.slice A7 (ops.length+1) c7)) (.slice A7 (ops.length+1) c7) (ops++[(⟨kd,ky,vl⟩:aV)])):=
       eU hp.1 (dz.setCell (X:=λk=>k=B) (dz.refl _ _) (.inl rfl) _) (λk hk=>TB.ne (TB.dS hp.1 hk) ⟨_,_,Fq⟩ (by decide))
      have hBW:P<=B:=by rw[<-HBQ.out];omega
      have hP6:P<W6.heap.size:=by obtain⟨_,_,h⟩:=hS6.tb;exact(fF.1 h).1
      have NS:B<W6.heap.size:=(fF.1 (hK6.heap JP.out (by simpa using hBP))).1;have QE:Hid (dz (λk=>k=P) W1 (w7.setCell ⟨B,1,none⟩ (.slice A7 (ops.length+1) c7))):=
       ((hb.trans KB).more hT7 (λi e=>.inr (by rw[HP.out];exact(jU FN e).1))).setCell (.inr (by rw[HP.out];exact hBW)) _
      clear hrun hp hT7 Fq ac7 aaB FN KB hS6 hK6 b6 hb fz;go_wp2_with (at_builtin;refine wpList_append_run rfl rfl rfl rfl bH.out ?_)
      go_roundw;case rel=>exact⟨QE.out,!ok,r,ops++[⟨kd,ky,vl⟩],_,ad8.out,afb.out,adH.out,adh.out,by rw[dw];exact hr2.out,by simp;omega⟩
      case measure=>
       rw[OT.out]
       have:=ad8.out.left
       simp only[eO];omega
def Fh(l:List UInt8):Value:=.string (tx l)
theorem Yg(a b:List UInt8):(tx a==tx b)=decide (a=b):=by
 have h0:(tx a==tx b)=((tx a).data==(tx b).data):=rfl;rw[h0];by_cases h:a=b
 ·subst h;simp
 ·rw[dU h,fU];intro e;refine h (abV ?_);show ByteArray.mk (tx a).data=ByteArray.mk (tx b).data;rw[e]
theorem PE(k:List UInt8):∀(es:List MapEntry) (l:List (List UInt8 × Value)) (i:Nat),es.map (λe=>(e.key,e.val))=l.map (λp=>(Fh p.1,p.2)) ->
 Instr.findNow .string (Fh k) es i=some ((l.findIdx? (λp=>p.1==k)).map λj=>(i+j,(l[j]?.map (·.2)).getD undef))
 | [],[],i,_=>by simp[Instr.findNow]
 | [],_ :: _,_,h=>by simp at h
 | _ :: _,[],_,h=>by simp at h
 | e :: es,p :: l,i,h=>by
   simp only[qc,List.cons.injEq,Prod.mk.injEq]at h;obtain⟨⟨hk,hv⟩,h⟩:=h;have ih:=PE k es l (i+1) h;rw[Instr.findNow,hk,hv];unfold Fh at *;simp only[Instr.sameNow,Yg];by_cases e:k=p.1
   ·subst e;simp[List.findIdx?_cons]
   ·have e2:(p.1==k)=false:=by simp;exact λh=>e h.symm
    rw[dU e];simp only[ih,List.findIdx?_cons,e2];simp only[Option.map_map,Bool.false_eq_true,if_false]
    cases l.findIdx? (λp=>p.1==k) with
    | none=>rfl
    | some j=>simp;omega
theorem lN{P:Program}{KT:TypeId}(hK:P.underlying KT=some .string):Er P KT Fh where
 check b k W:=Go.MapKept.run_checkKey hK (by simp[Go.MapKept.IsKey,Fh]) b 9999
 find k es l h W:=by
  simp only[Instr.findKey,Sem.run_bind,run_underlying hK,Result.andThen_ok,PE k es l 0 h,Sem.run_pure,ig];have e:(λp:List UInt8 × Value=>p.1==k)=λp=>@BEq.beq _ instBEqOfDecidableEq p.1 k:=by funext p;show (p.1==k)=decide (p.1=k);rw[kQ,beq_iff_eq,rU]
  rw[e]
 stay k W:=by simp[Instr.keyThatStays,Instr.sameBits,Fh,Yg]
def KS:Go.Shelf.Ren:=⟨fun|167=>134|n=>Tryz.lays156_ren.f n,Tryz.lays156_ren.t,Tryz.lays156_ren.g⟩
theorem adY:Go.Proofs.Lays.n167 Tryz.prog KS:={ Tryz.lays156 with
 f167:=Tryz.func134.trans (agB some (by kernel_rfl))
 f240:=Tryz.lays156.f240
 f276:=Tryz.lays156.f276
 t5:=Tryz.underlying5
 a5:=Tryz.isAgg5
 z5:=Tryz.sizeOf5
 v5:=Tryz.zeroValue5 }
theorem abJ:Builder.Extra Tryz.prog KS:={ Tryz.Builder_Extra_156 with }
theorem afd:Go.Proofs.Lays.n166 Tryz.prog Tryz.lays156_ren:={ Tryz.lays156 with }
def Bld(B b:Nat)(l:List UInt8)(w:World):Prop:=Lib.IsBuilder 123 5 B b (Lib.byteCells l) w
theorem J5(B b:Nat)(l:List UInt8)(c:UInt8)(w:World)(h:Bld B b l w)(hl:l.length<=1000000)(hB:B<=w.heap.size) :
 Calls Tryz.prog 134 #[.pointer (some ⟨b,0,none⟩),.int .u8 (c.toNat:Int)] w λe w'=>e=.returned .nilIface/\Bld B b (l++[c]) w'/\Below B w w':=by
 refine Calls.mono (Any.Builder_WriteByte adY abJ B b (Lib.byteCells l) (c.toNat:Int) w h (by rw[Lib.byteCells_length];omega) hB) ?_;rintro e w' ⟨rfl,h1,h2⟩;exact⟨rfl,.inr (by rw[Lib.byteCells_append];exact h1),h2⟩
theorem wT(B b:Nat)(l s:List UInt8)(w:World)(h:Bld B b l w)(hl:l.length<=1000000)(hs:s.length<=1000000)(hB:B<=w.heap.size) :
 Calls Tryz.prog 93 #[.pointer (some ⟨b,0,none⟩),.string (tx s)] w λe w'=>e=.returned (.tuple #[.int .i64 s.length,.nilIface])/\Bld B b (l++s) w'/\Below B w w':=by
 refine Calls.mono (Any.Builder_WriteString afd Tryz.Builder_Extra_156 B b (Lib.byteCells l) (tx s) w h (by rw[Lib.byteCells_length,dR];omega) hB) ?_;rintro e w' ⟨rfl,h1,h2⟩;exact⟨rfl,.inr (by rw[Lib.byteCells_append];exact h1),h2⟩
theorem Kk(B b:Nat)(l:List UInt8)(w:World)(h:Bld B b l w)(hB:B<=w.heap.size) :
 Calls Tryz.prog 94 #[.pointer (some ⟨b,0,none⟩)] w λe w'=>e=.returned (.string (tx l))/\Below B w w':=Tryz.Builder_String_any B b l w h hB
theorem aaz(w:World):Bld w.heap.size w.heap.size [] (w.alloc (.cells #[.pointer none,.slice none 0 0] 123)):=
 .inl ⟨av _,_,dP w _,World.ownsRow_nil _ _ _ _,by simp[Value.ownBlock]⟩
theorem MF(x:Int)(w:World):Calls Tryz.prog 132 #[.int .i64 x] w λe w'=>e=.returned (.bool (!lH x 0 1000))/\w=w':=by
 cases h:lH x 0 1000<;>(
  go_enter Tryz.func132,Tryz.ntmps132;go_wp2_with (go_at_call 133;refine(Sm _ _).mono ?_;rw[h];rintro e w' ⟨rfl,rfl⟩)
  go_returns;exact⟨rfl,rfl⟩)
theorem OG(args:Array Value)(W:World):(callFunc 132 args).run Tryz.prog W=.ok (.enter 132 args) W:=by kernel_rfl
theorem U1{xs:List Int}:(numsL xs).length<=xs.length*3:=by
 have:=qd [32] 2 (xs.map λx=>bT x.toNat) (λw hw=>by obtain⟨x,_,rfl⟩:=fV.1 hw;exact kE _)
 simpa[numsL] using this
theorem UB{xs:List Int}{x:Int}(hx:xs[0]? =some x):numsL (xs.take 1)=bT x.toNat:=by
 cases xs with
 | nil=>cases hx
 | cons a r=>cases hx;simp[numsL,joinL]
theorem RB{xs:List Int}{k:Nat}{x:Int}(hk:0<k)(hx:xs[k]? =some x):numsL (xs.take (k+1))=numsL (xs.take k)++[32]++bT x.toNat:=by
 unfold numsL;rw[ak hx,rR];exact Bj [32] _ _ (λh=>by
  have:=agB List.length h
  have hl:=(bG.1 hx).1;simp at this;rcases this with h|h
  ·omega
  ·subst h;simp at hl)
theorem DY{v:Value}{xs:List Int}(w:World)(h:oZ encI w v xs)(hlen:xs.length<=1000)(hx:∀x∈xs,0<=x/\x<100) :
 Calls Tryz.prog 99 #[v] w λe w'=>e=.returned (.string (tx (numsL xs)))/\Ext w w':=by
 obtain⟨A,c,rfl,_⟩:=id h;have HS:=aa h;have HX:=aa hx;have hany:xs.any (λx=>!lH x 0 1000)=false:=by
  rw[List.any_eq_false];intro x hm
  have:=hx x hm
  simp[lH];omega
 have HC:=aa (tY w 132 #[] (λx=>!lH x 0 1000) h (by omega) OG (λx _ W _=>(MF x W).mono (by rintro e w' ⟨rfl,rfl⟩;exact⟨rfl,af _⟩)));rw[hany]at HC;clear h hx hany;go_enter Tryz.func99,Tryz.ntmps99;go_wp2_with (go_at_call 131;refine HC.out.mono ?_;rintro e w1 ⟨rfl,b1⟩)
 go_loopw [10] (λi wr=>Ext w1 wr/\∃k:Nat,k<=xs.length/\i=.int .i64 (k:Int)/\Hid (Bld w1.heap.size w1.heap.size (numsL (xs.take k)) wr)) (λi _=>xs.length-(intOf i).toNat)
 case atStart=>exact⟨(af _).alloc _,0,aT _,rfl,aaz w1⟩
 case round=>
  obtain⟨hb,k,hk,rfl,HB⟩:=hrel;by_cases hlt:k<xs.length
  ·obtain⟨A',c',e,hcc⟩:=(HS.out.ext b1).ext hb;injection e with e1 e2 e3;subst e1 e3;obtain⟨b',off',rfl,ru,hcc⟩:=hcc (by omega);obtain⟨x,hx⟩:=ah hlt;have d0:wr.cell? ⟨b',off'+k,none⟩=some (.int .i64 x):=hcc k x hx;have hx0:=HX.out x (aM hx);have HXX:=aa hx;have hle:w1.heap.size<=wr.heap.size:=hb.size;have hl1:(numsL (xs.take k)).length<=3000:=by have h1:=U1 (xs:=xs.take k);have h2:=List.length_take_le k xs;omega
   have HB2:=HB;clear hcc hx e2 HB;by_cases hk0:0<k
   ·have HN:=aa (RB hk0 HXX.out);have hkd:decide (0<k)=true:=jw hk0;clear hk0;go_wp2_with (first|(go_at_call 134;refine(J5 _ _ _ 32 _ HB2.out (by omega) hle).mono ?_;rintro e w2 ⟨rfl,h2,b2⟩;have H2:=aa h2;have hE2:Hid (Ext w1 w2):=Below.trans hb b2;have hle2:=hE2.out.size;clear h2 b2)|(go_at_call 49;refine(sH x _ hx0.1 hx0.2).mono ?_;rintro e w' ⟨rfl,rfl⟩)|(go_at_call 93;refine(wT _ _ _ (bT x.toNat) _ H2.out (by simp;omega) (by have:=kE x.toNat;omega) hle2).mono ?_;rintro e w3 ⟨rfl,h3,b3⟩;have H3:=aa h3;have NK:Hid (Ext w1 w3):=Below.trans hE2.out b3;clear h3 b3))
    go_roundw;case rel=>exact⟨NK.out,k+1,by omega,by go_num,by rw[HN.out];exact H3⟩
    case measure=>simp[intOf];omega
   ·obtain rfl:k=0:=by omega
    have HN:=aa (UB HXX.out);have h00:numsL (xs.take 0)=[]:=rfl;rw[h00]at HB2;rw[fE]at d0;clear hk0 h00;go_wp2_with (first|(go_at_call 49;refine(sH x _ hx0.1 hx0.2).mono ?_;rintro e w' ⟨rfl,rfl⟩)|(go_at_call 93;refine(wT _ _ _ (bT x.toNat) _ HB2.out (by simp) (by have:=kE x.toNat;omega) hle).mono ?_;rintro e w3 ⟨rfl,h3,b3⟩;have H3:=aa h3;have NK:Hid (Ext w1 w3):=Below.trans hb b3;clear h3 b3))
    go_roundw;case rel=>exact⟨NK.out,1,by omega,by go_num,by rw[HN.out];exact H3⟩
    case measure=>simp[intOf];omega
  ·obtain rfl:k=xs.length:=by omega
   have hle:w1.heap.size<=wr.heap.size:=hb.size;rw[bM]at HB;go_wp2_with (go_at_call 94;refine(Kk _ _ _ _ HB.out hle).mono ?_;rintro e w3 ⟨rfl,b3⟩)
   go_returns;exact⟨rfl,b1.trans (Below.trans hb b3)⟩
theorem Ik(x:Int)(w:World)(h0:0<=x)(h1:x<=4) :
 Calls Tryz.prog 96 #[.int .i64 x] w λe w'=>e=.returned (.string (tx (levL x.toNat)))/\Ext w w':=by
 have hx:x=0∨x=1∨x=2∨x=3∨x=4:=by omega
 clear h0 h1;rcases hx with rfl|rfl|rfl|rfl|rfl<;>(
  go_enter Tryz.func96,Tryz.ntmps96;go_wp2_with (go_at_call 106;refine(eZ _ _ _ _).mono ?_;rintro e w' ⟨rfl,rfl⟩)
  go_returns;exact⟨rfl,(af _).alloc _⟩)
theorem Es(l:List UInt8)(w:World) :
 Calls Tryz.prog 98 #[.string (tx l)] w λe w'=>e=.returned (.string (tx (Rm l)))/\w=w':=by
 by_cases h:l=[]
 ·subst h;go_enter Tryz.func98,Tryz.ntmps98;have hq:(tx []).toList.isEmpty=true:=by rw[fA];rfl
  go_wp2;go_returns;exact⟨rfl,rfl⟩
 ·have he:Rm l=l:=au h;rw[he]
  have hq:(tx l).toList.isEmpty=false:=by rw[fA];cases l with
   | nil=>exact absurd rfl h
   | cons=>rfl
  clear h he;go_enter Tryz.func98,Tryz.ntmps98;go_wp2;go_returns;exact⟨rfl,rfl⟩
section
open Go.RowKit Go.ChangeShapes Go.WideShapes Go.ChangeAt Go.Deep
theorem Ht{H:Type}{enc:TypeId × Value->H}{W:World}{a:Option Addr}{n c:Nat}{d:DataW H}{p:List MemPlace}(h:DataW.Trod enc Tryz.prog W 0 (λ_=>true) true 22 (.slice a n c) d p) :
 ∃xs:List Int,oZ Nk W (.slice a n c) xs/\xs.length<=9223372036854775807/\(∀x∈xs,0<=x/\x<=255)/\n<=c/\c<=9223372036854775807:=by
 obtain⟨fuel,hf⟩:=h;rcases open_ints Tryz.underlying22 Tryz.underlying5 (by kernel_rfl) hf with ⟨hcs,_⟩|⟨x,l,cp,zs,hcs,_,hl,hm,hz,_,hcell,hwz⟩
 ·simp[Value.cells]at hcs;obtain⟨rfl,rfl,rfl⟩:=hcs;exact⟨[],oZ.nil _ _ _ _,by simp,(λx hx=>by cases hx),by simp⟩
 ·simp[Value.cells]at hcs;obtain⟨rfl,rfl,rfl⟩:=hcs;simp at hz;have hzl:(zs.take n).length=n:=by simp;omega
  refine⟨zs.take n,⟨some x,_,by rw[hzl],λhn=>?_⟩,by rw[hzl];simp only[maxLen]at hm;omega,λy hy=>?_,hl,by simpa only[maxLen] using hm⟩
  ·rw[hzl]at hn;have h0:=hcell 0 (by omega);obtain⟨b,off,sp⟩:=x;have hs:sp=none:=by
    simp only[Addr.add,if_true]at h0
    cases sp with
    | none=>rfl
    | some s=>simp[World.cell?]at h0;split at h0<;>cases h0
   subst hs;have hadd:∀n,(⟨b,off,none⟩:Addr).add n=⟨b,off+n,none⟩:=λn=>by
    unfold Addr.add;split
    ·rename_i h;rw[h];rfl
    ·rfl
   refine⟨b,off,rfl,?_,λi y hy=>?_⟩
   ·rw[hadd]at h0;rcases eP b W.heap.size with h|h
    ·exact h
    ·simp[World.cell?,DR h]at h0
   ·have hi:i<n:=by have:=(bG.1 hy).1;simp at this;omega
    have:=hcell i (by omega)
    rw[hadd]at this;rw[this];rw[List.getElem?_take_of_lt hi]at hy;rw[mI,hy];rfl
  ·have:=hwz y (oI hy)
   simp[Lit.wf,IntKind.min,IntKind.max,IntKind.signed,IntKind.bits]at this;omega
theorem Pv{laid:List (String × DataW Unit)}{W:World}{nm name:String}{d:DataW Unit}{g:Nat}{t:TypeId}{ms:Array (String × TypeId)}(hp:(laid.all λx=>x.2.handleName?.isNone)=true)(hm:(nm,(DataW.iface name d:DataW Unit))∈laid)(h:laidMetH Tryz.prog laid W)
 (hg:Tryz.prog.globalNamed nm=some g) (ht:(Tryz.prog.globals[g]?).map (·.type)=some t) (hi:Tryz.prog.underlying t=some (.interface ms)):∃te pe,W.cell? ⟨g,0,none⟩=some (.iface te pe):=by
 have h1:=(laidMetH_iff.1 h).1;have h2:(nm,(DataW.iface name d:DataW Unit))∈laid.filter λx=>x.2.handleName?.isNone:=nT.2 ⟨hm,kT.1 hp _ hm⟩;obtain⟨g',t',cs,fuel,p,hg',hty,hvar,hd⟩:=Lib.laidMet.reads h1 h2;obtain rfl:=M5 (hg.symm.trans hg');obtain rfl:=M5 (ht.symm.trans hty);obtain⟨_,u,v,hcs,_⟩:=iface_of_trod hi hd;refine⟨u,v,?_⟩;rw[World.var?_cell hg' hvar 0,<-Array.getElem?_toList,hcs];rfl
theorem Ea{laid:List (String × DataW Unit)}{W:World}(hp:(laid.all λx=>x.2.handleName?.isNone)=true)(hm1:("strconv.ErrSyntax",Rows.laid_strconv_ErrSyntax)∈laid) (hm2:("strconv.ErrRange",Rows.laid_strconv_ErrRange)∈laid) (h:laidMetH Tryz.prog laid W) (hsh:W.ShapedOpen Tryz.prog):Env W where
 max:=cell_of_shapedOpen_int (P:=Tryz.prog) (g:=0) (t:=3) (zero:=#[.int .i64 0]) hsh (of_decide_eq_true (by kernel_rfl)) (by kernel_rfl) rfl (by kernel_rfl) (by kernel_rfl) agC
 syn:=Pv (g:=4) (t:=126) hp hm1 h (by kernel_rfl) (by kernel_rfl) Tryz.underlying126
 rng:=Pv (g:=5) (t:=126) hp hm2 h (by kernel_rfl) (by kernel_rfl) Tryz.underlying126
theorem rY{H:Type}{enc:TypeId × Value->H}{a:Assume}{C:Checked}{os:Os}{f:FuncId}{fn:Func}{s:ChangeSpec}{conds:List PathCond}{apart fresh handsOn again:Bool}{X:World->Array Value->Prop}
 (hX:∀(w w':World) (args:Array Value),w.heap=w'.heap->X w args->X w' args)
 (own:ownKnob C.prog.godebug=none) (started:os.Started) (noInit:C.prog.inits.idxOf? f=none) (hfn:C.prog.funcs[f]? =some fn)
 (witness:∃(w:World) (tape:Tape) (i:Input),w.os=os/\(w.forCall tape i).Shaped C.prog/\i.vars=[]/\Input.okWide C.prog (w.forCall tape i) .any w.heap.size f i /\
  ((s.pre enc C.prog fn conds apart (w.forCall tape i).memory i.args/\X (w.forCall tape i).memory i.args)/\sizedMet enc C.prog fn (OpenSpec.ofChange s) apart (w.forCall tape i).memory i.args)/\a.holds C.prog (lone (Frame.enter C.prog f i.args .normal) [] (w.forCall tape i)))
 (contract:∀(W:World) (base:Nat) (args:Array Value) (ds gs:List (DataW H)) (before:List MemPlace),
  (∀(j:Nat) t v,fn.params[j]? =some t->args[j]? =some v->Value.okWide C.prog W .any base t v) ->
  DataW.Whole enc C.prog fn.params.toList s.vars apart W args.toList ds gs before ->
  X W args->W.ShapedOpen C.prog ->
  Calls C.prog f args W λe W'=>∃v,e=.returned v/\s.post enc C.prog fn apart fresh handsOn again W args v W') :
 ReturnsInHanded a C os f .any (λw args=>(s.pre enc C.prog fn conds apart w args/\X w args)/\sizedMet enc C.prog fn (OpenSpec.ofChange s) apart w args) (s.post enc C.prog fn apart fresh handsOn again):=by
 refine returnsInHanded_of_calls own started noInit witness ?_;intro w tape i _ hsh _ hok hpre hholds;obtain⟨_,_,_,fn',hfn',_,_,_,_,hval⟩:=hok;have e:fn'=fn:=M5 (hfn'.symm.trans hfn);subst e;obtain⟨⟨⟨ds,gs,before,hw,hc⟩,hx⟩,hz⟩:=hpre;have hw':=DataW.Whole.of_heap (w':=w.forCall tape i) (by rfl) hw
 refine(contract (w.forCall tape i) w.heap.size i.args ds gs before hval hw' (hX _ _ _ (by rfl) hx) hsh).mono λe W' ⟨v,he,hp⟩=>?_
 subst he;exact ChangeSpec.post_blind hp
theorem Qm:ownKnob Tryz.prog.godebug=none:=by kernel_rfl
theorem Qt:laidOutB Tryz.prog=true:=by kernel_rfl
end
theorem OQ{v v':Value}{xs:List aV}(w:World)(h:aL 3 encOpr w v xs)(h':aL 3 encOpr w v' xs)(hlen:xs.length<=2097152) :
 Calls Tryz.prog 80 #[v,v'] w λe w'=>e=.returned (.bool true)/\Ext w w':=by
 obtain⟨A,c,rfl,h⟩:=h;obtain⟨A',c',rfl,h'⟩:=h';go_enter Tryz.func80,Tryz.ntmps80;go_wp2;go_loopw [5] (λi wr=>Ext w wr/\∃k:Nat,k<=xs.length/\i=.int .i64 k) (λi _=>xs.length-(intOf i).toNat)
 case atStart=>exact⟨af _,0,aT _,rfl⟩
 case round=>
  obtain⟨hb,k,hk,rfl⟩:=hrel;by_cases hlt:k<xs.length
  ·obtain⟨b,off,rfl,hbl,hc⟩:=h (by omega);obtain⟨b',off',rfl,ru,hc'⟩:=h' (by omega);obtain⟨x,hx⟩:=ah hlt;have c0:∀e,(over wr e).cell? ⟨b,off+k*3,none⟩=some (.int .i64 x.kind):=aK (hb.cell (hc k x hx 0 (by omega)));have c1:∀e,(over wr e).cell? ⟨b,off+k*3+1,none⟩=some (.int .i64 x.key):=aK (hb.cell (hc k x hx 1 (by omega)));have c2:∀e,(over wr e).cell? ⟨b,off+k*3+2,none⟩=some (.int .i64 x.value):=aK (hb.cell (hc k x hx 2 (by omega)));have d0:∀e,(over wr e).cell? ⟨b',off'+k*3,none⟩=some (.int .i64 x.kind):=aK (hb.cell (hc' k x hx 0 (by omega)));have d1:∀e,(over wr e).cell? ⟨b',off'+k*3+1,none⟩=some (.int .i64 x.key):=aK (hb.cell (hc' k x hx 1 (by omega)));have d2:∀e,(over wr e).cell? ⟨b',off'+k*3+2,none⟩=some (.int .i64 x.value):=aK (hb.cell (hc' k x hx 2 (by omega)));have h1:(x.kind != x.kind)=false:=by simp
   have h2:(x.key != x.key)=false:=by simp
   have h3:(x.value != x.value)=false:=by simp
   clear hx h h' hc hc';go_wp2;refine aU (by kernel_rfl) (by kernel_rfl) ?_;repeat (go_big_quiet_step ((fail)))
   refine j5 ?_;intro w1 hb1;go_wp2;go_roundw;case rel=>exact⟨hb.trans hb1,k+1,by omega,by go_num⟩
   case measure=>simp[intOf];omega
  ·go_wp2;go_returns;exact⟨rfl,hb⟩
theorem PR{v v':Value}{ops:List aV}(s:Int)(d:Bool)(w:World)(h:aL 3 encOpr w v ops)(h':aL 3 encOpr w v' ops)(hlen:ops.length<=2097152) :
 Calls Tryz.prog 37 #[.agg #[.int .i64 s,v,.bool d],.agg #[.int .i64 s,v',.bool d]] w λe w'=>e=.returned (.bool true)/\Ext w w':=by
 obtain⟨A,c,rfl,_⟩:=id h;obtain⟨A',c',rfl,_⟩:=id h';have HE:=aa (λW (b:Ext w W)=>OQ W (h.ext b) (h'.ext b) hlen);clear h h' hlen;go_enter Tryz.func37,Tryz.ntmps37;go_wp2_with (go_at_call 80;refine(HE.out _ (((af _).alloc _).alloc _)).mono ?_;rintro e w1 ⟨rfl,b1⟩;have b2:=(((af w).alloc _).alloc _).trans b1)
 go_returns;exact⟨rfl,b2⟩
theorem qG{v v':Value}{h:List aG}(w:World)(H:iM w v h)(H':iM w v' h)(hlen:h.length<=2097152)(hM:∀t∈h,t.ops.length<=2097152) :
 Calls Tryz.prog 9 #[v,v'] w λe w'=>e=.returned (.bool true)/\Ext w w':=by
 obtain⟨A,c,rfl⟩:=H.slice;obtain⟨A',c',rfl⟩:=H'.slice;have HH:=aa H;have HH':=aa H';have HM:=aa hM;clear H H' hM;go_enter Tryz.func9,Tryz.ntmps9;go_wp2;go_loopw [5] (λi wr=>Ext w wr/\∃k:Nat,k<=h.length/\i=.int .i64 k) (λi _=>h.length-(intOf i).toNat)
 case atStart=>exact⟨af _,0,aT _,rfl⟩
 case round=>
  obtain⟨hb,k,hk,rfl⟩:=hrel;by_cases hlt:k<h.length
  ·obtain⟨b,off,rfl,hbl,hc⟩:=HH.out.head (by omega);obtain⟨b',off',rfl,ru,hc'⟩:=HH'.out.head (by omega);obtain⟨t,ht⟩:=ah hlt;obtain⟨ov,x0,x1,x2,xs⟩:=hc k t ht;obtain⟨ov',y0,y1,y2,ys⟩:=hc' k t ht;obtain⟨B,cb,rfl,_⟩:=id xs;obtain⟨B',cb',rfl,_⟩:=id ys;have c0:∀e,(over wr e).cell? ⟨b,off+k*3,none⟩=some (.int .i64 t.az):=aK (hb.cell x0);have c1:∀e,(over wr e).cell? ⟨b,off+k*3+1,none⟩=some (.slice B t.ops.length cb):=aK (hb.cell x1);have c2:∀e,(over wr e).cell? ⟨b,off+k*3+2,none⟩=some (.bool t.done):=aK (hb.cell x2);have d0:∀e,(over wr e).cell? ⟨b',off'+k*3,none⟩=some (.int .i64 t.az):=aK (hb.cell y0);have d1:∀e,(over wr e).cell? ⟨b',off'+k*3+1,none⟩=some (.slice B' t.ops.length cb'):=aK (hb.cell y1);have d2:∀e,(over wr e).cell? ⟨b',off'+k*3+2,none⟩=some (.bool t.done):=aK (hb.cell y2);have HQ:=aa (λe=>PR t.az t.done (over wr e) (xs.ext (hb.trans (xI _ _))) (ys.ext (hb.trans (xI _ _))) (HM.out t (aM ht)));clear ht hc hc' x0 x1 x2 xs y0 y1 y2 ys;go_wp2;refine aU (by kernel_rfl) (by kernel_rfl) ?_;repeat (go_big_quiet_step ((go_at_call 37;exact pM (HQ.out _))))
   refine j5 ?_;intro w1 hb1;go_wp2;go_roundw;case rel=>exact⟨hb.trans hb1,k+1,by omega,by go_num⟩
   case measure=>simp[intOf];omega
  ·go_wp2;go_returns;exact⟨rfl,hb⟩
theorem Ko{v v':Value}{xs:List (List UInt8)}(w:World)(h:aL 1 encS w v xs)(h':aL 1 encS w v' xs)(hlen:xs.length<=2097152) :
 Calls Tryz.prog 16 #[v,v'] w λe w'=>e=.returned (.bool true)/\Ext w w':=by
 obtain⟨A,c,rfl,h⟩:=h;obtain⟨A',c',rfl,h'⟩:=h';go_enter Tryz.func16,Tryz.ntmps16;go_wp2;go_loopw [5] (λi wr=>Ext w wr/\∃k:Nat,k<=xs.length/\i=.int .i64 k) (λi _=>xs.length-(intOf i).toNat)
 case atStart=>exact⟨af _,0,aT _,rfl⟩
 case round=>
  obtain⟨hb,k,hk,rfl⟩:=hrel;by_cases hlt:k<xs.length
  ·obtain⟨b,off,rfl,hbl,hc⟩:=h (by omega);obtain⟨b',off',rfl,ru,hc'⟩:=h' (by omega);obtain⟨x,hx⟩:=ah hlt;have x0:w.cell? ⟨b,off+k,none⟩=some (.string (tx x)):=by have:=hc k x hx 0 (by omega);simpa[encS] using this
   have y0:w.cell? ⟨b',off'+k,none⟩=some (.string (tx x)):=by have:=hc' k x hx 0 (by omega);simpa[encS] using this
   obtain⟨z,hz⟩:∃z,tx x=z:=⟨_,rfl⟩;rw[hz]at x0 y0;have c0:∀e,(over wr e).cell? ⟨b,off+k,none⟩=some (.string z):=aK (hb.cell x0);have d0:∀e,(over wr e).cell? ⟨b',off'+k,none⟩=some (.string z):=aK (hb.cell y0);clear hx h h' hc hc' x0 y0 hz;go_wp2;refine aU (by kernel_rfl) (by kernel_rfl) ?_;repeat (go_big_quiet_step (fail))
   refine j5 ?_;intro w1 hb1;go_wp2;go_roundw;case rel=>exact⟨hb.trans hb1,k+1,by omega,by go_num⟩
   case measure=>simp[intOf];omega
  ·go_wp2;go_returns;exact⟨rfl,hb⟩
theorem CP(w:World):Calls Tryz.prog 11 #[] w λe w'=>e=.returned (.bool true)/\Ext w w':=by
 have h1:(tx (iZ ⟨2,0,5⟩)).toList=[119,48,61,53]:=by rw[fA];decide
 obtain⟨z,hz⟩:∃z,tx (iZ ⟨2,0,5⟩)=z:=⟨_,rfl⟩;have HT:=aa (tX ⟨2,0,5⟩);rw[hz]at h1 HT;clear hz;go_enter Tryz.func11,Tryz.ntmps11;go_wp2_with fail
 refine(HT.out w).mono ?_
 rintro e w1 ⟨rfl,b1⟩;go_wp2;go_returns;exact⟨rfl,b1⟩
