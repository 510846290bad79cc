/- Lemmas. -/
import Derived.Test.YtomkjlklninhpaaGreatDoorKAN
import Derived.Test.YtomkjlklninhpaaGreatDoorKAT
set_option maxHeartbeats 16000000
set_option maxRecDepth 8000
set_option linter.all false
namespace Go.Proofs.YtomkjlklninhpaaGreatDoor
open Go.RowKit
theorem WJ{n:Nat}(h:n<100):Lib.decDigits n=bK n:=by
 have:∀n∈List.range 100,Lib.decDigits n=bK n:=by decide +kernel
 exact this n (List.mem_range.2 h)
theorem p9(x:Int)(w:World)(h0:0<=x)(h1:x<100) :
 Calls Tryz.prog 127 #[.int .i64 x] w fun e w'=>e=.returned (.string (tx (bK x.toNat)))/\w=w':=by
 obtain⟨n,rfl⟩:=Int.eq_ofNat_of_zero_le h0
 refine(Tryz.strconv_Itoa_small n (by omega) w).mono ?_
 rintro e w' ⟨rfl,rfl⟩;refine⟨?_,rfl⟩;rw[WJ (by omega)];rfl
theorem Gi(a b c:Int)(w:World) :
 Calls Tryz.prog 182 #[.agg #[.int .i64 a,.int .i64 b,.int .i64 c]] w fun e w'=>e=.returned (.string (tx [aW ⟨a,b,c⟩]))/\Ext w w':=by
 have hl:aW ⟨a,b,c⟩=if (a==2)=true then 119 else 114:=rfl
 rw[hl];clear hl;cases h:(a==2)<;>(
  go_enter Tryz.func182,Tryz.ntmps182;go_wp2_with (go_at_call 93;refine(eX _ _ _ _).mono ?_;rw[h];rintro e w' ⟨rfl,rfl⟩)
  go_returns;exact⟨rfl,((Ext.refl _).alloc _).alloc _⟩)
theorem vX(o:aQ)(w:World) :
 Calls Tryz.prog 173 #[fP o] w fun e w'=>e=.returned (.string (tx (ig o)))/\Ext w w':=by
 obtain⟨a,b,c⟩:=o;show Calls Tryz.prog 173 #[.agg #[.int .i64 a,.int .i64 b,.int .i64 c]] w _
 cases h:gH ⟨a,b,c⟩ with
 | false=>
   have ht:ig ⟨a,b,c⟩=[]:=by simp[ig,h]
   rw[ht];clear ht;go_enter Tryz.func173,Tryz.ntmps173;go_wp2_with (go_at_call 92;refine(sU ⟨a,b,c⟩ _).mono ?_;rw[h];rintro e w1 ⟨rfl,b1⟩)
   go_returns;exact⟨rfl,((Ext.refl _).alloc _).trans b1⟩
 | true=>
   have ht:ig ⟨a,b,c⟩=[aW ⟨a,b,c⟩]++bK b.toNat++[61]++bK c.toNat:=by
    have:=iB h
    rw[ig,if_pos h,sF];simp only at this;have hk:bK b.toNat=[jg b.toNat]:=by unfold bK;rw[if_pos (by omega)]
    rw[hk];rfl
   have h0:0<=b/\b<100:=by have:=iB h;simp only at this;omega
   have h1:0<=c/\c<100:=by have:=j5 h;simp only at this;omega
   rw[ht];clear ht;have l1:=kU b.toNat;have l2:=kU c.toNat;have a1:=aZ [aW ⟨a,b,c⟩] (bK b.toNat) (by simp;omega);have a2:∀w,(Op.stringOp .add (tx ([aW ⟨a,b,c⟩]++bK b.toNat)) ⟨#[61]⟩).run Tryz.prog w = _:=aZ _ [61] (by simp;omega);have a3:=aZ ([aW ⟨a,b,c⟩]++bK b.toNat++[61]) (bK c.toNat) (by simp;omega);generalize tx ([aW ⟨a,b,c⟩]++bK b.toNat++[61]++bK c.toNat)=y3 at *;generalize tx ([aW ⟨a,b,c⟩]++bK b.toNat++[61])=y2 at *;generalize tx ([aW ⟨a,b,c⟩]++bK b.toNat)=y1 at *;obtain⟨z1,hz1⟩:∃z,tx [aW ⟨a,b,c⟩]=z:=⟨_,rfl⟩;obtain⟨z2,hz2⟩:∃z,tx (bK b.toNat)=z:=⟨_,rfl⟩;obtain⟨z3,hz3⟩:∃z,tx (bK c.toNat)=z:=⟨_,rfl⟩;rw[hz1,hz2]at a1;rw[hz3]at a3;have HZ:=aa (And.intro hz1 (And.intro hz2 hz3));clear hz1 hz2 hz3 l1 l2;go_enter Tryz.func173,Tryz.ntmps173;go_wp2_with (go_at_call 92;refine(sU ⟨a,b,c⟩ _).mono ?_;rw[h];rintro e w1 ⟨rfl,b1⟩)
   have c0:w1.cell? ⟨w.heap.size,0,none⟩=some (.int .i64 a):=b1.cell (av rfl);have c1:w1.cell? ⟨w.heap.size,1,none⟩=some (.int .i64 b):=b1.cell (av rfl);have c2:w1.cell? ⟨w.heap.size,2,none⟩=some (.int .i64 c):=b1.cell (av rfl);go_region_held3 (fun W=>W.cell? ⟨w.heap.size,0,none⟩=some (.int .i64 a)/\W.cell? ⟨w.heap.size,1,none⟩=some (.int .i64 b)/\W.cell? ⟨w.heap.size,2,none⟩=some (.int .i64 c)) (exact⟨by assumption,by assumption,by assumption⟩) ((first|(go_at_call 182;refine(Gi _ _ _ _).mono ?_;rw[HZ.out.1];rintro e w2 ⟨rfl,b2⟩;have d0:=b2.cell c0;have d1:=b2.cell c1;have d2:=b2.cell c2)|(go_at_call 127;first|(refine(p9 b _ h0.1 h0.2).mono ?_;rw[HZ.out.2.1];rintro e w' ⟨rfl,rfl⟩)|(refine(p9 c _ h1.1 h1.2).mono ?_;rw[HZ.out.2.2];rintro e w' ⟨rfl,rfl⟩))))
   go_wp2;go_returns;exact⟨rfl,(((Ext.refl _).alloc _).trans b1).drew.trans b2⟩
theorem yO(sep:List UInt8):∀ws:List (List UInt8),Lib.join ws sep=joinL sep ws
 | []=>rfl
 | [x]=>by simp[Lib.join,joinL]
 | x :: y :: r=>by rw[iy sep x (y :: r) (by simp),<-yO sep (y :: r)];simp[Lib.join,List.intercalate,List.intersperse]
theorem Gj{v:Value}{ws:List (List UInt8)}(sep:List UInt8)(w:World)(h:aF 1 encS w v ws)(hc:qL v)(hn:ws.length<=1000000)(hM:∀x∈ws,x.length<=1000000)(hs:sep.length<=1000000) :
 Calls Tryz.prog 130 #[v,.string (tx sep)] w fun e w'=>e=.returned (.string (tx (joinL sep ws)))/\Ext w w':=by
 obtain⟨A,c,rfl,hcc⟩:=h;rcases Nat.eq_zero_or_pos ws.length with h0|h0
 ·obtain rfl:=List.eq_nil_of_length_eq_zero h0
  refine(Tryz.strings_Join_none A c (tx sep) w).mono ?_
  rintro e w' ⟨rfl,rfl⟩;exact⟨rfl,Ext.refl _⟩
 ·obtain⟨b,off,rfl,hbl,hcc⟩:=hcc h0;have hl:(ws.map tx).length=ws.length:=by simp
  have hm:(ws.map tx).map (fun x=>x.data.toList)=ws:=by rw[List.map_map];exact(List.map_congr_left (fun x _=>Lv x)).trans (List.map_id _)
  have hj:=nU sep 1000000 ws hM;have hk:=Nat.mul_le_mul hn (show 1000000+sep.length<=2000000 by omega);have hcap:=hc _ _ _ rfl
  have:=Tryz.strings_Join b off c (ws.map tx) (tx sep) w (fun j x hx=>by
   rw[List.getElem?_map]at hx;obtain⟨l,hl,rfl⟩:=Option.map_eq_some_iff.1 hx
   have:=hcc j l hl 0 (by omega)
   simpa[encS] using this) hbl (by rw[hl];omega) (by rw[hl];exact hcap.1) (by rw[hm,yO];exact Nat.le_trans hj (Nat.le_trans hk (by omega)))
  rw[hm,yO,hl]at this;exact this
theorem zz(t:aA)(ov:Value)(w:World)(h:aF 3 aj w ov t.ops)(hlen:t.ops.length<=2097152) :
 Calls Tryz.prog 129 #[ng t ov] w fun e w'=>e=.returned (.string (tx (gI t)))/\Ext w w':=by
 obtain⟨A,c,rfl,_⟩:=id h;have HS:=aa h;have HV:=aa (fun W (hb:Ext w W)=>xG t _ W (h.ext hb) hlen);clear h;show Calls Tryz.prog 129 #[.agg #[.int .i64 t.az,.slice A t.ops.length c,.bool t.done]] w _
 cases hk:bX t with
 | false=>
   have ht:Hid (gI t=[]):=by show _ = _;simp[gI,hk]
   rw[ht.out];go_enter Tryz.func129,Tryz.ntmps129;go_wp2_with (go_at_call 65;refine(HV.out _ ((Ext.refl _).alloc _)).mono ?_;rw[hk];rintro e w1 ⟨rfl,b1⟩)
   go_returns;exact⟨rfl,((Ext.refl _).alloc _).trans b1⟩
 | true=>
   have hs0:0<=t.az/\t.az<10:=by have:=jC hk;omega
   have hol:t.ops.length<=6:=bU hk;have HK:=aa hk;have a1:∀w,(Op.stringOp .add ⟨#[115]⟩ (tx (bK t.az.toNat))).run Tryz.prog w = _:=aZ [115] (bK t.az.toNat) (by have:=kU t.az.toNat;simp;omega);have Ff:bK t.az.toNat=[jg t.az.toNat]:=by unfold bK;rw[if_pos (by omega)]
   rw[Ff]at a1;obtain⟨z1,hz1⟩:∃z,tx [jg t.az.toNat]=z:=⟨_,rfl⟩;obtain⟨z2,hz2⟩:∃z,tx ([115]++[jg t.az.toNat])=z:=⟨_,rfl⟩;rw[hz1,hz2]at a1;rw[<-Ff]at hz1;have HZ:=aa (And.intro hz1 hz2);clear hz1 hz2 Ff;go_enter Tryz.func129,Tryz.ntmps129;go_wp2_with fail
   refine(HV.out _ ((Ext.refl _).alloc _)).mono ?_
   rw[hk];rintro e w1 ⟨rfl,b1⟩;have B1:Hid (Ext w w1):=((Ext.refl _).alloc _).trans b1;have c0:w1.cell? ⟨w.heap.size,0,none⟩=some (.int .i64 t.az):=b1.cell (av rfl);have c1:w1.cell? ⟨w.heap.size,1,none⟩=some (.slice A t.ops.length c):=b1.cell (av rfl);have c2:w1.cell? ⟨w.heap.size,2,none⟩=some (.bool t.done):=b1.cell (av rfl);have hlt:w.heap.size<w1.heap.size:=by have:=b1.size;simp at this;omega
   clear b1;have HW:Hid (bR t=[[115,jg t.az.toNat],if t.done then [111,107] else [111,102,102]]++t.ops.map sF):=rfl;have HT:Hid (gI t=joinL [32] (bR t)):=by show _ = _;rw[gI,if_pos hk];rfl
   clear hk;cases hd:t.done<;>(
    go_wp2_with (go_at_call 127;refine(p9 t.az _ hs0.1 (by omega)).mono ?_;rw[HZ.out.1];rintro e w' ⟨rfl,rfl⟩)
    obtain⟨hw0,HH⟩:∃hw0,Hid (hw0=[[115,jg t.az.toNat],if t.done then [111,107] else [111,102,102]]):=⟨_,rfl⟩;go_loopw [3,21] (fun v i wr=>Ext w1 wr/\∃j:Nat,j<=t.ops.length/\i=.int .i64 (j:Int)/\Hid (Row 9 1 encS w1.heap.size wr v (hw0++(t.ops.take j).map sF))) (fun _ i _=>t.ops.length-(intOf i).toNat)
    case atStart=>
     refine⟨?_,0,Nat.zero_le _,rfl,?_⟩
     ·first
      | exact(Ext.refl _).alloc _
      | exact((Ext.refl _).alloc _).setCell (Nat.le_refl _) _
     ·show Row _ _ _ _ _ _ _;rw[HH.out,hd,List.take_zero,List.map_nil,List.append_nil,<-HZ.out.2]
      first
      | exact RB w1 [115,jg t.az.toNat] [111,102,102]
      | exact RB w1 [115,jg t.az.toNat] [111,107]
    case round=>
     obtain⟨hb,j,hj,rfl,HR⟩:=hrel;by_cases hjt:j<t.ops.length
     ·obtain⟨A2,c3,hA2,hcc⟩:=(HS.out.ext B1.out).ext hb;injection hA2 with e1 e2 e3;subst e1 e3;obtain⟨b',off',rfl,pg,hcc⟩:=hcc (by omega);obtain⟨o,ho⟩:=af hjt;have d0:wr.cell? ⟨b',off'+j*3,none⟩=some (.int .i64 o.kind):=hcc j o ho 0 (by omega);have d1:wr.cell? ⟨b',off'+j*3+1,none⟩=some (.int .i64 o.key):=hcc j o ho 1 (by omega);have d2:wr.cell? ⟨b',off'+j*3+2,none⟩=some (.int .i64 o.value):=hcc j o ho 2 (by omega);have xx:=eT HK.out (List.mem_of_getElem? ho);have HO:=aa ho;have hot:ig o=sF o:=by rw[ig,if_pos xx]
      have OC:=aa hot;obtain⟨zo,RG⟩:∃z,tx (ig o)=z:=⟨_,rfl⟩;have HZO:=aa RG;have hle:w1.heap.size<=wr.heap.size:=hb.size;have hhl:(hw0++(t.ops.take j).map sF).length<=10:=by have h1:=HH.out;subst h1;simp;omega
      have HHL:=aa hhl;clear hcc ho e2 xx hot RG hhl;go_wp2_with fail
      refine(vX o _).mono ?_
      rw[HZO.out];rintro e w2 ⟨rfl,b2⟩;have hE2:Hid (Ext wr w2):=((Ext.refl _).alloc _).trans b2;obtain⟨v',w3,hrun,hrow,hg⟩:=rG (P:=Tryz.prog) (t:=31) (ty:=31) (e:=9) Tryz.underlying31 gK rfl (by omega) (HR.out.ext hE2.out) (sF o) (fun _=>rfl) (by have:=HHL.out;omega) (by omega) (Nat.le_trans hle hE2.out.size);have hce:(aI 1 encS (sF o)).toArray=#[.string zo]:=by rw[<-HZO.out,OC.out];rfl
      rw[hce]at hrun hg;have aU:=aa hrun;have nV:=aa hrow;have LZ:Hid (Ext w1 w3):=Ext.grown ((hb.trans hE2.out).alloc _) hg (fun k hk=>(HR.out.ext hE2.out).block k hk);clear hrun hrow hg hce b2;go_wp2_with (at_builtin;refine wpList_append_run rfl rfl rfl rfl aU.out ?_)
      go_roundw;case rel=>exact⟨LZ.out,j+1,by omega,by go_num,by rw[ah HO.out,List.map_append,<-List.append_assoc];exact nV.out⟩
      case measure=>simp[intOf];omega
     ·obtain rfl:j=t.ops.length:=by omega
      obtain⟨A5,c5,rfl,_⟩:=HR.out.cell.1;have HR2:Hid (Row 9 1 encS w1.heap.size wr (.slice A5 (hw0++(t.ops.take t.ops.length).map sF).length c5) (bR t)):=by
       show Row _ _ _ _ _ _ _
       have:=HR.out
       rw[List.take_length]at this ⊢;rw[HW.out,<-HH.out];exact this
      generalize (hw0++(t.ops.take t.ops.length).map sF).length=n5 at HR2;have HJ:=aa (Gj [32] wr HR2.out.cell.1 HR2.out.cap (by rw[HW.out];simp;omega) (fun x hx=>by
       rw[HW.out]at hx;simp only[List.mem_append,List.mem_cons,List.mem_map,List.not_mem_nil,or_false]at hx;rcases hx with (rfl|rfl)|⟨o,_,rfl⟩
       ·show 2<=1000000;omega
       ·split<;>simp
       ·have:=uj o;omega) (by simp))
      clear HR;go_wp2_with (go_at_call 130;refine HJ.out.mono ?_;rintro e w4 ⟨rfl,b4⟩)
      go_returns;exact⟨by rw[HT.out];rfl,(B1.out.trans hb).trans b4⟩)
structure Env (w:World):Prop where
 max:∃m,w.cell? ⟨0,0,none⟩=some (.int .i64 m)
 syn:∃te pe,w.cell? ⟨2,0,none⟩=some (.iface te pe)
 rng:∃te pe,w.cell? ⟨3,0,none⟩=some (.iface te pe)
theorem Env.ext{w w':World}(h:Env w)(hb:Ext w w'):Env w':=
 ⟨let ⟨m,h⟩:=h.max;⟨m,hb.cell h⟩,let ⟨m,n,h⟩:=h.syn;⟨m,n,hb.cell h⟩,let ⟨m,n,h⟩:=h.rng;⟨m,n,hb.cell h⟩⟩
theorem Cf{n:Nat}(h:n<100):Lib.atoiAll (bK n)=.ok (n:Int):=by
 have:∀n∈List.range 100,(match Lib.atoiAll (bK n) with | .ok v=>v==(n:Int)|_=>false)=true:=by decide +kernel
 have:=this n (List.mem_range.2 h)
 split at this
 ·rename_i v e;rw[e,eq_of_beq this]
 ·cases this
theorem Mk(l:List UInt8)(w:World)(hE:Env w)(hl:l.length<=281474976710656) :
 Calls Tryz.prog 177 #[.string (tx l)] w fun e w'=>∃(v:Int) (ev:Value),e=.returned (.tuple #[.int .i64 v,ev])/\Ext w w'/\(Lib.atoiAll l=.ok v/\ev=.nilIface∨(∀v,Lib.atoiAll l≠.ok v)/\∃te pe,ev=.iface te pe):=by
 cases h:Lib.atoiAll l with
 | ok v=>
   refine(Tryz.strconv_Atoi_ok (tx l) (by rw[dH];omega) v h w).mono ?_
   rintro e w' ⟨rfl,h2⟩;refine⟨v,.nilIface,rfl,?_,.inl ⟨rfl,rfl⟩⟩;rcases h2 with rfl|⟨t,rfl⟩
   ·exact Ext.refl _
   ·exact Lib.bytesWorld_below w _ t
 | range=>
   obtain⟨te,pe,hv⟩:=hE.rng
   refine(Tryz.strconv_Atoi_range (tx l) (by rw[dH];omega) h _ w hv (.inr ⟨te,pe,rfl⟩)).mono ?_
   rintro e w' ⟨N,rfl,h1,h2,h3⟩;exact⟨_,_,rfl,h3,.inr ⟨fun v e=>(by cases e),_,_,rfl⟩⟩
 | _=>
   obtain⟨te,pe,hv⟩:=hE.syn
   refine(Tryz.strconv_Atoi_syntax (tx l) (by rw[dH];omega) h _ w hv (.inr ⟨te,pe,rfl⟩)).mono ?_
   rintro e w' ⟨N,rfl,h1,h2,h3⟩;exact⟨_,_,rfl,h3,.inr ⟨fun v e=>(by cases e),_,_,rfl⟩⟩
def VU(r:Option aQ):Value:=.tuple #[fP (r.getD ⟨0,0,0⟩),.bool r.isSome]
theorem NM(l:List UInt8)(w:World)(hE:Env w)(hl:l.length<=1100000) :
 Calls Tryz.prog 134 #[.string (tx l)] w fun e w'=>e=.returned (VU (fD l))/\Ext w w':=by
 by_cases h4:l.length<4
 ·have hr:Hid (fD l=none):=Az h4;have hs:decide (((tx l).size:Int)<4)=true:=by rw[dH];simp;omega
  rw[hr.out];clear h4;generalize tx l=z at *;go_enter Tryz.func134,Tryz.ntmps134;go_wp2;go_returns;exact⟨rfl,(Ext.refl _).alloc _⟩
 ·match l,hl,h4 with
  | [],_,h4=>exact absurd (by simp) h4
  | [_],_,h4=>exact absurd (by simp) h4
  | [_,_],_,h4=>exact absurd (by simp) h4
  | [_,_,_],_,h4=>exact absurd (by simp) h4
  | a :: b :: c :: d :: r,hl,_=>
    have hs:((tx (a :: b :: c :: d :: r)).size:Int)<4↔False:=by rw[dH];simp;omega
    have hs3:(3:Int)<=((tx (a :: b :: c :: d :: r)).size:Int):=by rw[dH];simp;omega
    have hi0:=jZ (l:=a :: b :: c :: d :: r) (k:=0) rfl 0 rfl;have hi1:=jZ (l:=a :: b :: c :: d :: r) (k:=1) rfl 1 rfl;have hx:=Kl (a :: b :: c :: d :: r) 3;have HR:=aa (fun v=>MQ (a:=a) (b:=b) (c:=c) (d:=d) (r:=r) (v:=v));have HAT:=aa (fun W (hb:Ext w W)=>Mk (d :: r) W (hE.ext hb) (by simp at hl ⊢;omega));rw[show (a :: b :: c :: d :: r).drop 3=d :: r from rfl]at hx;have hb0:(0:Int)<=(b.toNat:Int):=by omega
    have hb1:(b.toNat:Int)<=255:=by have:=b.toNat_lt;omega
    have hwb:IntKind.i64.wrap ((b.toNat:Int)-48)=(b.toNat:Int)-48:=IntWalk.i64_in _ ⟨by omega,by omega⟩;obtain⟨l0,hl0⟩:∃l0,a :: b :: c :: d :: r=l0:=⟨_,rfl⟩;rw[hl0]at hs hs3 hi0 hi1 hx HR ⊢;clear hl hl0 hE;obtain⟨y,hy⟩:∃y,tx (d :: r)=y:=⟨_,rfl⟩;rw[hy]at hx HAT;obtain⟨z,hz⟩:∃z,tx l0=z:=⟨_,rfl⟩;rw[hz]at hs hs3 hi0 hi1 hx ⊢;have HZ:=aa hz;clear hy hz;have hka:∀t,((a.toNat:Int)==119)=t->(if a=119 then (2:Int) else 1)=if t then 2 else 1:=fun t ht=>by
     have:a=119↔((a.toNat:Int)==119)=true:=by rw[beq_iff_eq,<-UInt8.toNat_inj];exact⟨fun e=>by rw[e];rfl,fun e=>by have:(119:UInt8).toNat=119:=rfl;omega⟩
     rw[<-ht];by_cases e:a=119
     ·rw[if_pos e,if_pos (this.1 e)]
     ·rw[if_neg e,if_neg (fun e'=>e (this.2 e'))]
    obtain⟨kd,hkd⟩:∃kd:Int,(if a=119 then (2:Int) else 1)=kd:=⟨_,rfl⟩;rw[hkd]at HR hka;clear hkd;obtain⟨bn,hbn⟩:∃bn:Int,(b.toNat:Int)=bn:=⟨_,rfl⟩;rw[hbn]at hi1 HR hb0 hb1 hwb;clear hbn;obtain⟨an,DV⟩:∃an:Int,(a.toNat:Int)=an:=⟨_,rfl⟩;rw[DV]at hi0 hka;clear DV
    cases hk:(an==119) with
    | false=>
      have HK:=aa (hka _ hk);go_enter Tryz.func134,Tryz.ntmps134;go_wp2_with fail
      refine(HAT.out _ (((Ext.refl _).alloc _).alloc _)).mono ?_
      rintro e w1 ⟨v,ev,rfl,b1,hcase⟩;have hv:∀n,n<100->d :: r=bK n->v=(n:Int):=fun n hn e=>by
       rw[e,Cf hn]at hcase;rcases hcase with ⟨e1,_⟩|⟨e1,_⟩
       ·injection e1 with e1;exact e1.symm
       ·exact absurd rfl (e1 _)
      have hR:=HR.out v hv;have hkd:=HK.out;simp only[Bool.false_eq_true,if_true,if_false]at hkd;subst hkd;have HR1:=aa hR;have e0:=b1.cell (p:=⟨w.heap.size+1,0,none⟩) (fT (by simp) rfl);have e1:=b1.cell (p:=⟨w.heap.size+1,1,none⟩) (fT (by simp) rfl);have e2:=b1.cell (p:=⟨w.heap.size+1,2,none⟩) (fT (by simp) rfl);have f2:w1.frozen? ⟨w.heap.size+1,2,none⟩=false:=by rw[b1.frozen (by simp)];exact gN 2 (by simp)
      have B1:Hid (Ext w w1):=(((Ext.refl _).alloc _).alloc _).trans b1;have fz:∀j,w1.frozen? ⟨w.heap.size,j,none⟩=false:=fun j=>by
       rw[b1.frozen (by simp<;>omega),((Ext.refl _).alloc _).frozen (by simp)]
       exact gN j rfl
      have t0:=b1.cell (p:=⟨w.heap.size,0,none⟩) (((Ext.refl _).alloc _).cell (av rfl));have t1:=b1.cell (p:=⟨w.heap.size,1,none⟩) (((Ext.refl _).alloc _).cell (av rfl));have t2:=b1.cell (p:=⟨w.heap.size,2,none⟩) (((Ext.refl _).alloc _).cell (av rfl));have b1s:w.heap.size<w1.heap.size:=by have:=b1.size;simp at this;omega
      clear hcase hv hR HK hka b1;go_wp2_with fail
      refine(vX ⟨1,bn-48,v⟩ _).mono ?_
      rintro e w2 ⟨rfl,b2⟩;have E3:(w1.setCell ⟨w.heap.size+1,2,none⟩ (.int .i64 v)).cell? ⟨w.heap.size+1,2,none⟩=some (.int .i64 v):=dx e2 _;have g0:=b2.cell ((au (by simp) _).trans e0);have g1:=b2.cell ((au (by simp) _).trans e1);have g2:=b2.cell E3;have t0:=b2.cell ((au (by simp) _).trans t0);have t1:=b2.cell ((au (by simp) _).trans t1);have t2:=b2.cell ((au (by simp) _).trans t2);have fw:∀j,w2.frozen? ⟨w.heap.size,j,none⟩=false:=fun j=>by rw[b2.frozen (by have:=B1.out.size;rw[World.size_setCell];have:=b1s;omega),World.frozen?_setCell];exact fz j
      have fw0:=fw 0;have fw1:=fw 1;have fw2:=fw 2;clear fw fz;have HB:=aa ((B1.out.setCell (p:=⟨w.heap.size+1,2,none⟩) (by simp) (.int .i64 v)).trans b2);by_cases hc:ig ⟨1,bn-48,v⟩=l0
      ·have hr:Hid (fD l0 = _):=HR1.out.1 hc;rw[hc,HZ.out];clear hc e0 e1 e2 f2 E3 b2;go_wp2;obtain⟨y0,y1,y2⟩:=dK (.int .i64 1) (.int .i64 (bn-48)) (.int .i64 v) t0 t1 t2;refine bodyPost_ret (v:=.tuple #[.agg #[.int .i64 1,.int .i64 (bn-48),.int .i64 v],.bool true]) (by simp[results,Tryz.results134,go_sem,y0,y1,y2]) rfl ?_;exact⟨by rw[hr.out];rfl,(((HB.out.setCell (p:=⟨w.heap.size,0,none⟩) (Nat.le_refl _) _).setCell (p:=⟨w.heap.size,1,none⟩) (Nat.le_refl _) _).setCell (p:=⟨w.heap.size,2,none⟩) (Nat.le_refl _) _)⟩
      ·have hr:Hid (fD l0=none):=HR1.out.2 hc;obtain⟨z2,hz2⟩:∃z2,tx (ig ⟨1,bn-48,v⟩)=z2:=⟨_,rfl⟩;have hq:(z2.toList==z.toList)=false:=by rw[<-hz2,<-HZ.out,eD,eD];simpa using hc
       rw[hz2];clear hc e0 e1 e2 f2 E3 b2 hz2;go_wp2;obtain⟨y0,y1,y2⟩:=dK (.int .i64 0) (.int .i64 0) (.int .i64 0) t0 t1 t2;refine bodyPost_ret (v:=.tuple #[.agg #[.int .i64 0,.int .i64 0,.int .i64 0],.bool false]) (by simp[results,Tryz.results134,go_sem,y0,y1,y2]) rfl ?_;exact⟨by rw[hr.out];rfl,(((HB.out.setCell (p:=⟨w.heap.size,0,none⟩) (Nat.le_refl _) _).setCell (p:=⟨w.heap.size,1,none⟩) (Nat.le_refl _) _).setCell (p:=⟨w.heap.size,2,none⟩) (Nat.le_refl _) _)⟩
    | true=>
      have HK:=aa (hka _ hk);go_enter Tryz.func134,Tryz.ntmps134;go_wp2_with fail
      refine(HAT.out _ (((Ext.refl _).alloc _).alloc _)).mono ?_
      rintro e w1 ⟨v,ev,rfl,b1,hcase⟩;have hv:∀n,n<100->d :: r=bK n->v=(n:Int):=fun n hn e=>by
       rw[e,Cf hn]at hcase;rcases hcase with ⟨e1,_⟩|⟨e1,_⟩
       ·injection e1 with e1;exact e1.symm
       ·exact absurd rfl (e1 _)
      have hR:=HR.out v hv;have hkd:=HK.out;simp only[Bool.false_eq_true,if_true,if_false]at hkd;subst hkd;have HR1:=aa hR;have e0:=b1.cell (p:=⟨w.heap.size+1,0,none⟩) (fT (by simp) rfl);have e1:=b1.cell (p:=⟨w.heap.size+1,1,none⟩) (fT (by simp) rfl);have e2:=b1.cell (p:=⟨w.heap.size+1,2,none⟩) (fT (by simp) rfl);have f2:w1.frozen? ⟨w.heap.size+1,2,none⟩=false:=by rw[b1.frozen (by simp)];exact gN 2 (by simp)
      have B1:Hid (Ext w w1):=(((Ext.refl _).alloc _).alloc _).trans b1;have fz:∀j,w1.frozen? ⟨w.heap.size,j,none⟩=false:=fun j=>by
       rw[b1.frozen (by simp<;>omega),((Ext.refl _).alloc _).frozen (by simp)]
       exact gN j rfl
      have t0:=b1.cell (p:=⟨w.heap.size,0,none⟩) (((Ext.refl _).alloc _).cell (av rfl));have t1:=b1.cell (p:=⟨w.heap.size,1,none⟩) (((Ext.refl _).alloc _).cell (av rfl));have t2:=b1.cell (p:=⟨w.heap.size,2,none⟩) (((Ext.refl _).alloc _).cell (av rfl));have b1s:w.heap.size<w1.heap.size:=by have:=b1.size;simp at this;omega
      clear hcase hv hR HK hka b1;go_wp2_with fail
      refine(vX ⟨2,bn-48,v⟩ _).mono ?_
      rintro e w2 ⟨rfl,b2⟩;have E3:(w1.setCell ⟨w.heap.size+1,2,none⟩ (.int .i64 v)).cell? ⟨w.heap.size+1,2,none⟩=some (.int .i64 v):=dx e2 _;have g0:=b2.cell ((au (by simp) _).trans e0);have g1:=b2.cell ((au (by simp) _).trans e1);have g2:=b2.cell E3;have t0:=b2.cell ((au (by simp) _).trans t0);have t1:=b2.cell ((au (by simp) _).trans t1);have t2:=b2.cell ((au (by simp) _).trans t2);have fw:∀j,w2.frozen? ⟨w.heap.size,j,none⟩=false:=fun j=>by rw[b2.frozen (by have:=B1.out.size;rw[World.size_setCell];have:=b1s;omega),World.frozen?_setCell];exact fz j
      have fw0:=fw 0;have fw1:=fw 1;have fw2:=fw 2;clear fw fz;have HB:=aa ((B1.out.setCell (p:=⟨w.heap.size+1,2,none⟩) (by simp) (.int .i64 v)).trans b2);by_cases hc:ig ⟨2,bn-48,v⟩=l0
      ·have hr:Hid (fD l0 = _):=HR1.out.1 hc;rw[hc,HZ.out];clear hc e0 e1 e2 f2 E3 b2;go_wp2;obtain⟨y0,y1,y2⟩:=dK (.int .i64 2) (.int .i64 (bn-48)) (.int .i64 v) t0 t1 t2;refine bodyPost_ret (v:=.tuple #[.agg #[.int .i64 2,.int .i64 (bn-48),.int .i64 v],.bool true]) (by simp[results,Tryz.results134,go_sem,y0,y1,y2]) rfl ?_;exact⟨by rw[hr.out];rfl,(((HB.out.setCell (p:=⟨w.heap.size,0,none⟩) (Nat.le_refl _) _).setCell (p:=⟨w.heap.size,1,none⟩) (Nat.le_refl _) _).setCell (p:=⟨w.heap.size,2,none⟩) (Nat.le_refl _) _)⟩
      ·have hr:Hid (fD l0=none):=HR1.out.2 hc;obtain⟨z2,hz2⟩:∃z2,tx (ig ⟨2,bn-48,v⟩)=z2:=⟨_,rfl⟩;have hq:(z2.toList==z.toList)=false:=by rw[<-hz2,<-HZ.out,eD,eD];simpa using hc
       rw[hz2];clear hc e0 e1 e2 f2 E3 b2 hz2;go_wp2;obtain⟨y0,y1,y2⟩:=dK (.int .i64 0) (.int .i64 0) (.int .i64 0) t0 t1 t2;refine bodyPost_ret (v:=.tuple #[.agg #[.int .i64 0,.int .i64 0,.int .i64 0],.bool false]) (by simp[results,Tryz.results134,go_sem,y0,y1,y2]) rfl ?_;exact⟨by rw[hr.out];rfl,(((HB.out.setCell (p:=⟨w.heap.size,0,none⟩) (Nat.le_refl _) _).setCell (p:=⟨w.heap.size,1,none⟩) (Nat.le_refl _) _).setCell (p:=⟨w.heap.size,2,none⟩) (Nat.le_refl _) _)⟩
theorem Xf{t:aA}(h:bX t=true):(lH t).length<=100:=by
 have hl:=bU h
 have:=nU [32] 5 (bR t) (fun w hw=>by
  unfold bR at hw;simp only[List.mem_cons,List.mem_map]at hw;rcases hw with rfl|rfl|⟨o,_,rfl⟩
  ·simp
  ·split<;>simp
  ·exact uj o)
 unfold lH;simp only[bR,List.length_cons,List.length_map,List.length_nil]at this ⊢;omega
theorem Bn{v:Value}{h:List aA}(w:World)(H:gL w v h)(hok:aC h=true) :
 Calls Tryz.prog 99 #[v] w fun e w'=>e=.returned (.string (tx (wm h)))/\Ext w w':=by
 obtain⟨A,c,rfl⟩:=H.slice;have hl:h.length<=6:=aM hok;have hM:∀t∈h,t.ops.length<=2097152:=fun t ht=>by have:=bU (bY hok ht);omega
 have HH:=aa H;have HV:=aa (bN w H (by omega) hM);have HT:=aa (fun t (ht:t∈h)=>bY hok ht);rw[hok]at HV;have hmr:=gY (P:=Tryz.prog) 31 9 Tryz.underlying31 gK h.length (by omega) (by omega);clear H hok hM;go_enter Tryz.func99,Tryz.ntmps99;go_wp2_with (go_at_call 34;refine HV.out.mono ?_;rintro e w1 ⟨rfl,b1⟩)
 clear hmr;go_loopw [3,14] (fun v i wr=>Ext w1 wr/\∃k:Nat,k<=h.length/\i=.int .i64 (k:Int)/\Hid (Row 9 1 encS w1.heap.size wr v ((h.take k).map lH))) (fun _ i _=>h.length-(intOf i).toNat)
 case atStart=>exact⟨(Ext.refl _).alloc _,0,Nat.zero_le _,rfl,by show Row _ _ _ _ _ _ _;rw[List.take_zero,List.map_nil];exact jN _ h.length (by unfold maxLen;omega) (by rw[size_madeCells,Nat.mul_one])⟩
 case round=>
  obtain⟨hb,k,hk,rfl,HR⟩:=hrel;by_cases hlt:k<h.length
  ·obtain⟨b',off',rfl,pg,hcc⟩:=((HH.out.ext b1).ext hb).head (by omega);obtain⟨t,ht⟩:=af hlt;obtain⟨ov,c0,c1,c2,hs⟩:=hcc k t ht;obtain⟨A4,c4,rfl,_⟩:=id hs;have htk:=HT.out t (List.mem_of_getElem? ht);have O8:=aa htk;have hol:=bU htk;have htt:gI t=lH t:=by rw[gI,if_pos htk]
   have HTT:=aa htt;obtain⟨zo,RG⟩:∃z,tx (gI t)=z:=⟨_,rfl⟩;have HZO:=aa RG;have HTX:=aa ht;have HC:=aa (zz t _ _ (hs.ext ((Ext.refl wr).alloc (.cells #[.int .i64 t.az,.slice A4 t.ops.length c4,.bool t.done] 48))) (by omega));rw[RG]at HC;have hle:w1.heap.size<=wr.heap.size:=hb.size;clear hcc ht hs htk htt RG;go_wp2_with fail
   refine HC.out.mono ?_;rintro e w2 ⟨rfl,b2⟩;have hE2:Hid (Ext wr w2):=((Ext.refl _).alloc _).trans b2;obtain⟨v',w3,hrun,hrow,hg⟩:=rG (P:=Tryz.prog) (t:=31) (ty:=31) (e:=9) Tryz.underlying31 gK rfl (by omega) (HR.out.ext hE2.out) (lH t) (fun _=>rfl) (by rw[List.length_map,List.length_take];omega) (by omega) (Nat.le_trans hle hE2.out.size);have hce:(aI 1 encS (lH t)).toArray=#[.string zo]:=by rw[<-HZO.out,HTT.out];rfl
   rw[hce]at hrun hg;have aU:=aa hrun;have nV:=aa hrow;have LZ:Hid (Ext w1 w3):=Ext.grown ((hb.trans hE2.out).alloc _) hg (fun k hk=>(HR.out.ext hE2.out).block k hk);clear hrun hrow hg hce b2;go_wp2_with (at_builtin;refine wpList_append_run rfl rfl rfl rfl aU.out ?_)
   go_roundw;case rel=>exact⟨LZ.out,k+1,by omega,by go_num,by rw[ah HTX.out,List.map_append];exact nV.out⟩
   case measure=>simp[intOf];omega
  ·obtain rfl:k=h.length:=by omega
   obtain⟨A5,c5,rfl,_⟩:=HR.out.cell.1;have HR2:Hid (Row 9 1 encS w1.heap.size wr (.slice A5 ((h.take h.length).map lH).length c5) (h.map lH)):=by
    show Row _ _ _ _ _ _ _
    have:=HR.out
    rw[List.take_length]at this ⊢;exact this
   generalize ((h.take h.length).map lH).length=n5 at HR2;have HJ:=aa (Gj [59,32] wr HR2.out.cell.1 HR2.out.cap (by rw[List.length_map];omega) (fun x hx=>by
    obtain⟨t,ht,rfl⟩:=List.mem_map.1 hx
    have:=Xf (HT.out t ht)
    omega) (by simp))
   clear HR;go_wp2_with (go_at_call 130;refine HJ.out.mono ?_;rintro e w4 ⟨rfl,b4⟩)
   go_returns;exact⟨rfl,(b1.trans hb).trans b4⟩
theorem vM{d:eH}{j:Nat}{o:aQ}(ho:d.steps[j]? =some o):joinL [32] ((cz d).take (j+2))=joinL [32] ((cz d).take (j+1))++[32]++kC o:=
 ES (by omega) (by simp[cz,ho]) _
theorem ug(d:eH):joinL [32] ((cz d).take 1)=[115,jg d.az.toNat]:=Dp (by simp[cz]) _
theorem nS(d:eH):joinL [32] ((cz d).take (d.steps.length+1))=dU d:=by rw[List.take_of_length_le (by simp[cz])];rfl
theorem pR{d:eH}(h:bM d=true)(k:Nat):(joinL [32] ((cz d).take k)).length<=20:=by
 have hl:=gq h
 have:=nU [32] 2 ((cz d).take k) (fun w hw=>by
  have:=List.mem_of_mem_take hw
  unfold cz at this;simp only[List.mem_cons,List.mem_map]at this;rcases this with rfl|⟨o,_,rfl⟩<;>simp[kC])
 have h2:((cz d).take k).length<=5:=by rw[List.length_take];simp[cz];omega
 simp only[List.length_singleton]at this;omega
theorem Ja{v:Value}{p:List eH}(w:World)(H:xZ w v p)(hlen:p.length<=2097152)(hst:∀d∈p,d.steps.length<=2097152) :
 Calls Tryz.prog 138 #[v] w fun e w'=>e=.returned (.string (tx (if dQ p then jq p else [])))/\Ext w w':=by
 obtain⟨A,c,rfl⟩:=H.slice;have HH:=aa H;have HV:=aa (pX w H hlen hst);have hmr:=gY (P:=Tryz.prog) 31 9 Tryz.underlying31 gK p.length (by omega) (by omega);clear H hst
 cases hok:dQ p with
 | false=>
   rw[hok]at HV;go_enter Tryz.func138,Tryz.ntmps138;go_wp2_with (go_at_call 137;refine HV.out.mono ?_;rintro e w1 ⟨rfl,b1⟩)
   go_returns;exact⟨rfl,b1⟩
 | true=>
   have hl:p.length<=4:=jF hok;have dO:=aa (fun d (hd:d∈p)=>dz hok hd);rw[hok]at HV;have hgoal:Hid ((if true=true then jq p else [])=jq p):=by show _ = _;simp
   rw[hgoal.out];clear hok hgoal;go_enter Tryz.func138,Tryz.ntmps138;go_wp2_with (go_at_call 137;refine HV.out.mono ?_;rintro e w1 ⟨rfl,b1⟩)
   clear hmr;go_loopw [3,17] (fun v i wr=>Ext w1 wr/\∃k:Nat,k<=p.length/\i=.int .i64 (k:Int)/\Hid (Row 9 1 encS w1.heap.size wr v ((p.take k).map dU))) (fun _ i _=>p.length-(intOf i).toNat)
   case atStart=>exact⟨(Ext.refl _).alloc _,0,Nat.zero_le _,rfl,by show Row _ _ _ _ _ _ _;rw[List.take_zero,List.map_nil];exact jN _ p.length (by unfold maxLen;omega) (by rw[size_madeCells,Nat.mul_one])⟩
   case round=>
    obtain⟨hb,k,hk,rfl,HR⟩:=hrel;by_cases hlt:k<p.length
    ·obtain⟨b',off',rfl,pg,hcc⟩:=((HH.out.ext b1).ext hb).head (by omega);obtain⟨d,hd⟩:=af hlt;obtain⟨ov,c0,c1,hs⟩:=hcc k d hd;obtain⟨A4,c4,rfl,hs0⟩:=id hs;have hdk:=dO.out d (List.mem_of_getElem? hd);have hdl:=gq hdk;have hds:=jy hdk;have HS:=aa hs;have HDK:=aa hdk;have HD:=aa hd;have Ff:bK d.az.toNat=[jg d.az.toNat]:=by unfold bK;rw[if_pos (by omega)]
     have a0:∀w,(Op.stringOp .add ⟨#[115]⟩ (tx [jg d.az.toNat])).run Tryz.prog w=.ok (.string (tx (joinL [32] ((cz d).take 1)))) w:=by rw[ug];exact aZ [115] [jg d.az.toNat] (by simp)
     obtain⟨z1,hz1⟩:∃z,tx [jg d.az.toNat]=z:=⟨_,rfl⟩;have HIT:=aa (fun W=>p9 d.az W hds.1 (by omega));rw[Ff,hz1]at HIT;rw[hz1]at a0;have hle:w1.heap.size<=wr.heap.size:=hb.size;have HB:=aa hb;clear hcc hd hs hs0 hdk Ff hz1 hb;go_wp2_with (go_at_call 127;refine(HIT.out _).mono ?_;rintro e w' ⟨rfl,rfl⟩)
     clear HIT a0 c0 c1;have HE0:=aa ((Ext.refl wr).alloc (.cells #[.int .i64 d.az,.slice A4 d.steps.length c4] 78));go_loopw [6,28] (fun s i wv=>Ext wr wv/\∃(j:Nat) (y:ByteArray),j<=d.steps.length/\i=.int .i64 (j:Int)/\s=.string y/\Hid (y=tx (joinL [32] ((cz d).take (j+1))))) (fun _ i _=>d.steps.length-(intOf i).toNat)
     case atStart=>exact⟨HE0.out,0,_,Nat.zero_le _,rfl,rfl,rfl⟩
     case round=>
      obtain⟨hb,j,ys,hj,rfl,rfl,HY⟩:=hrel;by_cases hjt:j<d.steps.length
      ·obtain⟨A5,c5,e,hcc⟩:=HS.out.ext hb;injection e with e1 e2 e3;subst e1 e3;obtain⟨b5,afI,rfl,adk,hcc⟩:=hcc (by omega);obtain⟨o,ho⟩:=af hjt;have d0:=hcc j o ho 0 (by omega);have d1:=hcc j o ho 1 (by omega);have d2:=hcc j o ho 2 (by omega);simp only[aj,Nat.add_zero]at d0 d1 d2;have hos:=fu HDK.out (List.mem_of_getElem? ho);have hkey:=iq hos;have hnk:bK o.key.toNat=[jg o.key.toNat]:=by unfold bK;rw[if_pos (by omega)]
       have IE:joinL [32] ((cz d).take (j+1))++([32]++[aW o]++bK o.key.toNat)=joinL [32] ((cz d).take (j+2)):=by rw[vM ho,hnk];simp[kC]
       have hpl:=pR HDK.out (j+1);have a1:∀w,(Op.stringOp .add ⟨#[32]⟩ (tx [aW o])).run Tryz.prog w=.ok (.string (tx ([32]++[aW o]))) w:=aZ [32] [aW o] (by simp);have a2:=aZ ([32]++[aW o]) (bK o.key.toNat) (by rw[hnk];simp);have a3:=aZ (joinL [32] ((cz d).take (j+1))) ([32]++[aW o]++bK o.key.toNat) (by rw[hnk];simp;omega);rw[IE,<-HY.out]at a3;obtain⟨kd,ky,vl⟩:=o;simp only at hkey d0 d1 d2;have Vq:=aa (fun W=>Gi kd ky vl W);have HIT:=aa (fun W=>p9 ky W hkey.1 (by omega));obtain⟨y3,hy3⟩:∃z,tx (joinL [32] ((cz d).take (j+2)))=z:=⟨_,rfl⟩;rw[hy3]at a3;have iA:=aa hy3.symm;clear hy3;generalize tx ([32]++[aW ⟨kd,ky,vl⟩]++bK ky.toNat)=y2 at *;generalize tx ([32]++[aW ⟨kd,ky,vl⟩])=y1 at *;generalize tx (bK ky.toNat)=zk at *;generalize tx [aW ⟨kd,ky,vl⟩]=zl at *;have HB2:=aa hb;clear hcc ho e2 hos hkey hnk IE hpl hb;go_wp2;have v0:(wr.alloc (.cells #[.int .i64 kd,.int .i64 ky,.int .i64 vl] 71)).cell? ⟨wr.heap.size,0,none⟩=some (.int .i64 kd):=av rfl;have v1:(wr.alloc (.cells #[.int .i64 kd,.int .i64 ky,.int .i64 vl] 71)).cell? ⟨wr.heap.size,1,none⟩=some (.int .i64 ky):=av rfl;have v2:(wr.alloc (.cells #[.int .i64 kd,.int .i64 ky,.int .i64 vl] 71)).cell? ⟨wr.heap.size,2,none⟩=some (.int .i64 vl):=av rfl;go_region_held3 (fun W=>W.cell? ⟨wr.heap.size,0,none⟩=some (.int .i64 kd)/\W.cell? ⟨wr.heap.size,1,none⟩=some (.int .i64 ky)/\W.cell? ⟨wr.heap.size,2,none⟩=some (.int .i64 vl)) (exact⟨by assumption,by assumption,by assumption⟩) ((first|(go_at_call 182;refine(Vq.out _).mono ?_;rintro e w2 ⟨rfl,b2⟩;have x0:=b2.cell v0;have x1:=b2.cell v1;have x2:=b2.cell v2)|(go_at_call 127;refine(HIT.out _).mono ?_;rintro e w' ⟨rfl,rfl⟩)))
       go_wp2;go_roundw;case rel=>exact⟨HB2.out.trans (((Ext.refl _).alloc _).drew.trans b2),j+1,_,by omega,by go_num,rfl,iA.out⟩
       case measure=>simp[intOf];omega
      ·obtain rfl:j=d.steps.length:=by omega
       rw[nS]at HY;have hln:=pR HDK.out (d.steps.length+1);rw[nS]at hln;have hce:(aI 1 encS (dU d)).toArray=#[.string ys]:=by rw[HY.out];rfl
       obtain⟨v',w3,hrun,hrow,hg⟩:=rG (P:=Tryz.prog) (t:=31) (ty:=31) (e:=9) Tryz.underlying31 gK rfl (by omega) (HR.out.ext hb) (dU d) (fun _=>rfl) (by rw[List.length_map,List.length_take];omega) (by omega) (Nat.le_trans hle hb.size);rw[hce]at hrun hg;have aU:=aa hrun;have nV:=aa hrow;have LZ:Hid (Ext w1 w3):=Ext.grown ((HB.out.trans hb).alloc _) hg (fun k hk=>(HR.out.ext hb).block k hk);clear hrun hrow hg hce;go_wp2_with (at_builtin;refine wpList_append_run rfl rfl rfl rfl aU.out ?_)
       go_roundw;case rel=>exact⟨LZ.out,k+1,by omega,by go_num,by rw[ah HD.out,List.map_append];exact nV.out⟩
       case measure=>simp[intOf];omega
    ·obtain rfl:k=p.length:=by omega
     obtain⟨A5,c5,rfl,_⟩:=HR.out.cell.1;have HR2:Hid (Row 9 1 encS w1.heap.size wr (.slice A5 ((p.take p.length).map dU).length c5) (p.map dU)):=by
      show Row _ _ _ _ _ _ _
      have:=HR.out
      rw[List.take_length]at this ⊢;exact this
     generalize ((p.take p.length).map dU).length=n5 at HR2;have HJ:=aa (Gj [59,32] wr HR2.out.cell.1 HR2.out.cap (by rw[List.length_map];omega) (fun x hx=>by
      obtain⟨d,hd,rfl⟩:=List.mem_map.1 hx
      have:=pR (dO.out d hd) (d.steps.length+1)
      rw[nS]at this
      omega) (by simp))
     clear HR;go_wp2_with (go_at_call 130;refine HJ.out.mono ?_;rintro e w4 ⟨rfl,b4⟩)
     go_returns;exact⟨rfl,(b1.trans hb).trans b4⟩
section
attribute [local go_sem] Oper.semAt_some
abbrev Rw:={x:List UInt8 // x.length<=1048576}
def aaY(w:World)(c:Nat):Nat:=match w.cell? ⟨c,0,none⟩ with
 | some (.string b)=>b.size
 | _=>0
theorem R9{w:World}{c:Nat}{l:List UInt8}(h:w.cell? ⟨c,0,none⟩=some (.string (tx l))):aaY w c=l.length:=by unfold aaY;rw[h];rfl
theorem Uq(l:List UInt8)(m:Int)(w:World)(hm:w.cell? ⟨0,0,none⟩=some (.int .i64 m))(hl:l.length<=2097152) :
 Calls Tryz.prog 211 #[.string (tx l),.string ⟨#[59,32]⟩] w fun e w'=>e=.returned (.int .i64 (Lib.index l [59,32]))/\w'=w:=
 Tryz.strings_Index (tx l) (tx [59,32]) m w (by rw[dH];omega) hm
theorem tu{n₀ lo hi:Nat}{W W':World}{B:Nat}{t:TypeId}{v:Value}(h:Boxed W B t v)(k:vT n₀ lo hi W W')(h1:lo<=B)(h2:B<hi):Boxed W' B t v:=(k.2 B h1 h2).trans h
theorem IP(n:Nat)(hn:1<=n)(c n₀:Nat)(l0:Rw)(m:Int)(w:World)(hg:0<n₀)(hcn:n₀<=c)(hm:w.cell? ⟨0,0,none⟩=some (.int .i64 m))
 (h0:Boxed w c 9 (.string (tx l0.1))) (h1:Boxed w (c+1) 9 (.string ⟨#[59,32]⟩)) (h2:Boxed w (c+2) 3 (.int .i64 0)) :
 VA n Tryz.prog 215 #[.pointer (some ⟨c+1,0,none⟩),.pointer (some ⟨c,0,none⟩),.pointer (some ⟨c+2,0,none⟩)] (fun x:Rw=>#[.string (tx x.1)]) c (vT n₀ c (c+3)) (fun ys=>ys.map (·.1)=dS l0.1) (fun ys=>∃r,dS l0.1=ys.map (·.1)++r) (dS l0.1).length w:=fun l J Jx W hW hJs hY hJ0=>by
 have hc:=h2.lt;have hWm:=(hW.cell (p:=⟨0,0,none⟩) (by simp;omega)).trans hm;have b0:=aL h0 hW;have b1:=aL h1 hW;have b2:=aL h2 hW;clear hW hm h0 h1 h2 hc w;refine callsIn_of_wp Tryz.func215 rfl trivial ?_ rfl;simp only[Tryz.ntmps215,List.size_toArray,List.length_cons,List.length_nil,Nat.reduceAdd,Nat.reduceSub,Array.replicate_succ,Array.replicate_zero,List.push_toArray,List.append_toArray,List.nil_append,List.cons_append];have cs:=b1.cell;have HB:=aa (And.intro b0 (And.intro b1 b2));clear b0 b1 b2
 gi_wp2
 clear cs
 gi_loopw [] (fun wr=>∃(pre:List Rw) (rest:List UInt8),Hid (dS l0.1=pre.map (·.1)++dS rest/\rest.length<=1048576/\J pre wr/\Boxed wr c 9 (.string (tx rest))/\Boxed wr (c+1) 9 (.string ⟨#[59,32]⟩)/\Boxed wr (c+2) 3 (.int .i64 0)/\wr.cell? ⟨0,0,none⟩=some (.int .i64 m))) (fun wr=>aaY wr c)
 case atStart=>exact⟨[],l0.1,rfl,l0.2,hJ0,HB.out.1,HB.out.2.1,HB.out.2.2,hWm⟩
 case round=>
  obtain⟨pre,rest,HR⟩:=hrel;obtain⟨hsp,hrl,hJ,b0,b1,b2,hmm⟩:=HR.out;have c0:=b0.cell;have f0:=b0.frozen;have c1:=b1.cell;have c2:=b2.cell;have HI:=aa (Uq rest m wr hmm (by omega));have HLEN:=aa (R9 c0);have Ih:=aa (And.intro b0 (And.intro b1 (And.intro b2 hmm)));have I9:=aa hsp;have hsz:(tx rest).size=rest.length:=dH rest;rcases pM rest [59,32] with hi|⟨i,hi⟩
  ·have hs1:=(tO rest).1 hi;rw[hi]at HI;rw[hs1]at hsp;have hpl:pre.length<(dS l0.1).length:=by rw[hsp];simp
   obtain⟨fn,tmps,assign,body,hy,hR⟩:=hY pre ⟨rest,hrl⟩ wr hJ hpl
   dsimp only at hy
   have jl:Hid ((pre++[(⟨rest,hrl⟩:Rw)]).map (·.1)=dS l0.1):=by show _ = _;rw[hsp];simp
   generalize tx rest=z at *;clear HR hsp hJ b0 b1 b2 hmm hY hJs HB hWm
   gi_wp2_with (refine⟨trivial,?_⟩;gi_at_call 211;refine(callsIn_wide.2 HI.out).mono ?_;rintro e w' ⟨rfl,rfl⟩)
   refine hR.mono ?_;rintro e W3 (⟨rfl,hJ3,hk3⟩|⟨rfl,hJx3⟩)
   ·gi_wp2
    go_end0
    exact⟨⟨_,rfl⟩,.inl ⟨_,jl.out,hJ3⟩⟩
   ·gi_wp2
    go_end0
    exact⟨⟨_,rfl⟩,.inr ⟨_,⟨[],by rw[jl.out,List.append_nil]⟩,hJx3⟩⟩
  ·have hs2:=(tO rest).2 i hi;have hroom:=Lib.index_room rest [59,32] (by omega);rw[hi]at HI hroom;simp only[List.length_cons,List.length_nil]at hroom;rw[hs2]at hsp;have hpl:pre.length<(dS l0.1).length:=by rw[hsp];simp
   have hfl:(rest.take i).length<=1048576:=by rw[List.length_take];omega
   obtain⟨fn,tmps,assign,body,hy,hR⟩:=hY pre ⟨rest.take i,hfl⟩ wr hJ hpl
   dsimp only at hy
   have x1:(tx rest).extract 0 i=tx (rest.take i):=by rw[ny];rfl
   have x2:(tx rest).extract (i+2) (tx rest).size=tx (rest.drop (i+2)):=Kl rest (i+2);have hi0:(0:Int)<=(i:Int):=by omega
   have hi1:(i:Int)<=(rest.length:Int):=by omega
   have hi2:(i:Int)+2<=(rest.length:Int):=by omega
   have hw0:IntKind.i64.wrap ((i:Int)+0)=(i:Int):=IntWalk.i64_in _ ⟨by omega,by omega⟩;have hw2:IntKind.i64.wrap ((i:Int)+2)=((i+2:Nat):Int):=IntWalk.i64_in _ ⟨by omega,by omega⟩;have iA:Hid (dS l0.1=(pre++[(⟨rest.take i,hfl⟩:Rw)]).map (·.1)++dS (rest.drop (i+2))):=by show _ = _;rw[hsp];simp
   obtain⟨y1,hy1⟩:∃y,tx (rest.take i)=y:=⟨_,rfl⟩;obtain⟨y2,hy2⟩:∃y,tx (rest.drop (i+2))=y:=⟨_,rfl⟩;rw[hy1]at x1 hy;rw[hy2]at x2;have Yg:=aa hy2;obtain⟨z,hz⟩:∃z,tx rest=z:=⟨_,rfl⟩;rw[hz]at HI hsz x1 x2 c0 Ih;rw[hsz]at x2;clear HR hsp hJ b0 b1 b2 hmm hY HB hWm hy1 hy2 hz hroom hs2
   gi_wp2_with (refine⟨trivial,?_⟩;gi_at_call 211;refine(callsIn_wide.2 HI.out).mono ?_;rintro e w' ⟨rfl,rfl⟩)
   refine hR.mono ?_;rintro e W3 (⟨rfl,hJ3,hk3⟩|⟨rfl,hJx3⟩)
   ·have g0:=tu Ih.out.1 hk3 (Nat.le_refl _) (by omega);have g1:=tu Ih.out.2.1 hk3 (by omega) (by omega);have g2:=tu Ih.out.2.2.1 hk3 (by omega) (by omega);have gm:=(hk3.1.cell (p:=⟨0,0,none⟩) hg).trans Ih.out.2.2.2;have c0:=g0.cell;have f0:=g0.frozen;have c1:=g1.cell;have c2:=g2.cell;have hne1:(⟨c,0,none⟩:Addr).block≠c+1:=by simp
    have hne2:(⟨c,0,none⟩:Addr).block≠c+2:=by simp
    have HG:Hid (Boxed (W3.setCell ⟨c,0,none⟩ (.string y2)) c 9 (.string (tx (rest.drop (i+2))))/\Boxed (W3.setCell ⟨c,0,none⟩ (.string y2)) (c+1) 9 (.string ⟨#[59,32]⟩)/\Boxed (W3.setCell ⟨c,0,none⟩ (.string y2)) (c+2) 3 (.int .i64 0)/\(W3.setCell ⟨c,0,none⟩ (.string y2)).cell? ⟨0,0,none⟩=some (.int .i64 m)):=by
     refine⟨?_,jf g1 hne1 _,jf g2 hne2 _,(au (by intro e;injection e with e _ _;omega) _).trans gm⟩
     have:=g0.set (.string y2)
     rw[<-Yg.out]at this ⊢;exact this
    have HJ3:=aa (hJs _ _ (.string y2) hJ3);clear g0 g1 g2 gm hJ3 hk3 hR hy hJs hne1 hne2
    gi_wp2
    go_roundw;case rel=>exact⟨pre++[⟨rest.take i,hfl⟩],rest.drop (i+2),iA.out,by rw[List.length_drop];omega,HJ3.out,HG.out⟩
    case measure=>
     rw[HLEN.out,R9 HG.out.1.cell,List.length_drop];omega
   ·gi_wp2
    refine bodyPost_ret (results_none rfl _ _ _) rfl ?_;exact⟨⟨_,rfl⟩,.inr ⟨_,⟨_,iA.out⟩,hJx3⟩⟩
end
def Ep(l:List UInt8):Value:=.string (tx l)
theorem Wj(a b:List UInt8):(tx a==tx b)=decide (a=b):=by
 have h0:(tx a==tx b)=((tx a).data==(tx b).data):=rfl;rw[h0];by_cases h:a=b
 ·subst h;simp
 ·rw[decide_eq_false h,beq_eq_false_iff_ne];intro e;refine h (aaL ?_);show ByteArray.mk (tx a).data=ByteArray.mk (tx b).data;rw[e]
theorem ND(k:List UInt8):∀(es:List MapEntry) (l:List (List UInt8 × Value)) (i:Nat),es.map (fun e=>(e.key,e.val))=l.map (fun p=>(Ep p.1,p.2)) ->
 Instr.findNow .string (Ep k) es i=some ((l.findIdx? (fun p=>p.1==k)).map fun j=>(i+j,(l[j]?.map (·.2)).getD undef))
 | [],[],i,_=>by simp[Instr.findNow]
 | [],_ :: _,_,h=>by simp at h
 | _ :: _,[],_,h=>by simp at h
 | e :: es,p :: l,i,h=>by
   simp only[List.map_cons,List.cons.injEq,Prod.mk.injEq]at h;obtain⟨⟨hk,hv⟩,h⟩:=h;have ih:=ND k es l (i+1) h;rw[Instr.findNow,hk,hv];unfold Ep at *;simp only[Instr.sameNow,Wj];by_cases e:k=p.1
   ·subst e;simp[List.findIdx?_cons]
   ·have e2:(p.1==k)=false:=by simp;exact fun h=>e h.symm
    rw[decide_eq_false e];simp only[ih,List.findIdx?_cons,e2];simp only[Option.map_map,Bool.false_eq_true,if_false]
    cases l.findIdx? (fun p=>p.1==k) with
    | none=>rfl
    | some j=>simp;omega
theorem jX{P:Program}{KT:TypeId}(hK:P.underlying KT=some .string):Dt P KT Ep where
 check b k W:=Go.MapKept.run_checkKey hK (by simp[Go.MapKept.IsKey,Ep]) b 9999
 find k es l h W:=by
  simp only[Instr.findKey,Sem.run_bind,run_underlying hK,Result.andThen_ok,ND k es l 0 h,Sem.run_pure,Nat.zero_add];have e:(fun p:List UInt8 × Value=>p.1==k)=fun p=>@BEq.beq _ instBEqOfDecidableEq p.1 k:=by funext p;show (p.1==k)=decide (p.1=k);rw[Bool.eq_iff_iff,beq_iff_eq,decide_eq_true_eq]
  rw[e]
 stay k W:=by simp[Instr.keyThatStays,Instr.sameBits,Ep,Wj]
