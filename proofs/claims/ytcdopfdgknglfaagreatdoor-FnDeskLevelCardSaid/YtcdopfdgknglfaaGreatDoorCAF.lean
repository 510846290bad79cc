/- Lemmas. -/
import Derived.Test.YtcdopfdgknglfaaGreatDoorCAD
set_option maxHeartbeats 16000000
set_option maxRecDepth 8000
set_option linter.all false
namespace Go.Proofs.YtcdopfdgknglfaaGreatDoor
open Go.RowKit
def nV(p:Int × Int):Value:=.agg #[.int .i64 p.1,.int .i64 p.2]
theorem BQ(a b c d:Int)(W:World):(Op.equalIn 10000 118 (.agg #[.int .i64 a,.int .i64 b]) (.agg #[.int .i64 c,.int .i64 d])).run Tryz.prog W=.ok (decide (a=c)&&decide (b=d)) W:=by
 have u3:=Tryz.underlying3;have a3:=Tryz.isAgg3;have z3:=Tryz.sizeOf3;have hS:Tryz.prog.underlying 118=some (.struct (Tryz.prog.fieldsOf 118)):=by kernel_rfl
 have hp:Tryz.prog.stoodInHeld 118=false:=by kernel_rfl
 rw[show (10000:Nat)=9999+1 from rfl,run_equalIn_agg W 9999 _ _ _ hS hp];simp only[Program.fieldsOf,Tryz.underlying118];go_simp;by_cases h1:a=c<;>by_cases h2:b=d<;>simp[h1,h2]
theorem Gc(p q:Int × Int)(W:World):(Op.equal 118 (nV p) (nV q)).run Tryz.prog W=.ok (decide (p=q)) W:=by obtain⟨a,b⟩:=p;obtain⟨c,d⟩:=q;have h:=BQ a b c d W;unfold nV;simp only[Op.equal,Op.maxDepth];rw[h];congr 1;rw[lH];simp
theorem rq:wR Tryz.prog 118 nV:=
 zu Tryz.underlying118 (λk p=>by simp[Instr.sameNow]) (λb k W=>by have u3:=Tryz.underlying3;have a3:=Tryz.isAgg3;have z3:=Tryz.sizeOf3;have hi:∀x W,(Instr.checkKey b 9999 3 (.int .i64 x)).run Tryz.prog W=.ok () W:=λx W=>Go.MapKept.run_checkKey u3 (by simp[Go.MapKept.IsKey]) b 9998;unfold nV;rw[show (10000:Nat)=9999+1 from rfl,Instr.checkKey];simp only[Sem.run_bind,run_underlying Tryz.underlying118,Result.andThen_ok];go_simp) Gc (λk=>by unfold nV;simp[Instr.sameBits])
theorem tQ(a b c a' b' c':Int)(W:World):(Op.equalIn 10000 67 (.agg #[.int .i64 a,.int .i64 b,.int .i64 c]) (.agg #[.int .i64 a',.int .i64 b',.int .i64 c'])).run Tryz.prog W=.ok (decide (a=a'/\b=b'/\c=c')) W:=by
 have u3:=Tryz.underlying3;have a3:=Tryz.isAgg3;have z3:=Tryz.sizeOf3;have hS:Tryz.prog.underlying 67=some (.struct (Tryz.prog.fieldsOf 67)):=by kernel_rfl
 have hp:Tryz.prog.stoodInHeld 67=false:=by kernel_rfl
 rw[show (10000:Nat)=9999+1 from rfl,run_equalIn_agg W 9999 _ _ _ hS hp];simp only[Program.fieldsOf,Tryz.underlying67];go_simp;by_cases h1:a=a'<;>by_cases h2:b=b'<;>by_cases h3:c=c'<;>simp[h1,h2,h3]
theorem Fz:Tryz.prog.eqGuardType Tryz.prog.depth 67=false:=by kernel_rfl
theorem NZ{h:List aF}{q:Int × Int}{n:Nat}(hm:(q,n)∈Bo h):∃t,h[n]? =some t/\∃o∈t.ops,jl o=true/\(o.key,o.value)=q:=by
 have key:∀(l:List aF) (s:Nat),(q,n)∈wrsFrom s l->∃i t,n=s+i/\l[i]? =some t/\∃o∈t.ops,jl o=true/\(o.key,o.value)=q:=by
  intro l
  induction l with
  | nil=>intro s hm;simp[wrsFrom]at hm
  | cons t l ih=>
    intro s hm;rw[wrsFrom,iR]at hm;rcases hm with hm|hm
    ·simp only[iB,dX,lC]at hm;obtain⟨o,⟨ho,hw⟩,e⟩:=hm;injection e with e1 e2;exact⟨0,t,by omega,rfl,o,ho,hw,e1⟩
    ·obtain⟨i,t',e,ht,h2⟩:=ih (s+1) hm;exact⟨i+1,t',by omega,by simpa using ht,h2⟩
 obtain⟨i,t,e,ht,h2⟩:=key h 0 hm;exact⟨t,by rw[e,kP];exact ht,h2⟩
def jE(n:Nat):Value:=.int .i64 (n:Int)
def ug(l:List ((Int × Int) × Nat))(q:Int × Int):Option Value:=(lookW l q).map jE
def Ue(h:List aF)(w:World)(e:Ending)(w':World):Prop:=
 Ext w w'/\((jT h=true/\∃g,e=.returned (.tuple #[.map (some g),.bool true])/\iJ w' g nV (ug (Bo h)))∨(jT h=false/\e=.returned (.tuple #[.map none,.bool false])))
theorem KC{l:List ((Int × Int) × Nat)}{q:Int × Int}{n:Nat}(hq:lookW l q=none)(r:Int × Int):(if r=q then some (jE n) else ug l r)=ug (l++[(q,n)]) r:=by
 unfold ug;rw[Iu l q n hq]
 split<;>rfl
theorem zD(W:World):(zeroValue 3).run Tryz.prog W=.ok (.int .i64 0) W:=by kernel_rfl
theorem uH{v:Value}{h:List aF}(w:World)(H:lV w v h)(hlen:h.length<=2097152)(hM:∀t∈h,t.ops.length<=2097152) :
 Calls Tryz.prog 44 #[v] w (Ue h w):=by
 obtain⟨A,c,rfl⟩:=H.slice;have HH:=aa H;have HM:=aa hM;have hmk:=@run_makeMap Tryz.prog;clear H hM;go_enter Tryz.func44,Tryz.ntmps44;go_wp2;clear hmk;go_loopw [15] (λi wr=>Ext w wr/\∃k:Nat,k<=h.length/\i=.int .i64 k/\Hid (iJ wr w.heap.size nV (ug (fF h k [] 0))/\((fF h k [] 0).map (·.1)).Nodup)) (λi _=>h.length-(intOf i).toNat)
 case atStart=>exact⟨(af _).alloc _,0,bR _,rfl,iJ.made w nV,by simp[fF,wrsFrom,iB]⟩
 case round=>
  obtain⟨hb,k,hk,rfl,HI⟩:=hrel;by_cases hlt:k<h.length
  ·obtain⟨b,off,rfl,hbl,hc⟩:=HH.out.head (by omega);obtain⟨t,ht⟩:=au hlt;obtain⟨ov,c0,c1,c2,hs⟩:=hc k t ht;replace c0:=hb.cell c0;replace c1:=hb.cell c1;replace c2:=hb.cell c2;obtain⟨A',c',rfl,_⟩:=id hs;have hl:=HM.out t (aN ht);have HT:=aa ht;have MZ:=aa hs;have Rp:Hid (iJ (wr.alloc (.cells #[.int .i64 t.aD,.slice A' t.ops.length c',.bool t.done] 48)) w.heap.size nV (ug (fF h k t.ops 0))/\((fF h k t.ops 0).map (·.1)).Nodup):=by
    have e:fF h k t.ops 0=fF h k [] 0:=by simp[fF,iB]
    rw[e];exact⟨HI.out.1.ext ((af _).alloc _),HI.out.2⟩
   have Eu:Hid (Ext w (wr.alloc (.cells #[.int .i64 t.aD,.slice A' t.ops.length c',.bool t.done] 48))):=hb.alloc _;clear ht hc hs HI;go_wp2;go_loopw [23] (λi wr=>Ext w wr/\∃j:Nat,j<=t.ops.length/\i=.int .i64 j/\Hid (iJ wr w.heap.size nV (ug (fF h k t.ops j))/\((fF h k t.ops j).map (·.1)).Nodup)) (λi _=>t.ops.length-(intOf i).toNat)
   case atStart=>exact⟨Eu.out,0,bR _,rfl,Rp.out⟩
   case round=>
    obtain⟨hb2,j,hj,rfl,HJ⟩:=hrel;by_cases hjt:j<t.ops.length
    ·obtain⟨A2,c2,hA2,hcc⟩:=MZ.out.ext hb2;injection hA2 with e1 e2 e3;subst e1 e3;obtain⟨b',off',rfl,DF,hcc⟩:=hcc (by omega);obtain⟨o,ho⟩:=au hjt;have d0:wr.cell? ⟨b',off'+j*3,none⟩=some (.int .i64 o.kind):=hcc j o ho 0 (by omega);have d1:wr.cell? ⟨b',off'+j*3+1,none⟩=some (.int .i64 o.key):=hcc j o ho 1 (by omega);have d2:wr.cell? ⟨b',off'+j*3+2,none⟩=some (.int .i64 o.value):=hcc j o ho 2 (by omega);have Ho:=aa ho;have hl1:=kg (w:=(wr.alloc (.cells #[.int .i64 o.kind,.int .i64 o.key,.int .i64 o.value] 67)).alloc (.cells #[.int .i64 o.key,.int .i64 o.value] 118)) Tryz.underlying71 rq zD (HJ.out.1.ext (((af _).alloc _).alloc _)) (o.key,o.value);have NW:Hid (Ext wr ((((wr.alloc (.cells #[.int .i64 o.kind,.int .i64 o.key,.int .i64 o.value] 67)).alloc (.cells #[.int .i64 o.key,.int .i64 o.value] 118)).alloc (.cells #[.int .i64 o.kind,.int .i64 o.key,.int .i64 o.value] 67)).alloc (.cells #[.int .i64 o.kind,.int .i64 o.key,.int .i64 o.value] 67))):=((((af _).alloc _).alloc _).alloc _).alloc _;clear hcc ho e2;unfold nV at hl1
     cases hw:(o.kind==2) with
     | false=>
       go_wp2_with (go_at_call 87;refine(dD _ _ _ _).mono ?_;rw[hw];rintro e w' ⟨rfl,rfl⟩)
       go_roundw;case rel=>exact⟨hb2.trans NW.out,j+1,by omega,by go_num,by rw[Hl Ho.out hw];exact⟨HJ.out.1.ext NW.out,HJ.out.2⟩⟩
       case measure=>simp[intOf];omega
     | true=>
       cases hlk:lookW (fF h k t.ops j) (o.key,o.value) with
       | some n=>
         have hX:ug (fF h k t.ops j) (o.key,o.value)=some (.int .i64 (n:Int)):=by unfold ug;rw[hlk];rfl
         rw[hX]at hl1;have HX:=aa (BS HT.out Ho.out hw hlk);clear hX hlk;go_wp2_with (go_at_call 87;refine(dD _ _ _ _).mono ?_;rw[hw];rintro e w' ⟨rfl,rfl⟩)
         go_returns;exact⟨((hb2.alloc _).alloc _).alloc _,.inr ⟨HX.out,rfl⟩⟩
       | none=>
         have hX:ug (fF h k t.ops j) (o.key,o.value)=none:=by unfold ug;rw[hlk];rfl
         rw[hX]at hl1;obtain⟨ob,hu,hG⟩:=dP Tryz.underlying71 rq (HJ.out.1.ext NW.out) (o.key,o.value) (.int .i64 (k:Int));have HG:=aa hG;have Zx:=aa hlk;unfold nV at hu;clear hX hG hlk;go_wp2_with (go_at_call 87;refine(dD _ _ _ _).mono ?_;rw[hw];rintro e w' ⟨rfl,rfl⟩)
         go_roundw;case rel=>exact⟨(hb2.trans NW.out).aK (ay _) _,j+1,by omega,by go_num,by
          rw[Fb Ho.out hw];exact⟨HG.out.1.congr (KC Zx.out),IU HJ.out.2 Zx.out⟩⟩
         case measure=>simp[intOf];omega
    ·obtain rfl:j=t.ops.length:=by omega
     go_wp2;go_roundw;case rel=>exact⟨hb2,k+1,by omega,by go_num,by
      have e:fF h (k+1) [] 0=fF h k t.ops t.ops.length:=by rw[La HT.out];simp[fF,iB]
      rw[e];exact HJ.out⟩
     case measure=>simp[intOf];omega
  ·obtain rfl:k=h.length:=by omega
   go_wp2;go_returns;refine⟨hb,.inl ?_⟩;have e:fF h h.length [] 0=Bo h:=by simp[fF,iB,Bo]
   rw[<-e];exact⟨by unfold jT;rw[<-e];exact kQ HI.out.2,_,rfl,HI.out.1⟩
theorem qJ(t:aF)(ov:Value)(w:World)(h:aI 3 encOpr w ov t.ops)(hlen:t.ops.length<=2097152) :
 Calls Tryz.prog 42 #[sM t ov] w λe w'=>e=.returned (.bool (!eP t))/\Ext w w':=by
 have HS:=aa h;obtain⟨A,c,rfl,_⟩:=id h;clear h;show Calls Tryz.prog 42 #[.agg #[.int .i64 t.aD,.slice A t.ops.length c,.bool t.done]] w _;cases hk:eP t<;>(
  go_enter Tryz.func42,Tryz.ntmps42;go_wp2_with (go_at_call 43;refine(sV t _ _ (HS.out.ext ((af _).alloc _)) hlen).mono ?_;rw[hk];rintro e w1 ⟨rfl,b1⟩)
  go_returns;refine⟨rfl,?_⟩
  exact((af _).alloc _).trans b1)
theorem sZ(args:Array Value)(W:World):(callFunc 42 args).run Tryz.prog W=.ok (.enter 42 args) W:=by kernel_rfl
theorem aZ{v:Value}{h:List aF}(w:World)(H:lV w v h)(hlen:h.length<=2097152)(hM:∀t∈h,t.ops.length<=2097152) :
 Calls Tryz.prog 12 #[v] w λe w'=>e=.returned (.bool (aH h))/\Ext w w':=by
 obtain⟨A,c,rfl⟩:=H.slice;have HH:=aa H;have HM:=aa hM;have hf:Hid (∀a b c,decide (h.length<=6)=a->(h.any λt=>!eP t)=b->jT h=c->aH h=(a && !b&&c)):=λa b c e1 e2 e3=>by subst e1 e2 e3;simp[aH,List.all_eq_not_any_not]
 clear H hM;by_cases h6:h.length<=6
 ·cases ha:(h.any λt=>!eP t) with
  | true=>
    have hr:=aa (hf.out true true _ (by simpa using h6) ha rfl);have HA:=aa ha;clear ha;go_enter Tryz.func12,Tryz.ntmps12;go_wp2_with (go_at_call 41;refine(mF _ 42 #[] (λt=>!eP t) HH.out hlen sZ (λt ht ov W _ hs=>qJ t ov W hs (HM.out t ht))).mono ?_;rw[HA.out];rintro e w1 ⟨rfl,b1⟩)
    go_returns;exact⟨aU (by rw[hr.out];rfl),b1⟩
  | false=>
    have hr:=aa (hf.out true false _ (by simpa using h6) ha rfl);have HA:=aa ha;clear ha;go_enter Tryz.func12,Tryz.ntmps12;go_wp2_with (go_at_call 41;refine(mF _ 42 #[] (λt=>!eP t) HH.out hlen sZ (λt ht ov W _ hs=>qJ t ov W hs (HM.out t ht))).mono ?_;rw[HA.out];rintro e w1 ⟨rfl,b1⟩)
    refine(uH _ (HH.out.ext b1) hlen HM.out).mono ?_
    rintro e w2 ⟨b2,⟨hn,g,rfl,_⟩|⟨hn,rfl⟩⟩
    ·go_wp2;go_returns;exact⟨aU (by rw[hr.out,hn];rfl),b1.trans b2⟩
    ·go_wp2;go_returns;exact⟨aU (by rw[hr.out,hn];rfl),b1.trans b2⟩
 ·have hr:=aa (hf.out false _ _ (by simpa using h6) rfl rfl);go_enter Tryz.func12,Tryz.ntmps12;go_wp2;go_returns;exact⟨aU (by rw[hr.out];simp),af _⟩
