/- Lemmas. -/
import Derived.Test.YtomkjlklninhpaaGreatDoorKAA
import Derived.Test.YtomkjlklninhpaaGreatDoorRows
set_option maxHeartbeats 16000000
set_option maxRecDepth 8000
set_option linter.all false
namespace Go.Proofs.YtomkjlklninhpaaGreatDoor
open Go.RowKit
structure aQ where
 kind:Int
 key:Int
 value:Int
def aj(x:aQ):Nat->Value
 | 0=>.int .i64 x.kind
 | 1=>.int .i64 x.key
 | _=>.int .i64 x.value
def fP(x:aQ):Value:=.agg #[.int .i64 x.kind,.int .i64 x.key,.int .i64 x.value]
theorem V7(a:Int)(b:Int)(c:Int)(w:World) :
 Calls Tryz.prog 87 #[.agg #[.int .i64 a,.int .i64 b,.int .i64 c]] w fun e w'=>e=.returned (.agg #[.int .i64 a,.int .i64 b,.int .i64 c])/\Ext w w':=by
 go_enter Tryz.func87,Tryz.ntmps87;go_wp2;go_returns;refine⟨rfl,?_⟩;show Below _ _ _;go_grown
theorem VP(a:Int)(b:Int)(c:Int)(w:World) :
 Calls Tryz.prog 109 #[.agg #[.int .i64 a,.int .i64 b,.int .i64 c],.agg #[.int .i64 a,.int .i64 b,.int .i64 c]] w fun e w'=>e=.returned (.bool true)/\Ext w w':=by
 go_enter Tryz.func109,Tryz.ntmps109;go_wp2;go_returns;refine⟨rfl,?_⟩;show Below _ _ _;go_grown
theorem JB(A:Option Addr)(n c:Nat)(left:Int)(w:World)(hn:n<=9223372036854775807)(h0:0<=left)(h1:left<=1048576) :
 Calls Tryz.prog 41 #[.slice A n c,.int .i64 left] w fun e w'=>e=.returned (.int .i64 (if (n:Int)<=left then left-n else -1))/\w=w':=by
 by_cases h:(n:Int)<=left
 ·rw[if_pos h];go_enter Tryz.func41,Tryz.ntmps41;go_wp2;go_returns;exact⟨rfl,rfl⟩
 ·rw[if_neg h];go_enter Tryz.func41,Tryz.ntmps41;go_wp2;go_returns;exact⟨rfl,rfl⟩
theorem SG{v v':Value}{xs:List aQ}(w:World)(h:aF 3 aj w v xs)(h':aF 3 aj w v' xs)(hlen:xs.length<=2097152) :
 Calls Tryz.prog 77 #[v,v'] w fun e w'=>e=.returned (.bool true)/\Ext w w':=by
 obtain⟨A,c,rfl,h⟩:=h;obtain⟨A',c',rfl,h'⟩:=h';go_enter Tryz.func77,Tryz.ntmps77;go_wp2;go_loopw [5] (fun i wr=>Ext w wr/\∃k:Nat,k<=xs.length/\i=.int .i64 k) (fun i _=>xs.length-(intOf i).toNat)
 case atStart=>exact⟨Ext.refl _,0,Nat.zero_le _,rfl⟩
 case round=>
  obtain⟨hb,k,hk,rfl⟩:=hrel;by_cases hlt:k<xs.length
  ·obtain⟨b,off,rfl,hbl,hc⟩:=h (by omega);obtain⟨b',off',rfl,pg,hc'⟩:=h' (by omega);obtain⟨x,hx⟩:=af hlt;have c0:∀e,(over wr e).cell? ⟨b,off+k*3,none⟩=some (.int .i64 x.kind):=aG (hb.cell (hc k x hx 0 (by omega)));have c1:∀e,(over wr e).cell? ⟨b,off+k*3+1,none⟩=some (.int .i64 x.key):=aG (hb.cell (hc k x hx 1 (by omega)));have c2:∀e,(over wr e).cell? ⟨b,off+k*3+2,none⟩=some (.int .i64 x.value):=aG (hb.cell (hc k x hx 2 (by omega)));have d0:∀e,(over wr e).cell? ⟨b',off'+k*3,none⟩=some (.int .i64 x.kind):=aG (hb.cell (hc' k x hx 0 (by omega)));have d1:∀e,(over wr e).cell? ⟨b',off'+k*3+1,none⟩=some (.int .i64 x.key):=aG (hb.cell (hc' k x hx 1 (by omega)));have d2:∀e,(over wr e).cell? ⟨b',off'+k*3+2,none⟩=some (.int .i64 x.value):=aG (hb.cell (hc' k x hx 2 (by omega)));clear hx h h' hc hc';go_wp2;refine aO (by kernel_rfl) (by kernel_rfl) ?_;repeat (go_big_quiet_step ((go_at_call 109;exact lq (VP _ _ _ _))))
   refine wpQuiet_nil ?_;intro w1 hb1;go_wp2;go_roundw;case rel=>exact⟨hb.trans hb1,k+1,by omega,by go_num⟩
   case measure=>simp[intOf];omega
  ·go_wp2;go_returns;exact⟨rfl,hb⟩
theorem Yu:(Tryz.prog.info? 71).map (fun i=>(i.zero,i.size,i.bytes))=some (some (.agg #[.int .i64 0,.int .i64 0,.int .i64 0]),3,24):=by kernel_rfl
theorem TI{v:Value}{xs:List aQ}(w:World)(h:aF 3 aj w v xs)(hlen:xs.length<=2097152) :
 Calls Tryz.prog 62 #[v] w fun e w'=>∃v',e=.returned v'/\aF 3 aj w' v' xs/\Own w.heap.size w' v'/\(∀A n c,v'=.slice A n c->n<=c/\c<=9223372036854775807)/\Ext w w':=by
 obtain⟨A,c,rfl,h⟩:=h;have hmk:=jV (P:=Tryz.prog) 46 71 Tryz.underlying46 Yu xs.length (by omega) (by omega);go_enter Tryz.func62,Tryz.ntmps62;go_wp2;go_loopw [4] (fun i wr=>Ext w wr/\∃k:Nat,k<=xs.length/\i=.int .i64 k/\cZ 3 aj w.heap.size (xs.length*3) xs k wr) (fun i _=>xs.length-(intOf i).toNat)
 case atStart=>exact⟨(Ext.refl _).alloc _,0,Nat.zero_le _,rfl,cZ.start _ _ (size_madeCells _ _)⟩
 case round=>
  obtain⟨hb,k,hk,rfl,hf⟩:=hrel;clear hmk;by_cases hlt:k<xs.length
  ·obtain⟨b,off,rfl,hbl,hc⟩:=h (by omega);obtain⟨x,hx⟩:=af hlt;have c0:wr.cell? ⟨b,off+k*3,none⟩=some (.int .i64 x.kind):=hb.cell (hc k x hx 0 (by omega));have c1:wr.cell? ⟨b,off+k*3+1,none⟩=some (.int .i64 x.key):=hb.cell (hc k x hx 1 (by omega));have c2:wr.cell? ⟨b,off+k*3+2,none⟩=some (.int .i64 x.value):=hb.cell (hc k x hx 2 (by omega));obtain⟨u0,g0⟩:∃u,wr.cell? ⟨w.heap.size,k*3,none⟩=some u:=hf.1.cell (by omega);obtain⟨u1,g1⟩:∃u,wr.cell? ⟨w.heap.size,k*3+1,none⟩=some u:=hf.1.cell (by omega);obtain⟨u2,g2⟩:∃u,wr.cell? ⟨w.heap.size,k*3+2,none⟩=some u:=hf.1.cell (by omega);have hx':=aa hx;clear hx h hc;go_wp2_with (go_at_call 87;refine(V7 _ _ _ _).mono ?_;rintro e w1 ⟨rfl,hb1⟩;(
    have G0:=hb1.cell g0;have F0:w1.frozen? ⟨w.heap.size,k*3,none⟩=false:=(hf.1.ext hb1).free _;have G1:=hb1.cell g1;have F1:w1.frozen? ⟨w.heap.size,k*3+1,none⟩=false:=(hf.1.ext hb1).free _;have G2:=hb1.cell g2;have F2:w1.frozen? ⟨w.heap.size,k*3+2,none⟩=false:=(hf.1.ext hb1).free _))
   go_roundw;case rel=>
    have hf1:=hf.ext hb1;have hN:(k+1)*3<=xs.length*3:=by omega
    exact⟨((((hb.trans hb1).setCell (by exact Nat.le_refl _) _).setCell (by exact Nat.le_refl _) _).setCell (by exact Nat.le_refl _) _),k+1,by omega,by go_num,cZ.next (cZ.set (by omega) (cZ.set (by omega) (cZ.set (by omega) (hf1.bF x) (by omega)) (by omega)) (by omega)) hx'.out⟩
   case measure=>simp[intOf];omega
  ·obtain rfl:k=xs.length:=by omega
   go_wp2;go_returns;exact⟨_,rfl,hf.done _,hf.1.own (Nat.le_refl _) _ _ _,fun A n c e=>(by cases e;omega),hb⟩
structure Edge where
 dV:Int
 to:Int
 kind:Int
def aR(x:Edge):Nat->Value
 | 0=>.int .i64 x.dV
 | 1=>.int .i64 x.to
 | _=>.int .i64 x.kind
theorem sG{v:Value}{xs:List aQ}(w:World)(F:FuncId)(cap:Array Value)(p:aQ->Bool)(h:aF 3 aj w v xs)(hlen:xs.length<=2097152)
 (hcf:∀args W,(callFunc F args).run Tryz.prog W=.ok (.enter F args) W) (hF:∀x∈xs,∀W,Ext w W->Calls Tryz.prog F (#[.agg #[.int .i64 x.kind,.int .i64 x.key,.int .i64 x.value]]++cap) W fun e w'=>e=.returned (.bool (p x))/\Ext W w') :
 Calls Tryz.prog 114 #[v,.func (.func F) #[] cap] w fun e w'=>e=.returned (.int .i64 (findAt p xs 0))/\Ext w w':=by
 obtain⟨A,c,rfl,h⟩:=h;have HF:=aa hF;clear hF;go_enter Tryz.func114,Tryz.ntmps114;go_wp2;go_loopw [8] (fun i wr=>Ext w wr/\∃k:Nat,k<=xs.length/\i=.int .i64 k/\Hid (findAt p xs 0=findAt p (xs.drop k) k)) (fun i _=>xs.length-(intOf i).toNat)
 case atStart=>exact⟨Ext.refl _,0,Nat.zero_le _,rfl,rfl⟩
 case round=>
  obtain⟨hb,k,hk,rfl,HI⟩:=hrel;by_cases hlt:k<xs.length
  ·obtain⟨b,off,rfl,hbl,hc⟩:=h (by omega);obtain⟨x,hx⟩:=af hlt;have c0:wr.cell? ⟨b,off+k*3,none⟩=some (.int .i64 x.kind):=hb.cell (hc k x hx 0 (by omega));have c1:wr.cell? ⟨b,off+k*3+1,none⟩=some (.int .i64 x.key):=hb.cell (hc k x hx 1 (by omega));have c2:wr.cell? ⟨b,off+k*3+2,none⟩=some (.int .i64 x.value):=hb.cell (hc k x hx 2 (by omega));have Hx:=aa hx;have Hm:=List.mem_of_getElem? hx;clear hx h hc;go_wp2_with fail
   refine(HF.out x Hm _ hb).mono ?_
   rintro e w1 ⟨rfl,b1⟩;by_cases hp:p x=true
   ·have hr:=aa (HI.out.trans (nO Hx.out hp));go_wp2;go_returns;exact⟨aX hr.out.symm,hb.trans b1⟩
   ·simp only[Bool.not_eq_true]at hp;have hr:=aa (HI.out.trans (mG Hx.out hp));go_wp2;go_roundw;case rel=>exact⟨hb.trans b1,k+1,by omega,by go_num,hr⟩
    case measure=>simp[intOf];omega
  ·obtain rfl:k=xs.length:=by omega
   go_wp2;go_returns;exact⟨aX (by rw[HI.out];simp[findAt]),hb⟩
theorem oP{v:Value}{xs:List aQ}(w:World)(F:FuncId)(cap:Array Value)(p:aQ->Bool)(h:aF 3 aj w v xs)(hlen:xs.length<=2097152)
 (hcf:∀args W,(callFunc F args).run Tryz.prog W=.ok (.enter F args) W) (hF:∀x∈xs,∀W,Ext w W->Calls Tryz.prog F (#[.agg #[.int .i64 x.kind,.int .i64 x.key,.int .i64 x.value]]++cap) W fun e w'=>e=.returned (.bool (p x))/\Ext W w') :
 Calls Tryz.prog 90 #[v,.func (.func F) #[] cap] w fun e w'=>e=.returned (.bool (xs.any p))/\Ext w w':=by
 have HF:=aa hF;clear hF;go_enter Tryz.func90,Tryz.ntmps90;go_wp2_with fail
 refine(sG w F cap p h hlen hcf HF.out).mono ?_
 rintro e w1 ⟨rfl,b1⟩;go_wp2;go_returns;exact⟨aN (nI),b1⟩
theorem Aj{v:Value}{xs:List Edge}(w:World)(F:FuncId)(cap:Array Value)(p:Edge->Bool)(h:aF 3 aR w v xs)(hlen:xs.length<=2097152)
 (hcf:∀args W,(callFunc F args).run Tryz.prog W=.ok (.enter F args) W) (hF:∀x∈xs,∀W,Ext w W->Calls Tryz.prog F (#[.agg #[.int .i64 x.dV,.int .i64 x.to,.int .i64 x.kind]]++cap) W fun e w'=>e=.returned (.bool (p x))/\Ext W w') :
 Calls Tryz.prog 290 #[v,.func (.func F) #[] cap] w fun e w'=>e=.returned (.int .i64 (findAt p xs 0))/\Ext w w':=by
 obtain⟨A,c,rfl,h⟩:=h;have HF:=aa hF;clear hF;go_enter Tryz.func290,Tryz.ntmps290;go_wp2;go_loopw [8] (fun i wr=>Ext w wr/\∃k:Nat,k<=xs.length/\i=.int .i64 k/\Hid (findAt p xs 0=findAt p (xs.drop k) k)) (fun i _=>xs.length-(intOf i).toNat)
 case atStart=>exact⟨Ext.refl _,0,Nat.zero_le _,rfl,rfl⟩
 case round=>
  obtain⟨hb,k,hk,rfl,HI⟩:=hrel;by_cases hlt:k<xs.length
  ·obtain⟨b,off,rfl,hbl,hc⟩:=h (by omega);obtain⟨x,hx⟩:=af hlt;have c0:wr.cell? ⟨b,off+k*3,none⟩=some (.int .i64 x.dV):=hb.cell (hc k x hx 0 (by omega));have c1:wr.cell? ⟨b,off+k*3+1,none⟩=some (.int .i64 x.to):=hb.cell (hc k x hx 1 (by omega));have c2:wr.cell? ⟨b,off+k*3+2,none⟩=some (.int .i64 x.kind):=hb.cell (hc k x hx 2 (by omega));have Hx:=aa hx;have Hm:=List.mem_of_getElem? hx;clear hx h hc;go_wp2_with fail
   refine(HF.out x Hm _ hb).mono ?_
   rintro e w1 ⟨rfl,b1⟩;by_cases hp:p x=true
   ·have hr:=aa (HI.out.trans (nO Hx.out hp));go_wp2;go_returns;exact⟨aX hr.out.symm,hb.trans b1⟩
   ·simp only[Bool.not_eq_true]at hp;have hr:=aa (HI.out.trans (mG Hx.out hp));go_wp2;go_roundw;case rel=>exact⟨hb.trans b1,k+1,by omega,by go_num,hr⟩
    case measure=>simp[intOf];omega
  ·obtain rfl:k=xs.length:=by omega
   go_wp2;go_returns;exact⟨aX (by rw[HI.out];simp[findAt]),hb⟩
theorem uZ{v:Value}{xs:List Edge}(w:World)(F:FuncId)(cap:Array Value)(p:Edge->Bool)(h:aF 3 aR w v xs)(hlen:xs.length<=2097152)
 (hcf:∀args W,(callFunc F args).run Tryz.prog W=.ok (.enter F args) W) (hF:∀x∈xs,∀W,Ext w W->Calls Tryz.prog F (#[.agg #[.int .i64 x.dV,.int .i64 x.to,.int .i64 x.kind]]++cap) W fun e w'=>e=.returned (.bool (p x))/\Ext W w') :
 Calls Tryz.prog 258 #[v,.func (.func F) #[] cap] w fun e w'=>e=.returned (.bool (xs.any p))/\Ext w w':=by
 have HF:=aa hF;clear hF;go_enter Tryz.func258,Tryz.ntmps258;go_wp2_with fail
 refine(Aj w F cap p h hlen hcf HF.out).mono ?_
 rintro e w1 ⟨rfl,b1⟩;go_wp2;go_returns;exact⟨aN (nI),b1⟩
def kZ(k0 i:Nat):aQ:=⟨((k0+i*3:Nat):Int)+0,((k0+i*3:Nat):Int)+1,((k0+i*3:Nat):Int)+2⟩
def iD(k0 n:Nat):List aQ:=(List.range n).map (kZ k0)
theorem NV{v:Value}{xs:List aQ}{lo:Nat}(w:World)(k0:Nat)(h:aF 3 aj w v xs)(ho:Own lo w v)(hlen:xs.length<=2097152)(hk0:k0<=1073741824) :
 Calls Tryz.prog 38 #[v,.int .i64 (k0:Int)] w fun e w'=>e=.returned (.int .i64 ((k0+xs.length*3:Nat):Int))/\aF 3 aj w' v (iD k0 xs.length)/\Only v w w':=by
 obtain⟨A,c,rfl,h⟩:=h;have hst:∀b off,A=some ⟨b,off,none⟩->nk w b off (xs.length*3) 0 (fun c=>aj (kZ k0 (c/3)) (c%3)):=fun b off hA=>
  ⟨fun i hi=>by
   obtain⟨b',off',hA',_,hc⟩:=h (by omega);rw[hA]at hA';cases hA';obtain⟨x,hx⟩:=af (show i/3<xs.length by omega)
   have:=hc _ x hx (i%3) (by omega)
   rw[Nat.add_assoc,show i/3*3+i%3=i by omega]at this;exact⟨_,this⟩,fun i hi=>absurd hi (Nat.not_lt_zero i)⟩
 have Hst:=aa hst;clear hst;go_enter Tryz.func38,Tryz.ntmps38;go_wp2;go_loopw [1,5] (fun a i wr=>Only (.slice A xs.length c) w wr/\∃k:Nat,k<=xs.length/\i=.int .i64 k/\a=.int .i64 ((k0+k*3:Nat):Int)/\Hid (∀b off,A=some ⟨b,off,none⟩->nk wr b off (xs.length*3) (k*3) (fun c=>aj (kZ k0 (c/3)) (c%3)))) (fun _ i _=>xs.length-(intOf i).toNat)
 case atStart=>exact⟨Only.aT (Ext.refl _),0,Nat.zero_le _,rfl,by simp,fun b off e=>by rw[Nat.zero_mul];exact Hst.out b off e⟩
 case round=>
  obtain⟨hb,k,hk,rfl,rfl,HM⟩:=hrel;by_cases hlt:k<xs.length
  ·obtain⟨b,off,rfl,hbl,hc⟩:=h (by omega);have hm:=HM.out b off rfl;have hfr:∀i,wr.frozen? ⟨b,i,none⟩=false:=fun i=>(Own.only ho hb).rC (by omega) _;obtain⟨u0,g0⟩:=hm.1 (k*3+0) (by omega);have F0:wr.frozen? ⟨b,off+(k*3+0),none⟩=false:=hfr _;obtain⟨u1,g1⟩:=hm.1 (k*3+1) (by omega);have F1:wr.frozen? ⟨b,off+(k*3+1),none⟩=false:=hfr _;obtain⟨u2,g2⟩:=hm.1 (k*3+2) (by omega);have F2:wr.frozen? ⟨b,off+(k*3+2),none⟩=false:=hfr _;have Hm:=aa hm;simp only[<-Nat.add_assoc,Nat.add_zero]at g0 F0 g1 F1 g2 F2;clear h hc hm HM Hst hfr;go_wp2;go_roundw;case rel=>exact⟨(((hb).trans (Only.setCell (by omega) _ _)).trans (Only.setCell (by omega) _ _)).trans (Only.setCell (by omega) _ _),k+1,by omega,by go_num,by go_num,fun b' off' e=>by cases e;rw[Nat.succ_mul];exact nk.set (nk.set (nk.set (Hm.out) (by omega) (congrArg (fun o=>(⟨b,o,none⟩:Addr)) (by omega)) (by show _=aj (kZ k0 ((k*3+0)/3)) ((k*3+0)%3);rw[show (k*3+0)/3=k by omega,show (k*3+0)%3=0 by omega];simp[kZ,aj]<;>first|omega|(rw[Bool.eq_iff_iff,beq_iff_eq,beq_iff_eq];omega)|(congr 2;omega))) (by omega) (congrArg (fun o=>(⟨b,o,none⟩:Addr)) (by omega)) (by show _=aj (kZ k0 ((k*3+1)/3)) ((k*3+1)%3);rw[show (k*3+1)/3=k by omega,show (k*3+1)%3=1 by omega];simp[kZ,aj]<;>first|omega|(rw[Bool.eq_iff_iff,beq_iff_eq,beq_iff_eq];omega)|(congr 2;omega))) (by omega) (congrArg (fun o=>(⟨b,o,none⟩:Addr)) (by omega)) (by show _=aj (kZ k0 ((k*3+2)/3)) ((k*3+2)%3);rw[show (k*3+2)/3=k by omega,show (k*3+2)%3=2 by omega];simp[kZ,aj]<;>first|omega|(rw[Bool.eq_iff_iff,beq_iff_eq,beq_iff_eq];omega)|(congr 2;omega))⟩
   case measure=>simp[intOf];omega
  ·obtain rfl:k=xs.length:=by omega
   go_wp2;go_returns;refine⟨rfl,⟨A,c,by simp[iD],fun hn=>?_⟩,hb⟩;have hn':0<xs.length:=by simpa[iD] using hn
   obtain⟨b,off,rfl,hbl,hc⟩:=h hn';refine⟨b,off,rfl,Nat.lt_of_lt_of_le hbl hb.size,fun i x hx j hj=>?_⟩;have hi:i<xs.length:=by have:=(List.getElem?_eq_some_iff.1 hx).1;simpa[iD] using this
   have hx':x=kZ k0 i:=by
    unfold iD at hx;rw[List.getElem?_map]at hx;obtain⟨j,hj,rfl⟩:=Option.map_eq_some_iff.1 hx
    have:=(List.getElem?_eq_some_iff.1 hj).2
    simp at this;rw[this]
   have:=(HM.out b off rfl).2 (i*3+j) (by omega)
   dsimp only at this
   rw[show (i*3+j)/3=i by omega,show (i*3+j)%3=j by omega,<-Nat.add_assoc]at this;rw[this,hx']
theorem Oa{v:Value}(w:World)(k0 n:Nat)(h:aF 3 aj w v (iD k0 n))(hlen:n<=2097152)(hk0:k0<=1073741824) :
 Calls Tryz.prog 39 #[v,.int .i64 (k0:Int)] w fun e w'=>e=.returned (.int .i64 ((k0+n*3:Nat):Int))/\Ext w w':=by
 obtain⟨A,c,rfl,h⟩:=h;have hl:(iD k0 n).length=n:=by simp[iD]
 rw[hl]at h ⊢;clear hl;go_enter Tryz.func39,Tryz.ntmps39;go_wp2;go_loopw [1,5] (fun a i wr=>Ext w wr/\∃k:Nat,k<=n/\i=.int .i64 k/\a=.int .i64 ((k0+k*3:Nat):Int)) (fun _ i _=>n-(intOf i).toNat)
 case atStart=>exact⟨Ext.refl _,0,Nat.zero_le _,rfl,by simp⟩
 case round=>
  obtain⟨hb,k,hk,rfl,rfl⟩:=hrel;by_cases hlt:k<n
  ·obtain⟨b,off,rfl,hbl,hc⟩:=h (by omega);have c0:wr.cell? ⟨b,off+k*3,none⟩=some (.int .i64 (((k0+k*3:Nat):Int)+0)):=hb.cell (hc k (kZ k0 k) (by simp[iD,hlt]) 0 (by omega));have c1:wr.cell? ⟨b,off+k*3+1,none⟩=some (.int .i64 (((k0+k*3:Nat):Int)+1)):=hb.cell (hc k (kZ k0 k) (by simp[iD,hlt]) 1 (by omega));have c2:wr.cell? ⟨b,off+k*3+2,none⟩=some (.int .i64 (((k0+k*3:Nat):Int)+2)):=hb.cell (hc k (kZ k0 k) (by simp[iD,hlt]) 2 (by omega));clear h hc;go_wp2;go_roundw;case rel=>exact⟨hb,k+1,by omega,by go_num,by go_num⟩
   case measure=>simp[intOf];omega
  ·obtain rfl:k=n:=by omega
   go_wp2;go_returns;exact⟨rfl,hb⟩
