/- Lemmas. -/
import Derived.Test.YtcdopfdgknglfaaGreatDoorCAA
import Derived.Test.YtcdopfdgknglfaaGreatDoorRows
set_option maxHeartbeats 16000000
set_option maxRecDepth 8000
set_option linter.all false
namespace Go.Proofs.YtcdopfdgknglfaaGreatDoor
open Go.RowKit
structure aJ where
 kind:Int
 key:Int
 value:Int
def encOpr(x:aJ):Nat->Value
 | 0=>.int .i64 x.kind
 | 1=>.int .i64 x.key
 | _=>.int .i64 x.value
def fZ(x:aJ):Value:=.agg #[.int .i64 x.kind,.int .i64 x.key,.int .i64 x.value]
structure Edge where
 iG:Int
 to:Int
 kind:Int
def bL(x:Edge):Nat->Value
 | 0=>.int .i64 x.iG
 | 1=>.int .i64 x.to
 | _=>.int .i64 x.kind
theorem o8{v:Value}{xs:List aJ}(w:World)(F:FuncId)(cap:Array Value)(p:aJ->Bool)(h:aI 3 encOpr w v xs)(hlen:xs.length<=2097152)
 (hcf:∀args W,(callFunc F args).run Tryz.prog W=.ok (.enter F args) W) (hF:∀x∈xs,∀W,Ext w W->Calls Tryz.prog F (#[.agg #[.int .i64 x.kind,.int .i64 x.key,.int .i64 x.value]]++cap) W λe w'=>e=.returned (.bool (p x))/\Ext W w') :
 Calls Tryz.prog 121 #[v,.func (.func F) #[] cap] w λe w'=>e=.returned (.int .i64 (findAt p xs 0))/\Ext w w':=by
 obtain⟨A,c,rfl,h⟩:=h;have HF:=aa hF;clear hF;go_enter Tryz.func121,Tryz.ntmps121;go_wp2;go_loopw [8] (λi wr=>Ext w wr/\∃k:Nat,k<=xs.length/\i=.int .i64 k/\Hid (findAt p xs 0=findAt p (xs.drop k) k)) (λi _=>xs.length-(intOf i).toNat)
 case atStart=>exact⟨af _,0,bR _,rfl,rfl⟩
 case round=>
  obtain⟨hb,k,hk,rfl,HI⟩:=hrel;by_cases hlt:k<xs.length
  ·obtain⟨b,off,rfl,hbl,hc⟩:=h (by omega);obtain⟨x,hx⟩:=au hlt;have c0:wr.cell? ⟨b,off+k*3,none⟩=some (.int .i64 x.kind):=hb.cell (hc k x hx 0 (by omega));have c1:wr.cell? ⟨b,off+k*3+1,none⟩=some (.int .i64 x.key):=hb.cell (hc k x hx 1 (by omega));have c2:wr.cell? ⟨b,off+k*3+2,none⟩=some (.int .i64 x.value):=hb.cell (hc k x hx 2 (by omega));have Hx:=aa hx;have Hm:=aN hx;clear hx h hc;go_wp2_with fail
   refine(HF.out x Hm _ hb).mono ?_
   rintro e w1 ⟨rfl,b1⟩;by_cases hp:p x=true
   ·have hr:=aa (HI.out.trans (lu Hx.out hp));go_wp2;go_returns;exact⟨dH hr.out.symm,hb.trans b1⟩
   ·simp only[Bool.not_eq_true]at hp;have hr:=aa (HI.out.trans (kr Hx.out hp));go_wp2;go_roundw;case rel=>exact⟨hb.trans b1,k+1,by omega,by go_num,hr⟩
    case measure=>simp[intOf];omega
  ·obtain rfl:k=xs.length:=by omega
   go_wp2;go_returns;exact⟨dH (by rw[HI.out];simp[findAt]),hb⟩
theorem mE{v:Value}{xs:List aJ}(w:World)(F:FuncId)(cap:Array Value)(p:aJ->Bool)(h:aI 3 encOpr w v xs)(hlen:xs.length<=2097152)
 (hcf:∀args W,(callFunc F args).run Tryz.prog W=.ok (.enter F args) W) (hF:∀x∈xs,∀W,Ext w W->Calls Tryz.prog F (#[.agg #[.int .i64 x.kind,.int .i64 x.key,.int .i64 x.value]]++cap) W λe w'=>e=.returned (.bool (p x))/\Ext W w') :
 Calls Tryz.prog 85 #[v,.func (.func F) #[] cap] w λe w'=>e=.returned (.bool (xs.any p))/\Ext w w':=by
 have HF:=aa hF;clear hF;go_enter Tryz.func85,Tryz.ntmps85;go_wp2_with fail
 refine(o8 w F cap p h hlen hcf HF.out).mono ?_
 rintro e w1 ⟨rfl,b1⟩;go_wp2;go_returns;exact⟨aU (lD),b1⟩
theorem uO{v:Value}{xs:List Edge}(w:World)(F:FuncId)(cap:Array Value)(p:Edge->Bool)(h:aI 3 bL w v xs)(hlen:xs.length<=2097152)
 (hcf:∀args W,(callFunc F args).run Tryz.prog W=.ok (.enter F args) W) (hF:∀x∈xs,∀W,Ext w W->Calls Tryz.prog F (#[.agg #[.int .i64 x.iG,.int .i64 x.to,.int .i64 x.kind]]++cap) W λe w'=>e=.returned (.bool (p x))/\Ext W w') :
 Calls Tryz.prog 287 #[v,.func (.func F) #[] cap] w λe w'=>e=.returned (.int .i64 (findAt p xs 0))/\Ext w w':=by
 obtain⟨A,c,rfl,h⟩:=h;have HF:=aa hF;clear hF;go_enter Tryz.func287,Tryz.ntmps287;go_wp2;go_loopw [8] (λi wr=>Ext w wr/\∃k:Nat,k<=xs.length/\i=.int .i64 k/\Hid (findAt p xs 0=findAt p (xs.drop k) k)) (λi _=>xs.length-(intOf i).toNat)
 case atStart=>exact⟨af _,0,bR _,rfl,rfl⟩
 case round=>
  obtain⟨hb,k,hk,rfl,HI⟩:=hrel;by_cases hlt:k<xs.length
  ·obtain⟨b,off,rfl,hbl,hc⟩:=h (by omega);obtain⟨x,hx⟩:=au hlt;have c0:wr.cell? ⟨b,off+k*3,none⟩=some (.int .i64 x.iG):=hb.cell (hc k x hx 0 (by omega));have c1:wr.cell? ⟨b,off+k*3+1,none⟩=some (.int .i64 x.to):=hb.cell (hc k x hx 1 (by omega));have c2:wr.cell? ⟨b,off+k*3+2,none⟩=some (.int .i64 x.kind):=hb.cell (hc k x hx 2 (by omega));have Hx:=aa hx;have Hm:=aN hx;clear hx h hc;go_wp2_with fail
   refine(HF.out x Hm _ hb).mono ?_
   rintro e w1 ⟨rfl,b1⟩;by_cases hp:p x=true
   ·have hr:=aa (HI.out.trans (lu Hx.out hp));go_wp2;go_returns;exact⟨dH hr.out.symm,hb.trans b1⟩
   ·simp only[Bool.not_eq_true]at hp;have hr:=aa (HI.out.trans (kr Hx.out hp));go_wp2;go_roundw;case rel=>exact⟨hb.trans b1,k+1,by omega,by go_num,hr⟩
    case measure=>simp[intOf];omega
  ·obtain rfl:k=xs.length:=by omega
   go_wp2;go_returns;exact⟨dH (by rw[HI.out];simp[findAt]),hb⟩
theorem qO{v:Value}{xs:List Edge}(w:World)(F:FuncId)(cap:Array Value)(p:Edge->Bool)(h:aI 3 bL w v xs)(hlen:xs.length<=2097152)
 (hcf:∀args W,(callFunc F args).run Tryz.prog W=.ok (.enter F args) W) (hF:∀x∈xs,∀W,Ext w W->Calls Tryz.prog F (#[.agg #[.int .i64 x.iG,.int .i64 x.to,.int .i64 x.kind]]++cap) W λe w'=>e=.returned (.bool (p x))/\Ext W w') :
 Calls Tryz.prog 260 #[v,.func (.func F) #[] cap] w λe w'=>e=.returned (.bool (xs.any p))/\Ext w w':=by
 have HF:=aa hF;clear hF;go_enter Tryz.func260,Tryz.ntmps260;go_wp2_with fail
 refine(uO w F cap p h hlen hcf HF.out).mono ?_
 rintro e w1 ⟨rfl,b1⟩;go_wp2;go_returns;exact⟨aU (lD),b1⟩
structure aF where
 aD:Int
 ops:List aJ
 done:Bool
theorem aJ.ext'{a b:aJ}(h1:a.kind=b.kind)(h2:a.key=b.key)(h3:a.value=b.value):a=b:=by cases a;cases b;simp_all
instance:DecidableEq aJ:=λa b=>
 if h:a.kind=b.kind/\a.key=b.key/\a.value=b.value then isTrue (aJ.ext' h.1 h.2.1 h.2.2) else isFalse (λe=>h (by subst e;exact⟨rfl,rfl,rfl⟩))
instance:Inhabited aJ:=⟨⟨0,0,0⟩⟩
instance:Inhabited aF:=⟨⟨0,[],false⟩⟩
def mh(o:aJ):Bool:=o.kind==1
def jl(o:aJ):Bool:=o.kind==2
def jm(o:aJ):Bool:=(mh o || jl o)&&kV o.key 0 2&&kV o.value 0 99 && !(jl o&&o.value==0)
def eP(t:aF):Bool:=kV t.aD 0 3&&decide (t.ops.length<=6)&&t.ops.all jm
def iB(n:Nat)(ops:List aJ):List ((Int × Int) × Nat):=(ops.filter jl).map λo=>((o.key,o.value),n)
def wrsFrom:Nat->List aF->List ((Int × Int) × Nat)
 | _,[]=>[]
 | n,t :: h=>iB n t.ops++wrsFrom (n+1) h
def Bo(h:List aF):List ((Int × Int) × Nat):=wrsFrom 0 h
def jT(h:List aF):Bool:=decide ((Bo h).map (·.1)).Nodup
def aH(h:List aF):Bool:=decide (h.length<=6)&&h.all eP&&jT h
def lookW(l:List ((Int × Int) × Nat))(q:Int × Int):Option Nat:=(l.find? (λp=>p.1==q)).map (·.2)
def aQ(h:List aF)(key value:Int):Int:=((lookW (Bo h) (key,value)).map λn=>(n:Int)).getD (-1)
theorem D7(n:Nat)(a b:List aJ):iB n (a++b)=iB n a++iB n b:=by simp[iB]
theorem rP(n:Nat)(a b:List aF):wrsFrom n (a++b)=wrsFrom n a++wrsFrom (n+a.length) b:=by
 induction a generalizing n with
 | nil=>simp[wrsFrom]
 | cons t a ih=>simp[wrsFrom,ih,jN,Nat.add_assoc,Nat.add_comm 1]
theorem aj{α:Type}{l:List α}{k:Nat}{x:α}(h:l[k]? =some x):l.take (k+1)=l.take k++[x]:=by rw[List.take_add_one,h];rfl
theorem zH{α:Type}{l:List α}{k:Nat}{x:α}(h:l[k]? =some x):l=l.take k++x :: l.drop (k+1):=by obtain⟨hk,rfl⟩:=aS.1 h;rw[<-List.drop_eq_getElem_cons hk,List.take_append_drop]
def fF(h:List aF)(k:Nat)(ops:List aJ)(j:Nat):List ((Int × Int) × Nat):=wrsFrom 0 (h.take k)++iB k (ops.take j)
theorem Fb{h:List aF}{k j:Nat}{ops:List aJ}{o:aJ}(ho:ops[j]? =some o)(hw:jl o=true):fF h k ops (j+1)=fF h k ops j++[((o.key,o.value),k)]:=by simp[fF,aj ho,iB,hw,uk]
theorem Hl{h:List aF}{k j:Nat}{ops:List aJ}{o:aJ}(ho:ops[j]? =some o)(hw:jl o=false):fF h k ops (j+1)=fF h k ops j:=by simp[fF,aj ho,iB,hw,uk]
theorem La{h:List aF}{k:Nat}{t:aF}(ht:h[k]? =some t):fF h k t.ops t.ops.length=wrsFrom 0 (h.take (k+1)):=by have hk:k<h.length:=(aS.1 ht).1;rw[fF,aj ht,rP,bY];simp[wrsFrom,yf (pJ hk)]
theorem CQ{h:List aF}{k j:Nat}{t:aF}{o:aJ}(ht:h[k]? =some t)(ho:t.ops[j]? =some o)(hw:jl o=true) :
 ∃l,Bo h=fF h k t.ops j++((o.key,o.value),k) :: l:=by
 have hk:k<h.length:=(aS.1 ht).1;have e1:Bo h=wrsFrom 0 (h.take k)++(iB k t.ops++wrsFrom (k+1) (h.drop (k+1))):=by
  unfold Bo
  conv=>lhs;rw[zH ht]
  rw[rP];simp[wrsFrom,yf (pJ hk)]
 have e2:iB k t.ops=iB k (t.ops.take j)++((o.key,o.value),k) :: iB k (t.ops.drop (j+1)):=by
  conv=>lhs;rw[zH ho]
  rw[D7];simp[iB,uk,hw]
 exact⟨iB k (t.ops.drop (j+1))++wrsFrom (k+1) (h.drop (k+1)),by rw[e1,e2,fF];simp⟩
theorem uf{l:List ((Int × Int) × Nat)}{q:Int × Int}:lookW l q=none↔q∉l.map (·.1):=by
 unfold lookW;rw[Option.map_eq_none_iff,List.find?_eq_none];constructor
 ·intro h hq;obtain⟨p,hp,rfl⟩:=dX.1 hq;exact h p hp (by simp)
 ·intro h p hp e;exact h (dX.2 ⟨p,hp,by simpa using e⟩)
theorem Iu(l:List ((Int × Int) × Nat))(q:Int × Int)(n:Nat)(hq:lookW l q=none)(r:Int × Int):lookW (l++[(q,n)]) r=if r=q then some n else lookW l r:=by
 by_cases e:r=q
 ·subst e;rw[ah rfl];unfold lookW at hq ⊢;rw[Option.map_eq_none_iff]at hq;simp[List.find?_append,hq]
 ·rw[ak e];unfold lookW;rw[List.find?_append]
  have:(q==r)=false:=by simp;exact λh=>e h.symm
  cases l.find? (λp=>p.1==r)<;>simp[this]
theorem BS{h:List aF}{k j n:Nat}{t:aF}{o:aJ}(ht:h[k]? =some t)(ho:t.ops[j]? =some o)(hw:jl o=true)(hl:lookW (fF h k t.ops j) (o.key,o.value)=some n):jT h=false:=by
 obtain⟨l,e⟩:=CQ ht ho hw;unfold jT;rw[e,decide_eq_false_iff_not,j3,List.nodup_append];intro hnd;have hmem:(o.key,o.value)∈(fF h k t.ops j).map (·.1):=by
  rcases Classical.em ((o.key,o.value)∈(fF h k t.ops j).map (·.1)) with h'|h'
  ·exact h'
  ·rw[uf.2 h']at hl;cases hl
 exact hnd.2.2 _ hmem _ (by simp) rfl
theorem wT{h:List aF}(hn:(Bo h).map (·.1) |>.Nodup):jT h=true:=by unfold jT;exact kQ hn
theorem IU{l:List ((Int × Int) × Nat)}{q:Int × Int}{n:Nat}(hl:(l.map (·.1)).Nodup)(hq:lookW l q=none):((l++[(q,n)]).map (·.1)).Nodup:=by rw[j3,List.nodup_append];exact⟨hl,by simp,λa ha b hb e=>uf.1 hq (by simp at hb;rw[<-hb,<-e];exact ha)⟩
theorem lG{t:aF}(h:eP t=true):0<=t.aD/\t.aD<=3:=by simp only[eP,bK]at h;exact cK.1 h.1.1
theorem eY{t:aF}(h:eP t=true):t.ops.length<=6:=by simp only[eP,bK,eG]at h;exact h.1.2
theorem jc{t:aF}(h:eP t=true){o:aJ}(ho:o∈t.ops):jm o=true:=by simp only[eP,bK,iN]at h;exact h.2 o ho
theorem vF{o:aJ}(h:jm o=true):o.kind=1∨o.kind=2:=by simp only[jm,mh,jl,bK,qo,beq_iff_eq]at h;exact h.1.1.1
theorem jr{o:aJ}(h:jm o=true):0<=o.key/\o.key<=2:=by simp only[jm,bK]at h;exact cK.1 h.1.1.2
theorem nA{o:aJ}(h:jm o=true):0<=o.value/\o.value<=99:=by simp only[jm,bK]at h;exact cK.1 h.1.2
theorem aT{h:List aF}(hh:aH h=true):h.length<=6:=by simp only[aH,bK,eG]at hh;exact hh.1.1
theorem dW{h:List aF}(hh:aH h=true){t:aF}(ht:t∈h):eP t=true:=by simp only[aH,bK,iN]at hh;exact hh.1.2 t ht
theorem Eh{h:List aF}(hh:aH h=true):(Bo h).map (·.1) |>.Nodup:=by simp only[aH,jT,bK,eG]at hh;exact hh.2
