/- Lemmas. -/
import Derived.Test.YtomkjlklninhpaaGreatDoorKAA
import Derived.Test.YtomkjlklninhpaaGreatDoorRows
import Derived.MapKept
set_option maxHeartbeats 16000000
set_option maxRecDepth 8000
set_option linter.all false
namespace Go.Proofs.YtomkjlklninhpaaGreatDoor
open Go.RowKit
section
section
variable{α:Type}{enc:α->Value}{g N k:Nat}{xs:List α}{w w':World}{x:α}
end
theorem E9{v:Value}{xs:List Int}(w:World)(F:FuncId)(cap:Array Value)(p:Int->Bool)(h:rM encI w v xs)(hlen:xs.length<=2097152)
 (hcf:∀args W,(callFunc F args).run Tryz.prog W=.ok (.enter F args) W) (hF:∀x∈xs,∀W,Ext w W->Calls Tryz.prog F (#[.int .i64 x]++cap) W fun e w'=>e=.returned (.bool (p x))/\Ext W w') :
 Calls Tryz.prog 170 #[v,.func (.func F) #[] cap] w fun e w'=>e=.returned (.int .i64 (findAt p xs 0))/\Ext w w':=by
 obtain⟨A,c,rfl,h⟩:=h;have HF:=aa hF;clear hF;go_enter Tryz.func170,Tryz.ntmps170;go_wp2;go_loopw [8] (fun i wr=>Ext w wr/\∃k:Nat,k<=xs.length/\i=.int .i64 k/\Hid (findAt p xs 0=findAt p (xs.drop k) k)) (fun i _=>xs.length-(intOf i).toNat)
 case atStart=>exact⟨Ext.refl _,0,Nat.zero_le _,rfl,rfl⟩
 case round=>
  obtain⟨hb,k,hk,rfl,HI⟩:=hrel;by_cases hlt:k<xs.length
  ·obtain⟨b,off,rfl,hbl,hc⟩:=h (by omega);obtain⟨x,hx⟩:=af hlt;have c0:wr.cell? ⟨b,off+k,none⟩=some (.int .i64 x):=hb.cell (hc k x hx);have Hx:=aa hx;have Hm:=List.mem_of_getElem? hx;clear hx h hc;go_wp2_with fail
   refine(HF.out x Hm _ hb).mono ?_
   rintro e w1 ⟨rfl,b1⟩;by_cases hp:p x=true
   ·have hr:=aa (HI.out.trans (nO Hx.out hp));go_wp2;go_returns;exact⟨aX hr.out.symm,hb.trans b1⟩
   ·simp only[Bool.not_eq_true]at hp;have hr:=aa (HI.out.trans (mG Hx.out hp));go_wp2;go_roundw;case rel=>exact⟨hb.trans b1,k+1,by omega,by go_num,hr⟩
    case measure=>simp[intOf];omega
  ·obtain rfl:k=xs.length:=by omega
   go_wp2;go_returns;exact⟨aX (by rw[HI.out];simp[findAt]),hb⟩
theorem qB{v:Value}{xs:List Int}(w:World)(F:FuncId)(cap:Array Value)(p:Int->Bool)(h:rM encI w v xs)(hlen:xs.length<=2097152)
 (hcf:∀args W,(callFunc F args).run Tryz.prog W=.ok (.enter F args) W) (hF:∀x∈xs,∀W,Ext w W->Calls Tryz.prog F (#[.int .i64 x]++cap) W fun e w'=>e=.returned (.bool (p x))/\Ext W w') :
 Calls Tryz.prog 122 #[v,.func (.func F) #[] cap] w fun e w'=>e=.returned (.bool (xs.any p))/\Ext w w':=by
 have HF:=aa hF;clear hF;go_enter Tryz.func122,Tryz.ntmps122;go_wp2_with fail
 refine(E9 w F cap p h hlen hcf HF.out).mono ?_
 rintro e w1 ⟨rfl,b1⟩;go_wp2;go_returns;exact⟨aN (nI),b1⟩
end
section
def aI{α:Type}(m:Nat)(enc:α->Nat->Value)(x:α):List Value:=(List.range m).map (enc x)
def Row{α:Type}(e:TypeId)(m:Nat)(enc:α->Nat->Value)(base:Nat)(w:World)(v:Value)(xs:List α):Prop:=
 w.ownsRow base e m v xs.length (xs.flatMap (aI m enc))
theorem ji{α:Type}{m:Nat}{enc:α->Nat->Value}(xs:List α):(xs.flatMap (aI m enc)).length=xs.length*m:=by
 induction xs with
 | nil=>simp
 | cons x xs ih=>simp only[List.flatMap_cons,List.length_append,ih,List.length_cons,Nat.succ_mul];simp[aI];omega
theorem JX{α:Type}{m:Nat}{enc:α->Nat->Value}{xs:List α}{i j:Nat}{x:α}(hx:xs[i]? =some x)(hj:j<m):(xs.flatMap (aI m enc))[i*m+j]? =some (enc x j):=by
 induction xs generalizing i with
 | nil=>simp at hx
 | cons y xs ih=>
   rw[List.flatMap_cons]
   cases i with
   | zero=>
     simp at hx;subst hx;rw[List.getElem?_append_left (by simp[aI];omega)];simp[aI,hj]
   | succ i=>
     simp at hx;rw[List.getElem?_append_right (by simp[aI];rw[Nat.succ_mul];omega)]
     have:=ih hx
     rw[<-this];congr 1;simp[aI];rw[Nat.succ_mul];omega
section
variable{α:Type}{e:TypeId}{m:Nat}{enc:α->Nat->Value}{base:Nat}{w w':World}{v:Value}{xs:List α}
theorem Row.nil:Row e m enc base w (.slice none 0 0) ([]:List α):=World.ownsRow_nil w base e m
theorem Row.ext(h:Row e m enc base w v xs)(hb:Ext w w'):Row e m enc base w' v xs:=by refine World.ownsRow.kept (row:=none) h ⟨Below.os hb,Below.tape hb,Below.output hb,hb.size,fun k hk _=>Below.block hb k hk⟩ ?_;cases hv:v.ownBlock<;>simp
theorem Row.cell(h:Row e m enc base w v xs):aF m enc w v xs/\Own base w v:=by
 refine⟨?_,?_⟩
 ·rcases h.2 with ⟨rfl,hn⟩|⟨g,cap,cur,rfl,hb,hg,hnc,hcm,hcs,htake⟩
  ·have:xs=[]:=List.eq_nil_of_length_eq_zero hn
   subst this;exact aF.nil _ _ _ _ _
  ·refine⟨_,cap,rfl,fun hn=>⟨g,0,rfl,(Array.getElem?_eq_some_iff.1 hg).1,fun i x hx j hj=>?_⟩⟩;have h1:=JX (enc:=enc) hx hj;rw[<-htake,List.getElem?_take]at h1;split at h1
   ·rw[Nat.zero_add];simp only[World.cell?,hg];simpa using h1
   ·cases h1
 ·intro a n c hv hn;rcases h.2 with ⟨rfl,_⟩|⟨g,cap,cur,rfl,hb,hg,hnc,hcm,hcs,htake⟩
  ·cases hv
  ·injection hv with h1 h2 h3;injection h1 with h1;subst h1;exact⟨hb,(Array.getElem?_eq_some_iff.1 hg).1,fun i=>by simp[World.frozen?,hg]⟩
theorem Row.cap(h:Row e m enc base w v xs):∀A n c,v=.slice A n c->n<=c/\c<=9223372036854775807:=by
 intro A n c hv;rcases h.2 with ⟨rfl,_⟩|⟨g,cap,cur,rfl,hb,hg,hnc,hcm,hcs,htake⟩
 ·injection hv with h1 h2 h3;omega
 ·injection hv with h1 h2 h3;simp only[maxLen]at hcm;omega
theorem Ext.grown{a:World}{row:Option Nat}(h:Ext a w)(hg:w.grownBy w' row)(hr:∀k,row=some k->a.heap.size<=k):Ext a w':=
 Below.grown h hg h.size hr
theorem Row.block(h:Row e m enc base w v xs):∀k,v.ownBlock=some k->base<=k:=fun k hk=>(World.ownsRow.lt h k hk).1
end
theorem Row.low{α:Type}{e:TypeId}{m:Nat}{enc:α->Nat->Value}{base base':Nat}{w:World}{v:Value}{xs:List α}(h:Row e m enc base w v xs)(hb:base'<=base):Row e m enc base' w v xs:=
 ⟨h.1,h.2.imp id fun⟨g,cap,cur,a,b,rest⟩=>⟨g,cap,cur,a,Nat.le_trans hb b,rest⟩⟩
section
variable{P:Program}{α:Type}{t ty e:TypeId}{m b:Nat}{z:Value}{enc:α->Nat->Value}{base:Nat}{w:World}{v:Value}{xs:List α}
theorem rG(ht:P.underlying t=some (.slice e))(hinfo:(P.info? e).map (fun i=>(i.zero,i.size,i.bytes))=some (some z,m,b))(hzs:z.cells.size=m)(hm:0<m)
 (h:Row e m enc base w v xs) (x:α) (h1:∀j,(enc x j).oneCell'=true) (hn:xs.length+1<=4194304) (hb:b<=64) (hbase:base<=w.heap.size) :
 ∃v' w',(Builtin.append_ #[t,t] ty #[v,.slice (some ⟨w.heap.size,0,none⟩) 1 1]).run P (w.alloc (.cells (aI m enc x).toArray e))=.ok v' w'/\Row e m enc base w' v' (xs++[x])/\(w.alloc (.cells (aI m enc x).toArray e)).grownBy w' v.ownBlock:=by
 obtain⟨i,hi,hz,hs,hby⟩:=oq hinfo;have hl:(aI m enc x).length=1*m:=by simp[aI]
 obtain⟨v',w',hrun,hown,hgrow,_⟩:=run_append_own (P:=P) (w.alloc (.cells (aI m enc x).toArray e)) base t ty e i z m b ht hi hz hs hby hzs hm v xs.length _ (World.ownsRow.alloc h _)
  ⟨w.heap.size,0,none⟩ 1 1 (aI m enc x) hl
  (fun j u hu=>by
   have hadd:(⟨w.heap.size,0,none⟩:Addr).add j=⟨w.heap.size,j,none⟩:=by unfold Addr.add;split<;>simp_all
   rw[hadd,cell_of_row _ _ j _ e (0,0) (heap_alloc_new w _)];simpa using hu)
  (fun u hu=>by simp[aI]at hu;obtain⟨j,_,rfl⟩:=hu;exact h1 j) (by simp only[maxLen];omega)
  (by have:(xs.length+1)*b<=4194304*64:=Nat.mul_le_mul hn hb;omega) (by simp;omega)
 refine⟨v',w',hrun,?_,hgrow⟩;unfold Row;rw[List.flatMap_append,List.length_append];simpa using hown
theorem DI{i:TypeInfo}{n c0:Nat}{cs:List Value}(ht:P.underlying t=some (.slice e))(hi:P.info? e=some i)(hown:w.ownsRow base e c0 v n cs)(c:Nat):(Builtin.append_ #[t,t] ty #[v,.slice none 0 c]).run P w=.ok v w:=by
 rcases hown.2 with ⟨rfl,rfl⟩|⟨g,cap,cur,rfl,_,_,hnc,_⟩
 ·simp[Builtin.append_,run_underlying ht,sizeOf,typeInfo,hi,Builtin.lenOf,Builtin.firstCells]
 ·simp[Builtin.append_,run_underlying ht,sizeOf,typeInfo,hi,Builtin.lenOf,Builtin.firstCells,hnc,storeCells]
theorem kL(ht:P.underlying t=some (.slice e))(hinfo:(P.info? e).map (fun i=>(i.zero,i.size,i.bytes))=some (some z,m,b))(hzs:z.cells.size=m)(hm:0<m)
 (h:Row e m enc base w v xs) {A:Option Addr} {n c:Nat} {ys:List α} (hy:aF m enc w (.slice A n c) ys) (h1:∀x∈ys,∀j,(enc x j).oneCell'=true) (hn:xs.length+ys.length<=4194304) (hb:b<=64) (hbase:base<=w.heap.size) :
 ∃v' w',(Builtin.append_ #[t,t] ty #[v,.slice A n c]).run P w=.ok v' w'/\Row e m enc base w' v' (xs++ys)/\w.grownBy w' v.ownBlock:=by
 obtain⟨i,hi,hz,hs,hby⟩:=oq hinfo;obtain⟨A',c',hA,hc⟩:=hy;injection hA with e1 e2 e3;subst e1 e2;by_cases h0:0<ys.length
 ·obtain⟨blk,off,rfl,hlt,hcell⟩:=hc h0;have hl:(ys.flatMap (aI m enc)).length=ys.length*m:=ji ys;obtain⟨v',w',hrun,hown,hgrow,_⟩:=run_append_own (P:=P) (ty:=ty) w base t e i z m b ht hi hz hs hby hzs hm v xs.length _ h
   ⟨blk,off,none⟩ ys.length c (ys.flatMap (aI m enc)) hl
   (fun j u hu=>by
    have hadd:(⟨blk,off,none⟩:Addr).add j=⟨blk,off+j,none⟩:=by unfold Addr.add;split<;>simp_all
    have hjl:j<ys.length*m:=by rw[<-hl];exact(List.getElem?_eq_some_iff.1 hu).1
    have hd:j/m<ys.length:=Nat.div_lt_of_lt_mul (by rw[Nat.mul_comm];exact hjl);obtain⟨y,hy⟩:=af hd;have hmod:=Nat.mod_lt j hm;have Xy:j/m*m+j%m=j:=by rw[Nat.mul_comm];exact Nat.div_add_mod j m
    have h2:=JX (enc:=enc) hy hmod;rw[Xy,hu]at h2;have h3:=hcell _ y hy _ hmod;rw[Nat.add_assoc,Xy]at h3;rw[hadd,h3,h2])
   (fun u hu=>by obtain⟨y,hy,hu⟩:=List.mem_flatMap.1 hu;simp[aI]at hu;obtain⟨j,_,rfl⟩:=hu;exact h1 y hy j) (by simp only[maxLen];omega)
   (by have:(xs.length+ys.length)*b<=4194304*64:=Nat.mul_le_mul hn hb;omega) hbase
  refine⟨v',w',hrun,?_,hgrow⟩;unfold Row;rw[List.flatMap_append,List.length_append];exact hown
 ·have:ys=[]:=List.eq_nil_of_length_eq_zero (by omega)
  subst this
  cases A with
  | none=>
    refine⟨v,w,DI ht hi h c,by simpa using h,⟨rfl,rfl,rfl,Nat.le_refl _,fun _ _ _=>rfl⟩⟩
  | some ad=>
    obtain⟨v',w',hrun,hown,hgrow,_⟩:=run_append_own (P:=P) (ty:=ty) w base t e i z m b ht hi hz hs hby hzs hm v xs.length _ h ad 0 c [] (by simp) (fun j u hu=>by simp at hu) (fun u hu=>by cases hu) (by simp only[maxLen];omega)
     (by have:(xs.length+0)*b<=4194304*64:=Nat.mul_le_mul (by simpa using hn) hb;omega) hbase
    exact⟨v',w',by simpa using hrun,by simpa[Row] using hown,hgrow⟩
end
theorem wpList_append_run{P:Program}{w w':World}{ops:Array Oper}{rest:List Oper}{o:Oper}{a:Act}{Q:Exit->Act->World->Prop}{s x:Operand}{t:TypeId}{v u v':Value}(hgd:o.guard=none)
 (ho:o.op=.call { callee:=.builtin .append,args:=#[s,x],argTypes:=#[t,t] }) (hs:a.eval s=v) (hx:a.eval x=u) (hrun:(Builtin.append_ #[t,t] o.type #[v,u]).run P w=.ok v' w')
 (h:wpList P ops Q rest (a.put o.dst v') w'):wpList P ops Q (o :: rest) a w:=
 wpList_plain hgd fun K hK=>by unfold Oper.wp execOp;simp only[ho,resolve,invoke,builtin,Sem.run_bind,Sem.run_pure,Result.andThen_ok,List.map_toArray,List.map_cons,List.map_nil,hs,hx,hrun];exact hK _ _ h
def one{α:Type}(enc:α->Value):α->Nat->Value:=fun x _=>enc x
theorem rM.U1{α:Type}{enc:α->Value}{w:World}{v:Value}{xs:List α}(h:rM enc w v xs):aF 1 (one enc) w v xs:=by
 obtain⟨A,c,rfl,h⟩:=h;refine⟨A,c,rfl,fun hn=>?_⟩;obtain⟨b,off,hA,hlt,hc⟩:=h hn;exact⟨b,off,hA,hlt,fun i x hx j hj=>by
  obtain rfl:j=0:=by omega
  rw[Nat.mul_one,Nat.add_zero];exact hc i x hx⟩
theorem aF.YB{α:Type}{enc:α->Value}{w:World}{v:Value}{xs:List α}(h:aF 1 (one enc) w v xs):rM enc w v xs:=by
 obtain⟨A,c,rfl,h⟩:=h;refine⟨A,c,rfl,fun hn=>?_⟩;obtain⟨b,off,hA,hlt,hc⟩:=h hn;exact⟨b,off,hA,hlt,fun i x hx=>by
  have:=hc i x hx 0 (by omega)
  rw[Nat.mul_one,Nat.add_zero]at this;exact this⟩
end
def QD(u:Value):Value:=u
theorem Ro{α β:Type}{e e':TypeId}{m m':Nat}{enc:α->Nat->Value}{enc':β->Nat->Value}{base base':Nat}{w:World}{v u:Value}{xs:List α}{ys:List β}
 (h:Row e m enc base w v xs) (h':Row e' m' enc' base' w u ys) (hne:e≠e'):u.ownBlock=none∨u.ownBlock≠v.ownBlock:=by
 rcases h.2 with ⟨rfl,_⟩|⟨g,cap,cur,rfl,hb,hg,_⟩
 ·cases u.ownBlock with
  | none=>exact .inl rfl
  | some k=>exact .inr (by simp[Value.ownBlock])
 ·rcases h'.2 with ⟨rfl,_⟩|⟨g',cap',cur',rfl,hb',hg',_⟩
  ·exact .inl rfl
  ·right;intro e;simp[Value.ownBlock]at e;subst e;rw[hg]at hg';injection hg' with hg';injection hg' with _ h2 _;exact hne h2
theorem dN(x lo hi:Int)(w:World) :
 Calls Tryz.prog 105 #[.int .i64 x,.int .i64 lo,.int .i64 hi] w fun e w'=>e=.returned (.bool (jR x lo hi))/\w=w':=by
 unfold jR;by_cases h1:lo<=x<;>by_cases h2:x<=hi<;>(
  go_enter Tryz.func105,Tryz.ntmps105;go_wp2;go_ret
  simp[h1,h2])
theorem dY(x lo hi:Int)(w:World) :
 Calls Tryz.prog 48 #[.int .i64 x,.int .i64 lo,.int .i64 hi] w fun e w'=>e=.returned (.bool (jR x lo hi))/\w=w':=by
 unfold jR;by_cases h1:lo<=x<;>by_cases h2:x<=hi<;>(
  go_enter Tryz.func48,Tryz.ntmps48;go_wp2;go_ret
  simp[h1,h2])
theorem Ov(x:Int)(w:World) :
 Calls Tryz.prog 117 #[.int .i64 x] w fun e w'=>e=.returned (.bool (jR x 0 99))/\w=w':=by
 go_enter Tryz.func117,Tryz.ntmps117;go_wp2_with (go_at_call 105;refine(dN _ _ _ _).mono ?_;rintro e w' ⟨rfl,rfl⟩)
 go_ret
 simp
theorem BL(x:Int)(w:World) :
 Calls Tryz.prog 116 #[.int .i64 x] w fun e w'=>e=.returned (.bool (jR x 0 2))/\w=w':=by
 go_enter Tryz.func116,Tryz.ntmps116;go_wp2_with (go_at_call 105;refine(dN _ _ _ _).mono ?_;rintro e w' ⟨rfl,rfl⟩)
 go_ret
 simp
theorem Qk(x:Int)(w:World) :
 Calls Tryz.prog 124 #[.int .i64 x] w fun e w'=>e=.returned (.bool (jR x 0 1000))/\w=w':=by
 go_enter Tryz.func124,Tryz.ntmps124;go_wp2_with (go_at_call 105;refine(dN _ _ _ _).mono ?_;rintro e w' ⟨rfl,rfl⟩)
 go_ret
 simp
theorem xY(x:Int)(w:World) :
 Calls Tryz.prog 89 #[.int .i64 x] w fun e w'=>e=.returned (.bool (jR x 0 3))/\w=w':=by
 go_enter Tryz.func89,Tryz.ntmps89;go_wp2_with (go_at_call 105;refine(dN _ _ _ _).mono ?_;rintro e w' ⟨rfl,rfl⟩)
 go_ret
 simp
section
structure Dt (P:Program) (KT:TypeId) {K:Type} [DecidableEq K] (iH:K->Value):Prop where
 check:∀b k W,(Instr.checkKey b 10000 KT (iH k)).run P W=.ok () W
 find:∀k (es:List MapEntry) (l:List (K × Value)),es.map (fun e=>(e.key,e.val))=l.map (fun p=>(iH p.1,p.2))->∀W,(Instr.findKey KT (iH k) es).run P W=.ok ((l.findIdx? (fun p=>p.1==k)).map fun j=>(j,(l[j]?.map (·.2)).getD undef)) W
 stay:∀k W,(Instr.keyThatStays (iH k) (iH k)).run P W=.ok (iH k) W
def j4(w:World)(g:Nat){K:Type}[DecidableEq K](iH:K->Value)(m:K->Option Value):Prop:=
 ∃(es:Array MapEntry) (xN:Nat) (l:List (K × Value)),w.heap[g]? =some (.map es xN)/\es.toList.map (fun e=>(e.key,e.val))=l.map (fun p=>(iH p.1,p.2))/\∀k,(l.find? fun p=>p.1==k).map (·.2)=m k
def aS(w:World)(g:Nat)(o:Obj):World:={ w with heap:=w.heap.setIfInBounds g o }
def Le(w:World)(g n:Nat):Prop:=∃(es:Array MapEntry) (xN:Nat),w.heap[g]? =some (.map es xN)/\es.size<=n
theorem Le.ext{w w':World}{g n:Nat}(h:Le w g n)(hb:Ext w w'):Le w' g n:=by obtain⟨es,xN,h,h2⟩:=h;exact⟨es,xN,(Below.block hb g (by rcases Nat.lt_or_ge g w.heap.size with h'|h';exact h';rw[Array.getElem?_eq_none h']at h;cases h)).trans h,h2⟩
theorem Le.made(w:World):Le (w.alloc (.map #[] 0)) w.heap.size 0:=⟨#[],0,heap_alloc_new w _,Nat.le_refl _⟩
section
variable{K:Type}[DecidableEq K]{iH:K->Value}{m m':K->Option Value}{P:Program}{w w':World}{g:Nat}{T KT E:TypeId}
theorem j4.lt(h:j4 w g iH m):g<w.heap.size:=by
 obtain⟨es,xN,l,h,_⟩:=h;rcases Nat.lt_or_ge g w.heap.size with h'|h'
 ·exact h'
 ·rw[Array.getElem?_eq_none h']at h;cases h
theorem j4.ext(h:j4 w g iH m)(hb:Ext w w'):j4 w' g iH m:=by have hl:=h.lt;obtain⟨es,xN,l,h,h2⟩:=h;exact⟨es,xN,l,(Below.block hb g hl).trans h,h2⟩
theorem j4.congr(h:j4 w g iH m)(e:∀k,m k=m' k):j4 w g iH m':=by obtain⟨es,xN,l,h1,h2,h3⟩:=h;exact⟨es,xN,l,h1,h2,fun k=>(h3 k).trans (e k)⟩
theorem j4.made(w:World)(iH:K->Value):j4 (w.alloc (.map #[] 0)) w.heap.size iH (fun _=>none):=
 ⟨#[],0,[],heap_alloc_new w _,rfl,fun _=>rfl⟩
theorem pz(l:List (K × Value))(k:K):l.find? (fun p=>p.1==k)=(l.findIdx? (fun p=>p.1==k)).bind fun j=>l[j]?:=by
 induction l with
 | nil=>rfl
 | cons p l ih=>
   rw[List.find?_cons,List.findIdx?_cons];by_cases e:(p.1==k)=true
   ·simp[e]
   ·simp only[Bool.not_eq_true]at e;simp only[e,ih]
    cases l.findIdx? (fun p=>p.1==k) with
    | none=>simp
    | some j=>simp
theorem l8(hT:P.underlying T=some (.map KT E))(hK:Dt P KT iH){z:Value}(hE:∀w,(zeroValue E).run P w=.ok z w)(h:j4 w g iH m)(k:K) :
 (Instr.lookup T (.map (some g)) (iH k) true).run P w=.ok (.tuple #[(m k).getD z,.bool (m k).isSome]) w:=by
 obtain⟨es,xN,l,hg,hl,hm⟩:=h;have hf:=hK.find k es.toList l hl w;have NQ:(getObj g).run P w=.ok (.map es xN) w:=by simp[getObj,Sem.run,hg]
 simp only[Instr.lookup,Sem.run_bind,run_underlying hT,Result.andThen_ok,NQ,Sem.run_pure,hK.check,hf];have hmk:=hm k;rw[pz]at hmk
 cases hidx:l.findIdx? (fun p=>p.1==k) with
 | none=>
   rw[hidx]at hmk;simp only[Option.bind_none,Option.map_none]at hmk;rw[<-hmk];simp[hE]
 | some j=>
   rw[hidx]at hmk;simp only[Option.bind_some]at hmk;have hj:j<l.length:=(List.findIdx?_eq_some_iff_getElem.1 hidx).1;rw[List.getElem?_eq_getElem hj]at hmk;simp only[Option.map_some]at hmk;rw[<-hmk];simp[List.getElem?_eq_getElem hj]
theorem Ac(hT:P.underlying T=some (.map KT E))(hK:Dt P KT iH){z:Value}(hE:∀w,(zeroValue E).run P w=.ok z w)(h:j4 w g iH m)(k:K) :
 (Instr.lookup T (.map (some g)) (iH k) false).run P w=.ok ((m k).getD z) w:=by
 obtain⟨es,xN,l,hg,hl,hm⟩:=h;have hf:=hK.find k es.toList l hl w;have NQ:(getObj g).run P w=.ok (.map es xN) w:=by simp[getObj,Sem.run,hg]
 simp only[Instr.lookup,Sem.run_bind,run_underlying hT,Result.andThen_ok,NQ,Sem.run_pure,hK.check,hf];have hmk:=hm k;rw[pz]at hmk
 cases hidx:l.findIdx? (fun p=>p.1==k) with
 | none=>
   rw[hidx]at hmk;simp only[Option.bind_none,Option.map_none]at hmk;rw[<-hmk];simp[hE]
 | some j=>
   rw[hidx]at hmk;simp only[Option.bind_some]at hmk;have hj:j<l.length:=(List.findIdx?_eq_some_iff_getElem.1 hidx).1;rw[List.getElem?_eq_getElem hj]at hmk;simp only[Option.map_some]at hmk;rw[<-hmk];simp[List.getElem?_eq_getElem hj]
theorem fG(hT:P.underlying T=some (.map KT E))(hK:Dt P KT iH)(h:j4 w g iH m)(k:K)(v:Value) :
 ∃o,(Instr.mapUpdate T (.map (some g)) (iH k) v).run P w=.ok () (aS w g o)/\j4 (aS w g o) g iH (fun i=>if i=k then some v else m i)/\∀n,Le w g n->Le (aS w g o) g (n+1):=by
 have hlt:=h.lt;obtain⟨es,xN,l,hg,hl,hm⟩:=h;have hf:=hK.find k es.toList l hl w;have NQ:(getObj g).run P w=.ok (.map es xN) w:=by simp[getObj,Sem.run,hg]
 have hset:∀o,(setObj g o).run P w=.ok () (aS w g o):=fun o=>by simp[setObj,Sem.run,hg,aS]
 cases hidx:l.findIdx? (fun p=>p.1==k) with
 | none=>
   refine⟨.map (es.push { key:=iH k,val:=v,born:=xN }) (xN+1),?_,?_,fun n ⟨es2,aeb,h2,hn⟩=>⟨_,_,by simp[aS,hlt];exact⟨rfl,rfl⟩,by rw[hg]at h2;cases h2;simp;exact hn⟩⟩
   ·simp only[Instr.mapUpdate,Sem.run_bind,run_underlying hT,Result.andThen_ok,NQ,hK.check,hf,hidx,Option.map_none];exact hset _
   ·refine⟨_,_,l++[(k,v)],by simp[aS,hlt];exact⟨rfl,rfl⟩,by simp[hl],fun i=>?_⟩;have hnone:l.find? (fun p=>p.1==k)=none:=by rw[pz,hidx];rfl
    show _=if i=k then some v else m i
    rw[List.find?_append];by_cases e:i=k
    ·subst e;rw[hnone];simp
    ·have e1:(k==i)=false:=by simp;exact fun h=>e h.symm
     rw[if_neg e,<-hm i]
     cases l.find? (fun p=>p.1==i) with
     | none=>simp[e1]
     | some q=>simp
 | some j=>
   have hj:j<l.length:=(List.findIdx?_eq_some_iff_getElem.1 hidx).1;have hjk:(l[j].1==k)=true:=(List.findIdx?_eq_some_iff_getElem.1 hidx).2.1;have hbef:∀i (hi:i<j),(l[i].1==k)=false:=fun i hi=>by
    have:=(List.findIdx?_eq_some_iff_getElem.1 hidx).2.2 i hi
    simpa using this
   have hes:es.toList.length=l.length:=by have:=congrArg List.length hl;simpa using this
   have hkey:(es[j]?.map (·.key))=some (iH k):=by
    have h1:=congrArg (fun x=>x[j]?) hl;simp only[List.getElem?_map,List.getElem?_eq_getElem hj,Option.map_some]at h1;have h2:es.toList[j]? =es[j]?:=by simp
    rw[h2]at h1
    cases he:es[j]? with
    | none=>rw[he]at h1;simp at h1
    | some e=>
      rw[he]at h1;simp at h1;simp only[Option.map_some,h1.1];rw[eq_of_beq hjk]
   refine⟨.map (es.modify j fun e=>{ e with key:=iH k,val:=v }) xN,?_,?_,fun n ⟨es2,aeb,h2,hn⟩=>⟨_,_,by simp[aS,hlt];exact⟨rfl,rfl⟩,by rw[hg]at h2;cases h2;simp;omega⟩⟩
   ·simp only[Instr.mapUpdate,Sem.run_bind,run_underlying hT,Result.andThen_ok,NQ,hK.check,hf,hidx,Option.map_some,hkey,Option.getD_some,hK.stay];exact hset _
   ·refine⟨_,_,l.modify j (fun _=>(k,v)),by simp[aS,hlt];exact⟨rfl,rfl⟩,?_,fun i=>?_⟩
    ·apply List.ext_getElem?;intro i;have h1:=congrArg (fun x=>x[i]?) hl;simp only[List.getElem?_map]at h1;simp only[List.getElem?_map,Array.toList_modify,List.getElem?_modify];by_cases e:j=i
     ·subst e;simp only[if_true];rw[List.getElem?_eq_getElem hj,List.getElem?_eq_getElem (by omega)];rfl
     ·simp only[if_neg e];cases h2:es.toList[i]?<;>cases h3:l[i]?<;>rw[h2,h3]at h1<;>simp_all
    ·show _=if i=k then some v else m i
     by_cases e:i=k
     ·subst e;rw[if_pos rfl,pz]
      have:(l.modify j fun _=>(i,v)).findIdx? (fun p=>p.1==i)=some j:=by rw[List.findIdx?_eq_some_iff_getElem];refine⟨by simpa using hj,by simp,fun q hq=>?_⟩;rw[List.getElem_modify,if_neg (by omega)];simpa using hbef q hq
      rw[this];simp[List.getElem?_modify,hj]
     ·rw[if_neg e,<-hm i];have hne:∀q:K × Value,q.1=k->(q.1==i)=false:=fun q hq=>by simp[hq];exact fun h=>e h.symm
      have ae9:l[j].1=k:=eq_of_beq hjk;congr 1;have key:∀(l:List (K × Value)) (j:Nat),(∀q,l[j]? =some q->q.1=k)->(l.modify j fun _=>(k,v)).find? (fun p=>p.1==i)=l.find? (fun p=>p.1==i):=by
       intro l
       induction l with
       | nil=>intro j _;simp
       | cons p l ih=>
         intro j hq
         cases j with
         | zero=>
           have:=hq p (by simp)
           simp[hne p this,hne (k,v) rfl]
         | succ j=>
           simp only[List.modify_succ_cons,List.find?_cons];rw[ih j (fun q h=>hq q (by simpa using h))]
      exact key l j (fun q h=>by rw[List.getElem?_eq_getElem hj]at h;cases h;exact ae9)
theorem Ext.aS{a b:World}(h:Ext a b){g:Nat}(hg:a.heap.size<=g)(o:Obj):Ext a (aS b g o):=by have h':Below a.heap.size a b:=h;refine⟨h'.os,h'.tape,h'.output,by simp[Proofs.YtomkjlklninhpaaGreatDoor.aS];exact h'.size,fun k hk=>?_⟩;simp only[Proofs.YtomkjlklninhpaaGreatDoor.aS,Array.getElem?_setIfInBounds];rw[if_neg (by omega)];exact h'.block k hk
theorem NH{w:World}{g:Nat}{o:Obj}{p:Addr}(hp:p.block≠g):(Proofs.YtomkjlklninhpaaGreatDoor.aS w g o).cell? p=w.cell? p:=by simp only[World.cell?,Proofs.YtomkjlklninhpaaGreatDoor.aS,Array.getElem?_setIfInBounds];rw[if_neg (fun e=>hp e.symm)]
end
theorem MS(k:Int):∀(es:List MapEntry) (l:List (Int × Value)) (i:Nat),es.map (fun e=>(e.key,e.val))=l.map (fun p=>(Value.int .i64 p.1,p.2)) ->
 Instr.findNow (.int .i64) (.int .i64 k) es i=some ((l.findIdx? (fun p=>p.1==k)).map fun j=>(i+j,(l[j]?.map (·.2)).getD undef))
 | [],[],i,_=>by simp[Instr.findNow]
 | [],_ :: _,_,h=>by simp at h
 | _ :: _,[],_,h=>by simp at h
 | e :: es,p :: l,i,h=>by
   simp only[List.map_cons,List.cons.injEq,Prod.mk.injEq]at h;obtain⟨⟨hk,hv⟩,h⟩:=h;have ih:=MS k es l (i+1) h;rw[Instr.findNow,hk,hv];simp only[Instr.sameNow,if_true];by_cases e:k=p.1
   ·subst e;simp[List.findIdx?_cons]
   ·have e1:(k==p.1)=false:=by simp[e]
    have e2:(p.1==k)=false:=by simp;exact fun h=>e h.symm
    rw[e1];simp only[ih,List.findIdx?_cons,e2];simp only[Option.map_map,Bool.false_eq_true,if_false]
    cases l.findIdx? (fun p=>p.1==k) with
    | none=>rfl
    | some j=>simp;omega
theorem kY{P:Program}{KT:TypeId}(hK:P.underlying KT=some (.int .i64)):Dt P KT (Value.int .i64) where
 check b k W:=Go.MapKept.run_checkKey hK (by simp[Go.MapKept.IsKey]) b 9999
 find k es l h W:=by simp only[Instr.findKey,Sem.run_bind,run_underlying hK,Result.andThen_ok,MS k es l 0 h,Sem.run_pure,Nat.zero_add]
 stay k W:=by simp[Instr.keyThatStays,Instr.sameBits]
theorem Gf{P:Program}{KT:TypeId}{K:Type}[DecidableEq K]{iH:K->Value}{d:TypeDesc}(hd:P.underlying KT=some d)(hno:∀k p,Instr.sameNow d (iH k) (iH p)=none)
 (hc:∀b k W,(Instr.checkKey b 10000 KT (iH k)).run P W=.ok () W) (he:∀k p W,(Op.equal KT (iH k) (iH p)).run P W=.ok (decide (k=p)) W) (hs:∀k,Instr.sameBits 10000 (iH k) (iH k)=true):Dt P KT iH where
 check:=hc
 find k es l h W:=by
  have aed:∀(es:List MapEntry) (l:List (K × Value)) (i:Nat),es.map (fun e=>(e.key,e.val))=l.map (fun p=>(iH p.1,p.2))->(Instr.findAsking KT (iH k) es i).run P W=.ok ((l.findIdx? (fun p=>p.1==k)).map fun j=>(i+j,(l[j]?.map (·.2)).getD undef)) W:=by
   intro es
   induction es with
   | nil=>
     intro l i h
     cases l with
     | nil=>simp[Instr.findAsking]
     | cons p l=>simp at h
   | cons e es ih=>
     intro l i h
     cases l with
     | nil=>simp at h
     | cons p l=>
       simp only[List.map_cons,List.cons.injEq,Prod.mk.injEq]at h;obtain⟨⟨hk,hv⟩,h⟩:=h;have ih:=ih l (i+1) h;rw[Instr.findAsking,hk,hv];simp only[Sem.run_bind,he,Result.andThen_ok];by_cases e:k=p.1
       ·subst e;simp[List.findIdx?_cons]
       ·have e2:(p.1==k)=false:=by simp;exact fun h=>e h.symm
        simp only[decide_eq_false e,Bool.false_eq_true,if_false,ih,List.findIdx?_cons,e2];simp only[Option.map_map]
        cases l.findIdx? (fun p=>p.1==k) with
        | none=>rfl
        | some j=>simp;omega
  simp only[Instr.findKey,Sem.run_bind,run_underlying hd,Result.andThen_ok]
  cases es with
  | nil=>
    cases l with
    | nil=>simp[Instr.findNow]
    | cons p l=>simp at h
  | cons e es=>
    cases l with
    | nil=>simp at h
    | cons p l=>
      have hk:e.key=iH p.1:=by simp only[List.map_cons,List.cons.injEq,Prod.mk.injEq]at h;exact h.1.1
      have:=aed (e :: es) (p :: l) 0 h
      simp only[Nat.zero_add]at this;rw[Instr.findNow,hk,hno];exact this
 stay k W:=by simp[Instr.keyThatStays,hs]
end
theorem Ew(a:Nat)(ha:a<18446744073709551616):(BitVec.ofInt 64 (a:Int)).toNat=a:=by rw[BitVec.ofInt_natCast,BitVec.toNat_ofNat];exact Nat.mod_eq_of_lt (by omega)
theorem FJ(a:Nat)(ha:a<18446744073709551616):IntKind.u64.wrap (a:Int)=(a:Int):=by rw[IntKind.wrap_u64];omega
theorem u64_and(a b:Nat)(ha:a<18446744073709551616)(hb:b<18446744073709551616):bits .and .u64 (a:Int) (b:Int)=((a &&& b:Nat):Int):=by have hx:a &&& b<2 ^ 64:=Nat.and_lt_two_pow _ (by omega);show IntKind.u64.wrap ((BitVec.ofInt 64 (a:Int) &&& BitVec.ofInt 64 (b:Int)).toNat:Int) = _;rw[BitVec.toNat_and,Ew a ha,Ew b hb,FJ _ (by omega)]
theorem u64_or(a b:Nat)(ha:a<18446744073709551616)(hb:b<18446744073709551616):bits .or .u64 (a:Int) (b:Int)=((a ||| b:Nat):Int):=by have hx:a ||| b<2 ^ 64:=Nat.or_lt_two_pow (by omega) (by omega);show IntKind.u64.wrap ((BitVec.ofInt 64 (a:Int) ||| BitVec.ofInt 64 (b:Int)).toNat:Int) = _;rw[BitVec.toNat_or,Ew a ha,Ew b hb,FJ _ (by omega)]
theorem LM(n i:Nat)(hn:n<18446744073709551616):bits .and .u64 ((n:Int)/2 ^ i) 1=if n.testBit i then 1 else 0:=by
 have e:((n:Int)/2 ^ i)=((n/2 ^ i:Nat):Int):=by simp
 have h1:n/2 ^ i<=n:=Nat.div_le_self _ _;rw[e,show (1:Int)=((1:Nat):Int) from rfl,u64_and _ _ (by omega) (by omega),Nat.and_one_is_mod];rw[Nat.testBit_eq_decide_div_mod_eq];by_cases h:n/2 ^ i%2=1
 ·simp[h]
 ·rw[show n/2 ^ i%2=0 by omega];simp
theorem Ra(n i:Nat)(hn:n<18446744073709551616)(hi:i<64):bits .or .u64 (n:Int) (IntKind.u64.wrap (2 ^ i))=((n ||| 2 ^ i:Nat):Int):=by
 have h2:2 ^ i<2 ^ 64:=Nat.pow_lt_pow_right (by omega) hi;have e:(2 ^ i:Int)=((2 ^ i:Nat):Int):=by simp
 rw[e,FJ _ (by omega),u64_or _ _ hn (by omega)]
