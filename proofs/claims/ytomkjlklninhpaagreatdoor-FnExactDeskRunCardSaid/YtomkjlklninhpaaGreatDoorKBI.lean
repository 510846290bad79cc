/- Lemmas. -/
import Derived.Test.YtomkjlklninhpaaGreatDoorKBH
set_option maxHeartbeats 16000000
set_option maxRecDepth 8000
set_option linter.all false
namespace Go.Proofs.YtomkjlklninhpaaGreatDoor
open Go.RowKit
structure jW (w:World) (g off:Nat) (f:List Int):Prop where
 lt:g<w.heap.size
 at_:∀(i:Nat) x,f[i]? =some x->w.cell? ⟨g,off+i,none⟩=some (.int .i64 x)
 free:∀i,w.frozen? ⟨g,i,none⟩=false
theorem jW.ext{w w':World}{g off:Nat}{f:List Int}(h:jW w g off f)(hb:Ext w w'):jW w' g off f:=
 ⟨Nat.lt_of_lt_of_le h.lt hb.size,fun i x hx=>hb.cell (h.at_ i x hx),fun i=>(hb.frozen (p:=⟨g,i,none⟩) h.lt).trans (h.free i)⟩
theorem jW.set{w:World}{g off:Nat}{f:List Int}(h:jW w g off f){k:Nat}(hk:k<f.length)(x:Int):jW (w.setCell ⟨g,off+k,none⟩ (.int .i64 x)) g off (f.set k x) where
 lt:=by rw[World.size_setCell];exact h.lt
 at_ i y hy:=by
  obtain⟨z,hz⟩:=af hk;rw[List.getElem?_set]at hy;split at hy
  ·rename_i e;subst e;try rw[if_pos hk]at hy
   cases hy;exact dx (h.at_ k z hz) _
  ·rename_i e;rw[au (by intro e';injection e' with _ e' _;omega)];exact h.at_ i y hy
 free i:=by rw[World.frozen?_setCell];exact h.free i
theorem jW.block{w w':World}{g off:Nat}{f:List Int}(h:jW w g off f)(hs:w.heap.size<=w'.heap.size)(hb:w'.heap[g]? =w.heap[g]?):jW w' g off f:=
 ⟨Nat.lt_of_lt_of_le h.lt hs,fun i x hx=>by rw[<-h.at_ i x hx];simp only[World.cell?,hb],fun i=>by rw[<-h.free i];simp only[World.frozen?,hb]⟩
theorem jW.dm{base:Nat}{w:World}{A:Option Addr}{n c:Nat}{f:List Int}(h:Row 3 1 (one encI) base w (.slice A n c) f)(hf:0<f.length):∃g,A=some ⟨g,0,none⟩/\base<=g/\n=f.length/\jW w g 0 f:=by
 obtain⟨h1,h2⟩:=h.cell;obtain⟨A',c',e,hc⟩:=h1.YB;injection e with e1 e2 e3;subst e1 e2 e3;rcases h.2 with ⟨e,_⟩|⟨g,cap,cur,e,hb,hg,_⟩
 ·injection e with _ e2 _;omega
 ·injection e with e1 e2 e3;subst e1;obtain⟨b,off,e,hlt,hcc⟩:=hc hf;injection e with e;injection e with e1 e2;subst e1 e2;exact⟨g,rfl,hb,rfl,hlt,hcc,fun i=>(h2 _ _ _ rfl hf).2.2 i⟩
theorem jW.pushed{α:Type}{e:TypeId}{m:Nat}{enc:α->Nat->Value}{base:Nat}{w w':World}{v v':Value}{ys xs:List α}{g off:Nat}{f:List Int}(h:jW w g off f)(H:Row e m enc base w v ys)(hp:lI e m enc base w w' v v' xs)(hne:v.ownBlock≠some g):jW w' g off f/\v'.ownBlock≠some g:=by
 refine⟨h.block (uS.wX H hp).1 (hp.2.2.1 g h.lt hne),?_⟩;rcases hp.2.2.2 with e|⟨k,e,hk⟩
 ·rw[e];exact hne
 ·rw[e];intro e';injection e' with e';have:=h.lt;omega
theorem J4{v:Value}{es:List Edge}(many t:Nat)(w:World)(hm:many<=6)(ht:t<many)(h:aF 3 aR w v es)(hl:es.length<=2097152)(hok:∀e∈es,edgeOk many e) :
 Calls Tryz.prog 158 #[.int .i64 (many:Int),v,.int .i64 (t:Int)] w fun r w'=>∃g c f,r=.returned (.slice (some ⟨g,0,none⟩) many c)/\jW w' g 0 f/\uC es (t:Int) many many f/\w.heap.size<=g/\Ext w w':=by
 obtain⟨A,c,rfl,hc⟩:=id h;have HC:=aa hc;have dO:=aa hok;clear h hc hok;go_enter Tryz.func158,Tryz.ntmps158;go_wp2;go_loopw [7,8] (fun o i wr=>Ext w wr/\∃k:Nat,k<=many/\i=.int .i64 (k:Int)/\Hid (Row 3 1 (one encI) w.heap.size wr o (List.replicate k (-1)))) (fun _ i _=>many-(intOf i).toNat)
 case atStart=>exact⟨(Ext.refl _).alloc _,0,Nat.zero_le _,rfl,bT⟩
 case round=>
  obtain⟨hb,k,hk,rfl,HR⟩:=hrel;by_cases hlt:k<many
  ·obtain⟨v',w2,hrun,hP⟩:=FK wr.heap.size rfl HR.out (Ext.refl _) (-1) hb.size (by rw[List.length_replicate];omega);have aU:=aa hrun;have HP:=aa hP;have HE2:=aa (hP.2.1 w hb (Nat.le_refl _));clear hrun hP;go_wp2_with (at_builtin;refine wpList_append_run rfl rfl rfl rfl aU.out ?_)
   go_roundw;case rel=>exact⟨HE2.out,k+1,by omega,by go_num,by rw[List.replicate_succ'];exact HP.out.1⟩
   case measure=>simp[intOf];omega
  ·obtain rfl:k=many:=by omega
   obtain⟨A1,c1,rfl,_⟩:=id HR.out.cell.1;obtain⟨g,rfl,hg,hn,hI⟩:=jW.dm HR.out (by rw[List.length_replicate];omega);rw[List.length_replicate];obtain⟨z,hz⟩:=af (show t<(List.replicate k (-1:Int)).length by rw[List.length_replicate];exact ht);have hcell:wr.cell? ⟨g,t,none⟩=some (.int .i64 z):=by have:=hI.at_ t z hz;rwa [Nat.zero_add]at this
   have hfree:=hI.free t;have hI2:=hI.set (show t<(List.replicate k (-1:Int)).length by rw[List.length_replicate];exact ht) 0;rw[Nat.zero_add]at hI2;have HF:=aa (uC.start (es:=es) ht);have HB:Hid (Ext w (wr.setCell ⟨g,t,none⟩ (.int .i64 0))):=hb.setCell (p:=⟨g,t,none⟩) hg _;have HI2:=aa hI2;have HG:=aa hg;have htk:(t:Int)<(k:Int):=by omega
   clear hn hz hI hI2 hg HR hb hk;go_wp2;clear hcell hfree;go_loopw [9] (fun i wr=>Ext w wr/\∃s:Nat,s<=k/\i=.int .i64 (s:Int)/\Hid (∃f,jW wr g 0 f/\uC es (t:Int) k s f)) (fun i _=>k-(intOf i).toNat)
   case atStart=>exact⟨HB.out,0,Nat.zero_le _,rfl,_,HI2.out,HF.out⟩
   case round=>
    obtain⟨hb,s,hs,rfl,HS⟩:=hrel;by_cases hsk:s<k
    ·obtain⟨f,hf1,hf2⟩:=HS.out;have HB:=aa hb;have HF1:=aa (And.intro hf1 hf2.round);clear hb HS hf1 hf2;go_wp2;go_loopw [10] (fun i wr=>Ext w wr/\∃j:Nat,j<=es.length/\i=.int .i64 (j:Int)/\Hid (∃f,jW wr g 0 f/\xQ es (t:Int) k s j f)) (fun i _=>es.length-(intOf i).toNat)
     case atStart=>exact⟨HB.out,0,Nat.zero_le _,rfl,f,HF1.out⟩
     case round=>
      obtain⟨hb,j,hj,rfl,HJ⟩:=hrel;by_cases hjt:j<es.length
      ·obtain⟨b,off,rfl,hbl,hcc⟩:=HC.out (by omega);obtain⟨e,he⟩:=af hjt;have hoe:=dO.out e (List.mem_of_getElem? he);have c0:=hb.cell (hcc j e he 0 (by omega));have c1:=hb.cell (hcc j e he 1 (by omega));have c2:=hb.cell (hcc j e he 2 (by omega));simp only[aR,Nat.add_zero]at c0 c1 c2;obtain⟨f,hf1,hf2⟩:=HJ.out;have hfl:=hf2.len;obtain⟨fn,hfn⟩:=Int.eq_ofNat_of_zero_le hoe.1.1;obtain⟨tn,htn⟩:=Int.eq_ofNat_of_zero_le hoe.2.1.1;have hfk:fn<k:=by have:=hoe.1.2;omega
       have adC:tn<k:=by have:=hoe.2.1.2;omega
       obtain⟨df,hdf⟩:=af (show fn<f.length by omega);obtain⟨dt,hdt⟩:=af (show tn<f.length by omega);have C9:=hf1.ext ((Ext.refl wr).alloc (.cells #[.int .i64 e.dV,.int .i64 e.to,.int .i64 e.kind] 177));have d0:(wr.alloc (.cells #[.int .i64 e.dV,.int .i64 e.to,.int .i64 e.kind] 177)).cell? ⟨g,fn,none⟩=some (.int .i64 df):=by have:=C9.at_ fn df hdf;rwa [Nat.zero_add]at this
       have d1:(wr.alloc (.cells #[.int .i64 e.dV,.int .i64 e.to,.int .i64 e.kind] 177)).cell? ⟨g,tn,none⟩=some (.int .i64 dt):=by have:=C9.at_ tn dt hdt;rwa [Nat.zero_add]at this
       have hfr:=C9.free fn;have HX:Hid (Ext w (wr.alloc (.cells #[.int .i64 e.dV,.int .i64 e.to,.int .i64 e.kind] 177))):=hb.alloc _;rw[show (e.dV:Int)=(fn:Int) from hfn]at c0 d0 d1 hfr HX C9;rw[show (e.to:Int)=(tn:Int) from htn]at c1 d0 d1 hfr HX C9;have i1:(0:Int)<=(fn:Int):=by omega
       have i2:(fn:Int)<(k:Int):=by omega
       have i3:(0:Int)<=(tn:Int):=by omega
       have i4:(tn:Int)<(k:Int):=by omega
       have hws:IntKind.i64.wrap ((s:Int)+1)=(s:Int)+1:=IntWalk.i64_in _ (by omega);by_cases hgo:dt=(s:Int)/\df<0
       ·obtain⟨g1,g2⟩:=hgo;have hnx:=hf2.set he hoe.1.1 hoe.2.1.1 (df:=df) (dt:=dt) (by rw[hfn];simpa using hdf) (by rw[htn];simpa using hdt) g1 g2;rw[show e.dV.toNat=fn by rw[hfn];simp]at hnx;have hI2:=C9.set (k:=fn) (by omega) ((s:Int)+1);rw[Nat.zero_add]at hI2;have HN:=aa (And.intro hI2 hnx);have uP:Hid (Ext w ((wr.alloc (.cells #[.int .i64 (fn:Int),.int .i64 (tn:Int),.int .i64 e.kind] 177)).setCell ⟨g,fn,none⟩ (.int .i64 ((s:Int)+1)))):=HX.out.setCell (p:=⟨g,fn,none⟩) HG.out _;have q1:(dt==(s:Int))=true:=by simp[g1]
        clear hnx hI2 hcc he hoe hf1 hf2 hfn htn hdf hdt C9 g1 HJ hfl;go_wp2;go_roundw;case rel=>exact⟨uP.out,j+1,by omega,by go_num,_,HN.out⟩
        case measure=>simp[intOf];omega
       ·have hnx:=hf2.keep he hoe.1.1 hoe.2.1.1 hoe.2.1.2 (df:=df) (dt:=dt) (by rw[hfn];simpa using hdf) (by rw[htn];simpa using hdt) (by omega);have HN:=aa (And.intro C9 hnx);by_cases hq:dt=(s:Int)
        ·have q1:(dt==(s:Int))=true:=by simp[hq]
         have q2:¬(df<0):=fun e=>hgo ⟨hq,e⟩;clear hnx hcc he hoe hf1 hf2 hfn htn hdf hdt C9 hq hgo HJ hfl;go_wp2;go_roundw;case rel=>exact⟨HX.out,j+1,by omega,by go_num,_,HN.out⟩
         case measure=>simp[intOf];omega
        ·have q1:(dt==(s:Int))=false:=by simp[hq]
         clear hnx hcc he hoe hf1 hf2 hfn htn hdf hdt C9 hq hgo HJ hfl;go_wp2;go_roundw;case rel=>exact⟨HX.out,j+1,by omega,by go_num,_,HN.out⟩
         case measure=>simp[intOf];omega
      ·obtain rfl:j=es.length:=by omega
       obtain⟨f,hf1,hf2⟩:=HJ.out;have HN:=aa (And.intro hf1 (hf2.done (fun e he=>(dO.out e he).1.1)));clear hf1 hf2 HJ;go_wp2;go_roundw;case rel=>exact⟨hb,s+1,by omega,by go_num,f,HN.out⟩
       case measure=>simp[intOf];omega
    ·obtain rfl:s=k:=by omega
     obtain⟨f,hf1,hf2⟩:=HS.out;have HN:=aa (And.intro hf1 hf2);clear hf1 hf2 HS;go_wp2;go_returns;exact⟨g,_,f,rfl,HN.out.1,HN.out.2,HG.out,hb⟩
theorem U2{es:List Edge}{t many:Nat}{f:List Int}(h:uC es (t:Int) many many f)(ht:t<many)(hok:∀e∈es,edgeOk many e){x:Nat}{d:Int}(hd:f[x]? =some d):0<=d↔∃n,jm es (t:Int) n x:=
 h.final ht (fun e he=>(hok e he).1) hd
def backTo(es:List Edge)(s:Nat)(j:Nat):Prop:=∃(i:Nat) (x:Edge),i<j/\es[i]? =some x/\x.dV=(s:Int)/\∃n,jm es (s:Int) n x.to
theorem Nk{es:List Edge}{s j:Nat}{x:Edge}(hx:es[j]? =some x):backTo es s (j+1)↔backTo es s j∨(x.dV=(s:Int)/\∃n,jm es (s:Int) n x.to):=by
 constructor
 ·rintro⟨i,y,hi,hy,h⟩;rcases Nat.lt_or_ge i j with hlt|hge
  ·exact .inl ⟨i,y,hlt,hy,h⟩
  ·obtain rfl:i=j:=by omega
   rw[hx]at hy;cases hy;exact .inr h
 ·rintro (⟨i,y,hi,hy,h⟩|h)
  ·exact⟨i,y,by omega,hy,h⟩
  ·exact⟨j,x,by omega,hx,h⟩
theorem QA{es:List Edge}{s:Nat}:backTo es s es.length↔∃e∈es,e.dV=(s:Int)/\∃n,jm es (s:Int) n e.to:=by
 constructor
 ·rintro⟨i,x,_,hx,h⟩;exact⟨x,List.mem_of_getElem? hx,h⟩
 ·rintro⟨x,hx,h⟩;obtain⟨i,hi,rfl⟩:=List.getElem_of_mem hx;exact⟨i,_,hi,List.getElem?_eq_getElem hi,h⟩
theorem vJ{v:Value}{es:List Edge}(many:Nat)(w:World)(hm:many<=6)(h:aF 3 aR w v es)(hl:es.length<=144)(hok:∀e∈es,edgeOk many e) :
 Calls Tryz.prog 156 #[.int .i64 (many:Int),v] w fun r w'=>∃A n c,r=.returned (.slice A n c)/\(0<n↔Bz es=true)/\n<=100/\Ext w w':=by
 obtain⟨A,c,rfl,hc⟩:=id h;have HC:=aa hc;have dO:=aa hok;have ZV:=aa (Yv hm hok);have HV:=aa (fun W (b:Ext w W)=>uI many W hm (h.ext b) hl hok);have HF:=aa (fun W (b:Ext w W) (t:Nat) (ht:t<many)=>J4 many t W hm ht (h.ext b) (by omega) hok);clear h hc hok;go_enter Tryz.func156,Tryz.ntmps156;go_wp2;go_loopw [5,6] (fun o i wr=>Ext w wr/\∃s:Nat,s<=many/\i=.int .i64 (s:Int)/\o=.slice (some ⟨w.heap.size,0,none⟩) 0 0/\Hid (Row 3 1 (one encI) w.heap.size wr (.slice (some ⟨w.heap.size,0,none⟩) 0 0) ([]:List Int)/\∀s':Nat,s'<s->¬∃e∈es,e.dV=(s':Int)/\∃n,jm es (s':Int) n e.to)) (fun _ i _=>many-(intOf i).toNat)
 case atStart=>exact⟨(Ext.refl _).alloc _,0,Nat.zero_le _,rfl,rfl,bT,fun s' h=>absurd h (Nat.not_lt_zero _)⟩
 case round=>
  obtain⟨hb,s,hs,rfl,rfl,HR⟩:=hrel;by_cases hlt:s<many
  ·have hsi:(s:Int)<(many:Int):=by omega
   go_wp2_with fail
   refine(HV.out _ hb).mono ?_
   rintro e w1 ⟨rfl,b1⟩;have HB1:=aa (hb.trans b1);have HR1:=aa (And.intro (Row.ext HR.out.1 b1) HR.out.2);clear b1;go_wp2_with fail
   refine(HF.out _ HB1.out s hlt).mono ?_
   rintro e w2 ⟨g,cg,f,rfl,hI,UU,hgl,b2⟩;have BD:=aa UU;have adE:w.heap.size≠g:=by have:=World.ownsRow.lt HR1.out.1 w.heap.size rfl;omega
   have HB2:=aa (HB1.out.trans b2);have HR2:=aa (And.intro (Row.ext HR1.out.1 b2) HR1.out.2);have HI:=aa hI;have HNE:=aa adE;clear UU hI hgl b2 HR1 HB1 adE;go_wp2;go_loopw [8,9] (fun bv i wr=>Ext w2 wr/\∃j:Nat,j<=es.length/\i=.int .i64 (j:Int)/\∃b:Int,bv=.int .i64 b/\-1<=b/\b<=6/\Hid (0<=b↔backTo es s j)) (fun _ i _=>es.length-(intOf i).toNat)
   case atStart=>exact⟨Ext.refl _,0,Nat.zero_le _,rfl,-1,rfl,by omega,by omega,⟨fun h=>absurd h (by omega),fun⟨i,_,hi,_⟩=>absurd hi (Nat.not_lt_zero _)⟩⟩
   case round=>
    obtain⟨hv,j,hj,rfl,bb,rfl,hb1,hb6,BU⟩:=hrel;by_cases hjt:j<es.length
    ·obtain⟨b,off,rfl,hbl,hcc⟩:=HC.out (by omega);obtain⟨e,he⟩:=af hjt;have hoe:=dO.out e (List.mem_of_getElem? he);have hx:=HB2.out.trans hv;have c0:=hx.cell (hcc j e he 0 (by omega));have c1:=hx.cell (hcc j e he 1 (by omega));simp only[aR,Nat.add_zero]at c0 c1;obtain⟨tn,htn⟩:=Int.eq_ofNat_of_zero_le hoe.2.1.1;have adC:tn<many:=by have:=hoe.2.1.2;omega
     have hfl:=BD.out.len;obtain⟨dt,hdt⟩:=af (show tn<f.length by omega);have d1:wr.cell? ⟨g,tn,none⟩=some (.int .i64 dt):=by have:=hv.cell (HI.out.at_ tn dt hdt);rwa [Nat.zero_add]at this
     have hnr:=U2 BD.out hlt dO.out hdt;have hd6:dt<=6:=by
      rcases BD.out.neg tn dt hdt with h|h
      ·omega
      ·have:=(BD.out.sound tn dt hdt h).1;omega
     rw[<-htn]at hnr;rw[show (e.to:Int)=(tn:Int) from htn]at c1;have i3:(0:Int)<=(tn:Int):=by omega
     have i4:(tn:Int)<(many:Int):=by omega
     have iA:Hid (backTo es s (j+1)↔backTo es s j∨(e.dV=(s:Int)/\0<=dt)):=by show _↔_;rw[Nk he,hnr]
     by_cases hfs:e.dV=(s:Int)
     ·have q1:(e.dV==(s:Int))=true:=by simp[hfs]
      by_cases hd0:0<=dt
      ·have HT:Hid (backTo es s (j+1)):=iA.out.2 (.inr ⟨hfs,hd0⟩);by_cases hbn:bb<0
       ·clear hcc he hoe hnr htn hfl hdt hfs hx iA;go_wp2;go_roundw;case rel=>exact⟨hv,j+1,by omega,by go_num,dt,rfl,by omega,hd6,⟨fun _=>HT.out,fun _=>hd0⟩⟩
        case measure=>simp[intOf];omega
       ·by_cases hdb:dt<bb
        ·clear hcc he hoe hnr htn hfl hdt hfs hx iA;go_wp2;go_roundw;case rel=>exact⟨hv,j+1,by omega,by go_num,dt,rfl,by omega,hd6,⟨fun _=>HT.out,fun _=>hd0⟩⟩
         case measure=>simp[intOf];omega
        ·clear hcc he hoe hnr htn hfl hdt hfs hx iA;go_wp2;go_roundw;case rel=>exact⟨hv,j+1,by omega,by go_num,bb,rfl,by omega,hb6,⟨fun _=>HT.out,fun _=>by omega⟩⟩
         case measure=>simp[intOf];omega
      ·have HT:Hid (backTo es s (j+1)↔backTo es s j):=⟨fun h=>by rcases iA.out.1 h with h|h;exact h;exact absurd h.2 hd0,fun h=>iA.out.2 (.inl h)⟩;clear hcc he hoe hnr htn hfl hdt hfs hx iA;go_wp2;go_roundw;case rel=>exact⟨hv,j+1,by omega,by go_num,bb,rfl,by omega,hb6,BU.out.trans HT.out.symm⟩
       case measure=>simp[intOf];omega
     ·have q1:(e.dV==(s:Int))=false:=by simp[hfs]
      have HT:Hid (backTo es s (j+1)↔backTo es s j):=⟨fun h=>by rcases iA.out.1 h with h|h;exact h;exact absurd h.1 hfs,fun h=>iA.out.2 (.inl h)⟩;clear hcc he hoe hnr htn hfl hdt hfs hx iA;go_wp2;go_roundw;case rel=>exact⟨hv,j+1,by omega,by go_num,bb,rfl,by omega,hb6,BU.out.trans HT.out.symm⟩
      case measure=>simp[intOf];omega
    ·obtain rfl:j=es.length:=by omega
     have PI:Hid (0<=bb↔∃e∈es,e.dV=(s:Int)/\∃n,jm es (s:Int) n e.to):=BU.out.trans QA;have Oe:=aa hv;clear BU;by_cases hbn:bb<0
     ·have kg:Hid (¬∃e∈es,e.dV=(s:Int)/\∃n,jm es (s:Int) n e.to):=fun h=>by have:=PI.out.2 h;omega
      have HRR:=aa (And.intro (Row.ext HR2.out.1 Oe.out) HR2.out.2);go_wp2;go_roundw;case rel=>exact⟨HB2.out.trans Oe.out,s+1,by omega,by go_num,rfl,HRR.out.1,fun s' h=>by
       rcases Nat.lt_or_ge s' s with h'|h'
       ·exact HRR.out.2 s' h'
       ·obtain rfl:s'=s:=by omega
        exact kg.out⟩
      case measure=>simp[intOf];omega
     ·have Em:Hid (Bz es=true):=ZV.out.2 ⟨s,hlt,PI.out.1 (by omega)⟩;have hB:=HB2.out.trans Oe.out;obtain⟨v',w3,hrun,hP⟩:=FK wr.heap.size rfl (Row.ext HR2.out.1 Oe.out) (Ext.refl _) (s:Int) hB.size (by simp);have HIP:=aa ((HI.out.ext Oe.out).pushed (Row.ext HR2.out.1 Oe.out) hP (by simp[Value.ownBlock];exact HNE.out));have aU:=aa hrun;have HP:=aa hP;have sI:=aa (hP.2.1 w hB (Nat.le_refl _));clear hrun hP hB;go_wp2_with (at_builtin;refine wpList_append_run rfl rfl rfl rfl aU.out ?_)
      go_loopw [5,10,11] (fun o a l wr=>Ext w wr/\∃(x lf:Int) (xs:List Int),a=.int .i64 x/\l=.int .i64 lf/\0<=lf/\lf<=6/\0<xs.length/\(xs.length:Int)+lf<=8/\Hid (Row 3 1 (one encI) w.heap.size wr o xs/\jW wr g 0 f/\o.ownBlock≠some g)) (fun _ _ l _=>(intOf l).toNat)
      case atStart=>exact⟨sI.out,(s:Int),bb,_,rfl,rfl,by omega,hb6,by simp,by simp;omega,HP.out.1,HIP.out.1,HIP.out.2⟩
      case round=>
       obtain⟨hb,x,lf,xs,rfl,rfl,hl0,RQ,hxs,hxl,HO⟩:=hrel;by_cases hlf:0<lf
       ·have Ea:=aa hb;have HO5:=aa HO.out;have hwl:IntKind.i64.wrap (lf-1)=lf-1:=IntWalk.i64_in _ (by omega);clear hb;go_wp2;go_loopw [12,13] (fun nx i wv=>Ext wr wv/\(∃y:Int,nx=.int .i64 y)/\∃j:Nat,j<=es.length/\i=.int .i64 (j:Int)) (fun _ i _=>es.length-(intOf i).toNat)
        case atStart=>exact⟨Ext.refl _,⟨_,rfl⟩,0,Nat.zero_le _,rfl⟩
        case round=>
         obtain⟨hv,⟨y,rfl⟩,j,hj,rfl⟩:=hrel;by_cases hjt:j<es.length
         ·obtain⟨b,off,rfl,hbl,hcc⟩:=HC.out (by omega);obtain⟨e,he⟩:=af hjt;have hoe:=dO.out e (List.mem_of_getElem? he);have hx:=Ea.out.trans hv;have c0:=hx.cell (hcc j e he 0 (by omega));have c1:=hx.cell (hcc j e he 1 (by omega));simp only[aR,Nat.add_zero]at c0 c1;obtain⟨tn,htn⟩:=Int.eq_ofNat_of_zero_le hoe.2.1.1;have adC:tn<many:=by have:=hoe.2.1.2;omega
          have hfl:=BD.out.len;obtain⟨dt,hdt⟩:=af (show tn<f.length by omega);have d1:wr.cell? ⟨g,tn,none⟩=some (.int .i64 dt):=by have:=hv.cell (HO5.out.2.1.at_ tn dt hdt);rwa [Nat.zero_add]at this
          rw[show (e.to:Int)=(tn:Int) from htn]at c1;have i3:(0:Int)<=(tn:Int):=by omega
          have i4:(tn:Int)<(many:Int):=by omega
          clear hcc he hoe htn hfl hdt hx
          cases q1:(e.dV==x) with
          | false=>
            go_wp2;go_roundw;case rel=>exact⟨hv,⟨y,rfl⟩,j+1,by omega,by go_num⟩
            case measure=>simp[intOf];omega
          | true=>
            cases q2:(dt==lf) with
            | false=>
              go_wp2;go_roundw;case rel=>exact⟨hv,⟨y,rfl⟩,j+1,by omega,by go_num⟩
              case measure=>simp[intOf];omega
            | true=>
              by_cases hmn:y<=(tn:Int)
              ·go_wp2;go_roundw;case rel=>exact⟨hv,⟨_,rfl⟩,j+1,by omega,by go_num⟩
               case measure=>simp[intOf];omega
              ·go_wp2;go_roundw;case rel=>exact⟨hv,⟨_,rfl⟩,j+1,by omega,by go_num⟩
               case measure=>simp[intOf];omega
         ·obtain rfl:j=es.length:=by omega
          have hB:=Ea.out.trans hv;obtain⟨v',w6,hrun,hP⟩:=FK wr.heap.size rfl (Row.ext HO5.out.1 hv) (Ext.refl _) y hB.size (by omega);have HIP:=aa ((HO5.out.2.1.ext hv).pushed (Row.ext HO5.out.1 hv) hP HO5.out.2.2);have aU:=aa hrun;have HP:=aa hP;have HE6:=aa (hP.2.1 w hB (Nat.le_refl _));clear hrun hP hB;go_wp2_with (at_builtin;refine wpList_append_run rfl rfl rfl rfl aU.out ?_)
          go_roundw;case rel=>exact⟨HE6.out,y,lf-1,_,rfl,by go_num,by omega,by omega,by simp,by simp;omega,HP.out.1,HIP.out.1,HIP.out.2⟩
          case measure=>simp[intOf];omega
       ·obtain⟨A7,c7,rfl,_⟩:=id HO.out.1.cell.1;go_wp2;go_returns;exact⟨A7,xs.length,⟨c7,rfl⟩,⟨fun _=>Em.out,fun _=>hxs⟩,by omega,hb⟩
  ·obtain rfl:s=many:=by omega
   have kg:Hid (¬Bz es=true):=fun h=>by obtain⟨s',h1,h2⟩:=ZV.out.1 h;exact HR.out.2 s' h1 h2
   go_wp2;go_returns;exact⟨_,0,_,rfl,⟨fun h=>absurd h (Nat.lt_irrefl _),fun h=>absurd h kg.out⟩,by omega,hb⟩
