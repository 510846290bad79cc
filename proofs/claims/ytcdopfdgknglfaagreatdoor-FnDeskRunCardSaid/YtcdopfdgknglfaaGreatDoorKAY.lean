/- Lemmas. -/
import Derived.Test.YtcdopfdgknglfaaGreatDoorKAV
import Derived.Test.YtcdopfdgknglfaaGreatDoorKAX
set_option maxHeartbeats 16000000
set_option maxRecDepth 8000
set_option linter.all false
namespace Go.Proofs.YtcdopfdgknglfaaGreatDoor
open Go.RowKit
structure lQ (w:World) (g off:Nat) (f:List Int):Prop where
 lt:g<w.heap.size
 at_:∀(i:Nat) x,f[i]? =some x->w.cell? ⟨g,off+i,none⟩=some (.int .i64 x)
 free:∀i,w.frozen? ⟨g,i,none⟩=false
theorem lQ.ext{w w':World}{g off:Nat}{f:List Int}(h:lQ w g off f)(hb:Ext w w'):lQ w' g off f:=
 ⟨bR h.lt hb.size,λi x hx=>hb.cell (h.at_ i x hx),λi=>(hb.frozen (p:=⟨g,i,none⟩) h.lt).trans (h.free i)⟩
theorem lQ.set{w:World}{g off:Nat}{f:List Int}(h:lQ w g off f){k:Nat}(hk:k<f.length)(x:Int):lQ (w.setCell ⟨g,off+k,none⟩ (.int .i64 x)) g off (f.set k x) where
 lt:=by rw[World.size_setCell];exact h.lt
 at_ i y hy:=by
  obtain⟨z,hz⟩:=ah hk;rw[iO]at hy;split at hy
  ·rename_i e;subst e;try rw[aj hk]at hy
   cases hy;exact fJ (h.at_ k z hz) _
  ·rename_i e;rw[aC (by intro e';injection e' with _ e' _;omega)];exact h.at_ i y hy
 free i:=by rw[World.frozen?_setCell];exact h.free i
theorem lQ.block{w w':World}{g off:Nat}{f:List Int}(h:lQ w g off f)(hs:w.heap.size<=w'.heap.size)(hb:w'.heap[g]? =w.heap[g]?):lQ w' g off f:=
 ⟨bR h.lt hs,λi x hx=>by rw[<-h.at_ i x hx];simp only[World.cell?,hb],λi=>by rw[<-h.free i];simp only[World.frozen?,hb]⟩
theorem lQ.dS{base:Nat}{w:World}{A:Option Addr}{n c:Nat}{f:List Int}(h:Row 3 1 (one encI) base w (.slice A n c) f)(hf:0<f.length):∃g,A=some ⟨g,0,none⟩/\base<=g/\n=f.length/\lQ w g 0 f:=by
 obtain⟨h1,h2⟩:=h.cell;obtain⟨A',c',e,hc⟩:=h1.to1;injection e with e1 e2 e3;subst e1 e2 e3;rcases h.2 with ⟨e,_⟩|⟨g,cap,cur,e,hb,hg,_⟩
 ·injection e with _ e2 _;omega
 ·injection e with e1 e2 e3;subst e1;obtain⟨b,off,e,hlt,hcc⟩:=hc hf;injection e with e;injection e with e1 e2;subst e1 e2;exact⟨g,rfl,hb,rfl,hlt,hcc,λi=>(h2 _ _ _ rfl hf).2.2 i⟩
theorem lQ.pushed{α:Type}{e:TypeId}{m:Nat}{enc:α->Nat->Value}{base:Nat}{w w':World}{v v':Value}{ys xs:List α}{g off:Nat}{f:List Int}(h:lQ w g off f)(H:Row e m enc base w v ys)(hp:ni e m enc base w w' v v' xs)(hne:v.ownBlock≠some g):lQ w' g off f/\v'.ownBlock≠some g:=by
 refine⟨h.block (yF.yK H hp).1 (hp.2.2.1 g h.lt hne),?_⟩;rcases hp.2.2.2 with e|⟨k,e,hk⟩
 ·rw[e];exact hne
 ·rw[e];intro e';injection e' with e';have:=h.lt;omega
theorem KI{v:Value}{es:List Edge}(many t:Nat)(w:World)(hm:many<=6)(ht:t<many)(h:aL 3 aZ w v es)(hl:es.length<=2097152)(hok:∀e∈es,edgeOk many e) :
 Calls Tryz.prog 191 #[.int .i64 (many:Int),v,.int .i64 (t:Int)] w λr w'=>∃g c f,r=.returned (.slice (some ⟨g,0,none⟩) many c)/\lQ w' g 0 f/\wV es (t:Int) many many f/\w.heap.size<=g/\Ext w w':=by
 obtain⟨A,c,rfl,hc⟩:=id h;have HC:=aa hc;have fu:=aa hok;clear h hc hok;go_enter Tryz.func191,Tryz.ntmps191;go_wp2;go_loopw [7,8] (λo i wr=>Ext w wr/\∃k:Nat,k<=many/\i=.int .i64 (k:Int)/\Hid (Row 3 1 (one encI) w.heap.size wr o (List.replicate k (-1)))) (λ_ i _=>many-(intOf i).toNat)
 case atStart=>exact⟨(af _).alloc _,0,aT _,rfl,dD⟩
 case round=>
  obtain⟨hb,k,hk,rfl,HR⟩:=hrel;by_cases hlt:k<many
  ·obtain⟨v',w2,hrun,hP⟩:=Hq wr.heap.size rfl HR.out (af _) (-1) hb.size (by rw[vH];omega);have bH:=aa hrun;have HP:=aa hP;have HE2:=aa (hP.2.1 w hb (av _));clear hrun hP;go_wp2_with (at_builtin;refine wpList_append_run rfl rfl rfl rfl bH.out ?_)
   go_roundw;case rel=>exact⟨HE2.out,k+1,by omega,by go_num,by rw[List.replicate_succ'];exact HP.out.1⟩
   case measure=>simp[intOf];omega
  ·obtain rfl:k=many:=by omega
   obtain⟨A1,c1,rfl,_⟩:=id HR.out.cell.1;obtain⟨g,rfl,hg,hn,hI⟩:=lQ.dS HR.out (by rw[vH];omega);rw[vH];obtain⟨z,hz⟩:=ah (show t<(List.replicate k (-1:Int)).length by rw[vH];exact ht);have hcell:wr.cell? ⟨g,t,none⟩=some (.int .i64 z):=by have:=hI.at_ t z hz;rwa [ig]at this
   have hfree:=hI.free t;have hI2:=hI.set (show t<(List.replicate k (-1:Int)).length by rw[vH];exact ht) 0;rw[ig]at hI2;have HF:=aa (wV.start (es:=es) ht);have HB:Hid (Ext w (wr.setCell ⟨g,t,none⟩ (.int .i64 0))):=hb.setCell (p:=⟨g,t,none⟩) hg _;have HI2:=aa hI2;have HG:=aa hg;have htk:(t:Int)<(k:Int):=by omega
   clear hn hz hI hI2 hg HR hb hk;go_wp2;clear hcell hfree;go_loopw [9] (λi wr=>Ext w wr/\∃s:Nat,s<=k/\i=.int .i64 (s:Int)/\Hid (∃f,lQ wr g 0 f/\wV es (t:Int) k s f)) (λi _=>k-(intOf i).toNat)
   case atStart=>exact⟨HB.out,0,aT _,rfl,_,HI2.out,HF.out⟩
   case round=>
    obtain⟨hb,s,hs,rfl,HS⟩:=hrel;by_cases hsk:s<k
    ·obtain⟨f,hf1,hf2⟩:=HS.out;have HB:=aa hb;have HF1:=aa (aB hf1 hf2.round);clear hb HS hf1 hf2;go_wp2;go_loopw [10] (λi wr=>Ext w wr/\∃j:Nat,j<=es.length/\i=.int .i64 (j:Int)/\Hid (∃f,lQ wr g 0 f/\zR es (t:Int) k s j f)) (λi _=>es.length-(intOf i).toNat)
     case atStart=>exact⟨HB.out,0,aT _,rfl,f,HF1.out⟩
     case round=>
      obtain⟨hb,j,hj,rfl,HJ⟩:=hrel;by_cases hjt:j<es.length
      ·obtain⟨b,off,rfl,hbl,hcc⟩:=HC.out (by omega);obtain⟨e,he⟩:=ah hjt;have hoe:=fu.out e (aM he);have c0:=hb.cell (hcc j e he 0 (by omega));have c1:=hb.cell (hcc j e he 1 (by omega));have c2:=hb.cell (hcc j e he 2 (by omega));simp only[aZ,fE]at c0 c1 c2;obtain⟨f,hf1,hf2⟩:=HJ.out;have hfl:=hf2.len;obtain⟨fn,hfn⟩:=dZ hoe.1.1;obtain⟨tn,htn⟩:=dZ hoe.2.1.1;have hfk:fn<k:=by have:=hoe.1.2;omega
       have adJ:tn<k:=by have:=hoe.2.1.2;omega
       obtain⟨df,hdf⟩:=ah (show fn<f.length by omega);obtain⟨dt,hdt⟩:=ah (show tn<f.length by omega);have C9:=hf1.ext ((af wr).alloc (.cells #[.int .i64 e.fH,.int .i64 e.to,.int .i64 e.kind] 200));have d0:(wr.alloc (.cells #[.int .i64 e.fH,.int .i64 e.to,.int .i64 e.kind] 200)).cell? ⟨g,fn,none⟩=some (.int .i64 df):=by have:=C9.at_ fn df hdf;rwa [ig]at this
       have d1:(wr.alloc (.cells #[.int .i64 e.fH,.int .i64 e.to,.int .i64 e.kind] 200)).cell? ⟨g,tn,none⟩=some (.int .i64 dt):=by have:=C9.at_ tn dt hdt;rwa [ig]at this
       have hfr:=C9.free fn;have HX:Hid (Ext w (wr.alloc (.cells #[.int .i64 e.fH,.int .i64 e.to,.int .i64 e.kind] 200))):=hb.alloc _;rw[show (e.fH:Int)=(fn:Int) from hfn]at c0 d0 d1 hfr HX C9;rw[show (e.to:Int)=(tn:Int) from htn]at c1 d0 d1 hfr HX C9;have i1:(0:Int)<=(fn:Int):=by omega
       have i2:(fn:Int)<(k:Int):=by omega
       have i3:(0:Int)<=(tn:Int):=by omega
       have i4:(tn:Int)<(k:Int):=by omega
       have hws:IntKind.i64.wrap ((s:Int)+1)=(s:Int)+1:=dL _ (by omega);by_cases hgo:dt=(s:Int)/\df<0
       ·obtain⟨g1,g2⟩:=hgo;have hnx:=hf2.set he hoe.1.1 hoe.2.1.1 (df:=df) (dt:=dt) (by rw[hfn];simpa using hdf) (by rw[htn];simpa using hdt) g1 g2;rw[show e.fH.toNat=fn by rw[hfn];simp]at hnx;have hI2:=C9.set (k:=fn) (by omega) ((s:Int)+1);rw[ig]at hI2;have HN:=aa (aB hI2 hnx);have sV:Hid (Ext w ((wr.alloc (.cells #[.int .i64 (fn:Int),.int .i64 (tn:Int),.int .i64 e.kind] 200)).setCell ⟨g,fn,none⟩ (.int .i64 ((s:Int)+1)))):=HX.out.setCell (p:=⟨g,fn,none⟩) HG.out _;have q1:(dt==(s:Int))=true:=by simp[g1]
        clear hnx hI2 hcc he hoe hf1 hf2 hfn htn hdf hdt C9 g1 HJ hfl;go_wp2;go_roundw;case rel=>exact⟨sV.out,j+1,by omega,by go_num,_,HN.out⟩
        case measure=>simp[intOf];omega
       ·have hnx:=hf2.keep he hoe.1.1 hoe.2.1.1 hoe.2.1.2 (df:=df) (dt:=dt) (by rw[hfn];simpa using hdf) (by rw[htn];simpa using hdt) (by omega);have HN:=aa (aB C9 hnx);by_cases hq:dt=(s:Int)
        ·have q1:(dt==(s:Int))=true:=by simp[hq]
         have q2:¬(df<0):=λe=>hgo ⟨hq,e⟩;clear hnx hcc he hoe hf1 hf2 hfn htn hdf hdt C9 hq hgo HJ hfl;go_wp2;go_roundw;case rel=>exact⟨HX.out,j+1,by omega,by go_num,_,HN.out⟩
         case measure=>simp[intOf];omega
        ·have q1:(dt==(s:Int))=false:=by simp[hq]
         clear hnx hcc he hoe hf1 hf2 hfn htn hdf hdt C9 hq hgo HJ hfl;go_wp2;go_roundw;case rel=>exact⟨HX.out,j+1,by omega,by go_num,_,HN.out⟩
         case measure=>simp[intOf];omega
      ·obtain rfl:j=es.length:=by omega
       obtain⟨f,hf1,hf2⟩:=HJ.out;have HN:=aa (aB hf1 (hf2.done (λe he=>(fu.out e he).1.1)));clear hf1 hf2 HJ;go_wp2;go_roundw;case rel=>exact⟨hb,s+1,by omega,by go_num,f,HN.out⟩
       case measure=>simp[intOf];omega
    ·obtain rfl:s=k:=by omega
     obtain⟨f,hf1,hf2⟩:=HS.out;have HN:=aa (aB hf1 hf2);clear hf1 hf2 HS;go_wp2;go_returns;exact⟨g,_,f,rfl,HN.out.1,HN.out.2,HG.out,hb⟩
theorem XH{es:List Edge}{t many:Nat}{f:List Int}(h:wV es (t:Int) many many f)(ht:t<many)(hok:∀e∈es,edgeOk many e){x:Nat}{d:Int}(hd:f[x]? =some d):0<=d↔∃n,Near es (t:Int) n x:=
 h.final ht (λe he=>(hok e he).1) hd
def backTo(es:List Edge)(s:Nat)(j:Nat):Prop:=∃(i:Nat) (x:Edge),i<j/\es[i]? =some x/\x.fH=(s:Int)/\∃n,Near es (s:Int) n x.to
theorem NV{es:List Edge}{s j:Nat}{x:Edge}(hx:es[j]? =some x):backTo es s (j+1)↔backTo es s j∨(x.fH=(s:Int)/\∃n,Near es (s:Int) n x.to):=by
 constructor
 ·rintro⟨i,y,hi,hy,h⟩;rcases eP i j with hlt|hge
  ·exact .inl ⟨i,y,hlt,hy,h⟩
  ·obtain rfl:i=j:=by omega
   rw[hx]at hy;cases hy;exact .inr h
 ·rintro (⟨i,y,hi,hy,h⟩|h)
  ·exact⟨i,y,by omega,hy,h⟩
  ·exact⟨j,x,by omega,hx,h⟩
theorem SQ{es:List Edge}{s:Nat}:backTo es s es.length↔∃e∈es,e.fH=(s:Int)/\∃n,Near es (s:Int) n e.to:=by
 constructor
 ·rintro⟨i,x,_,hx,h⟩;exact⟨x,aM hx,h⟩
 ·rintro⟨x,hx,h⟩;obtain⟨i,hi,rfl⟩:=jq hx;exact⟨i,_,hi,dJ hi,h⟩
theorem xu{v:Value}{es:List Edge}(many:Nat)(w:World)(hm:many<=6)(h:aL 3 aZ w v es)(hl:es.length<=144)(hok:∀e∈es,edgeOk many e) :
 Calls Tryz.prog 189 #[.int .i64 (many:Int),v] w λr w'=>∃A n c,r=.returned (.slice A n c)/\(0<n↔Dl es=true)/\n<=100/\Ext w w':=by
 obtain⟨A,c,rfl,hc⟩:=id h;have HC:=aa hc;have fu:=aa hok;have HCY:=aa (aaj hm hok);have HV:=aa (λW (b:Ext w W)=>wR many W hm (h.ext b) hl hok);have HF:=aa (λW (b:Ext w W) (t:Nat) (ht:t<many)=>KI many t W hm ht (h.ext b) (by omega) hok);clear h hc hok;go_enter Tryz.func189,Tryz.ntmps189;go_wp2;go_loopw [5,6] (λo i wr=>Ext w wr/\∃s:Nat,s<=many/\i=.int .i64 (s:Int)/\o=.slice (some ⟨w.heap.size,0,none⟩) 0 0/\Hid (Row 3 1 (one encI) w.heap.size wr (.slice (some ⟨w.heap.size,0,none⟩) 0 0) ([]:List Int)/\∀s':Nat,s'<s->¬∃e∈es,e.fH=(s':Int)/\∃n,Near es (s':Int) n e.to)) (λ_ i _=>many-(intOf i).toNat)
 case atStart=>exact⟨(af _).alloc _,0,aT _,rfl,rfl,dD,λs' h=>absurd h (gu _)⟩
 case round=>
  obtain⟨hb,s,hs,rfl,rfl,HR⟩:=hrel;by_cases hlt:s<many
  ·have hsi:(s:Int)<(many:Int):=by omega
   go_wp2_with fail
   refine(HV.out _ hb).mono ?_
   rintro e w1 ⟨rfl,b1⟩;have HB1:=aa (hb.trans b1);have HR1:=aa (aB (Row.ext HR.out.1 b1) HR.out.2);clear b1;go_wp2_with fail
   refine(HF.out _ HB1.out s hlt).mono ?_
   rintro e w2 ⟨g,cg,f,rfl,hI,Wm,hgl,b2⟩;have CW:=aa Wm;have aed:w.heap.size≠g:=by have:=World.ownsRow.lt HR1.out.1 w.heap.size rfl;omega
   have HB2:=aa (HB1.out.trans b2);have HR2:=aa (aB (Row.ext HR1.out.1 b2) HR1.out.2);have HI:=aa hI;have HNE:=aa aed;clear Wm hI hgl b2 HR1 HB1 aed;go_wp2;go_loopw [8,9] (λbv i wr=>Ext w2 wr/\∃j:Nat,j<=es.length/\i=.int .i64 (j:Int)/\∃b:Int,bv=.int .i64 b/\-1<=b/\b<=6/\Hid (0<=b↔backTo es s j)) (λ_ i _=>es.length-(intOf i).toNat)
   case atStart=>exact⟨af _,0,aT _,rfl,-1,rfl,by omega,by omega,⟨λh=>absurd h (by omega),λ⟨i,_,hi,_⟩=>absurd hi (gu _)⟩⟩
   case round=>
    obtain⟨hv,j,hj,rfl,bb,rfl,hb1,hb6,Db⟩:=hrel;by_cases hjt:j<es.length
    ·obtain⟨b,off,rfl,hbl,hcc⟩:=HC.out (by omega);obtain⟨e,he⟩:=ah hjt;have hoe:=fu.out e (aM he);have hx:=HB2.out.trans hv;have c0:=hx.cell (hcc j e he 0 (by omega));have c1:=hx.cell (hcc j e he 1 (by omega));simp only[aZ,fE]at c0 c1;obtain⟨tn,htn⟩:=dZ hoe.2.1.1;have adJ:tn<many:=by have:=hoe.2.1.2;omega
     have hfl:=CW.out.len;obtain⟨dt,hdt⟩:=ah (show tn<f.length by omega);have d1:wr.cell? ⟨g,tn,none⟩=some (.int .i64 dt):=by have:=hv.cell (HI.out.at_ tn dt hdt);rwa [ig]at this
     have hnr:=XH CW.out hlt fu.out hdt;have hd6:dt<=6:=by
      rcases CW.out.neg tn dt hdt with h|h
      ·omega
      ·have:=(CW.out.sound tn dt hdt h).1;omega
     rw[<-htn]at hnr;rw[show (e.to:Int)=(tn:Int) from htn]at c1;have i3:(0:Int)<=(tn:Int):=by omega
     have i4:(tn:Int)<(many:Int):=by omega
     have jC:Hid (backTo es s (j+1)↔backTo es s j∨(e.fH=(s:Int)/\0<=dt)):=by show _↔_;rw[NV he,hnr]
     by_cases hfs:e.fH=(s:Int)
     ·have q1:(e.fH==(s:Int))=true:=by simp[hfs]
      by_cases hd0:0<=dt
      ·have HT:Hid (backTo es s (j+1)):=jC.out.2 (.inr ⟨hfs,hd0⟩);by_cases hbn:bb<0
       ·clear hcc he hoe hnr htn hfl hdt hfs hx jC;go_wp2;go_roundw;case rel=>exact⟨hv,j+1,by omega,by go_num,dt,rfl,by omega,hd6,⟨λ_=>HT.out,λ_=>hd0⟩⟩
        case measure=>simp[intOf];omega
       ·by_cases hdb:dt<bb
        ·clear hcc he hoe hnr htn hfl hdt hfs hx jC;go_wp2;go_roundw;case rel=>exact⟨hv,j+1,by omega,by go_num,dt,rfl,by omega,hd6,⟨λ_=>HT.out,λ_=>hd0⟩⟩
         case measure=>simp[intOf];omega
        ·clear hcc he hoe hnr htn hfl hdt hfs hx jC;go_wp2;go_roundw;case rel=>exact⟨hv,j+1,by omega,by go_num,bb,rfl,by omega,hb6,⟨λ_=>HT.out,λ_=>by omega⟩⟩
         case measure=>simp[intOf];omega
      ·have HT:Hid (backTo es s (j+1)↔backTo es s j):=⟨λh=>by rcases jC.out.1 h with h|h;exact h;exact absurd h.2 hd0,λh=>jC.out.2 (.inl h)⟩;clear hcc he hoe hnr htn hfl hdt hfs hx jC;go_wp2;go_roundw;case rel=>exact⟨hv,j+1,by omega,by go_num,bb,rfl,by omega,hb6,Db.out.trans HT.out.symm⟩
       case measure=>simp[intOf];omega
     ·have q1:(e.fH==(s:Int))=false:=by simp[hfs]
      have HT:Hid (backTo es s (j+1)↔backTo es s j):=⟨λh=>by rcases jC.out.1 h with h|h;exact h;exact absurd h.1 hfs,λh=>jC.out.2 (.inl h)⟩;clear hcc he hoe hnr htn hfl hdt hfs hx jC;go_wp2;go_roundw;case rel=>exact⟨hv,j+1,by omega,by go_num,bb,rfl,by omega,hb6,Db.out.trans HT.out.symm⟩
      case measure=>simp[intOf];omega
    ·obtain rfl:j=es.length:=by omega
     have QJ:Hid (0<=bb↔∃e∈es,e.fH=(s:Int)/\∃n,Near es (s:Int) n e.to):=Db.out.trans SQ;have NW:=aa hv;clear Db;by_cases hbn:bb<0
     ·have mF:Hid (¬∃e∈es,e.fH=(s:Int)/\∃n,Near es (s:Int) n e.to):=λh=>by have:=QJ.out.2 h;omega
      have HRR:=aa (aB (Row.ext HR2.out.1 NW.out) HR2.out.2);go_wp2;go_roundw;case rel=>exact⟨HB2.out.trans NW.out,s+1,by omega,by go_num,rfl,HRR.out.1,λs' h=>by
       rcases eP s' s with h'|h'
       ·exact HRR.out.2 s' h'
       ·obtain rfl:s'=s:=by omega
        exact mF.out⟩
      case measure=>simp[intOf];omega
     ·have Ff:Hid (Dl es=true):=HCY.out.2 ⟨s,hlt,QJ.out.1 (by omega)⟩;have hB:=HB2.out.trans NW.out;obtain⟨v',w3,hrun,hP⟩:=Hq wr.heap.size rfl (Row.ext HR2.out.1 NW.out) (af _) (s:Int) hB.size (by simp);have HIP:=aa ((HI.out.ext NW.out).pushed (Row.ext HR2.out.1 NW.out) hP (by simp[Value.ownBlock];exact HNE.out));have bH:=aa hrun;have HP:=aa hP;have tF:=aa (hP.2.1 w hB (av _));clear hrun hP hB;go_wp2_with (at_builtin;refine wpList_append_run rfl rfl rfl rfl bH.out ?_)
      go_loopw [5,10,11] (λo a l wr=>Ext w wr/\∃(x lf:Int) (xs:List Int),a=.int .i64 x/\l=.int .i64 lf/\0<=lf/\lf<=6/\0<xs.length/\(xs.length:Int)+lf<=8/\Hid (Row 3 1 (one encI) w.heap.size wr o xs/\lQ wr g 0 f/\o.ownBlock≠some g)) (λ_ _ l _=>(intOf l).toNat)
      case atStart=>exact⟨tF.out,(s:Int),bb,_,rfl,rfl,by omega,hb6,by simp,by simp;omega,HP.out.1,HIP.out.1,HIP.out.2⟩
      case round=>
       obtain⟨hb,x,lf,xs,rfl,rfl,hl0,TA,hxs,hxl,HO⟩:=hrel;by_cases hlf:0<lf
       ·have BA:=aa hb;have HO5:=aa HO.out;have hwl:IntKind.i64.wrap (lf-1)=lf-1:=dL _ (by omega);clear hb;go_wp2;go_loopw [12,13] (λnx i wv=>Ext wr wv/\(∃y:Int,nx=.int .i64 y)/\∃j:Nat,j<=es.length/\i=.int .i64 (j:Int)) (λ_ i _=>es.length-(intOf i).toNat)
        case atStart=>exact⟨af _,⟨_,rfl⟩,0,aT _,rfl⟩
        case round=>
         obtain⟨hv,⟨y,rfl⟩,j,hj,rfl⟩:=hrel;by_cases hjt:j<es.length
         ·obtain⟨b,off,rfl,hbl,hcc⟩:=HC.out (by omega);obtain⟨e,he⟩:=ah hjt;have hoe:=fu.out e (aM he);have hx:=BA.out.trans hv;have c0:=hx.cell (hcc j e he 0 (by omega));have c1:=hx.cell (hcc j e he 1 (by omega));simp only[aZ,fE]at c0 c1;obtain⟨tn,htn⟩:=dZ hoe.2.1.1;have adJ:tn<many:=by have:=hoe.2.1.2;omega
          have hfl:=CW.out.len;obtain⟨dt,hdt⟩:=ah (show tn<f.length by omega);have d1:wr.cell? ⟨g,tn,none⟩=some (.int .i64 dt):=by have:=hv.cell (HO5.out.2.1.at_ tn dt hdt);rwa [ig]at this
          rw[show (e.to:Int)=(tn:Int) from htn]at c1;have i3:(0:Int)<=(tn:Int):=by omega
          have i4:(tn:Int)<(many:Int):=by omega
          clear hcc he hoe htn hfl hdt hx
          cases q1:(e.fH==x) with
          | false=>
            go_wp2;go_roundw;case rel=>exact⟨hv,⟨y,rfl⟩,j+1,by omega,by go_num⟩
            case measure=>simp[intOf];omega
          | true=>
            cases q2:(dt==lf) with
            | false=>
              go_wp2;go_roundw;case rel=>exact⟨hv,⟨y,rfl⟩,j+1,by omega,by go_num⟩
              case measure=>simp[intOf];omega
            | true=>
              by_cases hmn:y<=(tn:Int)
              ·go_wp2;go_roundw;case rel=>exact⟨hv,⟨_,rfl⟩,j+1,by omega,by go_num⟩
               case measure=>simp[intOf];omega
              ·go_wp2;go_roundw;case rel=>exact⟨hv,⟨_,rfl⟩,j+1,by omega,by go_num⟩
               case measure=>simp[intOf];omega
         ·obtain rfl:j=es.length:=by omega
          have hB:=BA.out.trans hv;obtain⟨v',w6,hrun,hP⟩:=Hq wr.heap.size rfl (Row.ext HO5.out.1 hv) (af _) y hB.size (by omega);have HIP:=aa ((HO5.out.2.1.ext hv).pushed (Row.ext HO5.out.1 hv) hP HO5.out.2.2);have bH:=aa hrun;have HP:=aa hP;have Wp:=aa (hP.2.1 w hB (av _));clear hrun hP hB;go_wp2_with (at_builtin;refine wpList_append_run rfl rfl rfl rfl bH.out ?_)
          go_roundw;case rel=>exact⟨Wp.out,y,lf-1,_,rfl,by go_num,by omega,by omega,by simp,by simp;omega,HP.out.1,HIP.out.1,HIP.out.2⟩
          case measure=>simp[intOf];omega
       ·obtain⟨A7,c7,rfl,_⟩:=id HO.out.1.cell.1;go_wp2;go_returns;exact⟨A7,xs.length,⟨c7,rfl⟩,⟨λ_=>Ff.out,λ_=>hxs⟩,by omega,hb⟩
  ·obtain rfl:s=many:=by omega
   have mF:Hid (¬Dl es=true):=λh=>by obtain⟨s',h1,h2⟩:=HCY.out.1 h;exact HR.out.2 s' h1 h2
   go_wp2;go_returns;exact⟨_,0,_,rfl,⟨λh=>absurd h (sM _),λh=>absurd h mF.out⟩,by omega,hb⟩
def I1o(lo:Nat)(w:World)(u:Value)(xs:List Int):Prop:=I1 w u xs/\∀a n c,u=.slice (some a) n c->0<n->lo<=a.block
theorem U8{T:TypeId}(lo:Nat)(hne:3≠T):uC T (I1o lo):=⟨λ_ _ _ _ h hk=>⟨ou.keep h.1 hk hne,h.2⟩,λ_ _ _ h=>let ⟨A,c,e,_⟩:=ou.slice h.1;⟨A,_,c,e⟩⟩
theorem Zn{lo base:Nat}{w0 w:World}(q:Nat)(hq:w.heap.size=q){v:Value}{xss:List (List Int)}(H:Bs 56 (I1o lo) base w0 v xss)(hx:Ext w0 w){u:Value}{xs:List Int}(hu:I1o lo w u xs)(hb:base<=w0.heap.size)(hn:xss.length+1<=4194304) :
 ∃v' w',(Builtin.append_ #[101,101] 101 #[v,.slice (some ⟨q,0,none⟩) 1 1]).run Tryz.prog (w.alloc (.cells #[u] 56))=.ok v' w'/\Bs 56 (I1o lo) base w' v' (xss++[xs])/\(∀U:World,Ext U w0->U.heap.size<=base->Ext U w'):=
 let ⟨v',w',h1,h2,h3,_⟩:=Bs.push q hq Tryz.underlying101 vN rfl (U8 lo (by decide)) H hx hu hb hn (by omega)
 ⟨v',w',h1,h2,h3⟩
theorem CQ{v:Value}{xss:List (List Int)}(w:World)(h:I2 w v xss)(hl:xss.length<=100)(hx:∀xs∈xss,xs.length<=1000) :
 Calls Tryz.prog 114 #[v] w λe w'=>∃v',e=.returned v'/\Bs 56 (I1o w.heap.size) w.heap.size w' v' xss/\Ext w w':=by
 obtain⟨A,c,rfl,_⟩:=Ls.slice h;have H:=aa h;have HX:=aa hx;have hst:=fT (T:=101) (by decide);clear h hx;go_enter Tryz.func114,Tryz.ntmps114;go_wp2;go_loopw [3,4] (λo i wr=>Ext w wr/\∃k:Nat,k<=xss.length/\i=.int .i64 (k:Int)/\Hid (Bs 56 (I1o w.heap.size) w.heap.size wr o (xss.take k))) (λ_ i _=>xss.length-(intOf i).toNat)
 case atStart=>exact⟨(af _).alloc _,0,aT _,rfl,Bs.nil w⟩
 case round=>
  obtain⟨hb,k,hk,rfl,HI⟩:=hrel;by_cases hlt:k<xss.length
  ·obtain⟨xs,hxs⟩:=ah hlt;obtain⟨b,off,rfl,_,hc⟩:=Ls.cells (Ls.ext H.out hst hb) (by omega);obtain⟨u,hu,hP⟩:=hc k xs hxs;obtain⟨Au,cu,rfl,_⟩:=ou.slice hP;have hxl:=HX.out xs (aM hxs);have HT:=aa (ak hxs);obtain⟨v1,w1,mX,jO,Ch⟩:=oD (w:=wr) wr.heap.size rfl Mm dx rfl (by omega) (hP.1.XQ) (λx _ j=>rfl) (by omega) (by omega);have b1:=Ch wr (af _);have ho1:=jO.cell.2;have hs1:I1o w.heap.size w1 v1 xs:=⟨ou.dS jO,λa n c e hn=>aX hb.size (ho1 a n c e hn).1⟩;obtain⟨A1,c1,rfl,_⟩:=hs1.1.slice;have hC:=HI.out;obtain⟨cur,kJ⟩:∃cur,cur=xss.take k:=⟨_,rfl⟩;have hcl:cur.length<=100:=by rw[kJ,eY];omega
   rw[<-kJ]at hC;obtain⟨Ao,co,rfl,_⟩:=hC.slice;obtain⟨v2,w2,mG,hB2,hE2⟩:=Zn w1.heap.size rfl hC b1 hs1 hb.size (by omega);have oq:=aa mX;have qV:=aa mG;have HB2:=aa hB2;have HE2:=aa (hE2 w hb (av _));have HCU:=aa kJ;clear hc hP hxs mX jO Ch hs1 ho1 hC kJ mG hB2 hE2 HI b1;go_wp2_with (first|(at_builtin;refine wpList_append_run rfl rfl rfl rfl oq.out ?_;clear oq)|(at_builtin;refine wpList_append_run rfl rfl rfl rfl qV.out ?_;clear qV))
   go_roundw;case rel=>exact⟨HE2.out,k+1,by omega,by go_num,by rw[HT.out,<-HCU.out];exact HB2.out⟩
   case measure=>simp[intOf];omega
  ·obtain rfl:k=xss.length:=by omega
   have hr:=HI.out;rw[bM]at hr;have HR:=aa hr;obtain⟨A',c',rfl,_⟩:=hr.slice;clear hr HI;go_wp2;go_returns;exact⟨_,rfl,HR.out,hb⟩
theorem Nc:∀(n:Nat) (v:Value) (xs:List Int) (w:World),xs.length=n->n<=6->I1 w v xs ->
 Calls Tryz.prog 113 #[v] w λe w'=>∃v',e=.returned v'/\TT w w' v' xs:=by
 intro n
 induction n with
 | zero=>
   intro v xs w hx _ h;obtain rfl:xs=[]:=mZ hx;obtain⟨A,c,rfl,_⟩:=h.slice;clear h;have h0:I1 (w.alloc (.cells #[] 3)) (.slice (some ⟨w.heap.size,0,none⟩) 0 0) []:=.dS (dD);have h1:=(Bs.aau (T:=56) (fT (T:=101) (by decide)) _ h0);have H1:=aa h1;clear h0 h1;go_enter Tryz.func113,Tryz.ntmps113;go_wp2;go_returns;have ho:∀k,(Value.slice (some ⟨(w.alloc (.cells #[] 3)).heap.size,0,none⟩) 1 1).ownBlock=some k->w.heap.size<=k:=λk hk=>aX ((af w).alloc (.cells #[] 3)).size (H1.out.own k hk).1;have hd:=H1.out.done;have hsz:(w.alloc (.cells #[] 3)).heap.size=w.heap.size+1:=by simp
   rw[hsz]at ho hd;exact⟨_,rfl,hd,ho,((af _).alloc _).alloc _⟩
 | succ n ih=>
   intro v xs w hx hn h;obtain⟨A,c,rfl,hc1,hc2⟩:=h.slice;have H:=aa h;have HIH:=aa ih;have hpos:0<xs.length:=by omega
   have HX:=aa hx;have h6:xs.length<=6:=by omega
   have hz:((xs.length:Int)==0)=false:=fU.2 (by omega);have hst:=fT (T:=101) (by decide);clear h ih hx;go_enter Tryz.func113,Tryz.ntmps113;go_wp2;go_loopw [3,4] (λo i wr=>Ext w wr/\∃k:Nat,k<=xs.length/\i=.int .i64 k/\Hid (Bs 56 I1 w.heap.size wr o (iL xs k))) (λ_ i _=>xs.length-(intOf i).toNat)
   case atStart=>exact⟨(af _).alloc _,0,aT _,rfl,Bs.nil w⟩
   case round=>
    obtain⟨hb,k,hk,rfl,HI⟩:=hrel;have hbw:w.heap.size<=wr.heap.size:=hb.size;by_cases hlt:k<xs.length
    ·obtain⟨x,hx⟩:=ah hlt;obtain⟨b,off,rfl,hb2,hc⟩:=H.out.cells (by omega);have hI:=H.out.ext hb;have HC0:Hid (w.cell? ⟨b,off+k,none⟩=some (.int .i64 x)):=hc k x hx;obtain⟨V1,Cf,hp1⟩:∃V,(∀W,(Instr.slice 56 (.slice (some ⟨b,off,none⟩) xs.length c) none (some (.int .i64 (k:Int))) none).run Tryz.prog W=.ok (.slice V (k-0) (c-0)) W)/\I1 wr (.slice V (k-0) (c-0)) (part xs 0 k):=
      ⟨_,mW (P:=Tryz.prog) (A:=some ⟨b,off,none⟩) (n:=xs.length) (c:=c) Mm dx k (by omega),I1.part hI 0 k (by omega) (by omega)⟩
     obtain⟨V2,EB,hp2⟩:∃V,(∀W,(Instr.slice 56 (.slice (some ⟨b,off,none⟩) xs.length c) (some (.int .i64 ((k:Int)+1))) none none).run Tryz.prog W=.ok (.slice V (xs.length-(k+1)) (c-(k+1))) W)/\I1 wr (.slice V (xs.length-(k+1)) (c-(k+1))) (part xs (k+1) xs.length):=
      ⟨_,mK (P:=Tryz.prog) (A:=some ⟨b,off,none⟩) (n:=xs.length) (c:=c) Mm dx (k+1) (by omega),I1.part hI (k+1) xs.length (by omega) (av _)⟩
     simp only[Nat.sub_zero]at Cf hp1;have hwrap:IntKind.i64.wrap ((k:Int)+1)=(k:Int)+1:=dL _ (by omega);have hfl:=D6 xs k;have hle:(xs.eraseIdx k).length=n:=by rw[agE,aj hlt];have:=HX.out;omega
     have hl1:(part xs 0 k).length<=6:=by rw[rZ (by omega)];omega
     have hl2:(part xs (k+1) xs.length).length<=6:=by rw[rZ (av _)];omega
     obtain⟨v1,w1,mX,jO,Ch⟩:=oD (w:=wr.drew) wr.heap.size rfl Mm dx rfl (by omega) (hp1.ext ((af _).drew)).1.XQ (λx _ j=>rfl) (by omega) (by omega);have b1:=Ch wr ((af _).drew);obtain⟨v2,w2,mG,hrow2,hg2⟩:=lX (P:=Tryz.prog) (t:=56) (ty:=56) (e:=3) Mm dx rfl (by omega) jO ((hp2.ext b1).1.XQ) (λx _ j=>rfl) (by omega) (by omega) b1.size;have b2:Ext wr w2:=Ext.grown b1 hg2 (λk hk=>jO.block k hk);obtain⟨A1,n1,c1,rfl⟩:=jL jO;obtain⟨A2,n2,c2,rfl⟩:=jL hrow2;have oq:Hid ((Builtin.append_ #[56,56] 56 #[.slice (some ⟨wr.heap.size,0,none⟩) 0 0,.slice V1 k c]).run Tryz.prog (wr.alloc (.cells #[] 3)).drew=.ok (.slice A1 n1 c1) w1):=mX;have qV:=aa mG;have hp1':I1 w2 (.slice A2 n2 c2) (xs.eraseIdx k):=by
      have:=ou.dS hrow2
      rw[show part xs 0 k++part xs (k+1) xs.length=xs.eraseIdx k by rw[<-hfl];simp]at this;exact this
     have HB1:=aa b2;have HC:=aa (HIH.out _ (xs.eraseIdx k) w2 hle (by omega) hp1');have HXK:Hid (xs.getD k 0=x):=by show _ = _;simp[List.getD,hx]
     have Ju:=aa (aX (Nat.le_of_eq (oG (xs.eraseIdx k))) (I8 _ (by rw[hle];omega)));have HPT:=aa (aX (He h6 k hk) (show k*120<=720 by omega));have Wn:=aa hle;clear hc hp1 hp2 hI hx hfl mX mG jO hrow2 Ch hg2 b1 b2 hp1' hl1 hl2 hle;go_wp2;go_region_held3 (λ_=>True) (trivial) ((first|(refine aP (by rfl) (by rfl) (by rfl) (by rfl) oq.out ?_;clear oq)|(refine aP (by rfl) (by rfl) (by rfl) (by rfl) qV.out ?_)))
     go_wp2_with (go_at_call 113;refine HC.out.mono ?_;rintro e w3 ⟨v3,rfl,hres⟩;obtain⟨hr1,hr2,hr3⟩:=hres;obtain⟨A3,c3,rfl,hd1,hd2⟩:=hr1.slice;have HR:=aa hr1;have HR2:=aa hr2;have HR3:=aa hr3;clear hr1 hr2 hr3)
     have hpl:=Ju.out;have hpp:=Qd (xs.eraseIdx k);generalize hps:perms (xs.eraseIdx k)=ps at HR hd1 hd2 hpl hpp;obtain⟨b3,Cz,rfl,hb3,hcc⟩:=HR.out.cells hpp;have hb4:wr.heap.size<=b3:=aX HB1.out.size (HR2.out b3 rfl);have b2:Ext wr w3:=HB1.out.trans HR3.out;clear hcc HB1 HR2 HR3;obtain⟨wo,rfl⟩:∃wo:World,wo=wr:=⟨_,rfl⟩;obtain⟨Ao,co,rfl,ho1,ho2⟩:=HI.out.slice;have HI2:Hid (Bs 56 I1 w.heap.size w3 (.slice Ao (iL xs k).length co) (iL xs k)):=HI.out.ext hst b2;have HOW:Hid ((Value.slice Ao (iL xs k).length co).ownBlock≠some b3):=λe=>by have:=(HI.out.own _ e).2;omega
     clear HI;have Zb:=aa (aB (hb.trans b2) hb3);have HPS:=aa hps;clear hps b2 hb4;go_wp2;go_loopw [3,7] (λo i wr=>Ext w wr/\∃j:Nat,j<=ps.length/\i=.int .i64 j/\Hid (Bs 56 I1 w.heap.size wr o (iL xs k++(ps.take j).map (x :: ·))/\o.ownBlock≠some b3)/\Hid (b3<wr.heap.size)/\Hid (I2 wr (.slice (some ⟨b3,Cz,none⟩) ps.length c3) ps)) (λ_ i _=>ps.length-(intOf i).toNat)
     case atStart=>exact⟨Zb.out.1,0,aT _,rfl,⟨by simpa using HI2.out,HOW.out⟩,Zb.out.2,HR.out⟩
     case round=>
      obtain⟨hv,j,hj,rfl,HJ,HB3,HR⟩:=hrel;by_cases hlt2:j<ps.length
      ·obtain⟨p,hp⟩:=ah hlt2;have hb3:=HB3.out;obtain⟨b',off',e,_,hcc⟩:=HR.out.cells (by omega);injection e with e;injection e with e1 e2;subst e1 e2;obtain⟨u,hu,hP⟩:=hcc j p hp;obtain⟨Au,cu,rfl,hu1,hu2⟩:=ou.slice hP;have Qc:p.length<=6:=by
        have:=(pY (xs:=xs.eraseIdx k) (p:=p) (by rw[HPS.out];exact aM hp)).length_eq
        have:=Wn.out
        omega
       have r1:Row 3 1 (one encI) wr.heap.size (wr.drew.alloc (.cells #[.int .i64 x] 3)) (.slice (some ⟨wr.heap.size,0,none⟩) 1 1) [x]:=Row.lit wr.drew #[.int .i64 x] 3 [x] (by simp[aH,one,encI]) (by simp);have hE0:Ext wr (wr.drew.alloc (.cells #[.int .i64 x] 3)):=((af _).drew).alloc _;obtain⟨v4,w4,mX,hrow3,hg3⟩:=lX (P:=Tryz.prog) (t:=56) (ty:=56) (e:=3) Mm dx rfl (by omega) r1 ((hP.ext hE0).1.XQ) (λx _ j=>rfl) (by simp;omega) (by omega) hE0.size;obtain⟨cx,hcx⟩:∃cx,cx=[x]++p:=⟨_,rfl⟩;rw[<-hcx]at hrow3;obtain⟨A4,c4,rfl,_⟩:=(ou.dS hrow3).slice;have b3':Ext wr w4:=Ext.grown hE0 hg3 (λk hk=>r1.block k hk);have Pk:(iL xs k++(ps.take j).map (x :: ·)).length+1<=4194304:=by
        have:=HPT.out
        simp;omega
       obtain⟨cur,kJ⟩:∃cur,cur=iL xs k++(ps.take j).map (x :: ·):=⟨_,rfl⟩;have ZW:=HJ.out;rw[<-kJ]at Pk ZW;obtain⟨Ao,co,rfl,_⟩:=ZW.1.slice;obtain⟨v5,w5,mG,hB4,VX,hK4,hS4,hO4⟩:=Dr w4.heap.size rfl ZW.1 b3' (ou.dS hrow3) hv.size Pk;have H4:Hid (Bs 56 I1 w.heap.size w5 v5 (iL xs k++(ps.take (j+1)).map (x :: ·))/\v5.ownBlock≠some b3):=by
        refine⟨?_,?_⟩
        ·rw[ak hp,rR,<-jM,<-kJ];rw[hcx]at hB4;exact hB4
        ·rcases hO4 with h|⟨kk,h,h'⟩
         ·rw[h];exact HJ.out.2
         ·rw[h];intro e;injection e with e;omega
       have HR4:Hid (I2 w5 (.slice (some ⟨b3,Cz,none⟩) ps.length c3) ps):=Ls.same HR.out (by omega) (hS4 _ hb3 HJ.out.2) (fT (by decide)) hK4;have uW:Hid (b3<w5.heap.size):=bR hb3 hK4.1;have sU:=aa (VX w hv (av _));have oq:Hid ((Builtin.append_ #[56,56] 56 #[.slice (some ⟨wr.heap.size,0,none⟩) 1 1,.slice Au p.length cu]).run Tryz.prog (wr.alloc (.cells #[.int .i64 x] 3)).drew=.ok (.slice A4 cx.length c4) w4):=mX;have qV:=aa mG;have C0:=hv.cell HC0.out;have C1:=b3'.cell C0;have D1:=b3'.cell hu;have C2:=sU.out.cell HC0.out;have D2:w5.cell? ⟨b3,Cz+j,none⟩=some (.slice Au p.length cu):=by rw[<-hu];simp only[World.cell?,hS4 _ hb3 HJ.out.2]
       have hbr:b<wr.heap.size:=bR hb2 hv.size;have afr:b<w4.heap.size:=bR hbr b3'.size;have ae7:b3<w4.heap.size:=bR hb3 b3'.size;have i1:(k:Int)<(xs.length:Int):=by omega
       have i2:(0:Int)<=(k:Int):=by omega
       have i3:(j:Int)<(ps.length:Int):=by omega
       have i4:(0:Int)<=(j:Int):=by omega
       clear hcc hP hp ZW kJ hcx r1 hrow3 hg3 mX mG hB4 VX hK4 hS4 hO4 HJ HR hE0 b3';go_wp2;go_region_held3 (λW=>W.cell? ⟨b,off+k,none⟩=some (.int .i64 x)/\W.cell? ⟨b3,Cz+j,none⟩=some (.slice Au p.length cu)) (go_keep) ((first|(refine aP (by rfl) (by rfl) (by rfl) (by rfl) oq.out ?_;clear oq)|(refine aP (by rfl) (by rfl) (by rfl) (by rfl) qV.out ?_)))
       clear C0 C1 D1 C2 D2 hbr afr ae7 hu;go_wp2;go_roundw;case rel=>exact⟨sU.out,j+1,by omega,by go_num,H4.out,uW.out,HR4.out⟩
       case measure=>simp[intOf];omega
      ·obtain rfl:j=ps.length:=by omega
       have hJ0:=HJ.out.1;rw[bM,<-HPS.out,<-HXK.out,<-vG]at hJ0;have HJ':=aa hJ0;clear hJ0;clear HJ HR;go_wp2;go_roundw;case rel=>exact⟨hv,k+1,by omega,by go_num,HJ'.out⟩
       case measure=>simp[intOf];omega
    ·obtain rfl:k=xs.length:=by omega
     have hd:=HI.out;rw[<-Dx hpos]at hd;have HD:=aa hd;obtain⟨A',c',rfl,_⟩:=hd.slice;have HO:=aa hd.own;clear hd HI;go_wp2;go_returns;exact⟨_,rfl,HD.out.done,λk hk=>(HO.out k hk).1,hb⟩
def Jq(base q:Nat)(W:World)(v:Value)(xss:List (List Int)):Prop:=
 ∃us:List Value,Row 56 1 (one RO) base W v us/\us.length=xss.length/\∀(i:Nat) u x,us[i]? =some u->xss[i]? =some x->I1 W u x/\∀a n c,u=.slice (some a) n c->0<n->a.block≠q
theorem I1.grown{W W':World}{q:Nat}{u:Value}{x:List Int}(h:I1 W u x)(hq:∀a n c,u=.slice (some a) n c->0<n->a.block≠q)(hg:W.grownBy W' (some q)):I1 W' u x:=by
 have hr:∀a n c,u=.slice (some a) n c->0<n->(some q:Option Nat)≠some a.block:=λa n c e hn e'=>by injection e' with e';exact hq a n c e hn e'.symm
 exact⟨(h.1.XQ.grown hg hr).to1,h.2.1.grown hg hr,h.2.2⟩
theorem Jq.grown{base q:Nat}{W W':World}{v:Value}{xss:List (List Int)}(h:Jq base q W v xss)(hq:∃cs fr,W.heap[q]? =some (.cells cs 3 fr))(hg:W.grownBy W' (some q)):Bs 56 I1 base W' v xss:=by
 obtain⟨us,h1,h2,h3⟩:=h;refine⟨us,?_,h2,λi u x hu hx=>(h3 i u x hu hx).1.grown (h3 i u x hu hx).2 hg⟩;refine World.ownsRow.kept (row:=some q) h1 hg ?_
 cases hv:v.ownBlock with
 | none=>exact .inl rfl
 | some k=>
   refine .inr (λe=>?_);injection e with e;subst e;rcases h1.2 with ⟨rfl,_⟩|⟨g,cap,cur,rfl,hb,hgg,_⟩
   ·simp[Value.ownBlock]at hv
   ·simp[Value.ownBlock]at hv;subst hv;obtain⟨cs,fr,hx⟩:=hq;rw[hgg]at hx;injection hx with hx;injection hx with _ h5 _;exact absurd h5 (by decide)
theorem JA{v:Value}{h:List aG}(w:World)(H:iM w v h)(hok:aD h=true) :
 Calls Tryz.prog 75 #[v] w λe w'=>∃v',e=.returned v'/\I3 w' v' (gJ h)/\Ext w w':=by
 obtain⟨A,c,rfl⟩:=H.slice;have fu:=aa hok;have hlen:=aR hok;have hil:∀k:Int,(aW h k).length<=6:=λk=>aX (je h k) (by omega);have HIL:=aa hil;have Pj:=aa (pz w H (by omega) (aJ hok));clear H hok hil;go_enter Tryz.func75,Tryz.ntmps75;go_wp2_with fail
 refine Pj.out.mono ?_;rintro e w1 ⟨v1,rs,rfl,Wh,-,b1⟩;have hH1:iM w1 v1 h:=⟨rs,Wh⟩;obtain⟨A1,c1,rfl⟩:=hH1.slice;have HH:=aa hH1;have HV:=aa (bJ w1 hH1 (by omega) (aJ fu.out));rw[fu.out]at HV;have HB1:=aa b1;clear Wh hH1 b1;go_wp2_with fail
 refine HV.out.mono ?_;rintro e w2 ⟨rfl,b2⟩;have XV:=aa (HH.out.ext b2);have HB2:=aa (HB1.out.trans b2);have HIN:=aa (λW (b:Ext w2 W) (k:Nat) (hk:k<3)=>yu (k:Int) W (XV.out.ext b) fu.out (cK.2 (by omega)));clear b2;go_wp2;go_loopw [3,4] (λp i wr=>Ext w2 wr/\∃k:Nat,k<=3/\i=.int .i64 k/\p=.int .i64 (prodTo h k:Nat)) (λ_ i _=>3-(intOf i).toNat)
 case atStart=>exact⟨af _,0,by omega,rfl,rfl⟩
 case round=>
  obtain⟨hb,k,hk,rfl,rfl⟩:=hrel;by_cases hlt:k<3
  ·have TA:=HIL.out (k:Int);have hq:=uK HIL.out k;have hq2:720 ^ k<=518400:=(show k=0∨k=1∨k=2 by omega).elim (by rintro rfl;decide) λh=>h.elim (by rintro rfl;decide) (by rintro rfl;decide);have hnx:Hid (prodTo h (k+1)=prodTo h k*fact (aW h (k:Int)).length):=rfl;obtain⟨p,hp⟩:∃p,prodTo h k=p:=⟨_,rfl⟩;rw[hp]at hq hnx ⊢;have abN:=aa (λW (b:Ext w2 W)=>HIN.out W b k hlt);obtain⟨xs,hxs⟩:∃xs,aW h (k:Int)=xs:=⟨_,rfl⟩;rw[hxs]at TA hnx abN;have hd3:decide ((k:Int)<=2)=true:=jw (by omega);have HB:=aa hb;clear hp hxs hb;go_wp2;go_loopw [3,5] (λq i wr=>Ext w2 wr/\∃j:Nat,1<=j/\(j=1∨j<=xs.length)/\i=.int .i64 ((j:Int)+1)/\q=.int .i64 ((p*fact j:Nat):Int)) (λ_ i _=>8-(intOf i).toNat)
   case atStart=>exact⟨HB.out,1,by omega,.inl rfl,rfl,by simp[fact]⟩
   case round=>
    obtain⟨hb,j,hj1,hj,rfl,rfl⟩:=hrel;have hj6:j<=6:=by omega
    by_cases hjt:j+1<=xs.length
    ·have hf:p*fact j<=518400*720:=Nat.mul_le_mul (aX hq hq2) (BC (by omega));have hf2:p*fact (j+1)<=518400*720:=Nat.mul_le_mul (aX hq hq2) (BC (by omega));have he:Hid (p*fact (j+1)=p*fact j*(j+1)):=by show _ = _;rw[fact,Nat.mul_assoc]
     have hwrap:IntKind.i64.wrap (((p*fact j:Nat):Int)*((j:Int)+1))=((p*fact (j+1):Nat):Int):=by rw[he.out];rw[he.out]at hf2;rw[show ((p*fact j:Nat):Int)*((j:Int)+1)=((p*fact j*(j+1):Nat):Int) by rw[Int.natCast_mul (p*fact j)];rfl];exact dL _ (by omega)
     obtain⟨q,hq3⟩:∃q,p*fact j=q:=⟨_,rfl⟩;obtain⟨q',hq4⟩:∃q',p*fact (j+1)=q':=⟨_,rfl⟩;rw[hq3,hq4]at hwrap;rw[hq3];have HQ4:=aa hq4;have hji:(j:Int)+1<=(xs.length:Int):=by omega
     clear hq3 hq4 hf hf2 he hq;go_wp2_with fail
     refine(abN.out _ hb).mono ?_
     rintro e w3 ⟨v3,rfl,r3,b3⟩;obtain⟨A3,c3,rfl,_⟩:=id r3.cell.1;clear r3;go_wp2;go_roundw;case rel=>exact⟨hb.trans b3,j+1,by omega,.inr hjt,by go_num,by rw[HQ4.out]⟩
     case measure=>simp[intOf];omega
    ·have HF:Hid (prodTo h (k+1)=p*fact j):=by
      show _ = _;rw[hnx.out];rcases hj with rfl|hj
      ·have:xs.length=0∨xs.length=1:=by omega
       rcases this with e|e<;>rw[e]<;>rfl
      ·rw[show xs.length=j by omega]
     have hji:¬((j:Int)+1<=(xs.length:Int)):=by omega
     obtain⟨q,hq3⟩:∃q,p*fact j=q:=⟨_,rfl⟩;rw[hq3]at HF ⊢;clear hq3 hq;go_wp2_with fail
     refine(abN.out _ hb).mono ?_
     rintro e w3 ⟨v3,rfl,r3,b3⟩;obtain⟨A3,c3,rfl,_⟩:=id r3.cell.1;clear r3;go_wp2;go_roundw;case rel=>exact⟨hb.trans b3,k+1,by omega,by go_num,by rw[HF.out]⟩
     case measure=>simp[intOf];omega
  ·obtain rfl:k=3:=by omega
   have hq:=uK HIL.out 3;rw[qY]at hq ⊢;rw[show ((3:Nat):Int)=3 from rfl];clear hlt hk;by_cases hm:jB h<=200
   ·have HR:Hid (gJ h=bY h 3):=aj ⟨fu.out,hm⟩;have HM:=aa hm;have h0:I2 (wr.alloc (.cells #[] 56)) (.slice (some ⟨wr.heap.size,0,none⟩) 0 0) []:=(Bs.nil wr).done;have H0:=aa (Bs.aau (T:=101) uI _ h0).done;have hs1:(wr.alloc (.cells #[] 56)).heap.size=wr.heap.size+1:=by simp
    rw[hs1]at H0;clear h0 hs1;obtain⟨m,hm2⟩:∃m,jB h=m:=⟨_,rfl⟩;rw[hm2]at hq hm ⊢;have Db:=aa ((hb.alloc (.cells #[] 56)).alloc (.cells #[.slice (some ⟨wr.heap.size,0,none⟩) 0 0] 101));clear hm2 hb;go_wp2;clear hq hm;go_loopw [6,7] (λo i wr=>Ext w2 wr/\∃k:Nat,k<=3/\i=.int .i64 k/\Hid (I3 wr o (bY h k))) (λ_ i _=>3-(intOf i).toNat)
    case atStart=>exact⟨Db.out,0,by omega,rfl,H0.out⟩
    case round=>
     obtain⟨hb,k,hk,rfl,HI⟩:=hrel;by_cases hlt:k<3
     ·obtain⟨Ao,co,rfl,_⟩:=HI.out.slice;have TA:=HIL.out (k:Int);have hd3:decide ((k:Int)<=2)=true:=jw (by omega);have HIK:=aa (HIN.out _ hb k hlt);have HB:=aa hb;clear hb;go_wp2_with fail
      refine HIK.out.mono ?_;rintro e w4 ⟨v4,rfl,r4,b4⟩;have HO4:=aa (Nc _ v4 (aW h (k:Int)) w4 rfl TA (ou.dS r4));obtain⟨A4,c4,rfl,_⟩:=id r4.cell.1;clear r4;go_wp2_with fail
      refine HO4.out.mono ?_;rintro e w5 ⟨v5,rfl,hr1,-,hr3⟩;have hpl:=oG (aW h (k:Int));have Qc:∀p∈perms (aW h (k:Int)),p.length<=6:=λp hp=>by rw[(pY hp).length_eq];exact TA
      have HGN:=aa (λj bg (hbg:(bY h k)[j]? =some bg)=>wm (k:=k) hbg);obtain⟨ps,hps⟩:∃ps,perms (aW h (k:Int))=ps:=⟨_,rfl⟩;rw[hps]at hr1 hpl Qc HGN;obtain⟨Ap,cp,rfl,_⟩:=Ls.slice hr1;have HPS:=aa hr1;have Ju:=aa hpl;have abW:=aa Qc;have HI5:=aa (HI.out.ext (T':=107) (Ls.stays (fT (by decide)) (by decide)) (b4.trans hr3));have BA:=aa (HB.out.trans (b4.trans hr3));have hsz5:w5.heap.size=w5.heap.size:=rfl;clear hps hr1 hpl Qc hr3 b4 HI hsz5;have HN:Hid (Bs 101 I2 w5.heap.size (w5.alloc (.cells #[] 101)) (.slice (some ⟨w5.heap.size,0,none⟩) 0 0) (iI h k 0)):=by
       show Bs _ _ _ _ _ _
       have:=Bs.nil (T:=101) (P:=I2) w5
       simpa[iI] using this
      go_wp2;go_loopw [9,10] (λo i wr=>Ext w5 wr/\∃j:Nat,j<=(bY h k).length/\i=.int .i64 j/\Hid (Bs 101 I2 w5.heap.size wr o (iI h k j))) (λ_ i _=>(bY h k).length-(intOf i).toNat)
      case atStart=>exact⟨(af _).alloc _,0,by omega,rfl,HN.out⟩
      case round=>
       obtain⟨hb2,j,hj,rfl,HJ⟩:=hrel;by_cases hjt:j<(bY h k).length
       ·obtain⟨b2,off2,rfl,abQ,hc2⟩:=HI5.out.cells (by omega);obtain⟨bg,hbg⟩:=ah hjt;obtain⟨ub,hub,hPb⟩:=hc2 j bg hbg;obtain⟨Ab,cb,rfl,_⟩:=Ls.slice hPb;have JX:=aa hPb;have hbl:=nD (aM hbg);have adN:bg.length<=2:=by omega
        have HBL:=aa (sS (aM hbg));have aeo:=aa (HGN.out j bg hbg);have XA:=aa (λi hi=>Iq (i:=i) hlt HM.out hjt hi);have HUB:=aa hub;have hji:decide ((j:Int)<((bY h k).length:Int))=true:=jw (by omega);have HJ2:Hid (∀o,Bs 101 I2 w5.heap.size wr o (iI h k j)->Bs 101 I2 w5.heap.size wr o (iI h k j++grownBy (ps.take 0) bg)):=λo ho=>by rw[show grownBy (ps.take 0) bg=[] by simp[grownBy],jh];exact ho
        have HJ3:=aa (HJ2.out _ HJ.out);have HB2:=aa hb2;clear hc2 hPb hbg hbl hub HJ2 HJ hb2;go_wp2;go_loopw [9,11] (λo i wr=>Ext w5 wr/\∃i':Nat,i'<=ps.length/\i=.int .i64 i'/\Hid (Bs 101 I2 w5.heap.size wr o (iI h k j++grownBy (ps.take i') bg))) (λ_ i _=>ps.length-(intOf i).toNat)
        case atStart=>exact⟨HB2.out,0,by omega,rfl,HJ3.out⟩
        case round=>
         obtain⟨hb3,i,hi,rfl,HK⟩:=hrel;by_cases hit:i<ps.length
         ·obtain⟨p,hp⟩:=ah hit;obtain⟨bp,XY,rfl,agf,hcp⟩:=Ls.cells HPS.out (by omega);obtain⟨up,hup,hPp⟩:=hcp i p hp;obtain⟨Aq,cq,rfl,hq1,hq2⟩:=ou.slice hPp;have hp6:=abW.out p (aM hp);have HPP:=aa hPp;have YY:=aa (Cr (b:=bg) hp);have hK:=HK.out;obtain⟨cur,kJ⟩:∃cur,cur=iI h k j++grownBy (ps.take i) bg:=⟨_,rfl⟩;rw[<-kJ]at hK;have hnl:cur.length<=200:=by
           have:=XA.out i (by have:=Ju.out;omega)
           rw[kJ,dw,grownBy,dX,eY];omega
          obtain⟨An,cn,rfl,_⟩:=hK.slice;have HCU:=aa kJ;have HKC:=aa hK;have HX0:Hid (∀V,Ext w5 V->V.cell? ⟨b2,off2+j,none⟩=some (.slice Ab bg.length cb)/\V.cell? ⟨bp,XY+i,none⟩=some (.slice Aq p.length cq)):=λV bb=>⟨bb.cell HUB.out,bb.cell hup⟩;have HOWN:Hid (∀V,Ext wr V->Calls Tryz.prog 114 #[.slice Ab bg.length cb] V λe w'=>∃v',e=.returned v'/\Bs 56 (I1o V.heap.size) V.heap.size w' v' bg/\Ext V w'):=λV bb=>
           CQ V (JX.out.ext (T':=101) (fT (by decide)) (hb3.trans bb)) (by omega) (λx hx=>by have:=HBL.out x hx;omega)
          have jR:Hid (∀(V:World) (cv:Value) (q:Nat),Jq wr.heap.size q V cv bg->Row 3 1 (one encI) wr.heap.size V (.slice (some ⟨q,0,none⟩) 0 0) ([]:List Int)->Ext wr V ->
           ∃D1 n1 c1 V1 D2 n2 c2 V2 D3 n3 c3 V3,(Builtin.append_ #[56,56] 56 #[.slice (some ⟨q,0,none⟩) 0 0,.slice Aq p.length cq]).run Tryz.prog V=.ok (.slice D1 n1 c1) V1 /\
            (Builtin.append_ #[101,101] 101 #[cv,.slice (some ⟨V1.heap.size,0,none⟩) 1 1]).run Tryz.prog (V1.alloc (.cells #[.slice D1 n1 c1] 56))=.ok (.slice D2 n2 c2) V2 /\
            (Builtin.append_ #[107,107] 107 #[.slice An cur.length cn,.slice (some ⟨V2.heap.size,0,none⟩) 1 1]).run Tryz.prog (V2.alloc (.cells #[.slice D2 n2 c2] 101))=.ok (.slice D3 n3 c3) V3 /\
            Ext wr V1/\Ext wr V2/\Ext w5 V3/\Bs 101 I2 w5.heap.size V3 (.slice D3 n3 c3) (iI h k j++grownBy (ps.take (i+1)) bg)):=λV cv q hcopy vQ hx=>by
           have hq:∃cs fr,V.heap[q]? =some (.cells cs 3 fr):=by
            rcases vQ.2 with ⟨e,_⟩|⟨g,cap,curr,e,_,hg,_⟩
            ·cases e
            ·injection e with e _ _;injection e with e;injection e with e;subst e;exact⟨_,_,hg⟩
           obtain⟨v1,V1,mX,jO,hg1⟩:=lX (P:=Tryz.prog) (t:=56) (ty:=56) (e:=3) Mm dx rfl (by omega) vQ ((HPP.out.ext (hb3.trans hx)).1.XQ) (λx _ j=>rfl) (by simp;omega) (by omega) hx.size;have x1:Ext wr V1:=Ext.grown hx hg1 (λk hk=>vQ.block k hk);have hc1:=hcopy.grown hq hg1;have hu1:I1 V1 v1 p:=by have:=ou.dS jO;rwa [List.nil_append]at this
           obtain⟨D1,m1,d1,rfl⟩:=jL jO;obtain⟨v2,V2,mG,hB2,hE2,_⟩:=Dr V1.heap.size rfl hc1 (af V1) hu1 x1.size (by omega);have x2:Ext wr V2:=hE2 wr x1 (av _);obtain⟨D2,d2,rfl,_⟩:=hB2.slice;obtain⟨v3,V3,Jz,hB3,NK,_⟩:=TD V2.heap.size rfl HKC.out x2 hB2.done hb3.size (by omega);obtain⟨D3,d3,rfl,_⟩:=hB3.slice;exact⟨D1,m1,d1,V1,D2,_,d2,V2,D3,_,d3,V3,mX,mG,Jz,x1,x2,NK w5 hb3 (av _),by rw[YY.out,<-jM,<-HCU.out];exact hB3⟩
          clear hcp hPp hp hK kJ HK hup;go_wp2;refine wp_region_held_drew (S:=λV:World=>V.cell? ⟨b2,off2+j,none⟩=some (.slice Ab bg.length cb)/\V.cell? ⟨bp,XY+i,none⟩=some (.slice Aq p.length cq)) (by kernel_rfl) (HX0.out _ (hb3.trans (af _)).drew) (λhHeld=>?_);simp only[List.size_toArray,eO,iJ,ig,Nat.reduceAdd];refine fG 0 (.slice An cur.length cn) rfl (iK ⟨by kernel_rfl,λV ⟨s1,s2⟩=>by go_simp⟩) hHeld ?_;try go_frame
          refine fG 1 (.slice (some ⟨b2,off2,none⟩) (bY h k).length co) rfl (iK ⟨by kernel_rfl,λV ⟨s1,s2⟩=>by go_simp⟩) hHeld ?_;try go_frame
          refine fG 2 (.int .i64 (j:Int)) rfl (iK ⟨by kernel_rfl,λV ⟨s1,s2⟩=>by go_simp⟩) hHeld ?_;try go_frame
          refine fG 3 (.pointer (some ⟨b2,off2+j,none⟩)) rfl (iK ⟨by kernel_rfl,λV ⟨s1,s2⟩=>by go_simp⟩) hHeld ?_;try go_frame
          refine fG 4 (.slice Ab bg.length cb) rfl (iK ⟨by kernel_rfl,λV ⟨s1,s2⟩=>by go_simp⟩) hHeld ?_;try go_frame
          refine fG 7 (.slice (some ⟨bp,XY,none⟩) ps.length cp) rfl (iK ⟨by kernel_rfl,λV ⟨s1,s2⟩=>by go_simp⟩) hHeld ?_;try go_frame
          refine fG 8 (.int .i64 (i:Int)) rfl (iK ⟨by kernel_rfl,λV ⟨s1,s2⟩=>by go_simp⟩) hHeld ?_;try go_frame
          refine fG 9 (.pointer (some ⟨bp,XY+i,none⟩)) rfl (iK ⟨by kernel_rfl,λV ⟨s1,s2⟩=>by go_simp⟩) hHeld ?_;try go_frame
          refine fG 10 (.slice Aq p.length cq) rfl (iK ⟨by kernel_rfl,λV ⟨s1,s2⟩=>by go_simp⟩) hHeld ?_;try go_frame
          refine aO (rs:=[5,6]) (by kernel_rfl) (by simp) ?_;refine aY rfl (λK hK=>?_) (aY rfl (λK hK=>?_) bu)
          ·go_simp
           refine(HOWN.out _ ((af wr).drew)).mono ?_
           rintro e V2 ⟨v2,rfl,hcp,b2'⟩;obtain⟨us,hu1,hu2,hu3⟩:=hcp;obtain⟨Av,nv,cv,rfl⟩:=jL hu1;refine hK.out _ _ (HX0.out _ (hb3.trans ((af wr).drew.trans b2'))) (λhHeld=>?_);clear hK K;try go_frame
           refine aO (rs:=[6]) (by kernel_rfl) (by simp) ?_;refine aY rfl (λK hK=>?_) bu;go_simp;refine hK.out _ _ (HX0.out _ (hb3.trans (((af wr).drew.trans b2').alloc _))) (λhHeld=>?_);clear hK K;try go_frame
           have hE9:Ext V2 (V2.alloc (.cells #[] 3)):=(af _).alloc _;have hcopy:Jq wr.heap.size V2.heap.size (V2.alloc (.cells #[] 3)) (.slice Av nv cv) bg:=⟨us,Row.ext (hu1.low (by first|exact av _|simp)) hE9,hu2,λi u x h1 h2=>⟨ou.ext (hu3 i u x h1 h2).1 hE9,λa n c e hn=>by obtain⟨cs,fr,hg⟩:=(hu3 i u x h1 h2).1.2.1 a n c e hn;have:=(fF.1 hg).1;omega⟩⟩;have vQ:Row 3 1 (one encI) wr.heap.size (V2.alloc (.cells #[] 3)) (.slice (some ⟨V2.heap.size,0,none⟩) 0 0) ([]:List Int):=dD.low ((af wr).drew.trans b2').size;have hx:=((af wr).drew.trans b2').alloc (.cells #[] 3);obtain⟨D1,n1,c1,V1,D2,n2,c2,V2,D3,n3,c3,V3,hr1,hr2,hr3,x1,x2,x3,hbs⟩:=jR.out _ _ _ hcopy vQ hx;have HR1:=aa hr1;have HR2:=aa hr2;have HR3:=aa hr3;have NJ:=aa x1;have sV:=aa x2;have Oj:=aa x3;have Gt:=aa hbs;clear hcopy vQ hx hr1 hr2 hr3 x1 x2 x3 hbs;refine aO (rs:=[11]) (by kernel_rfl) (by simp) ?_;refine aY rfl (λK hK=>?_) bu;refine aP (by rfl) (by rfl) (by rfl) (by rfl) HR1.out ?_;refine hK.out _ _ (HX0.out _ (hb3.trans (NJ.out))) (λhHeld=>?_);clear hK K;try go_frame
           refine aO (rs:=[12]) (by kernel_rfl) (by simp) ?_;refine aY rfl (λK hK=>?_) bu;go_simp;refine hK.out _ _ (HX0.out _ (hb3.trans (NJ.out.alloc _))) (λhHeld=>?_);clear hK K;try go_frame
           refine aO (rs:=[13]) (by kernel_rfl) (by simp) ?_;refine aY rfl (λK hK=>?_) bu;refine aP (by rfl) (by rfl) (by rfl) (by rfl) HR2.out ?_;refine hK.out _ _ (HX0.out _ (hb3.trans (sV.out))) (λhHeld=>?_);clear hK K;try go_frame
           refine aO (rs:=[14]) (by kernel_rfl) (by simp) ?_;refine aY rfl (λK hK=>?_) bu;go_simp;refine hK.out _ _ (HX0.out _ (hb3.trans (sV.out.alloc _))) (λhHeld=>?_);clear hK K;try go_frame
           refine aO (rs:=[15]) (by kernel_rfl) (by simp) ?_;refine aY rfl (λK hK=>?_) bu;refine aP (by rfl) (by rfl) (by rfl) (by rfl) HR3.out ?_;refine hK.out _ _ (HX0.out _ (Oj.out)) (λhHeld=>?_);clear hK K;try go_frame
           refine aO (rs:=[16]) (by kernel_rfl) (by simp) ?_;refine aY rfl (λK hK=>?_) bu;go_simp;refine hK.out _ _ (HX0.out _ (Oj.out)) (λhHeld=>?_);clear hK K;try go_frame
           refine ji (by kernel_rfl) ?_ _;clear hHeld;go_wp2;go_roundw;case rel=>exact⟨Oj.out,i+1,by omega,by go_num,Gt.out⟩
           case measure=>simp[intOf];omega
          ·go_simp;refine hK.out _ _ (HX0.out _ (hb3.trans ((af wr).drew.alloc _))) (λhHeld=>?_);clear hK K;try go_frame
           refine aO (rs:=[5]) (by kernel_rfl) (by simp) ?_;refine aY rfl (λK hK=>?_) bu;go_simp
           refine(HOWN.out _ ((af wr).drew.alloc (.cells #[] 3))).mono ?_
           rintro e V2 ⟨v2,rfl,hcp,b2'⟩;obtain⟨us,hu1,hu2,hu3⟩:=hcp;obtain⟨Av,nv,cv,rfl⟩:=jL hu1;refine hK.out _ _ (HX0.out _ (hb3.trans (((af wr).drew.alloc (.cells #[] 3)).trans b2'))) (λhHeld=>?_);clear hK K;try go_frame
           have hcopy:Jq wr.heap.size wr.heap.size V2 (.slice Av nv cv) bg:=⟨us,hu1.low (by first|exact av _|simp),hu2,λi u x h1 h2=>⟨(hu3 i u x h1 h2).1,λa n c e hn=>by have:=(hu3 i u x h1 h2).2 a n c e hn;simp at this;omega⟩⟩;have vQ:Row 3 1 (one encI) wr.heap.size V2 (.slice (some ⟨wr.heap.size,0,none⟩) 0 0) ([]:List Int):=Row.ext (dD (w:=wr.drew)) b2';have hx:=((af wr).drew.alloc (.cells #[] 3)).trans b2';obtain⟨D1,n1,c1,V1,D2,n2,c2,V2,D3,n3,c3,V3,hr1,hr2,hr3,x1,x2,x3,hbs⟩:=jR.out _ _ _ hcopy vQ hx;have HR1:=aa hr1;have HR2:=aa hr2;have HR3:=aa hr3;have NJ:=aa x1;have sV:=aa x2;have Oj:=aa x3;have Gt:=aa hbs;clear hcopy vQ hx hr1 hr2 hr3 x1 x2 x3 hbs;refine aO (rs:=[11]) (by kernel_rfl) (by simp) ?_;refine aY rfl (λK hK=>?_) bu;refine aP (by rfl) (by rfl) (by rfl) (by rfl) HR1.out ?_;refine hK.out _ _ (HX0.out _ (hb3.trans (NJ.out))) (λhHeld=>?_);clear hK K;try go_frame
           refine aO (rs:=[12]) (by kernel_rfl) (by simp) ?_;refine aY rfl (λK hK=>?_) bu;go_simp;refine hK.out _ _ (HX0.out _ (hb3.trans (NJ.out.alloc _))) (λhHeld=>?_);clear hK K;try go_frame
           refine aO (rs:=[13]) (by kernel_rfl) (by simp) ?_;refine aY rfl (λK hK=>?_) bu;refine aP (by rfl) (by rfl) (by rfl) (by rfl) HR2.out ?_;refine hK.out _ _ (HX0.out _ (hb3.trans (sV.out))) (λhHeld=>?_);clear hK K;try go_frame
           refine aO (rs:=[14]) (by kernel_rfl) (by simp) ?_;refine aY rfl (λK hK=>?_) bu;go_simp;refine hK.out _ _ (HX0.out _ (hb3.trans (sV.out.alloc _))) (λhHeld=>?_);clear hK K;try go_frame
           refine aO (rs:=[15]) (by kernel_rfl) (by simp) ?_;refine aY rfl (λK hK=>?_) bu;refine aP (by rfl) (by rfl) (by rfl) (by rfl) HR3.out ?_;refine hK.out _ _ (HX0.out _ (Oj.out)) (λhHeld=>?_);clear hK K;try go_frame
           refine aO (rs:=[16]) (by kernel_rfl) (by simp) ?_;refine aY rfl (λK hK=>?_) bu;go_simp;refine hK.out _ _ (HX0.out _ (Oj.out)) (λhHeld=>?_);clear hK K;try go_frame
           refine ji (by kernel_rfl) ?_ _;clear hHeld;go_wp2;go_roundw;case rel=>exact⟨Oj.out,i+1,by omega,by go_num,Gt.out⟩
           case measure=>simp[intOf];omega
         ·obtain rfl:i=ps.length:=by omega
          have hk:=HK.out;rw[bM,<-aeo.out]at hk;have HK':=aa hk;clear HK hk;go_wp2;go_roundw;case rel=>exact⟨hb3,j+1,by omega,by go_num,HK'.out⟩
          case measure=>simp[intOf];omega
       ·obtain rfl:j=(bY h k).length:=by omega
        have hd:=HJ.out.done;rw[Ev]at hd;have HD:=aa hd;clear HJ hd;go_wp2;go_roundw;case rel=>exact⟨BA.out.trans hb2,k+1,by omega,by go_num,HD.out⟩
        case measure=>simp[intOf];omega
     ·obtain rfl:k=3:=by omega
      obtain⟨Ao,co,rfl,_⟩:=HI.out.slice;go_wp2;go_returns;exact⟨_,rfl,by rw[HR.out];exact HI.out,HB2.out.trans hb⟩
   ·have HR:Hid (gJ h=[]):=au λhc=>hm hc.2;have hmi:(200:Int)<((jB h:Nat):Int):=by omega
    obtain⟨m,hm2⟩:∃m,jB h=m:=⟨_,rfl⟩;rw[hm2]at hmi ⊢;clear hm2 hm hq;go_wp2;go_returns;exact⟨_,rfl,by rw[HR.out];exact(Bs.nil (T:=101) (P:=I2) wr).done,(HB2.out.trans hb).alloc _⟩
theorem Hu{h:List aG}{ds:List Edge}{l:Nat}(ha:gP h ds (l+1)=false):levelFrom h ds (l+1)=levelFrom h ds l:=yt ha
theorem Ym{ds:List Edge}{many:Nat}(hm:many<=6)(hok:∀e∈ds,edgeOk many e){e:Edge}(he:edgeOk many e)(hk:e.kind=3){fn tn:Nat}(hfn:e.fH=(fn:Int))(htn:e.to=(tn:Int)){f:List Int}(hF:wV (iV ds 2) (fn:Int) many many f){d:Int}(hd:f[tn]? =some d):nW ds e=decide (0<=d):=by
 have hfl:=xE (k:=2) hok;have hlt:fn<many:=by have:=he.1.2;omega
 have h1:=XH hF hlt hfl hd;have h2:=Yu (es:=ds) hm hfl he;rw[(vS hok).2.1]at h1 h2;rw[<-hfn,<-htn]at h1;unfold nW;rw[hk,kQ,dh,h2,rU,h1];simp
theorem Hf{v:Value}{ds:List Edge}(many:Nat)(kind:Int)(w:World)(hm:many<=6)(h:aL 3 aZ w v ds)(hl:ds.length<=144)(hok:∀e∈ds,edgeOk many e)(hk:1<=kind/\kind<=4) :
 Calls Tryz.prog 156 #[.int .i64 (many:Int),v,.int .i64 kind] w λe w'=>e=.returned (.bool (fP ds kind))/\Ext w w':=by
 obtain⟨A,c,rfl,hc⟩:=id h;have HC:=aa hc;have HV:=aa (λW (b:Ext w W)=>wR many W hm (h.ext b) hl hok);have hkk:kind=1∨kind=2∨kind=4∨kind=3:=by omega
 clear hc hk;rcases hkk with rfl|rfl|rfl|rfl
 ·obtain⟨hA,HE⟩:fP ds 1=Dl (iV ds 1)/\(∀e∈iV ds 1,edgeOk many e):=⟨by rw[(vS hok).1];simp[fP],xE hok⟩;have Kn:(iV ds 1).length<=144:=aX (mO _ _) hl;have HU:=aa (λW (b:Ext w W)=>tJ 1 W (h.ext b) (by omega));have HCY:=aa (λW v (hh:aL 3 aZ W v (iV ds 1))=>xu many W hm hh Kn HE);rw[hA];clear h hok hA HE Kn;go_enter Tryz.func156,Tryz.ntmps156;go_wp2_with fail
  refine(HV.out _ (af _)).mono ?_
  rintro e w1 ⟨rfl,b1⟩;go_wp2_with fail
  refine(HU.out _ b1).mono ?_
  rintro e w2 ⟨v2,rfl,r2,b2⟩;have WC:=aa (HCY.out w2 _ r2.cell.1);obtain⟨A2,c2,rfl,_⟩:=id r2.cell.1;clear r2;go_wp2_with fail
  refine WC.out.mono ?_;rintro e w3 ⟨A3,n3,c3,rfl,KE,aaU,b3⟩
  cases hcy:Dl (iV ds 1) with
  | true=>
    have hn:(0:Int)<(n3:Int):=by have:=KE.2 hcy;omega
    have HD:Hid (decide (0<n3)=Dl (iV ds 1)):=by show _ = _;rw[hcy];simp;omega
    clear KE hcy;go_wp2;go_returns;exact⟨aS HD.out,(b1.trans b2).trans b3⟩
  | false=>
    have hn:¬((0:Int)<(n3:Int)):=λe=>by have:=KE.1 (by omega);rw[hcy]at this;cases this
    have HD:Hid (decide (0<n3)=Dl (iV ds 1)):=by show _ = _;rw[hcy];simp;omega
    clear KE hcy;go_wp2;go_returns;exact⟨aS HD.out,(b1.trans b2).trans b3⟩
 ·obtain⟨hA,HE⟩:fP ds 2=Dl (iV ds 2)/\(∀e∈iV ds 2,edgeOk many e):=⟨by rw[(vS hok).2.1];simp[fP],xE hok⟩;have Kn:(iV ds 2).length<=144:=aX (mO _ _) hl;have HU:=aa (λW (b:Ext w W)=>tJ 2 W (h.ext b) (by omega));have HCY:=aa (λW v (hh:aL 3 aZ W v (iV ds 2))=>xu many W hm hh Kn HE);rw[hA];clear h hok hA HE Kn;go_enter Tryz.func156,Tryz.ntmps156;go_wp2_with fail
  refine(HV.out _ (af _)).mono ?_
  rintro e w1 ⟨rfl,b1⟩;go_wp2_with fail
  refine(HU.out _ b1).mono ?_
  rintro e w2 ⟨v2,rfl,r2,b2⟩;have WC:=aa (HCY.out w2 _ r2.cell.1);obtain⟨A2,c2,rfl,_⟩:=id r2.cell.1;clear r2;go_wp2_with fail
  refine WC.out.mono ?_;rintro e w3 ⟨A3,n3,c3,rfl,KE,aaU,b3⟩
  cases hcy:Dl (iV ds 2) with
  | true=>
    have hn:(0:Int)<(n3:Int):=by have:=KE.2 hcy;omega
    have HD:Hid (decide (0<n3)=Dl (iV ds 2)):=by show _ = _;rw[hcy];simp;omega
    clear KE hcy;go_wp2;go_returns;exact⟨aS HD.out,(b1.trans b2).trans b3⟩
  | false=>
    have hn:¬((0:Int)<(n3:Int)):=λe=>by have:=KE.1 (by omega);rw[hcy]at this;cases this
    have HD:Hid (decide (0<n3)=Dl (iV ds 2)):=by show _ = _;rw[hcy];simp;omega
    clear KE hcy;go_wp2;go_returns;exact⟨aS HD.out,(b1.trans b2).trans b3⟩
 ·obtain⟨hA,HE⟩:fP ds 4=Dl (iV ds 3)/\(∀e∈iV ds 3,edgeOk many e):=⟨by rw[(vS hok).2.2];simp[fP],xE hok⟩;have Kn:(iV ds 3).length<=144:=aX (mO _ _) hl;have HU:=aa (λW (b:Ext w W)=>tJ 3 W (h.ext b) (by omega));have HCY:=aa (λW v (hh:aL 3 aZ W v (iV ds 3))=>xu many W hm hh Kn HE);rw[hA];clear h hok hA HE Kn;go_enter Tryz.func156,Tryz.ntmps156;go_wp2_with fail
  refine(HV.out _ (af _)).mono ?_
  rintro e w1 ⟨rfl,b1⟩;go_wp2_with fail
  refine(HU.out _ b1).mono ?_
  rintro e w2 ⟨v2,rfl,r2,b2⟩;have WC:=aa (HCY.out w2 _ r2.cell.1);obtain⟨A2,c2,rfl,_⟩:=id r2.cell.1;clear r2;go_wp2_with fail
  refine WC.out.mono ?_;rintro e w3 ⟨A3,n3,c3,rfl,KE,aaU,b3⟩
  cases hcy:Dl (iV ds 3) with
  | true=>
    have hn:(0:Int)<(n3:Int):=by have:=KE.2 hcy;omega
    have HD:Hid (decide (0<n3)=Dl (iV ds 3)):=by show _ = _;rw[hcy];simp;omega
    clear KE hcy;go_wp2;go_returns;exact⟨aS HD.out,(b1.trans b2).trans b3⟩
  | false=>
    have hn:¬((0:Int)<(n3:Int)):=λe=>by have:=KE.1 (by omega);rw[hcy]at this;cases this
    have HD:Hid (decide (0<n3)=Dl (iV ds 3)):=by show _ = _;rw[hcy];simp;omega
    clear KE hcy;go_wp2;go_returns;exact⟨aS HD.out,(b1.trans b2).trans b3⟩
 ·have hA:fP ds 3=ds.any (nW ds):=by simp[fP]
  have HA:=aa hA;have fu:=aa hok;have HE:=aa (xE (k:=2) hok);have Kn:(iV ds 2).length<=144:=aX (mO _ _) hl;have HU:=aa (λW (b:Ext w W)=>tJ 2 W (h.ext b) (by omega));have Zr:=aa (λW v (hh:aL 3 aZ W v (iV ds 2)) (t:Nat) (ht:t<many)=>KI many t W hm ht hh (by omega) HE.out);clear h hok hA;go_enter Tryz.func156,Tryz.ntmps156;go_wp2_with fail
  refine(HV.out _ (af _)).mono ?_
  rintro e w1 ⟨rfl,b1⟩;go_wp2_with fail
  refine(HU.out _ b1).mono ?_
  rintro e w2 ⟨v2,rfl,r2,b2⟩;obtain⟨A2,c2,rfl,_⟩:=id r2.cell.1;have HF:=aa (λW (b:Ext w2 W)=>Zr.out W _ (r2.cell.1.ext b));have HB2:=aa (b1.trans b2);clear r2 b1 b2;go_wp2;go_loopw [8] (λi wr=>Ext w2 wr/\∃k:Nat,k<=ds.length/\i=.int .i64 (k:Int)/\Hid (∀(i:Nat) x,i<k->ds[i]? =some x->nW ds x=false)) (λi _=>ds.length-(intOf i).toNat)
  case atStart=>exact⟨af _,0,aT _,rfl,λi x hi=>absurd hi (gu _)⟩
  case round=>
   obtain⟨hv,k,hk,rfl,HI⟩:=hrel;by_cases hlt:k<ds.length
   ·obtain⟨b,off,rfl,hbl,hcc⟩:=HC.out (by omega);obtain⟨y,hy⟩:=ah hlt;have hoe:=fu.out y (aM hy);have hx:=HB2.out.trans hv;have d0:=hx.cell (hcc k y hy 0 (by omega));have d1:=hx.cell (hcc k y hy 1 (by omega));have d2:=hx.cell (hcc k y hy 2 (by omega));simp only[aZ,fE]at d0 d1 d2;obtain⟨fn,hfn⟩:=dZ hoe.1.1;obtain⟨tn,htn⟩:=dZ hoe.2.1.1;have hfm:fn<many:=by have:=hoe.1.2;omega
    have htm:tn<many:=by have:=hoe.2.1.2;omega
    have HY:=aa hy;have HEM:=aa (aM hy);have HFN:=aa hfn;have HTN:=aa htn;have HEO:=aa hoe;rw[show (y.fH:Int)=(fn:Int) from hfn]at d0;rw[show (y.to:Int)=(tn:Int) from htn]at d1;have i1:(k:Int)<(ds.length:Int):=by omega
    have i2:(0:Int)<=(k:Int):=by omega
    have i3:(0:Int)<=(tn:Int):=by omega
    have i4:(tn:Int)<(many:Int):=by omega
    clear hcc hy hoe hfn htn hx;by_cases hk3:y.kind=3
    ·have HK3:=aa hk3;rw[hk3]at d2;clear hk3;go_wp2;refine wp_region_held_drew (S:=(λV:World=>V.cell? ⟨b,off+k*3,none⟩=some (.int .i64 (fn:Int))/\V.cell? ⟨b,off+k*3+1,none⟩=some (.int .i64 (tn:Int))/\V.cell? ⟨b,off+k*3+2,none⟩=some (.int .i64 3))) (by kernel_rfl) ⟨d0,d1,d2⟩ (λhHeld=>?_);simp only[List.size_toArray,eO,iJ,ig,Nat.reduceAdd];refine fG 0 (.slice (some ⟨b,off,none⟩) ds.length c) rfl (iK ⟨by kernel_rfl,λV ⟨s1,s2,s3⟩=>by go_simp⟩) hHeld ?_;try go_frame
     refine fG 1 (.int .i64 (k:Int)) rfl (iK ⟨by kernel_rfl,λV ⟨s1,s2,s3⟩=>by go_simp⟩) hHeld ?_;try go_frame
     refine fG 2 (.pointer (some ⟨b,off+k*3,none⟩)) rfl (iK ⟨by kernel_rfl,λV ⟨s1,s2,s3⟩=>by go_simp⟩) hHeld ?_;try go_frame
     refine fG 3 (.pointer (some ⟨b,off+k*3+2,none⟩)) rfl (iK ⟨by kernel_rfl,λV ⟨s1,s2,s3⟩=>by go_simp⟩) hHeld ?_;try go_frame
     refine fG 4 (.int .i64 3) rfl (iK ⟨by kernel_rfl,λV ⟨s1,s2,s3⟩=>by go_simp⟩) hHeld ?_;try go_frame
     refine fG 5 (.bool true) rfl (iK ⟨by kernel_rfl,λV ⟨s1,s2,s3⟩=>by go_simp⟩) hHeld ?_;try go_frame
     refine fG 6 (.bool true) rfl (iK ⟨by kernel_rfl,λV ⟨s1,s2,s3⟩=>by go_simp⟩) hHeld ?_;try go_frame
     refine fG 7 (.int .i64 (many:Int)) rfl (iK ⟨by kernel_rfl,λV ⟨s1,s2,s3⟩=>by go_simp⟩) hHeld ?_;try go_frame
     refine fG 8 (.slice A2 (iV ds 2).length c2) rfl (iK ⟨by kernel_rfl,λV ⟨s1,s2,s3⟩=>by go_simp⟩) hHeld ?_;try go_frame
     refine fG 9 (.slice (some ⟨b,off,none⟩) ds.length c) rfl (iK ⟨by kernel_rfl,λV ⟨s1,s2,s3⟩=>by go_simp⟩) hHeld ?_;try go_frame
     refine fG 10 (.int .i64 (k:Int)) rfl (iK ⟨by kernel_rfl,λV ⟨s1,s2,s3⟩=>by go_simp⟩) hHeld ?_;try go_frame
     refine fG 11 (.pointer (some ⟨b,off+k*3,none⟩)) rfl (iK ⟨by kernel_rfl,λV ⟨s1,s2,s3⟩=>by go_simp⟩) hHeld ?_;try go_frame
     refine fG 12 (.pointer (some ⟨b,off+k*3,none⟩)) rfl (iK ⟨by kernel_rfl,λV ⟨s1,s2,s3⟩=>by go_simp⟩) hHeld ?_;try go_frame
     refine fG 13 (.int .i64 (fn:Int)) rfl (iK ⟨by kernel_rfl,λV ⟨s1,s2,s3⟩=>by go_simp⟩) hHeld ?_;try go_frame
     refine fG 15 (.slice (some ⟨b,off,none⟩) ds.length c) rfl (iK ⟨by kernel_rfl,λV ⟨s1,s2,s3⟩=>by go_simp⟩) hHeld ?_;try go_frame
     refine fG 16 (.int .i64 (k:Int)) rfl (iK ⟨by kernel_rfl,λV ⟨s1,s2,s3⟩=>by go_simp⟩) hHeld ?_;try go_frame
     refine fG 17 (.pointer (some ⟨b,off+k*3,none⟩)) rfl (iK ⟨by kernel_rfl,λV ⟨s1,s2,s3⟩=>by go_simp⟩) hHeld ?_;try go_frame
     refine fG 18 (.pointer (some ⟨b,off+k*3+1,none⟩)) rfl (iK ⟨by kernel_rfl,λV ⟨s1,s2,s3⟩=>by go_simp⟩) hHeld ?_;try go_frame
     refine fG 19 (.int .i64 (tn:Int)) rfl (iK ⟨by kernel_rfl,λV ⟨s1,s2,s3⟩=>by go_simp⟩) hHeld ?_;try go_frame
     refine aO (rs:=[14]) (by kernel_rfl) (by simp) ?_;refine aY rfl (λK hK=>?_) bu;go_simp
     refine(HF.out _ hv.drew fn hfm).mono ?_
     rintro e w6 ⟨g,cg,f,rfl,hI,Wm,-,b6⟩;have d0:=b6.cell d0;have d1:=b6.cell d1;have d2:=b6.cell d2;obtain⟨dt,hdt⟩:=ah (show tn<f.length by rw[Wm.len];exact htm);have dI:w6.cell? ⟨g,tn,none⟩=some (.int .i64 dt):=by have:=hI.at_ tn dt hdt;rwa [ig]at this
     have sZ:=aa (Ym hm fu.out HEO.out HK3.out HFN.out HTN.out Wm hdt);have Y5:=aa (hv.drew.trans b6);clear hI Wm hdt b6;refine hK.out _ _ ⟨d0,d1,d2⟩ (λhHeld=>?_);clear hK K;try go_frame
     refine fG 20 (.pointer (some ⟨g,tn,none⟩)) rfl (iK ⟨by kernel_rfl,λV ⟨s1,s2,s3⟩=>by go_simp⟩) hHeld ?_;try go_frame
     refine aO (rs:=[21]) (by kernel_rfl) (by simp) ?_;refine aY rfl (λK hK=>?_) bu;go_simp;refine hK.out _ _ ⟨d0,d1,d2⟩ (λhHeld=>?_);clear hK K;try go_frame
     by_cases hd0:0<=dt
     ·have HR:Hid (fP ds 3=true):=by show _ = _;rw[HA.out,jF];exact⟨_,HEM.out,by rw[sZ.out,jw hd0]⟩
      refine fG 22 (.bool true) rfl (iK ⟨by kernel_rfl,λV ⟨s1,s2,s3⟩=>by go_simp⟩) hHeld ?_;try go_frame
      refine fG 23 (.bool true) rfl (iK ⟨by kernel_rfl,λV ⟨s1,s2,s3⟩=>by go_simp⟩) hHeld ?_;try go_frame
      refine ji (by kernel_rfl) ?_ _;clear hHeld d0 d1 d2 dI;go_wp2;go_returns;exact⟨aS HR.out.symm,HB2.out.trans Y5.out⟩
     ·have HN:Hid (nW ds y=false):=by show _ = _;rw[sZ.out,dU hd0]
      refine fG 22 (.bool false) rfl (iK ⟨by kernel_rfl,λV ⟨s1,s2,s3⟩=>by go_simp⟩) hHeld ?_;try go_frame
      refine fG 23 (.bool false) rfl (iK ⟨by kernel_rfl,λV ⟨s1,s2,s3⟩=>by go_simp⟩) hHeld ?_;try go_frame
      refine ji (by kernel_rfl) ?_ _;clear hHeld d0 d1 d2 dI;go_wp2;go_roundw;case rel=>exact⟨Y5.out,k+1,by omega,by go_num,λi x hi hx=>by
       rcases eP i k with h'|h'
       ·exact HI.out i x h' hx
       ·obtain rfl:i=k:=by omega
        rw[HY.out]at hx;cases hx;exact HN.out⟩
      case measure=>simp[intOf];omega
    ·have HN:Hid (nW ds y=false):=by show _ = _;simp[nW,hk3]
     have q1:(y.kind==3)=false:=by simp[hk3]
     have e0:∀e,(over wr e).cell? ⟨b,off+k*3,none⟩=some (.int .i64 (fn:Int)):=aK d0;have e1:∀e,(over wr e).cell? ⟨b,off+k*3+1,none⟩=some (.int .i64 (tn:Int)):=aK d1;have e2:∀e,(over wr e).cell? ⟨b,off+k*3+2,none⟩=some (.int .i64 y.kind):=aK d2;clear hk3;go_wp2;refine aU (by kernel_rfl) (by kernel_rfl) ?_;repeat (go_big_quiet_step (fail))
     refine j5 ?_;intro w3 hb3;clear e0 e1 e2 d0 d1 d2;go_wp2;go_roundw;case rel=>exact⟨hv.trans hb3,k+1,by omega,by go_num,λi x hi hx=>by
      rcases eP i k with h'|h'
      ·exact HI.out i x h' hx
      ·obtain rfl:i=k:=by omega
       rw[HY.out]at hx;cases hx;exact HN.out⟩
     case measure=>simp[intOf];omega
   ·obtain rfl:k=ds.length:=by omega
    have HR:Hid (fP ds 3=false):=by
     show _ = _;rw[HA.out,List.any_eq_false];intro x hx;obtain⟨i,hi,rfl⟩:=jq hx;rw[HI.out i _ hi (dJ hi)]
     decide
    go_wp2;go_returns;exact⟨aS HR.out.symm,HB2.out.trans hv⟩
theorem Dq{v u:Value}{h:List aG}{os:List (List Int)}(l:Nat)(w:World)(H:iM w v h)(hok:aD h=true)(hu:I2 w u os)(ho:lu h os)(hl:l<=4) :
 Calls Tryz.prog 115 #[v,u,.int .i64 (l:Int)] w λe w'=>e=.returned (.bool (gP h (dN h os) l))/\Ext w w':=by
 obtain⟨A,c,rfl⟩:=H.slice;have hlen:=aR hok;have hst:=fT (T:=101) (by decide);have sZ:=aa (λW (b:Ext w W)=>uX W (H.ext b) hok (hu.ext hst b) ho);have HED:=aa (λW (b:Ext w W)=>Ma W (H.ext b) hok (hu.ext hst b) ho);have HRR:=aa (λW (b:Ext w W)=>Fp W (H.ext b) hok);have b0:lH (l:Int) 0 4=true:=cK.2 (by omega);obtain⟨r,hr⟩:∃r,gP h (dN h os) l=r:=⟨_,rfl⟩;rw[hr];clear H hu ho;go_enter Tryz.func115,Tryz.ntmps115;go_wp2_with fail
 refine(sZ.out _ (af _)).mono ?_
 rintro e w1 ⟨rfl,b1⟩;go_wp2_with (first|(go_at_call 68;refine(fQ _ _ _ _).mono ?_;rw[b0];rintro e w' ⟨rfl,rfl⟩)|fail)
 refine(HED.out _ b1).mono ?_
 rintro e w2 ⟨v2,ds,rfl,r2,hmem,hdl,b2⟩;have hed:∀e∈ds,edgeOk h.length e:=λe he=>xD ((hmem e).1 he);have HS:Hid (r=gP h ds l):=hr.symm.trans (CL hmem l).symm;have HA:=aa (λW (b:Ext w2 W) k hk=>Hf h.length k W hlen (r2.cell.1.ext b) hdl hed hk);obtain⟨A2,c2,rfl,_⟩:=id r2.cell.1;have HB2:=aa (b1.trans b2);clear r2 hmem hed b1 b2 hr;go_wp2;go_loopw [8] (λi wr=>Ext w2 wr/\∃k:Nat,k<=l/\i=.int .i64 ((k:Int)+1)/\Hid (oL ds k=false)) (λi _=>l+1-(intOf i).toNat)
 case atStart=>exact⟨af _,0,aT _,rfl,rfl⟩
 case round=>
  obtain⟨hv,k,hk,rfl,HI⟩:=hrel;by_cases hlt:k<l
  ·have hki:(k:Int)+1<=(l:Int):=by omega
   have HAK:=aa (HA.out _ hv ((k:Int)+1) (by omega));have HN:=aa (xC ds k)
   cases ha:fP ds ((k:Int)+1) with
   | true=>
     rw[ha]at HAK HN;have HF:Hid (gP h ds l=false):=by
      show _ = _;have h1:oL ds (k+1)=true:=by rw[HN.out,Bool.or_true]
      rw[gP,Lv (by omega) h1];rfl
     clear ha;go_wp2_with fail
     refine HAK.out.mono ?_;rintro e w3 ⟨rfl,b3⟩;go_wp2;go_returns;exact⟨aS (HS.out.trans HF.out).symm,(HB2.out.trans hv).trans b3⟩
   | false=>
     rw[ha]at HAK HN;have HF:Hid (oL ds (k+1)=false):=by show _ = _;rw[HN.out,HI.out];rfl
     clear ha;go_wp2_with fail
     refine HAK.out.mono ?_;rintro e w3 ⟨rfl,b3⟩;go_wp2;go_roundw;case rel=>exact⟨hv.trans b3,k+1,by omega,by go_num,HF.out⟩
     case measure=>simp[intOf];omega
  ·obtain rfl:k=l:=by omega
   have hki:¬((k:Int)+1<=(k:Int)):=by omega
   by_cases h2:k<2
   ·have HF:Hid (gP h ds k=true):=by show _ = _;rw[gP,HI.out,jw h2];rfl
    have h2i:(k:Int)<2:=by omega
    clear h2;go_wp2;go_returns;exact⟨aS (HS.out.trans HF.out).symm,HB2.out.trans hv⟩
   ·have HF:Hid (gP h ds k=jc h):=by show _ = _;rw[gP,HI.out,dU h2];simp
    have h2i:¬((k:Int)<2):=by omega
    clear h2;go_wp2_with fail
    refine(HRR.out _ (HB2.out.trans hv)).mono ?_
    rintro e w3 ⟨rfl,b3⟩;go_wp2;go_returns;exact⟨aS (HS.out.trans HF.out).symm,(HB2.out.trans hv).trans b3⟩
theorem Nn{v u:Value}{h:List aG}{os:List (List Int)}(w:World)(H:iM w v h)(hok:aD h=true)(hu:I2 w u os)(ho:lu h os) :
 Calls Tryz.prog 76 #[v,u] w λe w'=>e=.returned (.int .i64 ((kZ h (dN h os):Nat):Int))/\Ext w w':=by
 obtain⟨A,c,rfl⟩:=H.slice;have hst:=fT (T:=101) (by decide);have HLA:=aa (λW (b:Ext w W) l hl=>Dq l W (H.ext b) hok (hu.ext hst b) ho hl);obtain⟨ds,hds⟩:∃ds,dN h os=ds:=⟨_,rfl⟩;rw[hds]at HLA ⊢;have HLR:Hid (kZ h ds=levelFrom h ds 4):=rfl;clear H hu ho hds;go_enter Tryz.func76,Tryz.ntmps76;go_wp2;go_loopw [5] (λi wr=>Ext w wr/\∃m:Nat,m<=4/\i=.int .i64 (m:Int)/\Hid (kZ h ds=levelFrom h ds m)) (λi _=>(intOf i).toNat)
 case atStart=>exact⟨af _,4,by omega,rfl,HLR.out⟩
 case round=>
  obtain⟨hv,m,hm,rfl,HI⟩:=hrel;have HC:=aa (HLA.out _ hv m hm);have hm0:(0:Int)<=(m:Int):=by omega
  cases ha:gP h ds m with
  | true=>
    rw[ha]at HC;have HF:Hid (kZ h ds=m):=HI.out.trans (zW ha);clear ha;go_wp2_with fail
    refine HC.out.mono ?_;rintro e w3 ⟨rfl,b3⟩;go_wp2;go_returns;exact⟨bU (by rw[HF.out]),hv.trans b3⟩
  | false=>
    rw[ha]at HC;obtain⟨m',rfl⟩:∃m',m=m'+1:=by
     cases m with
     | zero=>rw[Cx]at ha;cases ha
     | succ m'=>exact⟨m',rfl⟩
    have HF:Hid (kZ h ds=levelFrom h ds m'):=HI.out.trans (Hu ha);have hwm:IntKind.i64.wrap ((((m'+1:Nat):Int))-1)=(m':Int):=by rw[show (((m'+1:Nat):Int))-1=(m':Int) by omega];exact dL _ (by omega)
    clear ha;go_wp2_with fail
    refine HC.out.mono ?_;rintro e w3 ⟨rfl,b3⟩;go_wp2;go_roundw;case rel=>exact⟨hv.trans b3,m',by omega,by go_num,HF.out⟩
    case measure=>simp[intOf]
theorem Hl{v:Value}{h:List aG}(w:World)(H:iM w v h)(hok:aD h=true) :
 Calls Tryz.prog 32 #[v] w λe w'=>e=.returned (.int .i64 (tH h))/\Ext w w':=by
 obtain⟨A,c,rfl⟩:=H.slice;have HAO:=aa (JA w H hok);have HLO:=aa (λW (b:Ext w W) u os (hu:I2 W u os) (ho:lu h os)=>Nn W (H.ext b) hok hu ho);have fu:=aa (λos (hm:os∈gJ h)=>Bt hm);have hl:=zH h;have HBR:Hid (tH h=mJ h (gJ h) (gJ h).length):=rfl;clear H hok;obtain⟨al,hal⟩:∃al,gJ h=al:=⟨_,rfl⟩;rw[hal]at HAO fu hl HBR;clear hal;have afP:uC 107 I2:=Ls.stays (fT (by decide)) (by decide);obtain⟨xb,hxb⟩:∃xb,tH h=xb:=⟨_,rfl⟩;rw[hxb]at HBR ⊢;clear hxb;go_enter Tryz.func32,Tryz.ntmps32;go_wp2_with fail
 refine HAO.out.mono ?_;rintro e w1 ⟨v1,rfl,h1,b1⟩;obtain⟨A1,c1,rfl,_⟩:=Ls.slice h1;have H1:=aa h1;have HB1:=aa b1;clear h1 b1;go_wp2;go_loopw [3,5] (λo i wr=>Ext w1 wr/\∃k:Nat,k<=al.length/\i=.int .i64 (k:Int)/\o=.int .i64 (mJ h al k)) (λ_ i _=>al.length-(intOf i).toNat)
 case atStart=>exact⟨af _,0,aT _,rfl,rfl⟩
 case round=>
  obtain⟨hv,k,hk,rfl,rfl⟩:=hrel;by_cases hlt:k<al.length
  ·obtain⟨os,hos⟩:=ah hlt;obtain⟨b,off,rfl,_,hc⟩:=Ls.cells (H1.out.ext afP hv) (by omega);obtain⟨u,hu,hP⟩:=hc k os hos;obtain⟨Au,cu,rfl,_⟩:=Ls.slice hP;have HL:=aa (HLO.out _ (HB1.out.trans hv) _ os hP (fu.out os (aM hos)));have HN:=aa (Ej (h:=h) hos);have hbi:=KM h al k;have hlr:=yN h (dN h os);obtain⟨m,hm⟩:∃m,kZ h (dN h os)=m:=⟨_,rfl⟩;obtain⟨x,hx⟩:∃x,mJ h al k=x:=⟨_,rfl⟩;rw[hm]at HL HN hlr;rw[hx]at HN hbi ⊢;clear hc hP hos hm hx;go_wp2_with fail
   refine HL.out.mono ?_;rintro e w3 ⟨rfl,b3⟩;go_wp2;go_roundw;case rel=>exact⟨hv.trans b3,k+1,by omega,by go_num,by rw[HN.out]⟩
   case measure=>simp[intOf];omega
  ·obtain rfl:k=al.length:=by omega
   rw[<-HBR.out];go_wp2;go_returns;exact⟨rfl,HB1.out.trans hv⟩
