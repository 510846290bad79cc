/- Lemmas. -/
import Derived.Test.YtomkjlklninhpaaGreatDoorKBM
import Derived.Test.YtomkjlklninhpaaGreatDoorKBN
set_option maxHeartbeats 16000000
set_option maxRecDepth 8000
set_option linter.all false
namespace Go.Proofs.YtomkjlklninhpaaGreatDoor
open Go.RowKit
section
def acu{α:Type}(m:Nat)(enc:α->Nat->Value)(w:World)(xs:List α)(e:Ending)(w':World):Prop:=
 ∃v,e=.returned v/\aF m enc w' v xs/\Own w.heap.size w' v/\Ext w w'
section
variable{α:Type}{m:Nat}{enc:α->Nat->Value}{g N k j:Nat}{xs:List α}{w w':World}{x:α}
end
end
section
theorem gL.nil(w:World)(A:Option Addr)(c:Nat):gL w (.slice A 0 c) []:=⟨[],rfl,aF.nil _ _ _ _ _,fun _ _ _ h=>by simp at h⟩
end
section
def Ir:Nat->Nat->List UInt8->List UInt8
 | 0,_,acc=>acc
 | f+1,k,acc=>if k=0 then acc else Ir f (k/10) (UInt8.ofNat (48+k%10) :: acc)
def qQ(k:Nat):List UInt8:=if k=0 then [109,48] else 109 :: Ir k k []
def qi(k n:Nat):List (List UInt8):=(List.range n).map fun i=>qQ (k+i)
theorem Uk{k n i:Nat}{x:List UInt8}(h:(qi k n)[i]? =some x):x=qQ (k+i):=by
 unfold qi at h;rw[List.getElem?_map]at h;obtain⟨j,hj,rfl⟩:=Option.map_eq_some_iff.1 h
 have:=(List.getElem?_eq_some_iff.1 hj).2
 simp at this;rw[this]
def Js(ls:List (List UInt8)):Nat:=(ls.map List.length).sum
theorem WT{h:List (List UInt8)}{i:Nat}{t:List UInt8}(e:h[i]? =some t):Js (h.take (i+1))=Js (h.take i)+t.length:=by unfold Js;rw[ah e];simp
theorem Mo:∀(h:List (List UInt8)) (i:Nat),Js (h.take i)<=Js h
 | [],_=>by simp
 | _ :: _,0=>by simp[Js]
 | x :: h,i+1=>by
   have:=Mo h i
   simp only[Js,List.take_succ_cons,List.map_cons,List.sum_cons]at this ⊢;omega
theorem Rx:∀{h:List (List UInt8)} {t:List UInt8},t∈h->t.length<=Js h
 | x :: h,t,e=>by
   rcases List.mem_cons.1 e with rfl|e
   ·simp[Js]
   ·have:=Rx e
    simp only[Js,List.map_cons,List.sum_cons]at this ⊢;omega
end
section
open Go.RowKit Go.ChangeShapes Go.WideShapes Go.Deep
section
variable{H:Type}{enc:TypeId × Value->H}{P:Program}{w:World}{base:Nat}{spare:Nat->Bool}{held:Bool}
end
theorem Ux{H:Type}{enc:TypeId × Value->H}{W:World}{a:Option Addr}{n c:Nat}{d:DataW H}{p:List MemPlace}(h:DataW.Trod enc Tryz.prog W 0 (fun _=>true) true 31 (.slice a n c) d p) :
 ∃ls:List (List UInt8),aF 1 encS W (.slice a n c) ls/\ls.length<=9223372036854775807/\∀t∈ls,t.length<=9223372036854775807:=by
 obtain⟨fuel,hf⟩:=h;rcases open_strings Tryz.underlying31 Tryz.underlying9 (by kernel_rfl) hf with ⟨hcs,_⟩|⟨x,l,cp,ss,hcs,_,hl,hm,hz,_,hcell,hws⟩
 ·simp[Value.cells]at hcs;obtain⟨rfl,rfl,rfl⟩:=hcs;exact⟨[],aF.nil _ _ _ _ _,by simp,fun x hx=>by cases hx⟩
 ·simp[Value.cells]at hcs;obtain⟨rfl,rfl,rfl⟩:=hcs;simp only[if_true]at hz;obtain⟨xs,hlen,hs,hp⟩:=GH (α:=List UInt8) (m:=1) (enc:=encS) (W:=W) (a:=x) (len:=n) c (fun t=>t.length<=9223372036854775807) (by omega) (fun i hin=>by
   have hc:=hcell i (by omega);refine⟨(ss.getD i ByteArray.empty).data.toList,?_,fun j hj=>?_⟩
   ·have hmem:ss.getD i ByteArray.empty∈ss:=by rw[List.getD_eq_getElem?_getD,List.getElem?_eq_getElem (by omega)];exact List.getElem_mem _
    have:=hws _ hmem
    simp only[maxLen]at this;rw[Array.length_toList];exact this
   ·obtain rfl:j=0:=by omega
    rw[Nat.mul_one,Nat.add_zero,hc]
    rfl)
  exact⟨xs,hs,by simp only[maxLen]at hm;omega,hp⟩
end
section
noncomputable def jK (h:List aA) (ls:List (List UInt8)):List aA × List (List UInt8):=ls.foldl (fun x l=>((fZ x.1 l).1,x.2++[(fZ x.1 l).2])) (h,[])
theorem wE{h:List aA}{ls:List (List UInt8)}{k:Nat}{l:List UInt8}(hl:ls[k]? =some l):jK h (ls.take (k+1))=((fZ (jK h (ls.take k)).1 l).1,(jK h (ls.take k)).2++[(fZ (jK h (ls.take k)).1 l).2]):=by unfold jK;rw[ah hl,List.foldl_append];rfl
theorem wU{h:List aA}(hok:aC h=true)(ls:List (List UInt8)):∀k,k<=ls.length->aC (jK h (ls.take k)).1=true/\(jK h (ls.take k)).2.length=k
 | 0,_=>⟨hok,rfl⟩
 | k+1,hk=>by obtain⟨l,hl⟩:=af (show k<ls.length by omega);obtain⟨h1,h2⟩:=wU hok ls k (by omega);rw[wE hl];exact⟨Fw h1 l,by simp[h2]⟩
end
section
theorem jJ.frX{X:Nat->Prop}{w w':World}{v:Value}{h:List aA}(H:jJ X w v h)(k:bH X w w'):jJ X w' v h:=by obtain⟨rs,⟨h1,h2,h3⟩,h4,h5⟩:=H;exact⟨rs,⟨h1,h2.frX k h4,fun i r t hr ht=>⟨(h3 i r t hr ht).1,(h3 i r t hr ht).2.1,(h3 i r t hr ht).2.2.1.frX k (h5 i r hr),(h3 i r t hr ht).2.2.2⟩⟩,h4,h5⟩
theorem jJ.mono{X Y:Nat->Prop}{w:World}{v:Value}{h:List aA}(H:jJ X w v h)(hY:∀q,Y q->X q):jJ Y w v h:=
 let ⟨rs,H,a,b⟩:=H;⟨rs,H,fun p n c hv hn hy=>a p n c hv hn (hY _ hy),fun i r hr p n c hv hn hy=>b i r hr p n c hv hn (hY _ hy)⟩
theorem NL{α:Type}{m:Nat}{enc:α->Nat->Value}{w:World}{v:Value}{xs:List α}(h:aF m enc w v xs){a:Addr}{n c:Nat}(hv:v=.slice (some a) n c)(hn:0<n):a.block<w.heap.size:=by obtain⟨A,c',e,hc⟩:=h;rw[hv]at e;injection e with e1 e2 _;obtain⟨b,off,e3,hlt,_⟩:=hc (by omega);rw[e3]at e1;injection e1 with e1;rw[e1];exact hlt
theorem jJ.more{X:Nat->Prop}{w:World}{v:Value}{h:List aA}(H:jJ X w v h):jJ (fun q=>X q∨w.heap.size<=q) w v h:=by
 obtain⟨rs,H,a,b⟩:=H;refine⟨rs,H,fun p n c hv hn hx=>?_,fun i r hr p n c hv hn hx=>?_⟩
 ·rcases hx with hx|hx
  ·exact a p n c hv hn hx
  ·have:=NL H.2.1 hv hn
   omega
 ·rcases hx with hx|hx
  ·exact b i r hr p n c hv hn hx
  ·obtain⟨t,ht⟩:∃t,h[i]? =some t:=⟨_,List.getElem?_eq_getElem (by rw[<-H.1];exact(List.getElem?_eq_some_iff.1 hr).1)⟩
   have:=NL (H.2.2 i r t hr ht).2.2.1 hv hn
   omega
end
section
noncomputable def kJ (h:List aA) (ls:List (List UInt8)):List aA × List (List UInt8):=if aC h=true/\ls.length<=20 then jK h ls else ([],[])
theorem LG{v u:Value}{h:List aA}{ls:List (List UInt8)}(w:World)(H:gL w v h)(hlen:h.length<=2097152)(hM:∀t∈h,t.ops.length<=2097152)(hE:Env w)(U:aF 1 encS w u ls)(BJ:ls.length<=2097152)(hl:∀s∈ls,s.length<=1048576) :
 Calls Tryz.prog 15 #[v,u] w fun e w'=>∃v' rs u' mid,e=.returned (.tuple #[v',u'])/\jI w' v' rs (kJ h ls).1/\iZ mid w' v' rs/\w.heap.size<=mid/\Row 9 1 encS w.heap.size w' u' (kJ h ls).2/\(∀q,u'.ownBlock=some q->q<mid)/\Ext w w':=by
 obtain⟨A,c,rfl⟩:=H.slice;obtain⟨Au,cu,rfl,hcu⟩:=id U;have HV:=aa (bN w H hlen hM);have HH:=aa H;have HE:=aa hE;have HU:=aa U;by_cases hgo:aC h=true/\ls.length<=20
 ·obtain⟨hok,h20⟩:=hgo;rw[hok]at HV;have HD:Hid (kJ h ls=jK h ls):=if_pos ⟨hok,h20⟩;have HL:=aa (fun(X:Nat->Prop) g s W (b:Ext w W) v (hX:∀q,X q->q<W.heap.size) (hg:aC g=true) (H:jJ X W v g) (hs:s.length<=1048576)=>Nr s W hX H hg (hE.ext b) hs);have HK:=aa (fun k (hk:k<=ls.length)=>wU hok ls k hk);have HLL:=aa hl;have aeB:(ls.length:Int)<=20:=by omega
  have hmr:=gY (P:=Tryz.prog) 31 9 Tryz.underlying31 gK ls.length (by omega) (by omega);clear H hlen hM hE hok U BJ hl hcu;go_enter Tryz.func15,Tryz.ntmps15;go_wp2_with (go_at_call 34;refine HV.out.mono ?_;rintro e w1 ⟨rfl,b1⟩)
  clear hmr;go_loopw [0,6,24] (fun hv a i wr=>Ext w1 wr/\∃k:Nat,k<=ls.length/\i=.int .i64 (k:Int)/\Hid (jJ (fun q=>a.ownBlock=some q) wr hv (jK h (ls.take k)).1/\Row 9 1 encS w1.heap.size wr a (jK h (ls.take k)).2)) (fun _ _ i _=>ls.length-(intOf i).toNat)
  case atStart=>
   refine⟨(Ext.refl _).alloc _,0,Nat.zero_le _,rfl,?_⟩;show _/\_;rw[List.take_zero];refine⟨?_,jN _ ls.length (by unfold maxLen;omega) (by rw[size_madeCells,Nat.mul_one])⟩;obtain⟨rs0,h0⟩:=HH.out.ext b1;have h1:jJ (fun _=>False) w1 (.slice A h.length c) h:=⟨rs0,h0,fun _ _ _ _ _ h=>h,fun _ _ _ _ _ _ _ _ h=>h⟩
   exact(h1.more.ext ((Ext.refl _).alloc _)).mono (fun q hq=>.inr (by simp[Value.ownBlock]at hq;omega))
  case round=>
   obtain⟨hb,k,hk,rfl,HI⟩:=hrel;obtain⟨g,hg⟩:∃g,(jK h (ls.take k)).1=g:=⟨_,rfl⟩;obtain⟨an,has⟩:∃g,(jK h (ls.take k)).2=g:=⟨_,rfl⟩;have hkk:=HK.out k hk;rw[hg,has]at hkk HI;obtain⟨Ag,cg,rfl⟩:=HI.out.1.slice;obtain⟨Aa,ca,rfl,_⟩:=id HI.out.2.cell.1;by_cases hlt:k<ls.length
   ·obtain⟨s,hs⟩:=af hlt;obtain⟨_,_,e,hc⟩:=(HU.out.ext b1).ext hb;cases e;obtain⟨b,off,rfl,hbl,hc⟩:=hc (by omega);have c0:=hc k s hs 0 (by omega);simp only[Nat.mul_one,Nat.add_zero,encS]at c0;obtain⟨zs,hzs⟩:∃z,tx s=z:=⟨_,rfl⟩;have HC:=aa (HL.out (fun q=>(Value.slice Aa an.length ca).ownBlock=some q) g s wr (b1.trans hb) _ (fun q hq=>(iU HI.out.2 hq).2) hkk.1 HI.out.1 (HLL.out s (List.mem_of_getElem? hs)));have HN:=aa (wE (h:=h) hs);rw[hg,has]at HN;rw[hzs]at c0 HC;have hle:w1.heap.size<=wr.heap.size:=hb.size;have hal:an.length<=20:=by omega
    clear hc hs hzs hkk hg has;go_wp2_with fail
    refine HC.out.mono ?_;rintro e w2 ⟨v2,rfl,h2,b2⟩;obtain⟨zo,RG⟩:∃z,tx (fZ g s).2=z:=⟨_,rfl⟩;have hrow2:=Row.ext HI.out.2 b2;obtain⟨v',w3,hrun,hp⟩:=iP w2.heap.size rfl Tryz.underlying31 gK rfl (by omega) hrow2 (Ext.refl _) (fZ g s).2 (fun j=>rfl) #[.string zo] (by rw[<-RG];rfl) (Nat.le_trans hle b2.size) (by omega) (by omega);rw[RG];have kf:=iR hrow2 hp (hb.trans b2) (Nat.le_refl _);have HI3:Hid (jJ (fun q=>v'.ownBlock=some q) w3 v2 (fZ g s).1):=by
     refine(jJ.frX h2.more (kf.wide (fun q hq=>.inl hq))).mono (fun q hq=>?_)
     rcases hp.2.2.2 with e|⟨k',e,hk'⟩
     ·exact .inl (e▸hq)
     ·rw[e]at hq;cases hq;exact .inr hk'
    obtain⟨A7,c7,rfl,_⟩:=id hp.1.cell.1;rw[show (an++[(fZ g s).2]).length=an.length+1 by simp]at hp hrun HI3;obtain⟨A2,c2,rfl⟩:=h2.slice;have aU:=aa hrun;have HP:=aa hp;have HB2:=aa b2;clear hrun h2 RG hp kf hrow2;go_wp2_with (at_builtin;refine wpList_append_run rfl rfl rfl rfl aU.out ?_)
    go_roundw;case rel=>
     refine⟨HP.out.2.1 _ (hb.trans HB2.out) (Nat.le_refl _),k+1,by omega,by go_num,?_⟩;rw[HN.out];exact⟨HI3.out,HP.out.1⟩
    case measure=>simp[intOf];omega
   ·obtain rfl:k=ls.length:=by omega
    rw[List.take_length]at hg has;have HD2:Hid (jK h ls=(g,an)):=by show _ = _;rw[<-hg,<-has]
    have HC:=aa (oI wr HI.out.1.his (by have:=aM hkk.1;omega) (aD hkk.1));have HB:=aa (b1.trans hb);have HR:=aa HI.out.2;clear hkk hg has HI;go_wp2_with fail
    refine HC.out.mono ?_;rintro e w3 ⟨v3,rs,rfl,h3,o3,b4⟩;go_wp2;go_returns;rw[HD.out,HD2.out];exact⟨v3,rs,_,wr.heap.size,rfl,h3,o3,HB.out.size,(Row.ext HR.out b4).low b1.size,fun q hq=>(iU HR.out hq).2,HB.out.trans b4⟩
 ·have HD:Hid (kJ h ls=([],[])):=if_neg hgo;have hnil:∀W,Ext w W->∃v' rs u' mid,Ending.returned (.tuple #[.slice none 0 0,.slice none 0 0])=.returned (.tuple #[v',u'])/\jI W v' rs (kJ h ls).1/\iZ mid W v' rs/\w.heap.size<=mid/\Row 9 1 encS w.heap.size W u' (kJ h ls).2/\(∀q,u'.ownBlock=some q->q<mid)/\Ext w W:=fun W b=>by rw[HD.out];exact⟨.slice none 0 0,[],.slice none 0 0,w.heap.size,rfl,⟨rfl,aF.nil _ _ _ _ _,fun i r t hr=>by simp at hr⟩,⟨Own.nil _ _ _ _,fun i r hr=>by simp at hr,fun i j r r' _ hr=>by simp at hr⟩,Nat.le_refl _,Row.nil,fun q hq=>(by cases hq),b⟩
  have Wd:=aa hnil
  cases hok:aC h with
  | false=>
    rw[hok]at HV;clear H hlen hM hE hok U BJ hl hcu hgo hnil;go_enter Tryz.func15,Tryz.ntmps15;go_wp2_with (go_at_call 34;refine HV.out.mono ?_;rintro e w1 ⟨rfl,b1⟩)
    go_returns;exact Wd.out _ b1
  | true=>
    rw[hok]at HV;have h20:(20:Int)<(ls.length:Int):=by
     have:¬ls.length<=20:=fun e=>hgo ⟨hok,e⟩
     omega
    clear H hlen hM hE hok U BJ hl hcu hgo hnil;go_enter Tryz.func15,Tryz.ntmps15;go_wp2_with (go_at_call 34;refine HV.out.mono ?_;rintro e w1 ⟨rfl,b1⟩)
    go_returns;exact Wd.out _ b1
end
section
theorem Ky{v u:Value}{h:List aA}{ls:List (List UInt8)}(w:World)(H:gL w v h)(hlen:h.length<=2097152)(hM:∀t∈h,t.ops.length<=2097152)(U:aF 1 encS w u ls)(BJ:ls.length<=2097152)(hl:∀s∈ls,s.length<=1048576) :
 Calls Tryz.prog 13 #[v,u] w fun e w'=>∃v' u',e=.returned (.tuple #[v',u'])/\gL w' v' (kJ h ls).1/\aF 1 encS w' u' (kJ h ls).2/\Ext w w':=by
 obtain⟨A,c,rfl⟩:=H.slice;obtain⟨Au,cu,rfl,hcu⟩:=id U;have HV:=aa (fun W (b:Ext w W)=>bu W (H.ext b) hlen hM);have HU:=aa U;by_cases hgo:aC h=true/\ls.length<=20
 ·obtain⟨hok,h20⟩:=hgo;rw[hok]at HV;have HC:=aa (fun W (b:Ext w W)=>Dx W (H.ext b) hlen hM);have HD:Hid (kJ h ls=jK h ls):=if_pos ⟨hok,h20⟩;have HL:=aa (fun(X:Nat->Prop) g s W v (hX:∀q,X q->q<W.heap.size) (hg:aC g=true) (H:gL W v g) (hs:s.length<=1048576)=>xW s W hX H (by have:=aM hg;omega) (aD hg) hs);have UI:Hid (∀g s,aC g=true->iQ g s=fZ g s):=fun g s e=>if_pos e;have HK:=aa (fun k (hk:k<=ls.length)=>wU hok ls k hk);have HLL:=aa hl;have aeB:(ls.length:Int)<=20:=by omega
  have hR0:Row 9 1 encS w.heap.size (w.alloc (.cells #[] 9)) (.slice (some ⟨w.heap.size,0,none⟩) 0 0) ([]:List (List UInt8)):=bT;have xw:=aa hR0;clear H hlen hM hok U BJ hl hcu hR0;go_enter Tryz.func13,Tryz.ntmps13;go_wp2_with (first|(go_at_call 20;refine(HV.out _ ((Ext.refl _).alloc _)).mono ?_;rintro e w1 ⟨rfl,b1⟩)|fail)
  have KO:=aa (((Ext.refl w).alloc (.cells #[] 9)).trans b1);have HR1:=aa (Row.ext xw.out b1);clear b1 xw HV
  refine(HC.out w1 KO.out).mono ?_
  rintro e w2 ⟨v2,rs2,rfl,hB2,b2⟩;have Xc:Hid (jJ (fun q=>(Value.slice (some ⟨w.heap.size,0,none⟩) 0 0).ownBlock=some q) w2 v2 h):=jG hB2 (fun q hq=>by
   have:=(iU HR1.out hq).2
   omega)
  have HE2:=aa (KO.out.trans b2);have HR2:=aa (Row.ext HR1.out b2);obtain⟨A2,c2,rfl⟩:=yl hB2;clear hB2 b2 HC;go_wp2;go_loopw [6,7,8] (fun a hv i wr=>Ext w wr/\∃k:Nat,k<=ls.length/\i=.int .i64 (k:Int)/\Hid (jJ (fun q=>a.ownBlock=some q) wr hv (jK h (ls.take k)).1/\Row 9 1 encS w.heap.size wr a (jK h (ls.take k)).2)) (fun _ _ i _=>ls.length-(intOf i).toNat)
  case atStart=>
   refine⟨HE2.out,0,Nat.zero_le _,rfl,?_⟩;show _/\_;rw[List.take_zero];exact⟨Xc.out,HR2.out⟩
  case round=>
   obtain⟨hb,k,hk,rfl,HI⟩:=hrel;obtain⟨g,hg⟩:∃g,(jK h (ls.take k)).1=g:=⟨_,rfl⟩;obtain⟨an,has⟩:∃g,(jK h (ls.take k)).2=g:=⟨_,rfl⟩;have hkk:=HK.out k hk;rw[hg,has]at hkk HI;obtain⟨Ag,cg,rfl⟩:=HI.out.1.slice;obtain⟨Aa,ca,rfl,_⟩:=id HI.out.2.cell.1;by_cases hlt:k<ls.length
   ·obtain⟨s,hs⟩:=af hlt;obtain⟨_,_,e,hc⟩:=HU.out.ext hb;cases e;obtain⟨b,off,rfl,hbl,hc⟩:=hc (by omega);have c0:=hc k s hs 0 (by omega);simp only[Nat.mul_one,Nat.add_zero,encS]at c0;obtain⟨zs,hzs⟩:∃z,tx s=z:=⟨_,rfl⟩;have HC:=aa (HL.out (fun q=>(Value.slice Aa an.length ca).ownBlock=some q) g s wr _ (fun q hq=>(iU HI.out.2 hq).2) hkk.1 HI.out.1.his (HLL.out s (List.mem_of_getElem? hs)));rw[UI.out g s hkk.1]at HC;have HN:=aa (wE (h:=h) hs);rw[hg,has]at HN;rw[hzs]at c0 HC;have hal:an.length<=20:=by omega
    clear hc hs hzs hkk hg has;go_wp2_with fail
    refine HC.out.mono ?_;rintro e w3 ⟨v3,rfl,h3,b3⟩;obtain⟨zo,RG⟩:∃z,tx (fZ g s).2=z:=⟨_,rfl⟩;have hrow3:=Row.ext HI.out.2 b3;have UO:=hb.trans b3;obtain⟨v4,w4,hrun,hp⟩:=iP w3.heap.size rfl Tryz.underlying31 gK rfl (by omega) hrow3 (Ext.refl _) (fZ g s).2 (fun j=>rfl) #[.string zo] (by rw[<-RG];rfl) UO.size (by omega) (by omega);rw[RG];have kf:=iR hrow3 hp UO (Nat.le_refl _);have HI3:Hid (jJ (fun q=>v4.ownBlock=some q) w4 v3 (fZ g s).1):=by
     refine(jJ.frX h3.more (kf.wide (fun q hq=>.inl hq))).mono (fun q hq=>?_)
     rcases hp.2.2.2 with e|⟨k',e,hk'⟩
     ·exact .inl (e▸hq)
     ·rw[e]at hq;cases hq;exact .inr hk'
    obtain⟨A7,c7,rfl,_⟩:=id hp.1.cell.1;rw[show (an++[(fZ g s).2]).length=an.length+1 by simp]at hp hrun HI3;obtain⟨A3,c3,rfl⟩:=h3.slice;have aU:=aa hrun;have HP:=aa hp;have HB2:=aa UO;clear hrun h3 RG hp kf hrow3 UO b3 hb HI;go_wp2_with (at_builtin;refine wpList_append_run rfl rfl rfl rfl aU.out ?_)
    go_roundw;case rel=>
     refine⟨HP.out.2.1 _ HB2.out (Nat.le_refl _),k+1,by omega,by go_num,?_⟩;rw[HN.out];exact⟨HI3.out,HP.out.1⟩
    case measure=>simp[intOf];omega
   ·obtain rfl:k=ls.length:=by omega
    rw[List.take_length]at hg has;have HD2:Hid (jK h ls=(g,an)):=by show _ = _;rw[<-hg,<-has]
    have HI2:=aa HI.out;have HB2:=aa hb;clear hkk hg has HI hb;go_wp2;go_returns;rw[HD.out,HD2.out];exact⟨_,_,rfl,HI2.out.1.his,HI2.out.2.cell.1,HB2.out⟩
 ·have HD:Hid (kJ h ls=([],[])):=if_neg hgo;have Wd:Hid (∀W (A1 A2:Option Addr),Ext w W->∃v' u',Ending.returned (.tuple #[.slice A1 0 0,.slice A2 0 0])=.returned (.tuple #[v',u'])/\gL W v' (kJ h ls).1/\aF 1 encS W u' (kJ h ls).2/\Ext w W):=fun W A1 A2 b=>by rw[HD.out];exact⟨_,_,rfl,gL.nil _ _ _,aF.nil _ _ _ _ _,b⟩
  cases hok:aC h with
  | false=>
    rw[hok]at HV;clear H hlen hM hok U BJ hl hcu hgo;go_enter Tryz.func13,Tryz.ntmps13;go_wp2_with (go_at_call 20;refine(HV.out _ ((Ext.refl _).alloc _)).mono ?_;rintro e w1 ⟨rfl,b1⟩)
    go_returns;exact Wd.out _ _ _ ((((Ext.refl w).alloc _).trans b1).alloc _)
  | true=>
    rw[hok]at HV;have h20:(20:Int)<(ls.length:Int):=by
     have:¬ls.length<=20:=fun e=>hgo ⟨hok,e⟩
     omega
    clear H hlen hM hok U BJ hl hcu hgo;go_enter Tryz.func13,Tryz.ntmps13;go_wp2_with (go_at_call 20;refine(HV.out _ ((Ext.refl _).alloc _)).mono ?_;rintro e w1 ⟨rfl,b1⟩)
    go_returns;exact Wd.out _ _ _ ((((Ext.refl w).alloc _).trans b1).alloc _)
end
section
theorem wO{lo:Nat}{X:Nat->Prop}{w w':World}{v:Value}{rs:List iX}{h:List aA}(H:jI w v rs h)(O:iZ lo w v rs)(k:bH X w w')(hX:∀q,X q->q<lo):jI w' v rs h/\iZ lo w' v rs:=by
 have nv:∀{u:Value},Own lo w u->∀a n c,u=.slice (some a) n c->0<n->¬X a.block:=fun o a n c e hn hx=>by have:=(o a n c e hn).1;have:=hX _ hx;omega
 refine⟨⟨H.1,H.2.1.frX k (nv O.1),fun i r t hr ht=>?_⟩,oC O.1 k (nv O.1),fun i r hr=>⟨oC (O.2.1 i r hr).1 k (nv (O.2.1 i r hr).1),(O.2.1 i r hr).2⟩,O.2.2⟩;obtain⟨a,b,c,d⟩:=H.2.2 i r t hr ht;exact⟨a,b,c.frX k (nv (O.2.1 i r hr).1),d⟩
end
section
theorem IZ{v:Value}{xs:List (List UInt8)}(left:Int)(w:World)(H:aF 1 encS w v xs)(hlen:xs.length<=9223372036854775807)(hM:∀t∈xs,t.length<=9223372036854775807)(h0:0<=left)(h1:left<=1048576) :
 Calls Tryz.prog 12 #[v,.int .i64 left] w fun e w'=>e=.returned (.int .i64 (if ((xs.length+Js xs:Nat):Int)<=left then left-((xs.length+Js xs:Nat):Int) else -1))/\Ext w w':=by
 obtain⟨A,c,rfl,hc⟩:=H;have HC:=aa hc;have HM:=aa hM;obtain⟨R,hR⟩:∃R,(if ((xs.length+Js xs:Nat):Int)<=left then left-((xs.length+Js xs:Nat):Int) else -1)=R:=⟨_,rfl⟩;rw[hR];have HR:=aa hR;clear hc hM hR;by_cases hl:(xs.length:Int)<=left
 ·go_enter Tryz.func12,Tryz.ntmps12;go_wp2;go_loopw [1,5] (fun a i wr=>Ext w wr/\∃k:Nat,k<=xs.length/\i=.int .i64 k/\∃y:Int,a=.int .i64 y/\0<=y/\y<=1048576/\Hid (left-xs.length-(Js (xs.take k):Int)=y)) (fun _ i _=>xs.length-(intOf i).toNat)
  case atStart=>exact⟨Ext.refl _,0,Nat.zero_le _,rfl,_,rfl,by omega,by omega,by show _ = _;simp[Js]⟩
  case round=>
   obtain⟨hb,k,hk,rfl,y,rfl,hy0,hy1,HY⟩:=hrel;by_cases hlt:k<xs.length
   ·obtain⟨b,off,rfl,hbl,hcc⟩:=HC.out (by omega);obtain⟨t,ht⟩:=af hlt;have c0:=hb.cell (hcc k t ht 0 (by omega));simp only[Nat.mul_one,Nat.add_zero,encS]at c0;have hn:=HM.out t (List.mem_of_getElem? ht);have HN:=aa (WT ht);have hsz:=dH t;obtain⟨z,hz⟩:∃z,tx t=z:=⟨_,rfl⟩;obtain⟨m,hm⟩:∃m,t.length=m:=⟨_,rfl⟩;rw[hz,hm]at hsz;rw[hz]at c0;rw[hm]at HN hn;clear ht hcc hz hm;by_cases hok:(m:Int)<=y
    ·go_wp2;go_roundw;case rel=>exact⟨hb,k+1,by omega,by go_num,y-m,rfl,by omega,by omega,by show _ = _;have:=HY.out;have:=HN.out;omega⟩
     case measure=>simp[intOf];omega
    ·have kg:Hid (left<((xs.length+Js xs:Nat):Int)):=by
      show _<_;have h2:=Mo xs (k+1)
      have:=HN.out
      have:=HY.out
      omega
     have hneg:y-m<0:=by omega
     go_wp2;go_returns;exact⟨aX (by rw[<-HR.out,if_neg (by have:=kg.out;omega)]),hb⟩
   ·obtain rfl:k=xs.length:=by omega
    have hy:=HY.out;rw[List.take_length]at hy;have HO:Hid (R=y):=by show _ = _;rw[<-HR.out,if_pos (by omega)];omega
    clear hy;go_wp2;go_returns;exact⟨aX HO.out.symm,hb⟩
 ·have hr:=HR.out;rw[if_neg (by omega)]at hr;subst hr;go_enter Tryz.func12,Tryz.ntmps12;go_wp2;go_returns;exact⟨rfl,Ext.refl _⟩
theorem Jc{v:Value}{xs:List (List UInt8)}(w:World)(h:aF 1 encS w v xs)(hlen:xs.length<=2097152) :
 Calls Tryz.prog 14 #[v] w (acu 1 encS w xs):=by
 obtain⟨A,c,rfl,h⟩:=h;have hmk:=jV (P:=Tryz.prog) 31 9 Tryz.underlying31 gK xs.length (by omega) (by omega);go_enter Tryz.func14,Tryz.ntmps14;go_wp2;go_loopw [4] (fun i wr=>Ext w wr/\∃k:Nat,k<=xs.length/\i=.int .i64 k/\cZ 1 encS w.heap.size xs.length xs k wr) (fun i _=>xs.length-(intOf i).toNat)
 case atStart=>exact⟨(Ext.refl _).alloc _,0,Nat.zero_le _,rfl,cZ.start _ _ (size_madeCells _ _)⟩
 case round=>
  obtain⟨hb,k,hk,rfl,hf⟩:=hrel;clear hmk;by_cases hlt:k<xs.length
  ·obtain⟨b,off,rfl,hbl,hc⟩:=h (by omega);obtain⟨x,hx⟩:=af hlt;have c0:wr.cell? ⟨b,off+k,none⟩=some (.string (tx x)):=by have:=hb.cell (hc k x hx 0 (by omega));simpa[encS] using this
   obtain⟨u0,g0⟩:∃u,wr.cell? ⟨w.heap.size,k,none⟩=some u:=hf.1.cell (by omega);have F0:wr.frozen? ⟨w.heap.size,k,none⟩=false:=hf.1.free _;have hF:=cZ.set (m:=1) (j:=0) (by omega) (hf.bF x) (by omega);rw[show k*1+0=k by omega,show encS x 0=.string (tx x) from rfl]at hF;have HF:=aa (cZ.next (m:=1) hF hx);obtain⟨z,hz⟩:∃z,tx x=z:=⟨_,rfl⟩;rw[hz]at c0 HF;clear hx h hc hz hf hF;go_wp2;go_roundw;case rel=>exact⟨hb.setCell (by exact Nat.le_refl _) _,k+1,by omega,by go_num,HF.out⟩
   case measure=>simp[intOf];omega
  ·obtain rfl:k=xs.length:=by omega
   go_wp2;go_returns;exact⟨_,rfl,hf.done _,hf.1.own (Nat.le_refl _) _ _ _,hb⟩
theorem xV{v v':Value}{xs:List (List UInt8)}(w:World)(h:aF 1 encS w v xs)(h':aF 1 encS w v' xs)(hlen:xs.length<=2097152) :
 Calls Tryz.prog 16 #[v,v'] w fun e w'=>e=.returned (.bool true)/\Ext w w':=by
 obtain⟨A,c,rfl,h⟩:=h;obtain⟨A',c',rfl,h'⟩:=h';go_enter Tryz.func16,Tryz.ntmps16;go_wp2;go_loopw [5] (fun i wr=>Ext w wr/\∃k:Nat,k<=xs.length/\i=.int .i64 k) (fun i _=>xs.length-(intOf i).toNat)
 case atStart=>exact⟨Ext.refl _,0,Nat.zero_le _,rfl⟩
 case round=>
  obtain⟨hb,k,hk,rfl⟩:=hrel;by_cases hlt:k<xs.length
  ·obtain⟨b,off,rfl,hbl,hc⟩:=h (by omega);obtain⟨b',off',rfl,pg,hc'⟩:=h' (by omega);obtain⟨x,hx⟩:=af hlt;have x0:w.cell? ⟨b,off+k,none⟩=some (.string (tx x)):=by have:=hc k x hx 0 (by omega);simpa[encS] using this
   have y0:w.cell? ⟨b',off'+k,none⟩=some (.string (tx x)):=by have:=hc' k x hx 0 (by omega);simpa[encS] using this
   obtain⟨z,hz⟩:∃z,tx x=z:=⟨_,rfl⟩;rw[hz]at x0 y0;have c0:∀e,(over wr e).cell? ⟨b,off+k,none⟩=some (.string z):=aG (hb.cell x0);have d0:∀e,(over wr e).cell? ⟨b',off'+k,none⟩=some (.string z):=aG (hb.cell y0);clear hx h h' hc hc' x0 y0 hz;go_wp2;refine aO (by kernel_rfl) (by kernel_rfl) ?_;repeat (go_big_quiet_step (fail))
   refine wpQuiet_nil ?_;intro w1 hb1;go_wp2;go_roundw;case rel=>exact⟨hb.trans hb1,k+1,by omega,by go_num⟩
   case measure=>simp[intOf];omega
  ·go_wp2;go_returns;exact⟨rfl,hb⟩
theorem zQ(n:Nat)(w:World)(hn:n<=1073741824) :
 Calls Tryz.prog 40 #[.int .i64 (n:Int)] w fun e w'=>e=.returned (.string (tx (qQ n)))/\Ext w w':=by
 by_cases h0:n=0
 ·subst h0;go_enter Tryz.func40,Tryz.ntmps40;go_wp2;go_returns;exact⟨rfl,Ext.refl _⟩
 ·have HE:Hid (qQ n=[109]++Ir n n []):=by show _ = _;rw[qQ,if_neg h0];rfl
  obtain⟨G,hG⟩:∃G,qQ n=G:=⟨_,rfl⟩;rw[hG]at HE ⊢;have hp:(0:Int)<(n:Int):=by omega
  have HN0:=aa h0;clear hG h0;go_enter Tryz.func40,Tryz.ntmps40;go_wp2;go_loopw [0,3] (fun a o wr=>Ext w wr/\∃(m:Nat) (l:List UInt8),a=.int .i64 (m:Int)/\o=.string (tx l)/\m<=1073741824/\l.length<=1073741824/\Hid (∃f,m<=f/\l.length+f<=n/\Ir f m l=Ir n n [])) (fun a _ _=>(intOf a).toNat)
  case atStart=>exact⟨Ext.refl _,n,[],rfl,rfl,hn,by simp,n,Nat.le_refl _,by simp,rfl⟩
  case round=>
   obtain⟨hb,m,l,rfl,rfl,hm,hl,HI⟩:=hrel;by_cases h0:0<m
   ·have hd:=BH (m%10) (by omega) (48+(m:Int)%10) (by omega);have ha:=aZ [jg (m%10)] l (by simp;omega);have HX:Hid (([jg (m%10)]++l).length<=1073741824/\∃f,m/10<=f/\([jg (m%10)]++l).length+f<=n/\Ir f (m/10) ([jg (m%10)]++l)=Ir n n []):=by obtain⟨f,h1,h2,h3⟩:=HI.out;obtain⟨g,rfl⟩:∃g,f=g+1:=⟨f-1,by omega⟩;rw[Ir,if_neg (by omega)]at h3;refine⟨by simp;omega,g,by omega,by simp;omega,h3⟩
    obtain⟨l2,hl2⟩:∃l2,[jg (m%10)]++l=l2:=⟨_,rfl⟩;rw[hl2]at ha HX;generalize tx [jg (m%10)]=z1 at hd ha;have HT:=aa hl2;clear hl2 HI;go_wp2;go_roundw;case rel=>exact⟨hb.alloc _,m/10,l2,by go_num,rfl,by omega,HX.out.1,HX.out.2⟩
    case measure=>simp[intOf];omega
   ·obtain rfl:m=0:=by omega
    have ha:∀w,(Op.stringOp .add ⟨#[109]⟩ (tx l)).run Tryz.prog w = _:=aZ [109] l (by simp;omega);have HX:Hid (G=[109]++l):=by
     obtain⟨f,h1,h2,h3⟩:=HI.out
     have:Ir f 0 l=l:=by cases f<;>simp[Ir]
     show _ = _;rw[HE.out,<-h3,this]
    clear HI;go_wp2;go_returns;exact⟨(congrArg (fun g=>Ending.returned (.string (tx g))) HX.out.symm :),hb⟩
theorem uA{v:Value}{xs:List (List UInt8)}{lo:Nat}(w:World)(k0:Nat)(h:aF 1 encS w v xs)(ho:Own lo w v)(hlen:xs.length<=2097152)(hk0:k0<=536870912) :
 Calls Tryz.prog 17 #[v,.int .i64 (k0:Int)] w fun e w'=>e=.returned (.int .i64 ((k0+xs.length:Nat):Int))/\aF 1 encS w' v (qi k0 xs.length)/\Only v w w':=by
 obtain⟨A,c,rfl,h⟩:=h;have hst:∀b off,A=some ⟨b,off,none⟩->nk w b off xs.length 0 (fun c=>.string (tx (qQ (k0+c)))):=fun b off hA=>
  ⟨fun i hi=>by
   obtain⟨b',off',hA',_,hc⟩:=h (by omega);rw[hA]at hA';cases hA';obtain⟨x,hx⟩:=af hi
   have:=hc i x hx 0 (by omega)
   simp only[Nat.mul_one,Nat.add_zero]at this;exact⟨_,this⟩,fun i hi=>absurd hi (Nat.not_lt_zero i)⟩
 have Hst:=aa hst;clear hst;go_enter Tryz.func17,Tryz.ntmps17;go_wp2;go_loopw [1,5] (fun a i wr=>Only (.slice A xs.length c) w wr/\∃k:Nat,k<=xs.length/\i=.int .i64 k/\a=.int .i64 ((k0+k:Nat):Int)/\Hid (∀b off,A=some ⟨b,off,none⟩->nk wr b off xs.length k (fun c=>.string (tx (qQ (k0+c)))))) (fun _ i _=>xs.length-(intOf i).toNat)
 case atStart=>exact⟨Only.aT (Ext.refl _),0,Nat.zero_le _,rfl,by simp,Hst.out⟩
 case round=>
  obtain⟨hb,k,hk,rfl,rfl,HM⟩:=hrel;by_cases hlt:k<xs.length
  ·obtain⟨b,off,rfl,hbl,hc⟩:=h (by omega);have hm:=HM.out b off rfl;have hown:=Own.only ho hb;have HOW:=aa hown;have HMT:=aa (fun W=>zQ (k0+k) W (by omega));have HX:Hid (∀w1,Ext wr w1->(∃u,w1.cell? ⟨b,off+k,none⟩=some u)/\w1.frozen? ⟨b,off+k,none⟩=false/\∀b' off',some (⟨b,off,none⟩:Addr)=some ⟨b',off',none⟩->nk (w1.setCell ⟨b,off+k,none⟩ (.string (tx (qQ (k0+k))))) b' off' xs.length (k+1) (fun c=>.string (tx (qQ (k0+c))))):=fun w1 b1=>by have hm1:nk w1 b off xs.length k (fun c=>.string (tx (qQ (k0+c)))):=⟨fun i hi=>let ⟨u,hu⟩:=hm.1 i hi;⟨u,b1.cell hu⟩,fun i hi=>b1.cell (hm.2 i hi)⟩;refine⟨hm1.1 k hlt,(Own.ext hown b1).rC (by omega) _,fun b' off' e=>?_⟩;cases e;exact nk.set hm1 hlt rfl rfl
   obtain⟨z,hz⟩:∃z,tx (qQ (k0+k))=z:=⟨_,rfl⟩;rw[hz]at HMT HX;clear h hc hm HM Hst hown hz;go_wp2_with (go_at_call 40;refine(HMT.out _).mono ?_;rintro e w1 ⟨rfl,b1⟩;(
    obtain⟨⟨u0,g0⟩,F0,hx⟩:=HX.out w1 b1;have ZG:=aa hx;clear hx))
   go_roundw;case rel=>exact⟨(hb.trans (Only.aT b1)).trans (Only.setCell (by omega) _ _),k+1,by omega,by go_num,by go_num,ZG.out⟩
   case measure=>simp[intOf];omega
  ·obtain rfl:k=xs.length:=by omega
   go_wp2;go_returns;refine⟨rfl,⟨A,c,by simp[qi],fun hn=>?_⟩,hb⟩;have hn':0<xs.length:=by simpa[qi] using hn
   obtain⟨b,off,rfl,hbl,hc⟩:=h hn';refine⟨b,off,rfl,Nat.lt_of_lt_of_le hbl hb.size,fun i x hx j hj=>?_⟩;obtain rfl:j=0:=by omega
   have hi:i<xs.length:=by have:=(List.getElem?_eq_some_iff.1 hx).1;simpa[qi] using this
   rw[Nat.mul_one,Nat.add_zero,(HM.out b off rfl).2 i hi,Uk hx,encS]
theorem Eb{v:Value}(w:World)(k0 n:Nat)(h:aF 1 encS w v (qi k0 n))(hlen:n<=2097152)(hk0:k0<=536870912) :
 Calls Tryz.prog 18 #[v,.int .i64 (k0:Int)] w fun e w'=>e=.returned (.int .i64 ((k0+n:Nat):Int))/\Ext w w':=by
 obtain⟨A,c,rfl,h⟩:=h;have hl:(qi k0 n).length=n:=by simp[qi]
 rw[hl]at h ⊢;clear hl;go_enter Tryz.func18,Tryz.ntmps18;go_wp2;go_loopw [1,5] (fun a i wr=>Ext w wr/\∃k:Nat,k<=n/\i=.int .i64 k/\a=.int .i64 ((k0+k:Nat):Int)) (fun _ i _=>n-(intOf i).toNat)
 case atStart=>exact⟨Ext.refl _,0,Nat.zero_le _,rfl,by simp⟩
 case round=>
  obtain⟨hb,k,hk,rfl,rfl⟩:=hrel;by_cases hlt:k<n
  ·obtain⟨b,off,rfl,hbl,hc⟩:=h (by omega);have x0:=hc k (qQ (k0+k)) (by simp[qi,hlt]) 0 (by omega);simp only[Nat.mul_one,Nat.add_zero,encS]at x0;have HMT:=aa (fun W=>zQ (k0+k) W (by omega));obtain⟨z,hz⟩:∃z,tx (qQ (k0+k))=z:=⟨_,rfl⟩;rw[hz]at x0 HMT;have c0:∀e,(over wr e).cell? ⟨b,off+k,none⟩=some (.string z):=aG (hb.cell x0);clear h hc x0 hz;go_wp2;refine aO (by kernel_rfl) (by kernel_rfl) ?_;repeat (go_big_quiet_step ((go_at_call 40;exact lq (HMT.out _))))
   refine wpQuiet_nil ?_;intro w1 hb1;go_wp2;go_roundw;case rel=>exact⟨hb.trans hb1,k+1,by omega,by go_num,by go_num⟩
   case measure=>simp[intOf];omega
  ·obtain rfl:k=n:=by omega
   go_wp2;go_returns;exact⟨rfl,hb⟩
end
section
theorem P7(h:List aA)(ls:List (List UInt8)):(kJ h ls).1.length<=6/\(∀t∈(kJ h ls).1,t.ops.length<=2097152)/\(kJ h ls).2.length<=20:=by
 unfold kJ;split
 ·rename_i h';obtain⟨h1,h2⟩:=wU h'.1 ls ls.length (Nat.le_refl _);rw[List.take_length]at h1 h2;exact⟨aM h1,aD h1,by omega⟩
 ·exact⟨by simp,fun t ht=>by simp at ht,by simp⟩
theorem yF(w:World){v0 u0:Value}{h:List aA}{ls:List (List UInt8)}(s0:En w v0 h)(l0:h.length<=9223372036854775807)(m0:∀t∈h,t.ops.length<=9223372036854775807)(s1:aF 1 encS w u0 ls)(l1:ls.length<=9223372036854775807)(m1:∀t∈ls,t.length<=9223372036854775807)(hE:Env w) :
 Calls Tryz.prog 4 #[v0,u0] w fun e w'=>e=.returned (.bool true)/\Ext w w':=by
 obtain⟨A,c,rfl⟩:=s0.slice;obtain⟨Au,cu,rfl,_⟩:=id s1;have HZ:=aa (Hu 1048576 w s0 l0 m0 (by omega) (by omega));by_cases hz:((h.length+kW h:Nat):Int)<=1048576;case neg=>
  rw[if_neg hz]at HZ;clear hz s0 l0 m0 s1 l1 m1;go_enter Tryz.func4,Tryz.ntmps4;go_wp2_with (go_at_call 5;refine HZ.out.mono ?_;rintro e w1 ⟨rfl,b1⟩)
  go_returns;exact⟨rfl,b1⟩
 rw[if_pos hz]at HZ;have hge:(0:Int)<=1048576-((h.length+kW h:Nat):Int):=by omega
 have hgy:1048576-((h.length+kW h:Nat):Int)<=1048576:=by omega
 obtain⟨y,hy⟩:∃y,(1048576:Int)-((h.length+kW h:Nat):Int)=y:=⟨_,rfl⟩;rw[hy]at HZ hge hgy;have HZ2:=aa (fun W (b:Ext w W)=>IZ y W (s1.ext b) l1 m1 hge hgy);by_cases hz2:((ls.length+Js ls:Nat):Int)<=y;case neg=>
  rw[if_neg hz2]at HZ2;clear hz hz2 hy s0 l0 m0 s1 l1 m1;go_enter Tryz.func4,Tryz.ntmps4;go_wp2_with fail
  refine HZ.out.mono ?_;rintro e w1 ⟨rfl,b1⟩;have HB1:=aa b1;clear b1;go_wp2_with (go_at_call 12;refine(HZ2.out _ HB1.out).mono ?_;rintro e w2 ⟨rfl,b2⟩)
  go_returns;exact⟨rfl,HB1.out.trans b2⟩
 rw[if_pos hz2]at HZ2;have Wi:(0:Int)<=y-((ls.length+Js ls:Nat):Int):=by omega
 obtain⟨y2,hy2⟩:∃y2,y-((ls.length+Js ls:Nat):Int)=y2:=⟨_,rfl⟩;rw[hy2]at HZ2 Wi;have hlen:h.length<=2097152:=by omega
 have hM:∀t∈h,t.ops.length<=2097152:=fun t ht=>by have:=Hq ht;omega
 have BJ:ls.length<=2097152:=by omega
 have hl:∀s∈ls,s.length<=1048576:=fun t ht=>by have:=Rx ht;omega
 have HC:Hid (1+lK h<=1073741824):=by show _<=_;rw[rD];omega
 have HT:=aa (fun W (b:Ext w W)=>He W (s0.ext b) hlen hM);have HTS:=aa (fun W (b:Ext w W)=>Jc W (s1.ext b) BJ);have I9:=aa (fun W v u (H:gL W v h) (U:aF 1 encS W u ls)=>Ky W H hlen hM U BJ hl);have XZ:=aa (fun W v u (b:Ext w W) (H:gL W v h) (U:aF 1 encS W u ls)=>LG W H hlen hM (hE.ext b) U BJ hl);have hgl:=P7 h ls;obtain⟨g,hg⟩:∃g,(kJ h ls).1=g:=⟨_,rfl⟩;obtain⟨an,DV⟩:∃g,(kJ h ls).2=g:=⟨_,rfl⟩;rw[hg,DV]at I9 XZ hgl;have XC:=aa (fun W v v' (a:gL W v g) (b:gL W v' g)=>uq W a b (by have:=hgl.1;omega) hgl.2.1);have aa0:=aa (fun W v v' (a:aF 1 encS W v an) (b:aF 1 encS W v' an)=>xV W a b (by have:=hgl.2.2;omega));have VG:=aa (fun W v v' (a:gL W v h) (b:gL W v' h)=>uq W a b hlen hM);have aeQ:=aa (fun W v v' (a:aF 1 encS W v ls) (b:aF 1 encS W v' ls)=>xV W a b BJ);have Yf:Hid (1+lK g<=268435456):=by show _<=_;rw[rD];have h1:=hgl.1;have h2:=Lm g hgl.2.1;have h3:g.length*2097152<=6*2097152:=Nat.mul_le_mul_right _ h1;omega
 have HCH:Hid (1+lK h<=268435456):=by show _<=_;rw[rD];omega
 have Xu:=aa (fun W v rs lo X (a:jI W v rs h) (b:iZ lo W v rs) h1 h2=>pJ (X:=X) 1 W a b h1 h2 hlen hM HC.out);have acC:=aa (fun W v lo (a:aF 1 encS W v ls) (b:Own lo W v)=>uA W (1+lK h) a b BJ (by have:=HCH.out;omega));have HMG:=aa (fun W v rs lo X (a:jI W v rs g) (b:iZ lo W v rs) h1 h2=>pJ (X:=X) 1 W a b h1 h2 (by have:=hgl.1;omega) hgl.2.1 (by have:=Yf.out;omega));have aaH:=aa (fun W v lo (a:aF 1 encS W v an) (b:Own lo W v)=>uA W (1+lK g) a b (by have:=hgl.2.2;omega) (by have:=Yf.out;omega));have HHE:=aa (fun W v (a:gL W v (sw 1 g))=>AJ g 1 W a (by have:=hgl.1;omega) hgl.2.1 (by have:=Yf.out;omega));have XP:=aa (fun W v (a:aF 1 encS W v (qi (1+lK g) an.length))=>Eb W (1+lK g) an.length a (by have:=hgl.2.2;omega) (by have:=Yf.out;omega));obtain⟨ch,hch⟩:∃n,1+lK h=n:=⟨_,rfl⟩;obtain⟨cg,hcg⟩:∃n,1+lK g=n:=⟨_,rfl⟩;obtain⟨nl,hnl⟩:∃n,ls.length=n:=⟨_,rfl⟩;obtain⟨na,hna⟩:∃n,an.length=n:=⟨_,rfl⟩;rw[hch]at Xu acC;rw[hcg]at HMG HHE aaH XP;rw[hna]at aaH XP;have hc1:0<=(ch:Int):=by omega
 have hc2:0<=(cg:Int):=by omega
 clear hg DV s0 l0 m0 hz hy hM hgl HC Yf HCH hch hcg hE hlen hz2 hy2 BJ hl s1 l1 m1 hnl hna;go_enter Tryz.func4,Tryz.ntmps4;go_wp2_with fail
 refine HZ.out.mono ?_;rintro e w1 ⟨rfl,b1⟩;have HB1:=aa b1;clear b1;go_wp2_with fail
 refine(HZ2.out w1 HB1.out).mono ?_
 rintro e w1' ⟨rfl,b1⟩;have acr:=aa (HB1.out.trans b1);clear b1;go_wp2_with fail
 refine(HT.out w1' acr.out).mono ?_
 rintro e w2 ⟨x,rsx,rfl,hx,ox,b2⟩;have HB2:=aa (acr.out.trans b2);have HX:=aa hx;clear hx ox b2;go_wp2_with fail
 refine(HTS.out w2 HB2.out).mono ?_
 rintro e w2' ⟨xu,rfl,hu,ou,b2⟩;have aaE:=aa (HB2.out.trans b2);have uP:=aa (jI.ext HX.out b2);have HU2:=aa hu;clear hu ou b2 HX;go_wp2_with fail
 refine(I9.out w2' _ _ ⟨_,uP.out⟩ HU2.out).mono ?_
 rintro e w3 ⟨vw,uw,rfl,hw,hwu,b3⟩;have HB3:=aa (aaE.out.trans b3);have HW:=aa hw;have HWU:=aa hwu;clear hw hwu b3 uP HU2;go_wp2_with fail
 refine(HT.out w3 HB3.out).mono ?_
 rintro e w4 ⟨x4,rs4,rfl,hx,ox,b4⟩;have Ay:=aa b4;have Bb:=aa (And.intro hx ox);clear hx ox b4;go_wp2_with fail
 refine(HTS.out w4 (HB3.out.trans Ay.out)).mono ?_
 rintro e w5 ⟨u5,rfl,hu,ou,b5⟩;have HS5:=aa b5;have Ea:=aa (HB3.out.trans (Ay.out.trans b5));have YW:=aa (And.intro hu ou);have Hw:=aa (And.intro (jI.ext Bb.out.1 b5) (iZ.ext Bb.out.2 b5));clear hu ou b5;go_wp2_with fail
 refine(XZ.out w5 _ _ Ea.out ⟨_,Hw.out.1⟩ YW.out.1).mono ?_
 rintro e w6 ⟨x6,rs6,u6,mid,rfl,hx,ox,hmid,hr,hrm,b6⟩;have HG6:=aa (And.intro hx ox);have ZT:=aa (And.intro hr.cell.1 hr.cell.2);have X3:Hid (w5.heap.size<=mid/\∀a n c,u6=.slice (some a) n c->0<n->a.block<mid):=⟨hmid,fun a n c e hn=>hrm _ (by rw[e];rfl)⟩;have HS6:=aa b6;have HW6:=aa (HW.out.ext ((Ay.out.trans HS5.out).trans b6));have acz:=aa (HWU.out.ext ((Ay.out.trans HS5.out).trans b6));clear hx ox hmid hr hrm b6;go_wp2_with fail
 refine(XC.out w6 _ _ ⟨_,HG6.out.1⟩ HW6.out).mono ?_
 rintro e w7 ⟨rfl,b7⟩;have Ec:=aa b7;clear b7;go_wp2_with fail
 refine(aa0.out w7 _ _ (ZT.out.1.ext Ec.out) (acz.out.ext Ec.out)).mono ?_
 rintro e w8 ⟨rfl,b8⟩;have UM:=aa (HS6.out.trans (Ec.out.trans b8));have HC8:=aa (Ec.out.trans b8);clear b8 Ec HW6 acz;go_wp2_with fail
 refine(HT.out w8 (Ea.out.trans UM.out)).mono ?_
 rintro e w9 ⟨x9,rs9,rfl,hx,ox,b9⟩;have Cr:=aa hx;have Pn:=aa b9;have abF:=aa (jI.ext Hw.out.1 (UM.out.trans b9));clear hx ox b9;go_wp2_with fail
 refine(VG.out w9 _ _ ⟨_,abF.out⟩ ⟨_,Cr.out⟩).mono ?_
 rintro e w10 ⟨rfl,b10⟩;have Kj:=aa (UM.out.trans (Pn.out.trans b10));have Yc:=aa (HC8.out.trans (Pn.out.trans b10));clear b10 Pn Cr abF UM HC8;go_wp2_with fail
 refine(HTS.out w10 (Ea.out.trans Kj.out)).mono ?_
 rintro e w11 ⟨u11,rfl,hu,ou,b11⟩;have adq:=aa hu;have Lf:=aa b11;clear hu ou b11;go_wp2_with fail
 refine(aeQ.out w11 _ _ (YW.out.1.ext (Kj.out.trans Lf.out)) adq.out).mono ?_
 rintro e w12 ⟨rfl,b12⟩;have ru:=aa (Kj.out.trans (Lf.out.trans b12));have Wx:=aa (Yc.out.trans (Lf.out.trans b12));clear b12 Lf adq Kj Yc;have hox:=fun(u:Value) (o:Own w3.heap.size w4 u) a n c (e:u=.slice (some a) n c) (hn:0<n)=>(show w3.heap.size<=a.block/\a.block<w4.heap.size from ⟨(o a n c e hn).1,(o a n c e hn).2.1⟩);go_wp2_with fail
 refine(Xu.out w12 _ _ w3.heap.size (fun q=>w3.heap.size<=q/\q<w4.heap.size) (jI.ext Hw.out.1 ru.out) (iZ.ext Hw.out.2 ru.out) (hox _ Bb.out.2.1) (fun i r hr=>hox _ (Bb.out.2.2.1 i r hr).1)).mono ?_
 rintro e w13 ⟨rfl,_,fr⟩;have Ma:=aa fr;have aaT:=aa (And.intro ((YW.out.1.ext ru.out).frX fr (fun a n c e hn hq=>by have:=(YW.out.2 a n c e hn).1;omega)) (oC (YW.out.2.ext ru.out) fr (fun a n c e hn hq=>by have:=(YW.out.2 a n c e hn).1;omega)));clear fr hox;go_wp2_with fail
 refine(acC.out w13 _ w4.heap.size aaT.out.1 aaT.out.2).mono ?_
 rintro e w14 ⟨rfl,_,q14⟩;have fr:bH (fun q=>w3.heap.size<=q/\q<w5.heap.size) w12 w14:=(Ma.out.wide (fun i hi=>⟨hi.1,Nat.lt_of_lt_of_le hi.2 HS5.out.size⟩)).trans (q14.frX (fun a n c e hn=>⟨by have:=(YW.out.2 a n c e hn).1;have:=Ay.out.size;omega,(YW.out.2 a n c e hn).2.1⟩));have Zb:=aa (wO (jI.ext HG6.out.1 Wx.out) (iZ.ext HG6.out.2 Wx.out) fr (fun q hq=>Nat.lt_of_lt_of_le hq.2 X3.out.1));have XQ:=aa (And.intro ((ZT.out.1.ext Wx.out).frX fr (fun a n c e hn hq=>by have:=(ZT.out.2 a n c e hn).1;omega)) (oC (ZT.out.2.ext Wx.out) fr (fun a n c e hn hq=>by have:=(ZT.out.2 a n c e hn).1;omega)));have QC:Hid (Ext w3 w14):=bH.out ((Ay.out.trans HS5.out).trans ru.out) fr (fun q hq=>hq.1);have ac2:=aa (HW.out.ext QC.out);have aac:=aa (HWU.out.ext QC.out);have HSZ:Hid (w3.heap.size<=w5.heap.size):=(Ay.out.trans HS5.out).size;clear fr q14 Ma aaT Bb Hw YW HG6 ZT Wx ru;go_wp2_with fail
 refine(XC.out w14 _ _ ⟨_,Zb.out.1⟩ ac2.out).mono ?_
 rintro e w15 ⟨rfl,b15⟩;have Gn:=aa b15;clear b15;go_wp2_with fail
 refine(aa0.out w15 _ _ (XQ.out.1.ext Gn.out) (aac.out.ext Gn.out)).mono ?_
 rintro e w16 ⟨rfl,b16⟩;have Xd:=aa (And.intro (jI.ext Zb.out.1 (Gn.out.trans b16)) (iZ.ext Zb.out.2 (Gn.out.trans b16)));have aaC:=aa (And.intro (XQ.out.1.ext (Gn.out.trans b16)) (XQ.out.2.ext (Gn.out.trans b16)));have Yk:=aa (QC.out.trans (Gn.out.trans b16));clear b16 Zb XQ QC Gn ac2 aac;go_wp2_with fail
 refine(HMG.out w16 _ _ mid (fun q=>mid<=q) Xd.out.1 Xd.out.2 (fun a n c e hn=>(Xd.out.2.1 a n c e hn).1) (fun i r hr a n c e hn=>((Xd.out.2.2.1 i r hr).1 a n c e hn).1)).mono ?_
 rintro e w17 ⟨rfl,⟨afr,hx,ox⟩,fr⟩;have aay:=aa (And.intro hx ox);have nx:∀a n c,u6=.slice (some a) n c->0<n->¬mid<=a.block:=fun a n c e hn=>by have:=X3.out.2 a n c e hn;omega
 have X7:=aa (And.intro (aaC.out.1.frX fr nx) (oC aaC.out.2 fr nx));have adf:Hid (Ext w3 w17):=bH.out Yk.out fr (fun q hq=>by have:=X3.out.1;have:=HSZ.out;omega);clear fr hx ox nx Xd aaC Yk;go_wp2_with fail
 refine(aaH.out w17 _ w5.heap.size X7.out.1 X7.out.2).mono ?_
 rintro e w18 ⟨rfl,hu,q18⟩;have fr:bH (fun q=>w5.heap.size<=q/\q<mid) w17 w18:=q18.frX (fun a n c e hn=>⟨(X7.out.2 a n c e hn).1,X3.out.2 a n c e hn⟩);have abP:Hid (gL w18 x6 (sw 1 g)):=⟨_,(wO aay.out.1 aay.out.2 fr (fun q hq=>hq.2)).1⟩;have acd:=aa hu;have TN:Hid (Ext w3 w18):=bH.out adf.out fr (fun q hq=>Nat.le_trans HSZ.out hq.1);clear fr q18 hu aay X7 adf;go_wp2_with fail
 refine(HHE.out w18 _ abP.out).mono ?_
 rintro e w19 ⟨rfl,b19⟩;have aaq:=aa b19;clear b19;go_wp2_with fail
 refine(XP.out w19 _ (acd.out.ext aaq.out)).mono ?_
 rintro e w20 ⟨rfl,b20⟩;have abQ:=aa (aaq.out.trans b20);clear b20 aaq;go_wp2_with fail
 refine(HT.out w20 (HB3.out.trans (TN.out.trans abQ.out))).mono ?_
 rintro e w21 ⟨x21,afy,rfl,hx,ox,b21⟩;have acD:=aa hx;have acH:=aa (abQ.out.trans b21);clear hx ox b21;go_wp2_with fail
 refine(HTS.out w21 (HB3.out.trans (TN.out.trans acH.out))).mono ?_
 rintro e w22 ⟨u22,rfl,hu,ou,b22⟩;have adW:=aa (jI.ext acD.out b22);have aeR:=aa hu;have acj:=aa (acH.out.trans b22);clear hu ou b22 acD;go_wp2_with fail
 refine(XZ.out w22 _ _ (HB3.out.trans (TN.out.trans acj.out)) ⟨_,adW.out⟩ aeR.out).mono ?_
 rintro e w23 ⟨x23,afY,u23,afS,rfl,hx,ox,hmid,hr,hrm,b23⟩;have ae4:=aa hx;have afm:=aa hr.cell.1;have aav:=aa (acj.out.trans b23);clear hx ox hmid hr hrm b23;go_wp2_with fail
 refine(XC.out w23 _ _ ⟨_,ae4.out⟩ (HW.out.ext (TN.out.trans aav.out))).mono ?_
 rintro e w24 ⟨rfl,b24⟩;have aaS:=aa b24;clear b24;go_wp2_with fail
 refine(aa0.out w24 _ _ (afm.out.ext aaS.out) (HWU.out.ext (TN.out.trans (aav.out.trans aaS.out)))).mono ?_
 rintro e w25 ⟨rfl,b25⟩;have abX:=aa (aav.out.trans (aaS.out.trans b25));clear b25;go_wp2_with fail
 refine(HHE.out w25 _ (abP.out.ext abX.out)).mono ?_
 rintro e w26 ⟨rfl,b26⟩;have acf:=aa (abX.out.trans b26);clear b26;go_wp2_with fail
 refine(XP.out w26 _ (acd.out.ext acf.out)).mono ?_
 rintro e w27 ⟨rfl,b27⟩;have adP:=aa (acf.out.trans b27);clear b27;go_wp2;go_returns;exact⟨rfl,HB3.out.trans (TN.out.trans adP.out)⟩
end
