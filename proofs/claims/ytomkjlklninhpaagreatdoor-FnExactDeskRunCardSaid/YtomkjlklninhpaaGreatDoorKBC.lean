/- Lemmas. -/
import Derived.Test.YtomkjlklninhpaaGreatDoorKAS
import Derived.Test.YtomkjlklninhpaaGreatDoorKAU
import Derived.Test.YtomkjlklninhpaaGreatDoorKAY
set_option maxHeartbeats 16000000
set_option maxRecDepth 8000
set_option linter.all false
namespace Go.Proofs.YtomkjlklninhpaaGreatDoor
open Go.RowKit
section
section
variable{P:Program}{ops:Array Oper}{Q:Exit->Act->World->Prop}
def Cq(Q:Exit->Act->World->Prop)(e:Exit)(a:Act)(w:World):Prop:=e=.normal/\Q .normal a w
theorem Jw:¬LetsOut (Cq Q):=fun⟨_,_,h⟩=>by cases h.1
theorem je:∀(d:Option Tmp) (v:Value) (c:_) (a:Act) (w:World),Cq Q (.panic c) (a.put d v) w->Cq Q (.panic c) a w:=fun _ _ _ _ _ h=>by cases h.1
theorem TH{o:Oper}{l n:Nat}{a:Act}{w:World}{K:Act->World->Prop}(hd:tC o=true)(h:o.wp P a w K (Cq Q)):o.wpIn (Fence.wide.inRound l) n P a w K Q:=by
 unfold Oper.wp at h;unfold Oper.wpIn;refine⟨fun _ _=>trivial,?_⟩;rw[Oper.semAt_eq _ _ _ (PN hd)];generalize (execOp a.eval o).run P w=r at *
 cases r with
 | ok x w'=>
   cases x<;>simp only[Oper.upon]at h<;>simp only[Oper.uponIn]
   case value u=>exact h
   case skip=>exact h
   case defer d=>exact h
   case enter f args=>
    refine⟨fun e=>(by cases e),CallsIn.inRound l (callsIn_wide.2 (h.mono fun e w'' he=>?_))⟩
    cases e with
    | returned v=>exact he
    | panicked c=>cases he.1
    | outgrown=>exact absurd he Jw
   case row r args=>
    exact⟨fun e=>(by cases e),fun c cs _=>let ⟨v,w',r,s⟩:=h c cs;⟨v,w',r,stepsIn_wide.2 s⟩⟩
 | halt x w'=>cases x<;>simp only[Oper.upon]at h<;>first|exact h.elim|cases h.1
theorem S9{i l n:Nat}{a:Act}{K K':Act->World->Prop}{w:World}(hd:ops.toList.all tC=true)(hk:∀a w,K a w->K' a w)(h:wpOp P ops (Cq Q) i K a w):wpOpIn (Fence.wide.inRound l) n P ops Q i K' a w:=by
 refine wpOpIn_mono hk ?_;unfold wpOp at h;unfold wpOpIn;split
 ·rename_i ho;simpa only[ho] using h
 ·rename_i o ho;simp only[ho]at h;have hdo:tC o=true:=List.all_eq_true.1 hd o (List.mem_of_getElem? (by rw[Array.getElem?_toList];exact ho));split
  ·rename_i hw;simp only[hw,if_true]at h;rcases h with h|⟨_,h⟩
   ·exact TH hdo h
   ·exact absurd h Jw
  ·rename_i hw;simp only[hw]at h;exact⟨fun _ _=>trivial,h⟩
theorem Md{md:Region.Mode}{l n:Nat}(hd:ops.toList.all tC=true):∀(fuel:Nat) (listed:Array Bool) (a:Act) (w:World),wpAny P md ops (Cq Q) fuel listed a w->wpAnyIn (Fence.wide.inRound l) n P md ops Q fuel listed a w
 | 0,_,_,_,h=>⟨h.1,h.2.2⟩
 | fuel+1,_,_,_,h=>⟨fun h0=>(h.1 h0).2,fun i hi=>S9 hd (fun a w=>Md hd fuel _ a w) (h.2 i hi)⟩
theorem D9{id l n:Nat}{S:World->Prop}{a:Act}{w:World}{os:List Oper}(hm:P.follows .mixedOrders=true)(hd:os.all tC=true)(hS:S w.drew)
 (h:S w.drew->wpAnyH P .any os.toArray (Cq Q) S os.length (Array.replicate os.length false) a w.drew):(Code.region id os.toArray true).wpIn (Fence.wide.inRound l) n P Q a w:=
 wpIn_region_any hm (Md (by simpa using hd) _ _ _ _ (wpAny_of_held _ _ _ _ (by simpa using h hS)))
theorem xz{F:Fence}{n:Nat}{w w':World}{rest:List Oper}{o:Oper}{a:Act}{s x:Operand}{t:TypeId}{v u v':Value}(hgd:o.guard=none)
 (ho:o.op=.call { callee:=.builtin .append,args:=#[s,x],argTypes:=#[t,t] }) (hs:a.eval s=v) (hx:a.eval x=u) (hrun:(Builtin.append_ #[t,t] o.type #[v,u]).run P w=.ok v' w')
 (h:wpListIn F n P ops Q rest (a.put o.dst v') w'):wpListIn F n P ops Q (o :: rest) a w:=by
 refine wpListIn_plain hgd fun K hK=>?_;unfold Oper.wpIn;refine⟨?_,?_⟩
 ·simp[Oper.about,ho,resolve,Target.leads,Sem.run_pure]
 ·rw[Oper.semAt_plain F _ _ (by rw[ho];intro c hc';cases hc')];simp only[execOp,ho,resolve,invoke,builtin,Sem.run_bind,Sem.run_pure,Result.andThen_ok,List.map_toArray,List.map_cons,List.map_nil,hs,hx,hrun];exact hK _ _ h
end
end
theorem kT(W:World)(T:TypeId)(v:Value)(k:Nat)(hk:W.heap.size=k):Boxed (W.alloc (.cells #[v] T)) k T v:=hk▸Boxed.new W T v
theorem GX{w0:World}{h:List aA}{hv:Value}{FB KB:Nat}(w:World)(H:gL w0 hv h)(hok:aC h=true)(hb:Ext w0 w)(hf:Boxed w FB 57 (.slice none 0 0))(hk:Boxed w KB 4 (.bool false))(hne:FB≠KB)(hlo:w0.heap.size<=FB/\w0.heap.size<=KB) :
 Calls Tryz.prog 168 #[hv,.func (.func 121) #[] #[],.func (.func 169) #[] #[.pointer (some ⟨FB,0,none⟩),.pointer (some ⟨KB,0,none⟩)]] w fun e w'=>e=.returned (.tuple #[])/\Ext w0 w'/\∃bo,w0.heap.size<=bo /\
  (∀o,dW h=some o->Boxed w' KB 4 (.bool true)/\∃u,Boxed w' FB 57 u/\Row 3 1 (one gT) bo w' u o)/\(dW h=none->Boxed w' KB 4 (.bool false)/\Boxed w' FB 57 (.slice none 0 0)):=by
 obtain⟨Ah,ch,rfl⟩:=H.slice;have HH:=aa H;have dO:=aa hok;have hlen:=aM hok;have HB:=aa hb;have HF:=aa hf;have HK:=aa hk;have VR:=aa hf.lt;have HKL:=aa hk.lt;have hal:=jU h;have hmk:=gY (P:=Tryz.prog) 57 3 Tryz.underlying57 bQ (aH h).length (by omega) (by omega);have Xu:=aa hmk;clear H hok hb hf hk hmk;go_enter Tryz.func168,Tryz.ntmps168;go_wp2_with fail
 refine(rJ _ (HH.out.ext (HB.out.trans ((((Ext.refl w).alloc _).alloc _).alloc _))) (by omega)).mono ?_
 rintro e w1 ⟨BZ,rfl,hrow,b1⟩;obtain⟨A,c,rfl,_⟩:=id hrow.cell.1;have nV:=aa hrow;have HB1:=aa b1;have hmk:=Xu.out;have hsf:∀(fn:Fn) (x y:Array Value) (a:Addr) (m:Mode) (W:World),(store a (.func fn x y) m).run Tryz.prog W=stored Tryz.prog W a (.func fn x y) m:=fun fn x y a m W=>run_store Tryz.prog W a _ m rfl;clear hrow b1;go_wp2_with fail
 have hs1:w.heap.size+3<=w1.heap.size:=by have:=HB1.out.size;simp at this;omega
 have hFw:=VR.out;have hKw:=HKL.out;have h0w:=HB.out.size;have hAb:∀a n' c',(Value.slice A (aH h).length c)=.slice (some a) n' c'->0<n'->w.heap.size+3<=a.block/\a.block<w1.heap.size:=fun a n' c' e hn=>by obtain⟨x1,x2,_⟩:=nV.out.cell.2 a n' c' e hn;simp at x1;exact⟨by omega,x2⟩
 have b2:Ext w1 ((((w1.alloc (.cells #[.slice A (aH h).length c] 57)).alloc (.cells (madeCells #[.int .i64 0] (aH h).length) 3)).alloc (.cells #[.slice (some ⟨w1.heap.size+1,0,none⟩) 0 (aH h).length] 57)).alloc (.cells #[.func (.func 204) #[] #[.pointer (some ⟨w1.heap.size+1+1,0,none⟩),.pointer (some ⟨w1.heap.size,0,none⟩),.pointer (some ⟨w.heap.size+1+1,0,none⟩),.pointer (some ⟨w.heap.size+1,0,none⟩),.pointer (some ⟨w.heap.size,0,none⟩),.pointer (some ⟨w1.heap.size+1+1+1,0,none⟩)]] 216)):=((((Ext.refl w1).alloc _).alloc _).alloc _).alloc _;have hrm:=jN (w:=w1.alloc (.cells #[.slice A (aH h).length c] 57)) (E:=3) (m:=1) (enc:=one gT) (madeCells #[.int .i64 0] (aH h).length) (aH h).length (by unfold maxLen;omega) (by rw[Nat.mul_one];exact size_madeCells _ _);have hz1:(w1.alloc (.cells #[.slice A (aH h).length c] 57)).heap.size=w1.heap.size+1:=by simp
 rw[hz1]at hrm;have b0:Ext w (((w.alloc (.cells #[.slice Ah h.length ch] 24)).alloc (.cells #[.func (.func 121) #[] #[]] 138)).alloc (.cells #[.func (.func 169) #[] #[.pointer (some ⟨FB,0,none⟩),.pointer (some ⟨KB,0,none⟩)]] 191)):=(((Ext.refl w).alloc _).alloc _).alloc _
 refine(Ns (w0:=w0) (h:=h) (all:=aH h) (hv:=.slice Ah h.length ch) (BZ:=.slice A (aH h).length c) (fv:=.slice none 0 0) (OB:=w1.heap.size+1+1) (AB:=w1.heap.size) (CB:=w.heap.size+1+1) (WB:=w.heap.size+1) (HB:=w.heap.size) (SB:=w1.heap.size+1+1+1) (FB:=FB) (KB:=KB) (bo:=w1.heap.size+1) HH.out dO.out
  ⟨by omega,by omega,by omega,by omega,by omega,by omega,by omega,hne,by omega⟩ (fun a n' c' e hn=>by have:=hAb a n' c' e hn;exact⟨by omega,by omega⟩) (fun n hn=>(nK hn).1) (by omega) (aH h).length ni [] 0 (.slice (some ⟨w1.heap.size+1,0,none⟩) 0 (aH h).length) _ ?_ ?_ ?_ ?_ ?_ ?_ (fun n=>by simp) (by omega) (by simp) ?_).mono ?_
 ·exact⟨HB.out.trans (b0.trans (HB1.out.trans b2)),((Boxed.new w1 _ _).alloc _).alloc _ |>.alloc _,aL (aL (kT _ _ _ _ (by simp)) HB1.out) b2,aL (aL ((kT _ _ _ _ (by simp)).alloc _) HB1.out) b2,aL (aL (((Boxed.new w _ _).alloc _).alloc _) HB1.out) b2,kT _ _ _ _ (by simp)⟩
 ·exact nV.out.cell.1.ext b2
 ·exact(kT _ _ _ _ (by simp)).alloc _
 ·exact hrm.ext (((Ext.refl _).alloc _).alloc _)
 ·exact aL (aL (aL HF.out b0) HB1.out) b2
 ·exact aL (aL (aL HK.out b0) HB1.out) b2
 ·simp
 rintro e w2 ⟨hG,hP,hQ⟩;have QK:=aa (hG.out (HB.out.trans (b0.trans (HB1.out.trans b2))) (fun i hx=>by
  rcases hx with hx|hx|hx|hx
  ·omega
  ·omega
  ·omega
  ·have:=hrm.block i hx;omega))
 have HP:=aa hP;have HQ:=aa hQ;have HS:=aa (show w0.heap.size<=w1.heap.size+1 by omega);have he:∃b,e=.returned (.bool b):=by
  cases hd:Np h (aH h) (aH h).length ni [] with
  | some o=>exact⟨_,(hP o hd).1⟩
  | none=>exact⟨_,(hQ hd).1⟩
 obtain⟨bb,rfl⟩:=he;clear hG hP hQ b2 b0 hrm hz1 hAb hs1 hFw hKw h0w;go_wp2;go_returns;exact⟨rfl,QK.out,w1.heap.size+1,HS.out,fun o ho=>(HP.out o ho).2,fun hn=>(let ⟨_,a,b,_⟩:=HQ.out hn;⟨a,b⟩)⟩
def BA(w:World)(r:Option (List Nat))(e:Ending)(w':World):Prop:=∃v,e=.returned (.tuple #[v,.bool r.isSome])/\aF 1 (one gT) w' v (r.getD [])/\Ext w w'
theorem DN{h:List aA}{hv:Value}(w:World)(H:gL w hv h)(hok:aC h=true) :
 Calls Tryz.prog 120 #[hv,.func (.func 121) #[] #[]] w (BA w (dW h)):=by
 obtain⟨Ah,ch,rfl⟩:=H.slice;have HH:=aa H;have dO:=aa hok;have b0:Ext w ((w.alloc (.cells #[.slice none 0 0] 57)).alloc (.cells #[.bool false] 4)):=((Ext.refl w).alloc _).alloc _;have hC:=GX (w0:=w) (FB:=w.heap.size) (KB:=w.heap.size+1) _ H hok b0 ((Boxed.new w _ _).alloc _) (kT _ _ _ _ (by simp)) (by omega) (by omega);obtain⟨R,hR⟩:∃R,dW h=R:=⟨_,rfl⟩;rw[hR]at hC ⊢;have HC:=aa hC;clear H hok b0 hR hC;go_enter Tryz.func120,Tryz.ntmps120;go_wp2_with fail
 refine HC.out.mono ?_;rintro e w1 ⟨rfl,b1,bo,LY,hP,hQ⟩
 cases R with
 | some o=>
   obtain⟨hk,u,hf,hr⟩:=hP o rfl;obtain⟨A,c,rfl,_⟩:=id hr.cell.1;have hcap:=hr.cap _ _ _ rfl;have HS:=aa hr.cell.1;have kf:=hf.cell;have kk:=hk.cell;clear hP hQ hk hf hr;go_wp2;go_region_held3 (fun V=>V.cell? ⟨w.heap.size,0,none⟩=some (.slice A o.length c)/\V.cell? ⟨w.heap.size+1,0,none⟩=some (.bool true)) (exact⟨by assumption,by assumption⟩) ((go_at_call 163;refine(tq A o.length c _ hcap).mono ?_;rintro e w2 ⟨rfl,rfl⟩;have q1:=(show w1.drew.cell? ⟨w.heap.size,0,none⟩ = _ from kf);have q2:=(show w1.drew.cell? ⟨w.heap.size+1,0,none⟩ = _ from kk)))
   go_wp2;go_returns;obtain⟨A',c',e,hc⟩:=HS.out.ext (Ext.refl w1).drew;injection e with e1 e2 e3;subst e1;exact⟨_,rfl,⟨A,o.length,rfl,hc⟩,b1.drew⟩
 | none=>
   obtain⟨hk,hf⟩:=hQ rfl;have kf:=hf.cell;have kk:=hk.cell;clear hP hQ hk hf;go_wp2;go_region_held3 (fun V=>V.cell? ⟨w.heap.size,0,none⟩=some (.slice none 0 0)/\V.cell? ⟨w.heap.size+1,0,none⟩=some (.bool false)) (exact⟨by assumption,by assumption⟩) ((go_at_call 163;refine(tq none 0 0 _ (by omega)).mono ?_;rintro e w2 ⟨rfl,rfl⟩;have q1:=(show w1.drew.cell? ⟨w.heap.size,0,none⟩ = _ from kf);have q2:=(show w1.drew.cell? ⟨w.heap.size+1,0,none⟩ = _ from kk)))
   go_wp2;go_returns;exact⟨_,rfl,aF.nil _ _ _ _ _,b1.drew⟩
theorem DU{h:List aA}{hv:Value}(w:World)(H:gL w hv h)(hok:aC h=true) :
 Calls Tryz.prog 96 #[hv] w (BA w (dW h)):=by
 obtain⟨Ah,ch,rfl⟩:=H.slice;have HH:=aa H;have dO:=aa hok;have hlen:=aM hok;have HV:=aa (bN _ H (by omega) (aD hok));have HL:=aa hlen;clear H hok hlen;obtain⟨R,hR⟩:∃R,dW h=R:=⟨_,rfl⟩;have HR:=aa hR;rw[hR];clear hR;go_enter Tryz.func96,Tryz.ntmps96;go_wp2_with fail
 refine HV.out.mono ?_;rw[dO.out];rintro e w1 ⟨rfl,b1⟩;go_wp2_with fail
 refine(DN _ (HH.out.ext b1) dO.out).mono ?_
 rw[HR.out];rintro e w2 ⟨v,rfl,hs,b2⟩;have HS:=aa hs;obtain⟨A,c,rfl,_⟩:=id hs;clear hs;go_wp2;go_returns;exact⟨_,rfl,HS.out,b1.trans b2⟩
theorem Q5{v u:Value}{h:List aA}{ds:List Edge}(l:Nat)(w:World)(H:gL w v h)(hok:aC h=true)(hS:aF 3 aR w u ds)(hds:ds.length<=144/\∀e∈ds,edgeOk h.length e)(hl4:l<=4) :
 Calls Tryz.prog 167 #[v,u,.int .i64 (l:Int)] w fun e w'=>e=.returned (.bool (fA h ds l))/\Ext w w':=by
 obtain⟨A,c,rfl⟩:=H.slice;have HH:=aa H;have dO:=aa hok;have HS:=aa hS;have HD:=aa hds;have HL:=aa (aM hok);obtain⟨B,d,rfl,_⟩:=id hS;clear H hok hS hds;obtain⟨R,hR⟩:∃R,fA h ds l=R:=⟨_,rfl⟩;have HR:=aa hR;rw[hR];clear hR;go_enter Tryz.func167,Tryz.ntmps167;go_wp2;go_loopw [7] (fun i wr=>Ext w wr/\∃k:Nat,k<=l/\i=.int .i64 ((k:Int)+1)/\Hid (mO ds k=false)) (fun i _=>l+1-(intOf i).toNat)
 case atStart=>exact⟨Ext.refl _,0,Nat.zero_le _,rfl,rfl⟩
 case round=>
  obtain⟨hb,k,hk,rfl,HK⟩:=hrel;by_cases hlt:k<l
  ·have hd:decide ((k:Int)+1<=(l:Int))=true:=by simp;omega
   have k0:(0:Int)<=(k:Int):=by omega
   have k5:(k:Int)<=4:=by omega
   obtain⟨t,ht⟩:∃t,dX ds ((k:Int)+1)=t:=⟨_,rfl⟩;have HT:=aa ht;clear ht;go_wp2_with fail
   refine(DZ h.length ((k:Int)+1) _ HL.out (HS.out.ext hb) HD.out.1 HD.out.2).mono ?_
   rw[HT.out];rintro e w1 ⟨rfl,b1⟩
   cases t with
   | true=>
     have hf:Hid (false=R):=by show _ = _;rw[<-HR.out];symm;unfold fA;rw[Jo (k:=k+1) (by omega) (by rw[wH,HT.out];simp)];rfl
     go_wp2;go_returns;exact⟨aN hf.out,hb.trans b1⟩
   | false=>
     have HN:Hid (mO ds (k+1)=false):=by show _ = _;rw[wH,HK.out,HT.out];rfl
     go_wp2;go_roundw;case rel=>exact⟨hb.trans b1,k+1,by omega,by go_num,HN.out⟩
     case measure=>simp[intOf];omega
  ·obtain rfl:k=l:=by omega
   have hd:decide ((k:Int)+1<=(k:Int))=false:=decide_eq_false (by omega);by_cases h2:k<2
   ·have hd2:decide ((k:Int)<2)=true:=decide_eq_true (by omega);have hf:Hid (true=R):=by show _ = _;rw[<-HR.out];symm;unfold fA;rw[HK.out];simp[h2]
    go_wp2;go_returns;exact⟨aN hf.out,hb⟩
   ·have hd2:decide ((k:Int)<2)=false:=decide_eq_false (by omega);have hf:Hid (gG h=R):=by show _ = _;rw[<-HR.out];symm;unfold fA;rw[HK.out];simp[h2]
    go_wp2_with fail
    refine(D8 _ (HH.out.ext hb) dO.out).mono ?_
    rintro e w1 ⟨rfl,b1⟩;go_wp2;go_returns;exact⟨aN hf.out,hb.trans b1⟩
theorem Kg{v u:Value}{h:List aA}{os:List (List Int)}(w:World)(H:gL w v h)(hok:aC h=true)(hu:I2 w u os)(ho:jQ h os) :
 Calls Tryz.prog 119 #[v,u] w fun e w'=>e=.returned (.int .i64 (jP h (bZ h os):Int))/\Ext w w':=by
 obtain⟨A,c,rfl⟩:=H.slice;obtain⟨Au,cu,rfl,_⟩:=Ls.slice hu;have HH:=aa H;have dO:=aa hok;have HU:=aa hu;have HO:=aa ho;have HV:=aa (rP w H hok hu ho);clear H hok hu ho;obtain⟨R,hR⟩:∃R,jP h (bZ h os)=R:=⟨_,rfl⟩;have HR:=aa hR;rw[hR];clear hR;go_enter Tryz.func119,Tryz.ntmps119;go_wp2_with fail
 refine HV.out.mono ?_;rintro e w1 ⟨rfl,b1⟩;go_wp2_with fail
 refine(Lx _ (HH.out.ext b1) dO.out (Ls.ext HU.out (dZ (T:=57) (by decide)) b1) HO.out).mono ?_
 rintro e w2 ⟨u',ds,rfl,hso,hds,b2⟩;have HE:=aa (WK dO.out HO.out hso);have HLV:Hid (jP h ds=R):=by show _ = _;rw[NF (fun x=>hso.1 x)];exact HR.out
 have HDS:=aa hds;obtain⟨Ad,cd,rfl,_⟩:=id hds;clear hds hso;have hb:=b1.trans b2;clear b1 b2;go_wp2;go_loopw [6] (fun i wr=>Ext w wr/\Ext w2 wr/\∃k:Nat,k<=4/\i=.int .i64 k/\Hid (fI h ds k=R)) (fun i _=>(intOf i).toNat)
 case atStart=>exact⟨hb,Ext.refl _,4,by omega,rfl,HLV.out⟩
 case round=>
  clear HLV hb;obtain⟨hb,hb2,k,hk,rfl,HK⟩:=hrel;have k0:(0:Int)<=(k:Int):=by omega
  have k5:(k:Int)<=4:=by omega
  obtain⟨t,ht⟩:∃t,fA h ds k=t:=⟨_,rfl⟩;have HT:=aa ht;clear ht;go_wp2_with fail
  refine(Q5 k _ (HH.out.ext hb) dO.out (HDS.out.ext hb2) HE.out hk).mono ?_
  rw[HT.out];rintro e w3 ⟨rfl,b3⟩
  cases t with
  | true=>
    have hf:Hid ((k:Int)=(R:Int)):=by show _ = _;rw[<-HK.out,xS HT.out]
    go_wp2;go_returns;exact⟨aX hf.out,hb.trans b3⟩
  | false=>
    obtain⟨j,rfl⟩:∃j,k=j+1:=by
     cases k with
     | zero=>exact absurd HT.out (by rw[zP];decide)
     | succ j=>exact⟨j,rfl⟩
    have HN:Hid (fI h ds j=R):=by show _ = _;rw[<-vO HT.out];exact HK.out
    go_wp2;go_roundw;case rel=>exact⟨hb.trans b3,hb2.trans b3,j,by omega,by go_num,HN.out⟩
    case measure=>simp[intOf]
theorem xC(h:List aA):(eZ h).length<=200:=by
 unfold eZ;split
 ·rename_i hh
  have:(bG h 3).length=iw h:=by rw[zI,pE]
  omega
 ·simp
theorem FE{v:Value}{h:List aA}(w:World)(H:gL w v h)(hok:aC h=true) :
 Calls Tryz.prog 94 #[v] w fun e w'=>e=.returned (.int .i64 (qP h))/\Ext w w':=by
 obtain⟨A,c,rfl⟩:=H.slice;have HH:=aa H;have dO:=aa hok;have HA:=aa (Gq w H hok);have HM:=aa (fun os (hm:os∈eZ h)=>yZ hm);clear H hok;have hn:=xC h;obtain⟨R,hR⟩:∃R,qP h=R:=⟨_,rfl⟩;have hR':=hR;unfold qP at hR';have HR:=aa hR';rw[hR];clear hR hR';obtain⟨l,hl⟩:∃l,eZ h=l:=⟨_,rfl⟩;have hR2:=HR.out;have hA:=HA.out;have hM:=HM.out;rw[hl]at hR2 hA hM hn;have HR2:=aa hR2;have HA2:=aa hA;have Su:=aa hM;clear hl hR2 hA hM HR HA HM;go_enter Tryz.func94,Tryz.ntmps94;go_wp2_with fail
 refine HA2.out.mono ?_;rintro e w1 ⟨u,rfl,hu,b1⟩;obtain⟨Au,cu,rfl,_⟩:=Ls.slice hu;have HU:=aa hu;clear hu HA2;go_wp2;go_loopw [3,9] (fun x i wr=>Ext w wr/\Ext w1 wr/\∃k:Nat,k<=l.length/\i=.int .i64 k/\x=.int .i64 (kV h l k)) (fun _ i _=>l.length-(intOf i).toNat)
 case atStart=>exact⟨b1,Ext.refl _,0,Nat.zero_le _,rfl,rfl⟩
 case round=>
  obtain⟨hb,hb1,k,hk,rfl,rfl⟩:=hrel;by_cases hlt:k<l.length
  ·obtain⟨b,off,rfl,hbl,hcell⟩:=Ls.cells HU.out (by omega);obtain⟨os,hos⟩:=af hlt;obtain⟨uo,hc,hi⟩:=hcell k os hos;have c0:=hb1.cell hc;have HI:=aa (Ls.ext hi (dZ (T:=57) (by decide)) hb1);obtain⟨Ao,co,rfl,_⟩:=Ls.slice hi;have HO:=aa (Su.out os (List.mem_of_getElem? hos));have HN:=aa (CO (h:=h) hos);have hin:=Jt h l k;obtain⟨z,hz⟩:∃z,kV h l k=z:=⟨_,rfl⟩;have hN:=HN.out;rw[hz]at hin hN ⊢;have tF:=aa hN;clear hz hN HN hcell hc hos hi;go_wp2_with fail
   refine(Kg _ (HH.out.ext hb) dO.out HI.out HO.out).mono ?_
   rintro e w2 ⟨rfl,b2⟩;have hlv:=wN h (bZ h os);obtain⟨y,hy⟩:∃y,jP h (bZ h os)=y:=⟨_,rfl⟩;have hN:=tF.out;rw[hy]at hlv hN ⊢;have UR:=aa hN;clear hy hN tF;have y0:(0:Int)<=(y:Int):=by omega
   have y4:(y:Int)<=4:=by omega
   rcases Int.le_total z (y:Int) with SE|SE
   ·have hmx:Hid (kV h l (k+1)=(y:Int)):=by show _ = _;rw[UR.out];omega
    go_wp2;go_roundw;case rel=>exact⟨hb.trans b2,hb1.trans b2,k+1,by omega,by go_num,by rw[hmx.out];simp;try omega⟩
    case measure=>simp[intOf];omega
   ·have hmx:Hid (kV h l (k+1)=z):=by show _ = _;rw[UR.out];omega
    go_wp2;go_roundw;case rel=>exact⟨hb.trans b2,hb1.trans b2,k+1,by omega,by go_num,by rw[hmx.out];simp;try omega⟩
    case measure=>simp[intOf];omega
  ·obtain rfl:k=l.length:=by omega
   go_wp2;go_returns;exact⟨aX HR2.out,hb⟩
theorem Xi{h:List aA}{s:iV}{l:List Nat}{k:Nat}(e:runs h s (l.take k)=none):runs h s l=none:=by rw[<-List.take_append_drop k l,Cu,e];rfl
theorem Wq{h:List aA}{n:Nat}{t:aA}(ht:h[n]? =some t):rH h n=t.ops:=by simp[rH,ht]
theorem K5{s:iV}{k v:Int}(h:s k=v):s.put k v=s:=by
 funext x;unfold iV.put;split
 ·rename_i e;rw[e,h]
 ·rfl
theorem O9(W:World):(Instr.makeSlice 57 (.int .i64 3) (.int .i64 3)).run Tryz.prog W=.ok (.slice (some ⟨W.heap.size,0,none⟩) 3 3) (W.alloc (.cells #[.int .i64 0,.int .i64 0,.int .i64 0] 3)):=by
 have h:=jV (P:=Tryz.prog) 57 3 Tryz.underlying57 bQ 3 (by omega) (by omega) W;have e:madeCells (Value.int .i64 0).cells (3*1)=#[.int .i64 0,.int .i64 0,.int .i64 0]:=by kernel_rfl
 rw[e]at h;exact h
theorem Dr{v u:Value}{h:List aA}{order:List Nat}(w:World)(H:gL w v h)(ho:aF 1 (one gT) w u order)(hok:aC h=true)(hm:∀n∈order,n<h.length)(hlen:order.length<=2097152) :
 Calls Tryz.prog 85 #[v,u] w fun e w'=>e=.returned (.bool (runs h ni order).isSome)/\Ext w w':=by
 obtain⟨A,c,rfl⟩:=H.slice;obtain⟨A',c',rfl,_⟩:=id ho;have HH:=aa H;have HO:=aa ho;have dO:=aa hok;have HM:=aa hm;clear H ho hok hm;have hmk:=O9;go_enter Tryz.func85,Tryz.ntmps85;go_wp2;clear hmk;go_loopw [6] (fun i wr=>Ext w wr/\∃k:Nat,k<=order.length/\i=.int .i64 k/\Hid (∃s,runs h ni (order.take k)=some s/\oZ wr w.heap.size s)) (fun i _=>order.length-(intOf i).toNat)
 case atStart=>exact⟨(Ext.refl _).alloc _,0,Nat.zero_le _,rfl,ni,rfl,Ba w ni _⟩
 case round=>
  obtain⟨hb,k,hk,rfl,HS⟩:=hrel;by_cases hlt:k<order.length
  ·obtain⟨A2,c2,e,hcc⟩:=HO.out.ext hb;injection e with e1 e2 e3;subst e1 e3;obtain⟨b2,off2,rfl,WZ,hcc⟩:=hcc (by omega);obtain⟨n,hn⟩:=af hlt;have hnl:=HM.out n (List.mem_of_getElem? hn);have hd0:=hcc k n hn 0 (by omega);rw[Nat.mul_one,Nat.add_zero]at hd0;have d0:wr.cell? ⟨b2,off2+k,none⟩=some (.int .i64 (n:Int)):=hd0;obtain⟨b,off,rfl,hbl,hc⟩:=HH.out.head (by omega);obtain⟨t,ht⟩:=af hnl;obtain⟨ov,c0,c1,c2,hs⟩:=hc n t ht;replace c1:=hb.cell c1;obtain⟨A4,c4,rfl,hops⟩:=hs;have Ow:=aa hops;have htk:=bY dO.out (List.mem_of_getElem? ht);have O8:=aa htk;have hol:=bU htk;obtain⟨s,hs0,hst⟩:=HS.out;have HN:Hid (runs h ni (order.take (k+1))=follow s t.ops):=by show _ = _;rw[ah hn,Cm,hs0,Option.bind_some,Wq ht]
   have HST:=aa hst;have HB:=aa hb;clear hcc hn hd0 hc c0 c2 ht hops htk hs0 hst HS e2 hb;go_wp2;go_loopw [8] (fun i wv=>Ext w wv/\∃j:Nat,j<=t.ops.length/\i=.int .i64 j/\Hid (∃s',follow s (t.ops.take j)=some s'/\oZ wv w.heap.size s')) (fun i _=>t.ops.length-(intOf i).toNat)
   case atStart=>exact⟨HB.out,0,Nat.zero_le _,rfl,s,rfl,HST.out⟩
   case round=>
    obtain⟨hb,j,hj,rfl,HJ⟩:=hrel;by_cases hjt:j<t.ops.length
    ·obtain⟨b',off',rfl,pg,hcc⟩:=Ow.out (by omega);obtain⟨o,ho⟩:=af hjt;have c0:=hb.cell (hcc j o ho 0 (by omega));have c1:=hb.cell (hcc j o ho 1 (by omega));have c2:=hb.cell (hcc j o ho 2 (by omega));simp only[aj,Nat.add_zero]at c0 c1 c2;have xx:=eT O8.out (List.mem_of_getElem? ho);have hkey:=iB xx;have hkind:=nL xx;obtain⟨s',hs',hst⟩:=HJ.out;have UG:Hid (follow s (t.ops.take (j+1))=if iN o then some (s'.put o.key o.value) else if s' o.key=o.value then some s' else none):=by show _ = _;rw[ah ho,CF,hs',Option.bind_some]
     have HSJ:=aa hst;obtain⟨kd,ky,vl⟩:=o;simp only at hkey hkind c0 c1 c2;obtain⟨q,rfl⟩:=Int.eq_ofNat_of_zero_le hkey.1;have hq3:(q:Int)<3:=by omega
     have ML:q<3:=by omega
     have c3:=hst.2 q ML;have hfree:=hst.1.free q;obtain⟨y,hy⟩:∃y,s' (q:Int)=y:=⟨_,rfl⟩;rw[hy]at c3;have HY:=aa hy;clear xx hkey hcc ho hs' hst HJ hy;rcases hkind with rfl|rfl
     ·by_cases hyv:y=vl
      ·have hd:(y != vl)=false:=by simp[hyv]
       have UR:Hid (follow s (t.ops.take (j+1))=some (s'.put (q:Int) vl)):=by show _ = _;rw[UG.out,if_neg (by simp[iN]),if_pos (by rw[HY.out,hyv]),K5 (by rw[HY.out,hyv])]
       clear hyv UG;go_wp2;have e0:∀e,(over wr e).cell? ⟨b',off'+j*3,none⟩=some (.int .i64 1):=aG c0;have e1:∀e,(over wr e).cell? ⟨b',off'+j*3+1,none⟩=some (.int .i64 (q:Int)):=aG c1;have e2:∀e,(over wr e).cell? ⟨b',off'+j*3+2,none⟩=some (.int .i64 vl):=aG c2;have e3:∀e,(over wr e).cell? ⟨w.heap.size,q,none⟩=some (.int .i64 y):=aG c3;refine aO (by kernel_rfl) (by kernel_rfl) ?_;repeat (go_big_quiet_step (fail))
       refine wpQuiet_nil ?_;clear e0 e1 e2 e3;intro wz X;go_wp2;have u1:({ wz with drawn:=wz.drawn+1 }:World).cell? ⟨b',off'+j*3+1,none⟩=some (.int .i64 (q:Int)):=X.cell c1;have u2:({ wz with drawn:=wz.drawn+1 }:World).cell? ⟨b',off'+j*3+2,none⟩=some (.int .i64 vl):=X.cell c2;have u3:({ wz with drawn:=wz.drawn+1 }:World).cell? ⟨w.heap.size,q,none⟩=some (.int .i64 y):=X.cell c3;have v1:=X.cell c1;have v2:=X.cell c2;have v3:=X.cell c3;have u5:wz.frozen? ⟨w.heap.size,q,none⟩=false:=(HSJ.out.1.ext X).free q;clear c0 c1 c2 c3 hfree;have i1:(j:Int)<(t.ops.length:Int):=by omega
       have i2:(0:Int)<=(j:Int):=by omega
       have i3:(0:Int)<=(q:Int):=by omega
       go_still_tail 11,(by kernel_rfl)
       change wpList _ _ _ _ _ wz.drew;clear u1 u2 u3;go_wp2;have Y:=X.drew;have DL:=aa ((HSJ.out.ext Y).put (q:=q) ML vl);go_roundw;case rel=>exact⟨(hb.trans Y).setCell (Nat.le_refl _) _,j+1,by omega,by go_num,_,UR.out,DL.out⟩
       case measure=>simp[intOf];omega
      ·have hd:(y != vl)=true:=by simp[hyv]
       have UR:Hid (runs h ni order=none):=Xi (k:=k+1) (by rw[HN.out];exact GD (k:=j+1) (by rw[UG.out,if_neg (by simp[iN]),if_neg (by rw[HY.out];exact hyv)]))
       clear hyv UG;go_wp2;have e0:∀e,(over wr e).cell? ⟨b',off'+j*3,none⟩=some (.int .i64 1):=aG c0;have e1:∀e,(over wr e).cell? ⟨b',off'+j*3+1,none⟩=some (.int .i64 (q:Int)):=aG c1;have e2:∀e,(over wr e).cell? ⟨b',off'+j*3+2,none⟩=some (.int .i64 vl):=aG c2;have e3:∀e,(over wr e).cell? ⟨w.heap.size,q,none⟩=some (.int .i64 y):=aG c3;refine aO (by kernel_rfl) (by kernel_rfl) ?_;repeat (go_big_quiet_step (fail))
       refine wpQuiet_nil ?_;clear e0 e1 e2 e3;intro wz X;go_wp2;go_returns;exact⟨aN (by rw[UR.out];rfl),hb.trans X⟩
     ·have UR:Hid (follow s (t.ops.take (j+1))=some (s'.put (q:Int) vl)):=by show _ = _;rw[UG.out,if_pos (by simp[iN])]
      clear UG;go_wp2;have e0:∀e,(over wr e).cell? ⟨b',off'+j*3,none⟩=some (.int .i64 2):=aG c0;have e1:∀e,(over wr e).cell? ⟨b',off'+j*3+1,none⟩=some (.int .i64 (q:Int)):=aG c1;have e2:∀e,(over wr e).cell? ⟨b',off'+j*3+2,none⟩=some (.int .i64 vl):=aG c2;have e3:∀e,(over wr e).cell? ⟨w.heap.size,q,none⟩=some (.int .i64 y):=aG c3;refine aO (by kernel_rfl) (by kernel_rfl) ?_;repeat (go_big_quiet_step (fail))
      refine wpQuiet_nil ?_;clear e0 e1 e2 e3;intro wz X;go_wp2;have u1:({ wz with drawn:=wz.drawn+1 }:World).cell? ⟨b',off'+j*3+1,none⟩=some (.int .i64 (q:Int)):=X.cell c1;have u2:({ wz with drawn:=wz.drawn+1 }:World).cell? ⟨b',off'+j*3+2,none⟩=some (.int .i64 vl):=X.cell c2;have u3:({ wz with drawn:=wz.drawn+1 }:World).cell? ⟨w.heap.size,q,none⟩=some (.int .i64 y):=X.cell c3;have v1:=X.cell c1;have v2:=X.cell c2;have v3:=X.cell c3;have u5:wz.frozen? ⟨w.heap.size,q,none⟩=false:=(HSJ.out.1.ext X).free q;clear c0 c1 c2 c3 hfree;have i1:(j:Int)<(t.ops.length:Int):=by omega
      have i2:(0:Int)<=(j:Int):=by omega
      have i3:(0:Int)<=(q:Int):=by omega
      go_still_tail 11,(by kernel_rfl)
      change wpList _ _ _ _ _ wz.drew;clear u1 u2 u3;go_wp2;have Y:=X.drew;have DL:=aa ((HSJ.out.ext Y).put (q:=q) ML vl);go_roundw;case rel=>exact⟨(hb.trans Y).setCell (Nat.le_refl _) _,j+1,by omega,by go_num,_,UR.out,DL.out⟩
      case measure=>simp[intOf];omega
    ·obtain rfl:j=t.ops.length:=by omega
     obtain⟨s',hs',hst⟩:=HJ.out;rw[List.take_length]at hs';have HF:=aa (And.intro hs' hst);clear hs' hst HJ;go_wp2;go_roundw;case rel=>exact⟨hb,k+1,by omega,by go_num,s',by rw[HN.out];exact HF.out.1,HF.out.2⟩
     case measure=>simp[intOf];omega
  ·obtain rfl:k=order.length:=by omega
   obtain⟨s,hs,_⟩:=HS.out;rw[List.take_length]at hs;have HF:=aa hs;clear hs HS;go_wp2;go_returns;exact⟨aN (by rw[HF.out];rfl),hb⟩
theorem KM(W:World)(x:Nat):aF 1 (one gT) (W.alloc (.cells #[.int .i64 (x:Int)] 3)) (.slice (some ⟨W.heap.size,0,none⟩) 1 1) [x]:=by
 refine⟨_,_,rfl,fun _=>⟨_,0,rfl,by simp,fun i y hy j hj=>?_⟩⟩;obtain rfl:i=0:=by have:=(List.getElem?_eq_some_iff.1 hy).1;simp at this;omega
 obtain rfl:j=0:=by omega
 simp at hy;subst hy;exact av rfl
theorem Qp{h:List aA}{n:Nat}{bF rest:List Nat}(hr:(runs h ni bF).isSome=true){k:Nat}{x:Nat}{r:Option (List Nat)}(hx:rest[k]? =some x)(he:iC h n (bF++[x]) (rest.eraseIdx k)=r)(hs:r.isSome=true)
 (hb:∀(j:Nat) y,j<k->rest[j]? =some y->iC h n (bF++[y]) (rest.eraseIdx j)=none):iC h (n+1) bF rest=r:=by
 have hk:=(List.getElem?_eq_some_iff.1 hx).1;rw[iC,if_pos hr];have e1:List.range rest.length=List.range k++k :: (List.range (rest.length-k-1)).map (fun i=>k+1+i):=by
  have:rest.length=k+(1+(rest.length-k-1)):=by omega
  conv=>lhs;rw[this]
  rw[List.range_add,List.range_add,List.map_append];simp[Function.comp_def,Nat.add_assoc]
 rw[e1,List.findSome?_append,List.findSome?_cons];have e2:(List.range k).findSome? (fun k=>iC h n (bF++[rest.getD k 0]) (rest.eraseIdx k))=none:=by
  rw[List.findSome?_eq_none_iff];intro j hj;have hj:=List.mem_range.1 hj;obtain⟨y,hy⟩:=af (show j<rest.length by omega)
  have:=hb j y hj hy
  rwa [show rest.getD j 0=y by simp[List.getD,hy]]
 rw[e2,show rest.getD k 0=x by simp[List.getD,hx],he]
 cases r with
 | none=>cases hs
 | some o=>rfl
theorem Pb{h:List aA}{n:Nat}{bF rest:List Nat}(hb:∀(j:Nat) y,j<rest.length->rest[j]? =some y->iC h n (bF++[y]) (rest.eraseIdx j)=none):iC h (n+1) bF rest=none:=by
 rw[iC];split
 ·rw[List.findSome?_eq_none_iff];intro j hj;have hj:=List.mem_range.1 hj;obtain⟨y,hy⟩:=af hj
  have:=hb j y hj hy
  rwa [show rest.getD j 0=y by simp[List.getD,hy]]
 ·rfl
theorem J2{h:List aA}{n:Nat}{bF rest:List Nat}(hr:(runs h ni bF).isSome=false):iC h n bF rest=none:=by cases n<;>simp[iC,hr]
theorem Om{h:List aA}(hok:aC h=true):∀(n:Nat) (hv bv rv:Value) (bF rest:List Nat) (w:World),rest.length=n->gL w hv h->aF 1 (one gT) w bv bF->aF 1 (one gT) w rv rest->qL rv->(∀x∈bF,x<h.length)->(∀x∈rest,x<h.length)->bF.length+n<=6 ->
 Calls Tryz.prog 59 #[hv,bv,rv] w (BA w (iC h n bF rest)):=by
 intro n
 induction n with
 | zero=>
   intro hv bv rv bF rest w hn H hB hR hC hm1 hm2 hl;obtain⟨Ah,ch,rfl⟩:=H.slice;obtain⟨Ab,cb,rfl,_⟩:=id hB;obtain⟨Ar,cr,rfl,_⟩:=id hR;have YJ:=aa (Dr w H hB hok hm1 (by omega));have HB:=aa hB;rw[hn];clear H hB hR hC hm1 hm2
   cases hr:(runs h ni bF).isSome with
   | false=>
     have HF:Hid (iC h 0 bF rest=none):=J2 hr;rw[hr]at YJ;clear hr;go_enter Tryz.func59,Tryz.ntmps59;go_wp2_with fail
     refine YJ.out.mono ?_;rintro e w1 ⟨rfl,b1⟩;go_wp2;go_returns;exact⟨_,by rw[HF.out];rfl,by rw[HF.out];exact aF.nil _ _ _ _ _,b1.alloc _⟩
   | true=>
     have HF:Hid (iC h 0 bF rest=some bF):=by show _ = _;rw[iC,if_pos hr]
     rw[hr]at YJ;clear hr;go_enter Tryz.func59,Tryz.ntmps59;go_wp2_with fail
     refine YJ.out.mono ?_;rintro e w1 ⟨rfl,b1⟩;go_wp2;go_returns;exact⟨_,by rw[HF.out];rfl,by rw[HF.out];exact HB.out.ext b1,b1⟩
 | succ n ih=>
   intro hv bv rv bF rest w hn H hB hR hC hm1 hm2 hl;obtain⟨Ah,ch,rfl⟩:=H.slice;obtain⟨Ab,cb,rfl,_⟩:=id hB;obtain⟨Ar,c,rfl,hrc⟩:=id hR;have YJ:=aa (Dr w H hB hok hm1 (by omega));have HH:=aa H;have HB:=aa hB;have HR:=aa hR;have Zv:=aa hrc;have hcap:=hC _ _ _ rfl;have HM1:=aa hm1;have Su:=aa hm2;have HIH:=aa ih;have HN:=aa hn;clear H hB hR hC hm1 hm2 ih hrc
   cases hr:(runs h ni bF).isSome with
   | false=>
     have HF:Hid (iC h (n+1) bF rest=none):=J2 hr;rw[hr]at YJ;clear hr;go_enter Tryz.func59,Tryz.ntmps59;go_wp2_with fail
     refine YJ.out.mono ?_;rintro e w1 ⟨rfl,b1⟩;go_wp2;go_returns;exact⟨_,by rw[HF.out];rfl,by rw[HF.out];exact aF.nil _ _ _ _ _,b1.alloc _⟩
   | true=>
     rw[hr]at YJ;have HRR:=aa hr;have hz:((rest.length:Int)==0)=false:=beq_eq_false_iff_ne.2 (by omega);clear hr hn;go_enter Tryz.func59,Tryz.ntmps59;go_wp2_with fail
     refine YJ.out.mono ?_;rintro e w1 ⟨rfl,b1⟩;have HB1:=aa b1;clear b1;go_wp2;go_loopw [8] (fun i wr=>Ext w wr/\∃k:Nat,k<=rest.length/\i=.int .i64 (k:Int)/\Hid (∀(j:Nat) y,j<k->rest[j]? =some y->iC h n (bF++[y]) (rest.eraseIdx j)=none)) (fun i _=>rest.length-(intOf i).toNat)
     case atStart=>exact⟨HB1.out,0,Nat.zero_le _,rfl,fun j y hj=>absurd hj (Nat.not_lt_zero _)⟩
     case round=>
      obtain⟨hb,k,hk,rfl,HI⟩:=hrel;by_cases hlt:k<rest.length
      ·obtain⟨x,hx⟩:=af hlt;obtain⟨b,off,rfl,hbl,hcc⟩:=Zv.out (by omega);have c0:w.cell? ⟨b,off+k,none⟩=some (.int .i64 (x:Int)):=by have:=hcc k x hx 0 (by omega);rw[Nat.mul_one,Nat.add_zero]at this;exact this
       have hRr:=HR.out.ext hb;obtain⟨V1,Mt,hp1⟩:∃V,(∀W,(Instr.slice 57 (.slice (some ⟨b,off,none⟩) rest.length c) none (some (.int .i64 (k:Int))) none).run Tryz.prog W=.ok (.slice V (k-0) (c-0)) W)/\aF 1 (one gT) wr (.slice V (k-0) (c-0)) (part rest 0 k):=
        ⟨_,mR (P:=Tryz.prog) (A:=some ⟨b,off,none⟩) (n:=rest.length) (c:=c) Tryz.underlying57 bQ k (by omega),(aF.part hRr 0 k (by omega) (by omega) hcap.1).1⟩
       obtain⟨V2,RN,hp2⟩:∃V,(∀W,(Instr.slice 57 (.slice (some ⟨b,off,none⟩) rest.length c) (some (.int .i64 ((k:Int)+1))) none none).run Tryz.prog W=.ok (.slice V (rest.length-(k+1)) (c-(k+1))) W)/\aF 1 (one gT) wr (.slice V (rest.length-(k+1)) (c-(k+1))) (part rest (k+1) rest.length):=
        ⟨_,mh (P:=Tryz.prog) (A:=some ⟨b,off,none⟩) (n:=rest.length) (c:=c) Tryz.underlying57 bQ (k+1) (by omega),(aF.part hRr (k+1) rest.length (by omega) (Nat.le_refl _) hcap.1).1⟩
       simp only[Nat.sub_zero]at Mt hp1;have hwrap:IntKind.i64.wrap ((k:Int)+1)=(k:Int)+1:=IntWalk.i64_in _ (by omega);have hle:(rest.eraseIdx k).length=n:=by rw[List.length_eraseIdx,if_pos hlt];have:=HN.out;omega
       have hrl:=HN.out;have hl1:(part rest 0 k).length<=6:=by rw[qd (by omega)];omega
       have hl2:(part rest (k+1) rest.length).length<=6:=by rw[qd (Nat.le_refl _)];omega
       have hpe:part rest 0 k++part rest (k+1) rest.length=rest.eraseIdx k:=by simp[part,List.eraseIdx_eq_take_drop_succ]
       obtain⟨v1,w2,lD,iM,zU⟩:=mJ (w:=wr.drew) wr.heap.size rfl Tryz.underlying57 bQ rfl (by omega) (hp1.ext ((Ext.refl _).drew)) (fun x _ j=>rfl) (by omega) (by omega);have b1:=zU wr ((Ext.refl _).drew);obtain⟨v2,w3,kK,hrow2,hg2⟩:=kL (P:=Tryz.prog) (t:=57) (ty:=57) (e:=3) Tryz.underlying57 bQ rfl (by omega) iM (hp2.ext b1) (fun x _ j=>rfl) (by omega) (by omega) b1.size;have b2:Ext wr w3:=Ext.grown b1 hg2 (fun k hk=>iM.block k hk);obtain⟨A1,n1,c1,rfl⟩:=iK iM;obtain⟨Al,nl,cl,rfl⟩:=iK hrow2;rw[hpe]at hrow2;have mH:Hid ((Builtin.append_ #[57,57] 57 #[.slice (some ⟨wr.heap.size,0,none⟩) 0 0,.slice V1 k c]).run Tryz.prog (wr.alloc (.cells #[] 3)).drew=.ok (.slice A1 n1 c1) w2):=lD;have oO:=aa kK;have HL:=aa (And.intro hrow2.cell.1 (And.intro (show qL (.slice Al nl cl) from hrow2.cap) (hb.trans b2)));have HC0:=aa c0;have hxl:=Su.out x (List.mem_of_getElem? hx);obtain⟨r,hr⟩:∃r,iC h n (bF++[x]) (rest.eraseIdx k)=r:=⟨_,rfl⟩;have aaw:Hid (r.isSome=true->iC h (n+1) bF rest=r):=fun e=>Qp HRR.out hx hr e HI.out;have WO:Hid (r=none->∀(j:Nat) y,j<k+1->rest[j]? =some y->iC h n (bF++[y]) (rest.eraseIdx j)=none):=fun e j y hj hy=>by
        rcases Nat.lt_or_ge j k with h'|h'
        ·exact HI.out j y h' hy
        ·obtain rfl:j=k:=by omega
         rw[hx]at hy;cases hy;exact hr.trans e
       have abW:Hid (∀V u,Ext w3 V->aF 1 (one gT) V u (bF++[x])->Calls Tryz.prog 59 #[.slice Ah h.length ch,u,.slice Al nl cl] V (BA V r)):=fun V u hV hu=>by
        rw[<-hr];refine HIH.out _ _ _ (bF++[x]) (rest.eraseIdx k) V hle (HH.out.ext (HL.out.2.2.trans hV)) hu (HL.out.1.ext hV) HL.out.2.1 (fun y hy=>?_) (fun y hy=>Su.out y (List.mem_of_mem_eraseIdx hy)) (by simp;omega);rcases List.mem_append.1 hy with hy|hy
        ·exact HM1.out y hy
        ·rw[List.mem_singleton]at hy;exact hy▸hxl
       have aal:bF.length<=6:=by omega
       have i1:(k:Int)<(rest.length:Int):=by omega
       have i2:(0:Int)<=(k:Int):=by omega
       clear hcc hp1 hp2 hx hpe lD kK iM hrow2 zU hg2 b1 b2 hl1 hl2 hle c0 hRr hr hrl;go_wp2;go_region_held3 (fun _=>True) (trivial) ((first|(refine aJ (by rfl) (by rfl) (by rfl) (by rfl) mH.out ?_;clear mH)|(refine aJ (by rfl) (by rfl) (by rfl) (by rfl) oO.out ?_)))
       have hb:Ext w w3:=HL.out.2.2;have HX0:Hid (∀V,Ext w3 V->V.cell? ⟨b,off+k,none⟩=some (.int .i64 (x:Int))):=fun V bb=>bb.cell (hb.cell HC0.out);obtain⟨wr,rfl⟩:∃W,W=w3:=⟨_,rfl⟩;have XY:=aa (HB.out.ext hb);have jl:Hid (∀(V:World) (v1:Value) (q:Nat),Row 3 1 (one gT) wr.heap.size V v1 bF->aF 1 (one gT) V (.slice (some ⟨q,0,none⟩) 1 1) [x]->Ext wr V ->
        ∃A2 n2 c2 w2,(Builtin.append_ #[57,57] 57 #[v1,.slice (some ⟨q,0,none⟩) 1 1]).run Tryz.prog V=.ok (.slice A2 n2 c2) w2/\Calls Tryz.prog 59 #[.slice Ah h.length ch,.slice A2 n2 c2,.slice Al nl cl] w2 (BA w2 r)/\Ext wr w2):=fun V v1 q hr ho hx=>by
        obtain⟨v7,w7,hrun,hrow,hg⟩:=kL (P:=Tryz.prog) (t:=57) (ty:=57) (e:=3) Tryz.underlying57 bQ rfl (by omega) hr ho (fun x hx j=>rfl) (by simp;omega) (by omega) hx.size;have b7:Ext wr w7:=Ext.grown hx hg (fun k hk=>hr.block k hk);obtain⟨A7,n7,c7,rfl⟩:=iK hrow;exact⟨A7,n7,c7,w7,hrun,abW.out w7 _ b7 hrow.cell.1,b7⟩
       obtain⟨u1,w1,lD,iM,zU⟩:=mJ (w:=wr.drew) wr.heap.size rfl Tryz.underlying57 bQ rfl (by omega) (XY.out.ext ((Ext.refl _).drew)) (fun x _ j=>rfl) (by omega) (by omega);have HCB:=aa (zU wr ((Ext.refl _).drew));obtain⟨B1,m1,d1,rfl⟩:=iK iM;have ae3:Hid ((Builtin.append_ #[57,57] 57 #[.slice (some ⟨wr.heap.size,0,none⟩) 0 0,.slice Ab bF.length cb]).run Tryz.prog (wr.drew.alloc (.cells #[] 3))=.ok (.slice B1 m1 d1) w1):=lD;have HCR:=aa iM;obtain⟨u2,w2,kK,hrow2,hg2⟩:=kL (P:=Tryz.prog) (t:=57) (ty:=57) (e:=3) (base:=wr.drew.heap.size) (w:=(wr.drew.alloc (.cells #[] 3)).alloc (.cells #[.int .i64 (x:Int)] 3)) Tryz.underlying57 bQ rfl (by omega) (Row.ext (bT (E:=3) (m:=1) (enc:=one gT) (w:=wr.drew)) ((Ext.refl _).alloc _)) (XY.out.ext (((Ext.refl wr).drew.alloc _).alloc _)) (fun x _ j=>rfl) (by simp;omega) (by omega) (by simp;omega);have ho2:aF 1 (one gT) w2 (.slice (some ⟨wr.heap.size+1,0,none⟩) 1 1) [x]:=by
        have:=KM (wr.drew.alloc (.cells #[] 3)) x
        rw[show (wr.drew.alloc (.cells #[] 3)).heap.size=wr.heap.size+1 by simp]at this;exact this.grown hg2 (fun a n c e hn=>by cases e;simp[Value.ownBlock])
       have abw:=aa (And.intro ho2 (Ext.grown (((Ext.refl wr).drew.alloc (.cells #[] 3)).alloc (.cells #[.int .i64 (x:Int)] 3)) hg2 (fun k hk=>by simp[Value.ownBlock]at hk;omega)));obtain⟨B2,m2,d2,rfl⟩:=iK hrow2;have ab7:=aa kK;have aeF:=aa (show Row 3 1 (one gT) wr.heap.size w2 (.slice B2 m2 d2) bF from by simpa using hrow2);obtain⟨u3,w3,EL,hrow3,M3⟩:=mJ (w:=wr.drew.alloc (.cells #[.int .i64 (x:Int)] 3)) (wr.heap.size+1) (by simp) Tryz.underlying57 bQ rfl (by omega) (XY.out.ext ((Ext.refl wr).drew.alloc _)) (fun x _ j=>rfl) (by omega) (by omega);have aas:=aa (And.intro ((KM wr.drew x).ext (M3 _ (Ext.refl _))) (M3 wr ((Ext.refl wr).drew.alloc _)));obtain⟨B3,m3,d3,rfl⟩:=iK hrow3;have abC:=aa EL;have aeP:=aa (hrow3.low (base':=wr.heap.size) (by simp));clear lD iM zU kK hrow2 hg2 ho2 EL hrow3 M3;go_wp2;refine wp_region_held_drew (S:=fun V:World=>V.cell? ⟨b,off+k,none⟩=some (.int .i64 (x:Int))) (by kernel_rfl) (HX0.out _ (Ext.refl _).drew) (fun hHeld=>?_);simp only[List.size_toArray,List.length_cons,List.length_nil,Nat.zero_add,Nat.reduceAdd];refine eu 0 (.slice Ah h.length ch) rfl (Or.inl ⟨by kernel_rfl,fun V s1=>by go_simp⟩) hHeld ?_;try go_frame
       refine eu 2 (.slice Ab bF.length cb) rfl (Or.inl ⟨by kernel_rfl,fun V s1=>by go_simp⟩) hHeld ?_;try go_frame
       refine eu 4 (.slice (some ⟨b,off,none⟩) rest.length c) rfl (Or.inl ⟨by kernel_rfl,fun V s1=>by go_simp⟩) hHeld ?_;try go_frame
       refine eu 5 (.int .i64 (k:Int)) rfl (Or.inl ⟨by kernel_rfl,fun V s1=>by go_simp⟩) hHeld ?_;try go_frame
       refine eu 6 (.pointer (some ⟨b,off+k,none⟩)) rfl (Or.inl ⟨by kernel_rfl,fun V s1=>by go_simp⟩) hHeld ?_;try go_frame
       refine eu 7 (.int .i64 (x:Int)) rfl (Or.inl ⟨by kernel_rfl,fun V s1=>by go_simp⟩) hHeld ?_;try go_frame
       refine eu 10 (.slice Al nl cl) rfl (Or.inl ⟨by kernel_rfl,fun V s1=>by go_simp⟩) hHeld ?_;try go_frame
       refine wpAnyH_ready (rs:=[1,8]) (by kernel_rfl) (by simp) ?_;refine AllReadyH.cons rfl (fun K hK=>?_) (AllReadyH.cons rfl (fun K hK=>?_) AllReadyH.nil)
       ·go_simp;refine hK.out _ _ (HX0.out _ ((Ext.refl wr).drew.alloc _)) (fun hHeld=>?_);clear hK K;try go_frame
        refine wpAnyH_ready (rs:=[3,8]) (by kernel_rfl) (by simp) ?_;refine AllReadyH.cons rfl (fun K hK=>?_) (AllReadyH.cons rfl (fun K hK=>?_) AllReadyH.nil)
        ·refine aJ (by rfl) (by rfl) (by rfl) (by rfl) ae3.out ?_;refine hK.out _ _ (HX0.out _ HCB.out) (fun hHeld=>?_);clear hK K;try go_frame
         refine wpAnyH_ready (rs:=[8]) (by kernel_rfl) (by simp) ?_;refine AllReadyH.cons rfl (fun K hK=>?_) AllReadyH.nil;go_simp;refine hK.out _ _ (HX0.out _ (HCB.out.alloc _)) (fun hHeld=>?_);clear hK K;try go_frame
         have hrow:=Row.ext HCR.out ((Ext.refl w1).alloc (.cells #[.int .i64 (x:Int)] 3));have ho:=KM w1 x;have hx:=HCB.out.alloc (.cells #[.int .i64 (x:Int)] 3);obtain⟨A2,n2,c2,w2,hrun,hcall,b2⟩:=jl.out _ _ _ hrow ho hx;have HC:=aa hcall;have aU:=aa hrun;have HB2:=aa b2;clear hrun hcall b2 hrow ho hx;refine wpAnyH_ready (rs:=[9]) (by kernel_rfl) (by simp) ?_;refine AllReadyH.cons rfl (fun K hK=>?_) AllReadyH.nil;refine aJ (by rfl) (by rfl) (by rfl) (by rfl) aU.out ?_;refine hK.out _ _ (HX0.out _ HB2.out) (fun hHeld=>?_);clear hK K;try go_frame
         refine wpAnyH_ready (rs:=[11]) (by kernel_rfl) (by simp) ?_;refine AllReadyH.cons rfl (fun K hK=>?_) AllReadyH.nil;go_simp;refine HC.out.mono ?_;rintro e w3 ⟨v3,rfl,hs3,b3⟩;obtain⟨A3,c3,rfl,_⟩:=id hs3;have L6:=aa hs3;have HB3:=aa (HB2.out.trans b3);clear hs3 b3;refine hK.out _ _ (HX0.out _ HB3.out) (fun hHeld=>?_);clear hK K;try go_frame
         refine eu 12 (.tuple #[.slice A3 (r.getD []).length c3,.bool r.isSome]) rfl (Or.inl ⟨by kernel_rfl,fun V s1=>by go_simp⟩) hHeld ?_;try go_frame
         refine eu 13 (.slice A3 (r.getD []).length c3) rfl (Or.inl ⟨by kernel_rfl,fun V s1=>by go_simp⟩) hHeld ?_;try go_frame
         refine eu 14 (.bool r.isSome) rfl (Or.inl ⟨by kernel_rfl,fun V s1=>by go_simp⟩) hHeld ?_;try go_frame
         refine wpAnyH_ready (rs:=[15]) (by kernel_rfl) (by simp) ?_;refine AllReadyH.cons rfl (fun K hK=>?_) AllReadyH.nil;go_simp;refine hK.out _ _ (HX0.out _ HB3.out) (fun hHeld=>?_);clear hK K;try go_frame
         refine wpAnyH_ready (rs:=[16]) (by kernel_rfl) (by simp) ?_;refine AllReadyH.cons rfl (fun K hK=>?_) AllReadyH.nil;go_simp;refine hK.out _ _ (HX0.out _ HB3.out) (fun hHeld=>?_);clear hK K;try go_frame
         refine wpAnyH_done (by kernel_rfl) ?_ _;clear hHeld;obtain⟨bb,hbb⟩:∃bb,r.isSome=bb:=⟨_,rfl⟩;have BU:=aa hbb;rw[hbb];clear hbb
         cases bb with
         | true=>
           have HR:Hid (iC h (n+1) bF rest=r):=aaw.out BU.out;go_wp2;go_returns;exact⟨.slice A3 (r.getD []).length c3,by rw[HR.out,BU.out];rfl,by rw[HR.out];exact L6.out,hb.trans HB3.out⟩
         | false=>
           have HN:Hid (r=none):=by have:=BU.out;show _ = _;cases e:r with|none=>rfl|some _=>rw[e]at this;cases this
           go_wp2;go_roundw;case rel=>exact⟨hb.trans HB3.out,k+1,by omega,by go_num,WO.out HN.out⟩
           case measure=>simp[intOf];omega
        ·go_simp;refine hK.out _ _ (HX0.out _ (((Ext.refl wr).drew.alloc _).alloc _)) (fun hHeld=>?_);clear hK K;try go_frame
         refine wpAnyH_ready (rs:=[3]) (by kernel_rfl) (by simp) ?_;refine AllReadyH.cons rfl (fun K hK=>?_) AllReadyH.nil;refine aJ (by rfl) (by rfl) (by rfl) (by rfl) ab7.out ?_;refine hK.out _ _ (HX0.out _ abw.out.2) (fun hHeld=>?_);clear hK K;try go_frame
         have hrow:=aeF.out;have ho:=abw.out.1;have hx:=abw.out.2;obtain⟨A2,n2,c2,w2,hrun,hcall,b2⟩:=jl.out _ _ _ hrow ho hx;have HC:=aa hcall;have aU:=aa hrun;have HB2:=aa b2;clear hrun hcall b2 hrow ho hx;refine wpAnyH_ready (rs:=[9]) (by kernel_rfl) (by simp) ?_;refine AllReadyH.cons rfl (fun K hK=>?_) AllReadyH.nil;refine aJ (by rfl) (by rfl) (by rfl) (by rfl) aU.out ?_;refine hK.out _ _ (HX0.out _ HB2.out) (fun hHeld=>?_);clear hK K;try go_frame
         refine wpAnyH_ready (rs:=[11]) (by kernel_rfl) (by simp) ?_;refine AllReadyH.cons rfl (fun K hK=>?_) AllReadyH.nil;go_simp;refine HC.out.mono ?_;rintro e w3 ⟨v3,rfl,hs3,b3⟩;obtain⟨A3,c3,rfl,_⟩:=id hs3;have L6:=aa hs3;have HB3:=aa (HB2.out.trans b3);clear hs3 b3;refine hK.out _ _ (HX0.out _ HB3.out) (fun hHeld=>?_);clear hK K;try go_frame
         refine eu 12 (.tuple #[.slice A3 (r.getD []).length c3,.bool r.isSome]) rfl (Or.inl ⟨by kernel_rfl,fun V s1=>by go_simp⟩) hHeld ?_;try go_frame
         refine eu 13 (.slice A3 (r.getD []).length c3) rfl (Or.inl ⟨by kernel_rfl,fun V s1=>by go_simp⟩) hHeld ?_;try go_frame
         refine eu 14 (.bool r.isSome) rfl (Or.inl ⟨by kernel_rfl,fun V s1=>by go_simp⟩) hHeld ?_;try go_frame
         refine wpAnyH_ready (rs:=[15]) (by kernel_rfl) (by simp) ?_;refine AllReadyH.cons rfl (fun K hK=>?_) AllReadyH.nil;go_simp;refine hK.out _ _ (HX0.out _ HB3.out) (fun hHeld=>?_);clear hK K;try go_frame
         refine wpAnyH_ready (rs:=[16]) (by kernel_rfl) (by simp) ?_;refine AllReadyH.cons rfl (fun K hK=>?_) AllReadyH.nil;go_simp;refine hK.out _ _ (HX0.out _ HB3.out) (fun hHeld=>?_);clear hK K;try go_frame
         refine wpAnyH_done (by kernel_rfl) ?_ _;clear hHeld;obtain⟨bb,hbb⟩:∃bb,r.isSome=bb:=⟨_,rfl⟩;have BU:=aa hbb;rw[hbb];clear hbb
         cases bb with
         | true=>
           have HR:Hid (iC h (n+1) bF rest=r):=aaw.out BU.out;go_wp2;go_returns;exact⟨.slice A3 (r.getD []).length c3,by rw[HR.out,BU.out];rfl,by rw[HR.out];exact L6.out,hb.trans HB3.out⟩
         | false=>
           have HN:Hid (r=none):=by have:=BU.out;show _ = _;cases e:r with|none=>rfl|some _=>rw[e]at this;cases this
           go_wp2;go_roundw;case rel=>exact⟨hb.trans HB3.out,k+1,by omega,by go_num,WO.out HN.out⟩
           case measure=>simp[intOf];omega
       ·go_simp;refine hK.out _ _ (HX0.out _ ((Ext.refl wr).drew.alloc _)) (fun hHeld=>?_);clear hK K;try go_frame
        refine wpAnyH_ready (rs:=[1]) (by kernel_rfl) (by simp) ?_;refine AllReadyH.cons rfl (fun K hK=>?_) AllReadyH.nil;go_simp;refine hK.out _ _ (HX0.out _ (((Ext.refl wr).drew.alloc _).alloc _)) (fun hHeld=>?_);clear hK K;try go_frame
        refine wpAnyH_ready (rs:=[3]) (by kernel_rfl) (by simp) ?_;refine AllReadyH.cons rfl (fun K hK=>?_) AllReadyH.nil;refine aJ (by rfl) (by rfl) (by rfl) (by rfl) abC.out ?_;refine hK.out _ _ (HX0.out _ aas.out.2) (fun hHeld=>?_);clear hK K;try go_frame
        have hrow:=aeP.out;have ho:=aas.out.1;have hx:=aas.out.2;obtain⟨A2,n2,c2,w2,hrun,hcall,b2⟩:=jl.out _ _ _ hrow ho hx;have HC:=aa hcall;have aU:=aa hrun;have HB2:=aa b2;clear hrun hcall b2 hrow ho hx;refine wpAnyH_ready (rs:=[9]) (by kernel_rfl) (by simp) ?_;refine AllReadyH.cons rfl (fun K hK=>?_) AllReadyH.nil;refine aJ (by rfl) (by rfl) (by rfl) (by rfl) aU.out ?_;refine hK.out _ _ (HX0.out _ HB2.out) (fun hHeld=>?_);clear hK K;try go_frame
        refine wpAnyH_ready (rs:=[11]) (by kernel_rfl) (by simp) ?_;refine AllReadyH.cons rfl (fun K hK=>?_) AllReadyH.nil;go_simp;refine HC.out.mono ?_;rintro e w3 ⟨v3,rfl,hs3,b3⟩;obtain⟨A3,c3,rfl,_⟩:=id hs3;have L6:=aa hs3;have HB3:=aa (HB2.out.trans b3);clear hs3 b3;refine hK.out _ _ (HX0.out _ HB3.out) (fun hHeld=>?_);clear hK K;try go_frame
        refine eu 12 (.tuple #[.slice A3 (r.getD []).length c3,.bool r.isSome]) rfl (Or.inl ⟨by kernel_rfl,fun V s1=>by go_simp⟩) hHeld ?_;try go_frame
        refine eu 13 (.slice A3 (r.getD []).length c3) rfl (Or.inl ⟨by kernel_rfl,fun V s1=>by go_simp⟩) hHeld ?_;try go_frame
        refine eu 14 (.bool r.isSome) rfl (Or.inl ⟨by kernel_rfl,fun V s1=>by go_simp⟩) hHeld ?_;try go_frame
        refine wpAnyH_ready (rs:=[15]) (by kernel_rfl) (by simp) ?_;refine AllReadyH.cons rfl (fun K hK=>?_) AllReadyH.nil;go_simp;refine hK.out _ _ (HX0.out _ HB3.out) (fun hHeld=>?_);clear hK K;try go_frame
        refine wpAnyH_ready (rs:=[16]) (by kernel_rfl) (by simp) ?_;refine AllReadyH.cons rfl (fun K hK=>?_) AllReadyH.nil;go_simp;refine hK.out _ _ (HX0.out _ HB3.out) (fun hHeld=>?_);clear hK K;try go_frame
        refine wpAnyH_done (by kernel_rfl) ?_ _;clear hHeld;obtain⟨bb,hbb⟩:∃bb,r.isSome=bb:=⟨_,rfl⟩;have BU:=aa hbb;rw[hbb];clear hbb
        cases bb with
        | true=>
          have HR:Hid (iC h (n+1) bF rest=r):=aaw.out BU.out;go_wp2;go_returns;exact⟨.slice A3 (r.getD []).length c3,by rw[HR.out,BU.out];rfl,by rw[HR.out];exact L6.out,hb.trans HB3.out⟩
        | false=>
          have HN:Hid (r=none):=by have:=BU.out;show _ = _;cases e:r with|none=>rfl|some _=>rw[e]at this;cases this
          go_wp2;go_roundw;case rel=>exact⟨hb.trans HB3.out,k+1,by omega,by go_num,WO.out HN.out⟩
          case measure=>simp[intOf];omega
      ·obtain rfl:k=rest.length:=by omega
       have HF:Hid (iC h (n+1) bF rest=none):=Pb HI.out;go_wp2;go_returns;exact⟨_,by rw[HF.out];rfl,by rw[HF.out];exact aF.nil _ _ _ _ _,hb.alloc _⟩
theorem DW{v:Value}{h:List aA}(w:World)(H:gL w v h)(hok:aC h=true) :
 Calls Tryz.prog 30 #[v] w (BA w (dW h)):=by
 obtain⟨A,c,rfl⟩:=H.slice;have hlen:=aM hok;have hdl:=jU h;have HH:=aa H;have dO:=aa hok;have HV:=aa (bu w H (by omega) (aD hok));rw[hok]at HV;have HF:Hid (dW h=iC h (aH h).length [] (aH h)):=II h;have HD:=aa (fun W (b:Ext w W)=>IQ W (H.ext b) hok);obtain⟨r,hr⟩:∃r,dW h=r:=⟨_,rfl⟩;rw[hr]at HF ⊢;clear H hok hr;go_enter Tryz.func30,Tryz.ntmps30;go_wp2_with fail
 refine HV.out.mono ?_;rintro e w1 ⟨rfl,b1⟩;go_wp2_with fail
 refine(HD.out _ (b1.alloc _)).mono ?_
 rintro e w2 ⟨v2,rfl,r2,b2⟩;have hb2:Ext w w2:=(b1.alloc _).trans b2;have HCC:=aa (Om dO.out (aH h).length _ (.slice (some ⟨w1.heap.size,0,none⟩) 0 0) v2 [] (aH h) w2 rfl (HH.out.ext hb2) (aF.nil _ _ _ _ _) r2.cell.1 r2.cap (by simp) (fun x hx=>(nK hx).1) (by simp;omega));rw[<-HF.out]at HCC;obtain⟨A2,c2,rfl,_⟩:=id r2.cell.1;have HB2:=aa hb2;clear r2 b1 b2 hb2 HF;go_wp2_with fail
 refine HCC.out.mono ?_;rintro e w3 ⟨v3,rfl,hs3,b3⟩;have L6:=aa hs3;obtain⟨A3,c3,rfl,_⟩:=id hs3;clear hs3;go_wp2;go_returns;exact⟨_,rfl,L6.out,HB2.out.trans b3⟩
def JS:Go.Shelf.Ren:=⟨fun|167=>125|n=>Tryz.mF.f n,Tryz.mF.t,Tryz.mF.g⟩
theorem acG:Go.Proofs.Lays.n167 Tryz.prog JS:={ Tryz.wJ with
 f167:=Tryz.func125.trans (congrArg some (by kernel_rfl))
 f240:=Tryz.wJ.f240
 f276:=Tryz.wJ.f276
 t5:=Tryz.underlying5
 a5:=Tryz.isAgg5
 z5:=Tryz.sizeOf5
 v5:=Tryz.zeroValue5 }
theorem aa7:Builder.Extra Tryz.prog JS:={ Tryz.kQ with }
theorem ad5:Go.Proofs.Lays.n166 Tryz.prog Tryz.mF:={ Tryz.wJ with }
def Bld(B b:Nat)(l:List UInt8)(w:World):Prop:=Lib.IsBuilder 142 5 B b (Lib.byteCells l) w
theorem Iw(B b:Nat)(l:List UInt8)(c:UInt8)(w:World)(h:Bld B b l w)(hl:l.length<=1000000)(hB:B<=w.heap.size) :
 Calls Tryz.prog 125 #[.pointer (some ⟨b,0,none⟩),.int .u8 (c.toNat:Int)] w fun e w'=>e=.returned .nilIface/\Bld B b (l++[c]) w'/\Below B w w':=by
 refine Calls.mono (Any.Builder_WriteByte acG aa7 B b (Lib.byteCells l) (c.toNat:Int) w h (by rw[Lib.byteCells_length];omega) hB) ?_;rintro e w' ⟨rfl,h1,h2⟩;exact⟨rfl,.inr (by rw[Lib.byteCells_append];exact h1),h2⟩
theorem uH(B b:Nat)(l s:List UInt8)(w:World)(h:Bld B b l w)(hl:l.length<=1000000)(hs:s.length<=1000000)(hB:B<=w.heap.size) :
 Calls Tryz.prog 126 #[.pointer (some ⟨b,0,none⟩),.string (tx s)] w fun e w'=>e=.returned (.tuple #[.int .i64 s.length,.nilIface])/\Bld B b (l++s) w'/\Below B w w':=by
 refine Calls.mono (Any.Builder_WriteString ad5 Tryz.kQ B b (Lib.byteCells l) (tx s) w h (by rw[Lib.byteCells_length,dH];omega) hB) ?_;rintro e w' ⟨rfl,h1,h2⟩;exact⟨rfl,.inr (by rw[Lib.byteCells_append];exact h1),h2⟩
theorem Iu(B b:Nat)(l:List UInt8)(w:World)(h:Bld B b l w)(hB:B<=w.heap.size) :
 Calls Tryz.prog 128 #[.pointer (some ⟨b,0,none⟩)] w fun e w'=>e=.returned (.string (tx l))/\Below B w w':=Tryz.Builder_String_any B b l w h hB
theorem Y4(w:World):Bld w.heap.size w.heap.size [] (w.alloc (.cells #[.pointer none,.slice none 0 0] 142)):=
 .inl ⟨Nat.le_refl _,_,heap_alloc_new w _,World.ownsRow_nil _ _ _ _,by simp[Value.ownBlock]⟩
theorem LU(x:Int)(w:World):Calls Tryz.prog 123 #[.int .i64 x] w fun e w'=>e=.returned (.bool (!jR x 0 1000))/\w=w':=by
 cases h:jR x 0 1000<;>(
  go_enter Tryz.func123,Tryz.ntmps123;go_wp2_with (go_at_call 124;refine(Qk _ _).mono ?_;rw[h];rintro e w' ⟨rfl,rfl⟩)
  go_returns;exact⟨rfl,rfl⟩)
theorem Mj(args:Array Value)(W:World):(callFunc 123 args).run Tryz.prog W=.ok (.enter 123 args) W:=by kernel_rfl
theorem T9{xs:List Int}:(numsL xs).length<=xs.length*3:=by
 have:=nU [32] 2 (xs.map fun x=>bK x.toNat) (fun w hw=>by obtain⟨x,_,rfl⟩:=List.mem_map.1 hw;exact kU _)
 simpa[numsL] using this
theorem Uv{xs:List Int}{x:Int}(hx:xs[0]? =some x):numsL (xs.take 1)=bK x.toNat:=by
 cases xs with
 | nil=>cases hx
 | cons a r=>cases hx;simp[numsL,joinL]
theorem Qu{xs:List Int}{k:Nat}{x:Int}(hk:0<k)(hx:xs[k]? =some x):numsL (xs.take (k+1))=numsL (xs.take k)++[32]++bK x.toNat:=by
 unfold numsL;rw[ah hx,List.map_append];exact yJ [32] _ _ (fun h=>by
  have:=congrArg List.length h
  have hl:=(List.getElem?_eq_some_iff.1 hx).1;simp at this;rcases this with h|h
  ·omega
  ·subst h;simp at hl)
theorem BC{v:Value}{xs:List Int}(w:World)(h:rM encI w v xs)(hlen:xs.length<=1000)(hx:∀x∈xs,0<=x/\x<100) :
 Calls Tryz.prog 98 #[v] w fun e w'=>e=.returned (.string (tx (numsL xs)))/\Ext w w':=by
 obtain⟨A,c,rfl,_⟩:=id h;have HS:=aa h;have HX:=aa hx;have hany:xs.any (fun x=>!jR x 0 1000)=false:=by
  rw[List.any_eq_false];intro x hm
  have:=hx x hm
  simp[jR];omega
 have HC:=aa (qB w 123 #[] (fun x=>!jR x 0 1000) h (by omega) Mj (fun x _ W _=>(LU x W).mono (by rintro e w' ⟨rfl,rfl⟩;exact⟨rfl,Ext.refl _⟩)));rw[hany]at HC;clear h hx hany;go_enter Tryz.func98,Tryz.ntmps98;go_wp2_with (go_at_call 122;refine HC.out.mono ?_;rintro e w1 ⟨rfl,b1⟩)
 go_loopw [10] (fun i wr=>Ext w1 wr/\∃k:Nat,k<=xs.length/\i=.int .i64 (k:Int)/\Hid (Bld w1.heap.size w1.heap.size (numsL (xs.take k)) wr)) (fun i _=>xs.length-(intOf i).toNat)
 case atStart=>exact⟨(Ext.refl _).alloc _,0,Nat.zero_le _,rfl,Y4 w1⟩
 case round=>
  obtain⟨hb,k,hk,rfl,HB⟩:=hrel;by_cases hlt:k<xs.length
  ·obtain⟨A',c',e,hcc⟩:=(HS.out.ext b1).ext hb;injection e with e1 e2 e3;subst e1 e3;obtain⟨b',off',rfl,pg,hcc⟩:=hcc (by omega);obtain⟨x,hx⟩:=af hlt;have d0:wr.cell? ⟨b',off'+k,none⟩=some (.int .i64 x):=hcc k x hx;have hx0:=HX.out x (List.mem_of_getElem? hx);have ZG:=aa hx;have hle:w1.heap.size<=wr.heap.size:=hb.size;have hl1:(numsL (xs.take k)).length<=3000:=by have h1:=T9 (xs:=xs.take k);have h2:=List.length_take_le k xs;omega
   have HB2:=HB;clear hcc hx e2 HB;by_cases hk0:0<k
   ·have HN:=aa (Qu hk0 ZG.out);have hkd:decide (0<k)=true:=decide_eq_true hk0;clear hk0;go_wp2_with (first|(go_at_call 125;refine(Iw _ _ _ 32 _ HB2.out (by omega) hle).mono ?_;rintro e w2 ⟨rfl,h2,b2⟩;have H2:=aa h2;have hE2:Hid (Ext w1 w2):=Below.trans hb b2;have hle2:=hE2.out.size;clear h2 b2)|(go_at_call 127;refine(p9 x _ hx0.1 hx0.2).mono ?_;rintro e w' ⟨rfl,rfl⟩)|(go_at_call 126;refine(uH _ _ _ (bK x.toNat) _ H2.out (by simp;omega) (by have:=kU x.toNat;omega) hle2).mono ?_;rintro e w3 ⟨rfl,h3,b3⟩;have H3:=aa h3;have LZ:Hid (Ext w1 w3):=Below.trans hE2.out b3;clear h3 b3))
    go_roundw;case rel=>exact⟨LZ.out,k+1,by omega,by go_num,by rw[HN.out];exact H3⟩
    case measure=>simp[intOf];omega
   ·obtain rfl:k=0:=by omega
    have HN:=aa (Uv ZG.out);have h00:numsL (xs.take 0)=[]:=rfl;rw[h00]at HB2;rw[Nat.add_zero]at d0;clear hk0 h00;go_wp2_with (first|(go_at_call 127;refine(p9 x _ hx0.1 hx0.2).mono ?_;rintro e w' ⟨rfl,rfl⟩)|(go_at_call 126;refine(uH _ _ _ (bK x.toNat) _ HB2.out (by simp) (by have:=kU x.toNat;omega) hle).mono ?_;rintro e w3 ⟨rfl,h3,b3⟩;have H3:=aa h3;have LZ:Hid (Ext w1 w3):=Below.trans hb b3;clear h3 b3))
    go_roundw;case rel=>exact⟨LZ.out,1,by omega,by go_num,by rw[HN.out];exact H3⟩
    case measure=>simp[intOf];omega
  ·obtain rfl:k=xs.length:=by omega
   have hle:w1.heap.size<=wr.heap.size:=hb.size;rw[List.take_length]at HB;go_wp2_with (go_at_call 128;refine(Iu _ _ _ _ HB.out hle).mono ?_;rintro e w3 ⟨rfl,b3⟩)
   go_returns;exact⟨rfl,b1.trans (Below.trans hb b3)⟩
theorem Fh(x:Int)(w:World)(h0:0<=x)(h1:x<=4) :
 Calls Tryz.prog 95 #[.int .i64 x] w fun e w'=>e=.returned (.string (tx (Ya x.toNat)))/\Ext w w':=by
 have hx:x=0∨x=1∨x=2∨x=3∨x=4:=by omega
 clear h0 h1;rcases hx with rfl|rfl|rfl|rfl|rfl<;>(
  go_enter Tryz.func95,Tryz.ntmps95;go_wp2_with (go_at_call 105;refine(dN _ _ _ _).mono ?_;rintro e w' ⟨rfl,rfl⟩)
  go_returns;exact⟨rfl,(Ext.refl _).alloc _⟩)
theorem CX(l:List UInt8)(w:World) :
 Calls Tryz.prog 97 #[.string (tx l)] w fun e w'=>e=.returned (.string (tx (Uu l)))/\w=w':=by
 by_cases h:l=[]
 ·subst h;go_enter Tryz.func97,Tryz.ntmps97;have hq:(tx []).toList.isEmpty=true:=by rw[eD];rfl
  go_wp2;go_returns;exact⟨rfl,rfl⟩
 ·have he:Uu l=l:=if_neg h;rw[he]
  have hq:(tx l).toList.isEmpty=false:=by rw[eD];cases l with
   | nil=>exact absurd rfl h
   | cons=>rfl
  clear h he;go_enter Tryz.func97,Tryz.ntmps97;go_wp2;go_returns;exact⟨rfl,rfl⟩
theorem I5{v:Value}{h:List aA}(w:World)(H:gL w v h)(hok:aC h=true) :
 Calls Tryz.prog 67 #[v] w fun e w'=>e=.returned (.string (tx (nR h)))/\Ext w w':=by
 obtain⟨A,c,rfl⟩:=H.slice;have hb:=M6 h;have HB:=aa (FE w H hok);have HT:Hid (nR h=if qP h<0 then Df else Ya (qP h).toNat):=rfl;rw[HT.out];clear H hok HT;generalize qP h=b at *;by_cases h0:b<0
 ·rw[if_pos h0];go_enter Tryz.func67,Tryz.ntmps67;go_wp2_with (go_at_call 94;refine HB.out.mono ?_;rintro e w1 ⟨rfl,b1⟩)
  go_returns;exact⟨rfl,b1⟩
 ·rw[if_neg h0];go_enter Tryz.func67,Tryz.ntmps67;go_wp2_with (first|(go_at_call 94;refine HB.out.mono ?_;rintro e w1 ⟨rfl,b1⟩)|(go_at_call 95;refine(Fh b _ (by omega) (by omega)).mono ?_;rintro e w2 ⟨rfl,b2⟩))
  go_returns;exact⟨rfl,b1.trans b2⟩
theorem Mv{w:World}{v:Value}{ns:List Nat}(h:aF 1 (one gT) w v ns):rM encI w v (ns.map fun(n:Nat)=>(n:Int)):=by
 obtain⟨A,c,rfl,hc⟩:=h;refine⟨A,c,by rw[List.length_map],fun hn=>?_⟩;rw[List.length_map]at hn;obtain⟨b,off,rfl,hbl,hc⟩:=hc hn;refine⟨b,off,rfl,hbl,fun i x hx=>?_⟩;rw[List.getElem?_map]at hx;obtain⟨n,hn,rfl⟩:=Option.map_eq_some_iff.1 hx
 have:=hc i n hn 0 (by omega)
 simpa[one,gT,encI] using this
theorem FD{v:Value}{h:List aA}(w:World)(H:gL w v h)(hok:aC h=true) :
 Calls Tryz.prog 68 #[v] w fun e w'=>e=.returned (.string (tx (qG h)))/\Ext w w':=by
 obtain⟨A,c,rfl⟩:=H.slice;have HB:=aa (DU w H hok);have hl:h.length<=6:=aM hok
 have HT:Hid (qG h=match dW h with
  | none=>Df
  | some ns=>Uu (numsL (ns.map fun(n:Nat)=>(n:Int)))):=rfl
 have HM:=aa (fun r (e:dW h=some r)=>vQ e);rw[HT.out];clear H hok HT
 cases hf:dW h with
 | none=>
   rw[hf]at HB;go_enter Tryz.func68,Tryz.ntmps68;go_wp2_with (go_at_call 96;refine HB.out.mono ?_;rintro e w1 ⟨v1,rfl,s1,b1⟩)
   go_returns;exact⟨rfl,b1⟩
 | some ns=>
   rw[hf]at HB;have hm:=HM.out ns hf;have Su:=aa hm;clear hf hm HM;go_enter Tryz.func68,Tryz.ntmps68;go_wp2_with (first|(go_at_call 96;refine HB.out.mono ?_;rintro e w1 ⟨v1,rfl,s1,b1⟩;have S1:=aa (Mv s1);clear s1)|(go_at_call 98;refine(BC _ S1.out (by rw[List.length_map];have:=Su.out.1;simp;omega) (fun x hx=>by obtain⟨n,hn,rfl⟩:=List.mem_map.1 hx;have:=Su.out.2 n hn;omega)).mono ?_;rintro e w2 ⟨rfl,b2⟩)|(go_at_call 97;refine(CX _ _).mono ?_;rintro e w' ⟨rfl,rfl⟩))
   go_returns;exact⟨rfl,b1.trans b2⟩
theorem KG{v:Value}{h:List aA}(w:World)(H:gL w v h)(hok:aC h=true) :
 Calls Tryz.prog 69 #[v] w fun e w'=>e=.returned (.string (tx (wK h)))/\Ext w w':=by
 obtain⟨A,c,rfl⟩:=H.slice;have HB:=aa (Bn w H hok);have HO:=aa (fun W=>CX (wm h) W);have HT:Hid (wK h=Uu (wm h)):=rfl;rw[HT.out];clear H hok HT;generalize Uu (wm h)=oe at *;go_enter Tryz.func69,Tryz.ntmps69;go_wp2_with (first|(go_at_call 99;refine HB.out.mono ?_;rintro e w1 ⟨rfl,b1⟩)|(go_at_call 97;refine(HO.out _).mono ?_;rintro e w' ⟨rfl,rfl⟩))
 go_returns;exact⟨rfl,b1⟩
