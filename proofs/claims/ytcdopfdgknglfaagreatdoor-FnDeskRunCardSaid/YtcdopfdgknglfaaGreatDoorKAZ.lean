/- Lemmas. -/
import Derived.Test.YtcdopfdgknglfaaGreatDoorKAL
import Derived.Test.YtcdopfdgknglfaaGreatDoorKAW
import Derived.Lib.ConvBytes
set_option maxHeartbeats 16000000
set_option maxRecDepth 8000
set_option linter.all false
namespace Go.Proofs.YtcdopfdgknglfaaGreatDoor
open Go.RowKit
theorem Vh{α:Type}{m:Nat}{enc:α->Nat->Value}{w:World}{b off n c:Nat}{zs:List α}(h:aL m enc w (.slice (some ⟨b,off,none⟩) n c) zs){q:Nat}(hq:q<zs.length)(x:α) :
 aL m enc (w.setCells b (off+q*m) (aH m enc x)) (.slice (some ⟨b,off,none⟩) n c) (zs.set q x):=by
 obtain⟨A',c',e,hc⟩:=h;injection e with e1 e2 e3;subst e1 e2 e3;refine⟨_,_,by rw[iE],λhn=>?_⟩;rw[iE]at hn;obtain⟨b',off',e,hbl,hc⟩:=hc hn;injection e with e;injection e with e1 e2;subst e1 e2;have hsz:∀(vs:List Value) (o:Nat) (w:World),(w.setCells b o vs).heap.size=w.heap.size:=λvs=>by
  induction vs with
  | nil=>intro o w;rfl
  | cons v r ih=>intro o w;rw[World.setCells,ih];simp[World.setCell]
 refine⟨b,off,rfl,by rw[hsz];exact hbl,λi z hz j hj=>?_⟩;have hlen:(aH m enc x).length=m:=by simp[aH]
 rw[iO]at hz;obtain⟨z0,hz0⟩:=ah hq;by_cases hi:q=i
 ·subst hi;rw[aj rfl,aj hq]at hz;cases hz
  have:=World.cell?_setCells_in b (aH m enc x) (off+q*m) w (λj' hj'=>by
   have:=hc q z0 hz0 j' (by rw[hlen]at hj';exact hj')
   rw[this];rfl) j (by rw[hlen];exact hj)
  rw[this]
  have:(aH m enc x)[j]? =some (enc x j):=by simp[aH,hj]
  rw[dJ (by rw[hlen];exact hj)]at this;exact this
 ·rw[au hi]at hz;rw[World.cell?_setCells_out _ _ _ _ _ (λ_ _=>by
   rw[hlen];simp only;rcases Nat.lt_or_gt_of_ne hi with h1|h1
   ·have:=Nat.mul_le_mul_right m h1
    rw[Nat.succ_mul]at this;omega
   ·have:=Nat.mul_le_mul_right m h1
    rw[Nat.succ_mul]at this
    omega)]
  exact hc i z hz j hj
theorem VF{α:Type}{m:Nat}{enc:α->Nat->Value}{w:World}{b off n c q:Nat}{zs rest:List α}(h:aL m enc w (.slice (some ⟨b,off,none⟩) n c) (zs++rest))(hq:zs.length=q)(vs:List Value):aL m enc (w.setCells b (off+q*m) vs) (.slice (some ⟨b,off,none⟩) q c) zs:=by
 obtain⟨A',c',e,hc⟩:=h;injection e with e1 e2 e3;subst e1 e2 e3;have hsz:∀(vs:List Value) (o:Nat) (w:World),(w.setCells b o vs).heap.size=w.heap.size:=λvs=>by
  induction vs with
  | nil=>intro o w;rfl
  | cons v r ih=>intro o w;rw[World.setCells,ih];simp[World.setCell]
 refine⟨_,_,by rw[hq],λhn=>?_⟩;obtain⟨b',off',e,hbl,hc⟩:=hc (by rw[dw];omega);injection e with e;injection e with e1 e2;subst e1 e2;refine⟨b,off,rfl,by rw[hsz];exact hbl,λi z hz j hj=>?_⟩;have hi:=(bG.1 hz).1;rw[World.cell?_setCells_out _ _ _ _ _ (λ_ _=>by
  simp only
  have:=Nat.mul_le_mul_right m (show i+1<=q by omega)
  rw[Nat.succ_mul]at this
  omega)]
 exact hc i z (by rw[oK hi];exact hz) j hj
structure mY (v:Value) (w w':World):Prop where
 only:Only v w w'
 ty:∀I,jD I w v->jD I w' v
theorem mY.bK{v:Value}{w w':World}(h:Ext w w'):mY v w w':=⟨Only.bK h,λ_ hi=>hi.ext h⟩
theorem mY.trans{v:Value}{a b c:World}(h:mY v a b)(k:mY v b c):mY v a c:=⟨h.only.trans k.only,λI hi=>k.ty I (h.ty I hi)⟩
theorem oM{I:TypeId}{w:World}{v:Value}(h:jD I w v)(p:Addr)(u:Value):jD I (w.setCell p u) v:=λa n c hv hn=>by
 obtain⟨cs,fr,hg⟩:=h a n c hv hn;simp only[World.setCell,lW];by_cases e:p.block=a.block
 ·rw[aj e,hg];exact⟨_,_,rfl⟩
 ·rw[au e];exact⟨cs,fr,hg⟩
theorem mY.setCell{a:Addr}{n c:Nat}{w:World}(hn:0<n)(off:Nat)(u:Value):mY (.slice (some a) n c) w (w.setCell ⟨a.block,off,none⟩ u):=⟨Only.setCell hn off u,λ_ h=>oM h _ _⟩
theorem aci{w:World}{b off n c q:Nat}{u1 u2 u3:Value}(hn:0<n):mY (.slice (some ⟨b,off,none⟩) n c) w (((w.setCell ⟨b,q,none⟩ u1).setCell ⟨b,q+1,none⟩ u2).setCell ⟨b,q+2,none⟩ u3):=
 ((mY.setCell (a:=⟨b,off,none⟩) hn q u1).trans (mY.setCell (a:=⟨b,off,none⟩) hn (q+1) u2)).trans (mY.setCell (a:=⟨b,off,none⟩) hn (q+2) u3)
theorem GL{b off n c:Nat}(hn:0<n):∀(vs:List Value) (o:Nat) (w:World),mY (.slice (some ⟨b,off,none⟩) n c) w (w.setCells b o vs)
 | [],_,w=>mY.bK (af w)
 | v :: r,o,w=>(mY.setCell (a:=⟨b,off,none⟩) hn o v).trans (GL hn r (o+1) _)
theorem vB{α:Type}{m:Nat}{enc:α->Nat->Value}{w:World}{v:Value}{xs:List α}(h:aL m enc w v xs){b o:Nat}(hv:∀a n c,v=.slice (some a) n c->0<n->a.block≠b)(u:Value):aL m enc (w.setCell ⟨b,o,none⟩ u) v xs:=by refine h.only (v:=.slice (some ⟨b,0,none⟩) 1 1) (Only.setCell (a:=⟨b,0,none⟩) (by omega) o u) (λa n c a' n' c' h1 h2 h3 _=>?_);injection h2 with h2;injection h2 with h2;subst h2;exact hv a n c h1 h3
theorem tL{lo:Nat}{w:World}{v:Value}(h:Own lo w v)(b o:Nat)(u:Value):Own lo (w.setCell ⟨b,o,none⟩ u) v:=by exact h.only (v:=.slice (some ⟨b,0,none⟩) 1 1) (Only.setCell (a:=⟨b,0,none⟩) (by omega) o u)
def lG(p:aV->Bool)(xs:List aV)(j:Nat):List aV:=(xs.take j).filter λo=>!p o
theorem Gr{p:aV->Bool}{xs:List aV}{j:Nat}{x:aV}(hx:xs[j]? =some x)(hp:p x=true):lG p xs (j+1)=lG p xs j:=by unfold lG;rw[ak hx,rF];simp[hp]
theorem OD{p:aV->Bool}{xs:List aV}{j:Nat}{x:aV}(hx:xs[j]? =some x)(hp:p x=false):lG p xs (j+1)=lG p xs j++[x]:=by unfold lG;rw[ak hx,rF];simp[hp]
theorem Rx{p:aV->Bool}{xs:List aV}:lG p xs xs.length=xs.filter λo=>!p o:=by unfold lG;rw[bM]
theorem K8{α:Type}{p:α->Bool}:∀(xs:List α) (k:Nat),(findAt p xs k=-1/\∀x∈xs,p x=false)∨∃i x,findAt p xs k=((k+i:Nat):Int)/\xs[i]? =some x/\p x=true/\∀(j:Nat) y,j<i->xs[j]? =some y->p y=false
 | [],_=>.inl ⟨rfl,λ_ h=>by cases h⟩
 | a :: xs,k=>by
   unfold findAt
   cases ha:p a with
   | true=>exact .inr ⟨0,a,by simp,rfl,ha,λj y hj=>absurd hj (gu j)⟩
   | false=>
     rcases K8 xs (k+1) with ⟨h1,h2⟩|⟨i,x,h1,h2,h3,h4⟩
     ·exact .inl ⟨by simpa using h1,λx hx=>by rcases mM.1 hx with rfl|hx;exact ha;exact h2 x hx⟩
     ·refine .inr ⟨i+1,x,by simp only[Bool.false_eq_true,if_false,h1];omega,h2,h3,λj y hj hy=>?_⟩
      cases j with
      | zero=>cases hy;exact ha
      | succ j=>exact h4 j y (by omega) hy
theorem ML{p:aV->Bool}{xs:List aV}{i:Nat}(h:∀(j:Nat) y,j<i->xs[j]? =some y->p y=false):lG p xs i=xs.take i:=by
 unfold lG;rw[List.filter_eq_self];intro a ha;obtain⟨j,hj⟩:=List.getElem?_of_mem ha;have hji:j<i:=by have:=(bG.1 hj).1;rw[eY]at this;omega
 rw[List.getElem?_take_of_lt hji]at hj;rw[h j a hji hj];rfl
theorem GJ:(Tryz.prog.info? 67).map (λi=>(i.zero,i.size,i.bytes))=some (some (.agg #[.int .i64 0,.int .i64 0,.int .i64 0]),3,24):=by kernel_rfl
theorem Ki{A:Option Addr}{n c lo:Nat}{xs:List aV}(w:World)(F:FuncId)(cap:Array Value)(p:aV->Bool)(E:World->Prop)(h:aL 3 encOpr w (.slice A n c) xs)(ho:Own lo w (.slice A n c))(hlen:xs.length<=2097152)(hcap:n<=c/\c<=9223372036854775807)
 (hE:E w) (hEs:∀W W',E W->Only (.slice A n c) W W'->E W')
 (hcf:∀args W,(callFunc F args).run Tryz.prog W=.ok (.enter F args) W) (hF:∀x∈xs,∀W,E W->Calls Tryz.prog F (#[.agg #[.int .i64 x.kind,.int .i64 x.key,.int .i64 x.value]]++cap) W λe w'=>e=.returned (.bool (p x))/\Ext W w') :
 Calls Tryz.prog 151 #[.slice A n c,.func (.func F) #[] cap] w λe w'=>∃q,q<=n/\e=.returned (.slice A q c)/\aL 3 encOpr w' (.slice A q c) (xs.filter λo=>!p o)/\mY (.slice A n c) w w':=by
 obtain rfl:n=xs.length:=by obtain⟨A',c',e,_⟩:=id h;injection e
 have H:=aa h;have HE:=aa hE;have HEs:=aa hEs;have HF:=aa hF;have hidx:=aa (uV w F cap p h hlen hcf (λx hx W hb=>HF.out x hx W (HEs.out _ _ HE.out (Only.bK hb))));have HFZ:Hid (0<xs.length->∀b off,A=some ⟨b,off,none⟩->b<w.heap.size/\∀i,w.frozen? ⟨b,i,none⟩=false):=λhn b off e=>by subst e;exact(ho _ _ _ rfl hn).2
 clear h hE hEs hF ho;rcases K8 (p:=p) xs 0 with ⟨hm,hall⟩|⟨f,xf,hm,hxf,hpf,hbef⟩
 ·rw[hm]at hidx;have QJ:Hid ((xs.filter λo=>!p o)=xs):=by show _ = _;rw[List.filter_eq_self];intro a ha;rw[hall a ha];rfl
  clear hm hall;go_enter Tryz.func151,Tryz.ntmps151;go_wp2_with (go_at_call 121;refine hidx.out.mono ?_;rintro e w1 ⟨rfl,b1⟩)
  go_returns;exact⟨_,av _,rfl,by rw[QJ.out];exact H.out.ext b1,mY.bK b1⟩
 ·simp only[ig]at hm;rw[hm]at hidx;have hfl:f<xs.length:=(bG.1 hxf).1;obtain⟨b,off,rfl,hbl⟩:∃b off,A=some ⟨b,off,none⟩/\b<w.heap.size:=by obtain⟨A',c',e,hc⟩:=H.out;injection e with e1 e2 e3;subst e1 e3;obtain⟨b,off,rfl,hbl,_⟩:=hc (by omega);exact⟨b,off,rfl,hbl⟩
  have hn:0<xs.length:=by omega
  have hfz:=(HFZ.out hn b off rfl).2;have aef:=aa hfz;have HL0:Hid (lG p xs (f+1)=xs.take f):=by show _ = _;rw[Gr hxf hpf,ML hbef]
  clear hm hfz hbef HFZ;have hf1:(0:Int)<=(f:Int):=by omega
  have hfn:((f:Int) == -1)=false:=by simp
  go_enter Tryz.func151,Tryz.ntmps151;go_wp2_with (go_at_call 121;refine hidx.out.mono ?_;rintro e w1 ⟨rfl,b1⟩)
  clear hidx;go_loopw [5,6] (λqv jv wr=>∃q j:Nat,j<=xs.length/\q+1<=j/\qv=.int .i64 (q:Int)/\jv=.int .i64 (j:Int)/\Hid (mY (.slice (some ⟨b,off,none⟩) xs.length c) w wr)/\Hid (q=(lG p xs j).length)/\Hid (aL 3 encOpr wr (.slice (some ⟨b,off,none⟩) xs.length c) (lG p xs j++xs.drop q))) (λ_ jv _=>xs.length-(intOf jv).toNat)
  case atStart=>
   refine⟨f,f+1,by omega,by omega,rfl,by go_num,mY.bK b1,?_,?_⟩
   ·show _ = _;rw[HL0.out,eY];omega
   ·show aL _ _ _ _ _;rw[HL0.out,List.take_append_drop];exact H.out.ext b1
  case round=>
   obtain⟨q,j,hj,hq,rfl,rfl,HO,HL,HS⟩:=hrel;by_cases hjt:j<xs.length
   ·obtain⟨A',c',e,hc⟩:=HS.out;injection e with e1 e2 e3;subst e1 e3;clear e2;have Mh:=HL.out;have hzl:(lG p xs j++xs.drop q).length=xs.length:=by rw[dw,rX,<-Mh];omega
    obtain⟨b',off',e,Xu,hc⟩:=hc (by omega);injection e with e;injection e with e1 e2';subst e1 e2';have hz:∀(i:Nat) z,q<=i->xs[i]? =some z->(lG p xs j++xs.drop q)[i]? =some z:=λi z hi h=>by rw[agG (by omega),<-Mh,Bd,show q+(i-q)=i by omega];exact h
    obtain⟨x,hx⟩:=ah hjt;obtain⟨z2,hz2⟩:=ah (show q<(lG p xs j++xs.drop q).length by omega);have gx:=hc j x (hz _ _ (by omega) hx);have gz:=hc q z2 hz2;have c0:wr.cell? ⟨b,off+j*3,none⟩=some (.int .i64 x.kind):=gx 0 (by omega);have c1:wr.cell? ⟨b,off+j*3+1,none⟩=some (.int .i64 x.key):=gx 1 (by omega);have c2:wr.cell? ⟨b,off+j*3+2,none⟩=some (.int .i64 x.value):=gx 2 (by omega);have HX:=aa hx;have HG:Hid ((lG p xs j++xs.drop q)[q]? =some z2):=hz2;have HZL:=aa hzl;have hxm:=aM hx;have Su:=HO;have HS2:=HS;have HL2:=HL;have HFX:=aa (HF.out x hxm);clear hc hz hx hz2 gx gz Mh hzl hxm HS HO HL;go_wp2_with fail
    refine(HFX.out _ (HEs.out _ _ HE.out (Su.out.only.trans (Only.bK ((af _).alloc _))))).mono ?_
    rintro e w2 ⟨rfl,b2⟩;have HB2:Hid (Ext wr w2):=((af _).alloc _).trans b2;have hbx:w2.cell? ⟨wr.heap.size,0,none⟩=some (.int .i64 x.kind):=b2.cell (aF rfl);have ags:w2.cell? ⟨wr.heap.size,1,none⟩=some (.int .i64 x.key):=b2.cell (aF rfl);have af5:w2.cell? ⟨wr.heap.size,2,none⟩=some (.int .i64 x.value):=b2.cell (aF rfl);have HO3:Hid (mY (.slice (some ⟨b,off,none⟩) xs.length c) w w2):=Su.out.trans (mY.bK HB2.out);have NI:Hid (aL 3 encOpr w2 (.slice (some ⟨b,off,none⟩) xs.length c) (lG p xs j++xs.drop q)):=HS2.out.ext HB2.out;have hz3:∀i,i<3->w2.cell? ⟨b,off+q*3+i,none⟩=some (encOpr z2 i):=λi hi=>by obtain⟨A',c',e,hc⟩:=NI.out;injection e with e1 e2 e3;subst e1 e3;obtain⟨b',off',e,_,hc⟩:=hc (by rw[HZL.out];omega);injection e with e;injection e with e1 e2';subst e1 e2';exact hc q z2 HG.out i hi
    have e0:w2.cell? ⟨b,off+q*3,none⟩=some (.int .i64 z2.kind):=hz3 0 (by omega);have e1:w2.cell? ⟨b,off+q*3+1,none⟩=some (.int .i64 z2.key):=hz3 1 (by omega);have e2:w2.cell? ⟨b,off+q*3+2,none⟩=some (.int .i64 z2.value):=hz3 2 (by omega);have TJ:∀i,w2.frozen? ⟨b,i,none⟩=false:=λi=>(HO3.out.only.wY ⟨b,i,none⟩ hbl).trans (aef.out i);have f0:=TJ (off+q*3);have f1:=TJ (off+q*3+1);have f2:=TJ (off+q*3+2);have hq1:(q:Int)<(xs.length:Int):=by omega
    clear hz3 TJ b2 Su HS2 HFX c0 c1 c2
    cases hp:p x with
    | true=>
      have HN:=aa (Gr HX.out hp);go_wp2;go_roundw;case rel=>exact⟨q,j+1,by omega,by omega,rfl,by go_num,HO3,by rw[HN.out];exact HL2,by rw[HN.out];exact NI⟩
      case measure=>simp[intOf];omega
    | false=>
      have HN:=aa (OD HX.out hp);go_wp2;go_roundw;case rel=>exact⟨q+1,j+1,by omega,by omega,by go_num,by go_num,HO3.out.trans (aci hn),by show _ = _;rw[HN.out,dw,<-HL2.out];rfl,by
       have h3:=Vh NI.out (q:=q) (by rw[HZL.out];omega) x;obtain⟨zq,hzq⟩:=ah (show q<xs.length by omega);rw[Tk HL2.out (z:=zq) (by rw[Bd];exact hzq),agM,<-HN.out]at h3;exact h3⟩
      case measure=>simp[intOf];omega
   ·have heq:j=xs.length:=by omega
    have Mh:=HL.out;have hzl:(lG p xs j++xs.drop q).length=xs.length:=by rw[dw,rX,<-Mh];omega
    have acZ:∀W,(Instr.slice 46 (.slice (some ⟨b,off,none⟩) xs.length c) (some (.int .i64 (q:Int))) none none).run Tryz.prog W=.ok (.slice (some ⟨b,off+q*3,none⟩) (xs.length-q) (c-q)) W:=λW=>by
     have hadd:(⟨b,off,none⟩:Addr).add (q*3)=⟨b,off+q*3,none⟩:=by unfold Addr.add;split<;>simp_all
     have:=mK (P:=Tryz.prog) (A:=some ⟨b,off,none⟩) (n:=xs.length) (c:=c) eG GJ q (by omega) W
     rw[au (by omega)]at this;simp only[Option.map_some,hadd]at this;exact this
    have EB:∀W,(Instr.slice 46 (.slice (some ⟨b,off,none⟩) xs.length c) none (some (.int .i64 (q:Int))) none).run Tryz.prog W=.ok (.slice (some ⟨b,off,none⟩) q c) W:=λW=>by
     have:=mW (P:=Tryz.prog) (A:=some ⟨b,off,none⟩) (n:=xs.length) (c:=c) eG GJ q (by omega) W
     rw[au (by omega)]at this
     simpa[Addr.add] using this
    obtain⟨cs,hcs⟩:∃cs,(Builtin.zeroCells (Value.agg #[Value.int .i64 0,Value.int .i64 0,Value.int .i64 0]).cells (xs.length-q)).toList=cs:=⟨_,rfl⟩;have aa3:cs.length=(xs.length-q)*3:=by rw[<-hcs];simp[Builtin.zeroCells,Value.cells]
    have hcs1:∀v∈cs,v.oneCell'=true:=by
     rw[<-hcs];intro v hv;simp[Builtin.zeroCells,Value.cells]at hv;obtain⟨a,_,rfl⟩:=hv;have h3:a%3<3:=R5 _ (by omega);generalize a%3=r at h3
     match r,h3 with
     | 0,_=>rfl
     | 1,_=>rfl
     | 2,_=>rfl
    have hcl:∀ty,(Builtin.clear_ #[46] ty #[.slice (some ⟨b,off+q*3,none⟩) (xs.length-q) (c-q)]).run Tryz.prog wr=.ok (.tuple #[]) (wr.setCells b (off+q*3) cs):=
     λty=>wU wr _ _ ty _ eG (λw=>by kernel_rfl) b (off+q*3) _ _ (by omega) cs hcs (λi hi=>by
      obtain⟨A',c',e,hc⟩:=HS.out;injection e with e1 e2 e3;subst e1 e3;obtain⟨b',off',e,_,hc⟩:=hc (by omega);injection e with e;injection e with e1 e2';subst e1 e2';obtain⟨z,hz⟩:=ah (show q+i/3<(lG p xs j++xs.drop q).length by omega)
      have:=hc (q+i/3) z hz (i%3) (by omega)
      rw[show off+(q+i/3)*3+i%3=off+q*3+i by omega]at this;rw[this];rfl) (λi hi=>(HO.out.only.wY ⟨b,_,none⟩ hbl).trans (aef.out _)) hcs1
    have HW:Hid (aL 3 encOpr (wr.setCells b (off+q*3) cs) (.slice (some ⟨b,off,none⟩) q c) (xs.filter λo=>!p o)):=by
     have:=HS.out
     rw[heq]at this Mh;rw[<-Rx];exact VF this Mh.symm cs
    have HOW:Hid (mY (.slice (some ⟨b,off,none⟩) xs.length c) w (wr.setCells b (off+q*3) cs)):=HO.out.trans (GL hn cs _ _);have i5:decide ((j:Int)<(xs.length:Int))=false:=dU (by omega);have OJ:q<=xs.length:=by omega
    clear HS HO HL hzl Mh hcs aa3 hcs1 heq;go_wp2;go_returns;exact⟨q,OJ,rfl,HW.out,HOW.out⟩
theorem NQ(A:Option Addr)(n c:Nat)(w:World)(hc:n<=c)(hc2:c<=9223372036854775807) :
 Calls Tryz.prog 153 #[.slice A n c] w λe w'=>e=.returned (.slice A n n)/\w=w':=by
 go_enter Tryz.func153,Tryz.ntmps153;go_wp2;go_returns;exact⟨rfl,rfl⟩
theorem U2{w:World}{A:Option Addr}{n c:Nat}{rs:List jg}{h:List aG}(H:yB w (.slice A n c) rs h)(c':Nat):yB w (.slice A n c') rs h:=⟨H.1,rM H.2.1 c',H.2.2⟩
theorem Q3{A:Option Addr}{n c:Nat}{v:Value}(h:Apart (.slice A n c) v)(c':Nat):Apart (.slice A n c') v:=λa k d a' k' d' e1 e2 h1 h2=>by injection e1 with e1 e3 e4;subst e1 e3;exact h a _ c a' k' d' rfl e2 h1 h2
theorem Ui{lo:Nat}{w:World}{A:Option Addr}{n c:Nat}{rs:List jg}(H:yX lo w (.slice A n c) rs)(c':Nat):yX lo w (.slice A n c') rs:=
 ⟨N7 H.1 c',λi r hr=>⟨(H.2.1 i r hr).1,Q3 (H.2.1 i r hr).2 c'⟩,H.2.2⟩
theorem KH:Er Tryz.prog 67 iG:=
 Ia Mr (λk p=>by simp[Instr.sameNow]) (λb k W=>by
  have u3:=agC;have a3:=Tryz.isAgg3;have z3:=Tryz.sizeOf3;have hi:∀x W,(Instr.checkKey b 9999 3 (.int .i64 x)).run Tryz.prog W=.ok () W:=λx W=>Go.MapKept.run_checkKey u3 (by simp[Go.MapKept.IsKey]) b 9998;unfold iG;rw[show (10000:Nat)=9999+1 from rfl,Instr.checkKey];simp only[Sem.run_bind,run_underlying Mr,Result.andThen_ok];go_simp) (λk p W=>by
   have h:=sw k.kind k.key k.value p.kind p.key p.value W;unfold iG;simp only[Op.equal,Op.maxDepth];rw[h];congr 1;rw[kQ];obtain⟨a,b,c⟩:=k;obtain⟨a',b',c'⟩:=p
   simp) (λk=>by unfold iG;simp[Instr.sameBits])
theorem lY.only{K:Type}[DecidableEq K]{jI:K->Value}{m:K->Option Value}{w w':World}{g:Nat}{v:Value}(h:lY w g jI m)(ho:Only v w w')(hv:∀a n c,v=.slice (some a) n c->0<n->a.block≠g):lY w' g jI m:=by have hl:=h.lt;obtain⟨es,zY,l,h,h2⟩:=h;exact⟨es,zY,l,(ho.block g hl hv).trans h,h2⟩
def Bz(ops:List aV)(o:aV):Option Value:=if oH o&&ops.any (λw=>jQ w&&(w.key==o.key&&w.value==o.value)) then some (.bool true) else none
def xB(g:Nat)(m:aV->Option Value)(W:World):Prop:=W.cell? ⟨g+1,0,none⟩=some (.map (some g))/\lY W g iG m
theorem MN(g:Nat)(ops:List aV)(o:aV)(W:World)(h:xB g (Bz ops) W) :
 Calls Tryz.prog 152 (#[.agg #[.int .i64 o.kind,.int .i64 o.key,.int .i64 o.value]]++#[.pointer (some ⟨g+1,0,none⟩)]) W λe w'=>e=.returned (.bool (oH o&&ops.any (λw=>jQ w&&(w.key==o.key&&w.value==o.value))))/\Ext W w':=by
 show Calls Tryz.prog 152 #[.agg #[.int .i64 o.kind,.int .i64 o.key,.int .i64 o.value],.pointer (some ⟨g+1,0,none⟩)] W _;obtain⟨h1',h2⟩:=h;have h1:=((af W).alloc (.cells #[.int .i64 o.kind,.int .i64 o.key,.int .i64 o.value] 67)).cell h1';have hl1:=CJ (w:=W.alloc (.cells #[.int .i64 o.kind,.int .i64 o.key,.int .i64 o.value] 67)) Tryz.underlying169 KH Lp (h2.ext ((af _).alloc _)) o;unfold iG at hl1;have hv:((Bz ops o).getD (.bool false))=.bool (oH o&&ops.any (λw=>jQ w&&(w.key==o.key&&w.value==o.value))):=by
  unfold Bz;split
  ·rename_i h;rw[h];rfl
  ·rename_i h;simp only[Bool.not_eq_true]at h;rw[h];rfl
 rw[hv]at hl1;clear h2 hv;generalize (oH o&&ops.any (λw=>jQ w&&(w.key==o.key&&w.value==o.value)))=r at hl1 ⊢;go_enter Tryz.func152,Tryz.ntmps152;go_wp2;go_returns;exact⟨rfl,(af _).alloc _⟩
theorem Pq(args:Array Value)(W:World):(callFunc 152 args).run Tryz.prog W=.ok (.enter 152 args) W:=by kernel_rfl
theorem Vo{ops:List aV}{j:Nat}{o:aV}(ho:ops[j]? =some o)(hw:(o.kind==2)=true)(r:aV):(if r=⟨1,o.key,o.value⟩ then some (.bool true) else Bz (ops.take j) r)=Bz (ops.take (j+1)) r:=by
 have hW:jQ o=true:=hw;rw[ak ho];unfold Bz;rw[List.any_append];by_cases e:r=⟨1,o.key,o.value⟩
 ·rw[aj e];subst e;simp[oH,hW]
 ·rw[au e]
  have:(oH r&&(o.key==r.key&&o.value==r.value))=false:=by rw[Bool.eq_false_iff];intro h;simp only[oH,dh,beq_iff_eq]at h;apply e;obtain⟨a,b,c⟩:=r;simp only at h ⊢;obtain⟨rfl,rfl,rfl⟩:=h;rfl
  simp only[List.any_cons,List.any_nil,Bool.or_false,hW,Bool.true_and,Bool.and_or_distrib_left,this,Bool.or_false]
theorem VS{ops:List aV}{j:Nat}{o:aV}(ho:ops[j]? =some o)(hw:(o.kind==2)=false):Bz (ops.take (j+1))=Bz (ops.take j):=by have hW:jQ o=false:=hw;funext r;rw[ak ho];unfold Bz;rw[List.any_append];simp[hW]
theorem xB.ext{g:Nat}{m:aV->Option Value}{W W':World}(h:xB g m W)(hb:Ext W W'):xB g m W':=⟨hb.cell h.1,h.2.ext hb⟩
def uJ(h:List aG)(n k:Nat):List aG:=((h.take k).eraseIdx n).map (tT h n)
theorem Rz{h:List aG}{n:Nat}{t:aG}(ht:h[n]? =some t):uJ h n (n+1)=uJ h n n:=by
 unfold uJ;have hl:=(bG.1 ht).1;have h1:(h.take n).length=n:=by rw[eY];omega
 rw[ak ht,List.eraseIdx_append_of_length_le (by omega),h1,Nat.sub_self,List.eraseIdx_of_length_le (by omega:(h.take n).length<=n)];simp
theorem Q8{h:List aG}{n k:Nat}{t:aG}(ht:h[k]? =some t)(hk:k≠n):uJ h n (k+1)=uJ h n k++[tT h n t]:=by
 unfold uJ;have hl:=(bG.1 ht).1;have h1:(h.take k).length=k:=by rw[eY];omega
 rw[ak ht];rcases eP n k with h2|h2
 ·rw[List.eraseIdx_append_of_lt_length (by omega),rR];rfl
 ·rw[List.eraseIdx_of_length_le (by rw[dw,h1];simp;omega),List.eraseIdx_of_length_le (by omega),rR];rfl
theorem VN{h:List aG}{n k:Nat}:(uJ h n k).length<=k:=by unfold uJ;rw[dX];exact aX (List.length_eraseIdx_le _ _) (List.length_take_le _ _)
theorem Vm{h:List aG}{n:Nat}:uJ h n h.length=om h n:=by unfold uJ om;rw[bM]
theorem PU{v:Value}{h:List aG}(n:Nat)(w:World)(H:iM w v h)(hn:n<h.length)(hlen:h.length<=2097152)(hM:∀t∈h,t.ops.length<=2097152) :
 Calls Tryz.prog 107 #[v,.int .i64 (n:Int)] w (uw w (om h n)):=by
 obtain⟨A,c,rfl⟩:=H.slice;have HH:=aa H;have HM:=aa hM;have hmk:=@run_makeMap Tryz.prog;have hmr:=jo (P:=Tryz.prog) 23 48 kC pW h.length (by omega) (by omega);obtain⟨b,off,rfl,hbl,hc⟩:=HH.out.head (by omega);obtain⟨t,ht⟩:=ah hn;obtain⟨ov,c0,c1,c2,hs⟩:=hc n t ht;obtain⟨A',c',rfl,_⟩:=id hs;have hl:=hM t (aM ht);have HT:=aa ht;have HS:=aa hs;have hni:(n:Int)<(h.length:Int):=by omega
 have c0':=((((af w).alloc (.map #[] 0)).alloc (.cells #[.map (some w.heap.size)] 169))).cell c0;have c1':=((((af w).alloc (.map #[] 0)).alloc (.cells #[.map (some w.heap.size)] 169))).cell c1;have c2':=((((af w).alloc (.map #[] 0)).alloc (.cells #[.map (some w.heap.size)] 169))).cell c2;clear H hM hc ht hs c0 c1 c2;go_enter Tryz.func107,Tryz.ntmps107;go_wp2;clear hmk;go_loopw [18] (λi wr=>Ext w wr/\∃j:Nat,j<=t.ops.length/\i=.int .i64 (j:Int)/\Hid (xB w.heap.size (Bz (t.ops.take j)) wr)) (λi _=>t.ops.length-(intOf i).toNat)
 case atStart=>
  refine⟨((af w).alloc _).alloc _,0,aT _,rfl,iU (by simp) rfl,?_⟩
  exact((lY.made w iG).congr (λk=>by simp[Bz])).ext ((af _).alloc _)
 case round=>
  obtain⟨hb,j,hj,rfl,HG⟩:=hrel;by_cases hjt:j<t.ops.length
  ·obtain⟨A2,c3,hA2,hcc⟩:=HS.out.ext hb;injection hA2 with e1 e2 e3;subst e1 e3;obtain⟨b',off',rfl,ru,hcc⟩:=hcc (by omega);obtain⟨o,ho⟩:=ah hjt;have d0:wr.cell? ⟨b',off'+j*3,none⟩=some (.int .i64 o.kind):=hcc j o ho 0 (by omega);have d1:wr.cell? ⟨b',off'+j*3+1,none⟩=some (.int .i64 o.key):=hcc j o ho 1 (by omega);have d2:wr.cell? ⟨b',off'+j*3+2,none⟩=some (.int .i64 o.value):=hcc j o ho 2 (by omega);have Ho:=aa ho;have hE2:Hid (Ext wr ((wr.alloc (.cells #[.int .i64 o.kind,.int .i64 o.key,.int .i64 o.value] 67)).alloc (.cells #[.int .i64 o.kind,.int .i64 o.key,.int .i64 o.value] 67))):=((af _).alloc _).alloc _;have HGX:=aa (HG.out.ext hE2.out);have g0:=HGX.out.1;have hsz:w.heap.size+2<=wr.heap.size:=by
    have h1:=HG.out.1
    have:w.heap.size+1<wr.heap.size:=by
     rcases eP (w.heap.size+1) wr.heap.size with h'|h'
     ·exact h'
     ·simp[World.cell?,DR h']at h1
    omega
   clear hcc ho e2
   cases hw:(o.kind==2) with
   | false=>
     have HN:=aa (VS Ho.out hw);go_wp2_with (go_at_call 87;refine(gI _ _ _ _).mono ?_;rw[hw];rintro e w' ⟨rfl,rfl⟩)
     go_roundw;case rel=>exact⟨hb.trans hE2.out,j+1,by omega,by go_num,by rw[HN.out];exact HGX⟩
     case measure=>simp[intOf];omega
   | true=>
     obtain⟨ob,hu,hG,_⟩:=iB Tryz.underlying169 KH HGX.out.2 ⟨1,o.key,o.value⟩ (.bool true);have HG2:=aa (hG.congr (Vo Ho.out hw));unfold iG at hu;clear hG;go_wp2_with (go_at_call 87;refine(gI _ _ _ _).mono ?_;rw[hw];rintro e w' ⟨rfl,rfl⟩)
     go_roundw;case rel=>exact⟨(hb.trans hE2.out).bD (av _) _,j+1,by omega,by go_num,by show _/\_;exact⟨(OX (by simp)).trans g0,HG2.out⟩⟩
     case measure=>simp[intOf];omega
  ·obtain rfl:j=t.ops.length:=by omega
   have wO:Hid (xB w.heap.size (Bz t.ops) wr):=by have:=HG.out;rw[bM]at this;exact this
   obtain⟨wa,rfl⟩:∃wa:World,wa=wr:=⟨_,rfl⟩;have hsz:Hid (w.heap.size+2<=wa.heap.size):=by
    have h1:=wO.out.1;show _<=_;rcases eP (w.heap.size+1) wa.heap.size with h'|h'
    ·omega
    ·simp[World.cell?,DR h']at h1
   clear HG c0' c1' c2';go_wp2;clear hmr;go_loopw [8,36] (λo i wr=>Ext wa wr/\∃k:Nat,k<=h.length/\i=.int .i64 (k:Int)/\Hid (∃rs,oV 48 67 wa.heap.size wr o rs (uJ h n k))) (λ_ i _=>h.length-(intOf i).toNat)
   case atStart=>
    have h0:uJ h n 0=[]:=by simp[uJ]
    exact⟨(af _).alloc _,0,aT _,rfl,[],by rw[h0];exact Ld _ h.length (by unfold maxLen;omega) (size_madeCells _ _)⟩
   case round=>
    obtain⟨hbk,k,hk,rfl,HI⟩:=hrel;by_cases hlt:k<h.length
    ·obtain⟨b3,Cz,e3,_,hcc⟩:=((HH.out.ext hb).ext hbk).head (by omega);injection e3 with e3;injection e3 with e3 e4;subst e3 e4;obtain⟨u,hu⟩:=ah hlt;obtain⟨ov,c0,c1,c2,hs⟩:=hcc k u hu;obtain⟨A4,c4,rfl,_⟩:=id hs;have hl2:=HM.out u (aM hu);obtain⟨rs,hB⟩:=HI.out;have HU:=aa hu;have HB:=aa hB;have hrl:rs.length<=k:=by rw[hB.1];exact VN
     have K6:=aa (hs.ext ((af wr).alloc (.cells #[.int .i64 u.az,.slice A4 u.ops.length c4,.bool u.done] 48)));have YX:=aa (wO.out.ext hbk);have hle:wa.heap.size<=wr.heap.size:=hbk.size;clear hcc hu hs hB HI;by_cases hkn:k=n
     ·subst hkn;have HP:=aa (Rz HU.out);go_wp2;go_roundw;case rel=>exact⟨hbk.alloc _,k+1,by omega,by go_num,rs,by rw[HP.out];exact HB.out.ext ((af _).alloc _)⟩
      case measure=>simp[intOf];omega
     ·have hkz:((k:Int)==(n:Int))=false:=by simp;omega
      have HP:=aa (Q8 HU.out hkn);clear hkn;go_wp2_with fail
      refine(yh u.az u.done _ K6.out hl2).mono ?_
      rintro e w1 ⟨A1,rfl,s1,o1,i1,b1⟩;have hq:wr.heap.size<w1.heap.size:=by have:=b1.size;simp at this;omega
      obtain⟨q,hqe⟩:∃q,wr.heap.size=q:=⟨_,rfl⟩;have HB1:Hid (Ext wr w1):=((af _).alloc _).trans b1;have HV:Hid (∀a n c,Value.slice A1 u.ops.length u.ops.length=.slice (some a) n c->0<n->a.block≠q):=λa n c e hn=>by
       have:=(o1 a n c e hn).1
       simp at this;omega
      have z0:w1.cell? ⟨wr.heap.size,0,none⟩=some (.int .i64 u.az):=b1.cell (aF rfl);have z1:w1.cell? ⟨wr.heap.size,1,none⟩=some (.slice A4 u.ops.length c4):=b1.cell (aF rfl);have z2:w1.cell? ⟨wr.heap.size,2,none⟩=some (.bool u.done):=b1.cell (aF rfl);have hf1:∀j,w1.frozen? ⟨wr.heap.size,j,none⟩=false:=λj=>(b1.frozen (p:=⟨wr.heap.size,j,none⟩) (by simp)).trans (jf j rfl);have y0:=hf1 0;have y1:=hf1 1;have y2:=hf1 2;have HW1:Hid (∃W,W=(((w1.setCell ⟨q,0,none⟩ (.int .i64 u.az)).setCell ⟨q,1,none⟩ (.slice A1 u.ops.length u.ops.length)).setCell ⟨q,2,none⟩ (.bool u.done))/\aL 3 encOpr W (.slice A1 u.ops.length u.ops.length) u.ops/\Own (wr.heap.size+1) W (.slice A1 u.ops.length u.ops.length)/\jD 67 W (.slice A1 u.ops.length u.ops.length)/\xB w.heap.size (Bz t.ops) W/\Ext wr W/\q<W.heap.size/\W.cell? ⟨q,0,none⟩=some (.int .i64 u.az)/\W.cell? ⟨q,1,none⟩=some (.slice A1 u.ops.length u.ops.length)/\W.cell? ⟨q,2,none⟩=some (.bool u.done)/\∀j,W.frozen? ⟨q,j,none⟩=false):=by
       have hE1:Ext wr (((w1.setCell ⟨q,0,none⟩ (.int .i64 u.az)).setCell ⟨q,1,none⟩ (.slice A1 u.ops.length u.ops.length)).setCell ⟨q,2,none⟩ (.bool u.done)):=((HB1.out.setCell (by simp;omega) _).setCell (by simp;omega) _).setCell (by simp;omega) _;refine⟨_,rfl,vB (vB (vB s1 HV.out _) HV.out _) HV.out _,tL (tL (tL (o1.mono (by simp)) _ _ _) _ _ _) _ _ _,oM (oM (oM i1 _ _) _ _) _ _,YX.out.ext hE1,hE1,by simp;omega,?_,?_,?_,λj=>?_⟩
       ·subst hqe;rw[aC (by simp),aC (by simp)];exact fJ z0 _
       ·subst hqe;rw[aC (by simp)];exact fJ ((aC (by simp) _).trans z1) _
       ·subst hqe;exact fJ (((aC (by simp) _).trans ((aC (by simp) _).trans z2))) _
       ·subst hqe;exact(Only.setCell (a:=⟨wr.heap.size,0,none⟩) (n:=1) (c:=1) (by omega) 2 _).wY _ (by simpa using hq) |>.trans ((Only.setCell (a:=⟨wr.heap.size,0,none⟩) (n:=1) (c:=1) (by omega) 1 _).wY _ (by simpa using hq)) |>.trans ((Only.setCell (a:=⟨wr.heap.size,0,none⟩) (n:=1) (c:=1) (by omega) 0 _).wY _ (by simpa using hq)) |>.trans (hf1 j)
      obtain⟨W,hWe,sW,oW,iW,gW,bW,qW,x0,x1,x2,xf⟩:=HW1.out;have adQ:=aa (Ki W 152 #[.pointer (some ⟨w.heap.size+1,0,none⟩)] (λo=>oH o&&t.ops.any (λw=>jQ w&&(w.key==o.key&&w.value==o.value))) (xB w.heap.size (Bz t.ops)) sW oW (by omega) ⟨av _,by omega⟩ gW (λX Y hX hXY=>by
       have hne:∀a n c,Value.slice A1 u.ops.length u.ops.length=.slice (some a) n c->0<n->w.heap.size+1<a.block:=λa n c e hn=>by have h1:=(oW a n c e hn).1;have h2:=hsz.out;omega
       exact⟨hXY.cell (λa n c e hn=>by have:=hne a n c e hn;simp;omega) hX.1,hX.2.only hXY (λa n c e hn=>by have:=hne a n c e hn;omega)⟩) Pq (λx _ X hX=>MN w.heap.size t.ops x X hX))
      have SW:=aa (aB sW (aB oW iW));have XF:=aa xf;have BW:=aa bW;have adj:=aa hWe;clear s1 o1 i1 b1 hf1 HW1 sW oW iW gW xf bW HB1 YX K6;subst hqe;go_wp2_with fail
      rw[<-adj.out];refine adQ.out.mono ?_;rintro e w2 ⟨m,hm,rfl,s2,o2⟩;have hne:∀a n c,Value.slice A1 u.ops.length u.ops.length=.slice (some a) n c->0<n->a.block≠wr.heap.size:=λa n c e hn=>by
       have:=(SW.out.2.1 a n c e hn).1
       omega
      replace x0:=o2.only.cell (λa n c e hn=>hne a n c e hn) x0;replace x1:=o2.only.cell (λa n c e hn=>hne a n c e hn) x1;replace x2:=o2.only.cell (λa n c e hn=>hne a n c e hn) x2;have y0:w2.frozen? ⟨wr.heap.size,0,none⟩=false:=(o2.only.wY _ qW).trans (XF.out 0);have y1:w2.frozen? ⟨wr.heap.size,1,none⟩=false:=(o2.only.wY _ qW).trans (XF.out 1);have y2:w2.frozen? ⟨wr.heap.size,2,none⟩=false:=(o2.only.wY _ qW).trans (XF.out 2);have NK:Ext wr (w2.setCell ⟨wr.heap.size,1,none⟩ (.slice A1 m m)):=(BW.out.only o2.only (SW.out.2.1.mono (by omega)) (av _)).setCell (av _) _;have hft:(u.ops.filter λo=>!(oH o&&t.ops.any (λw=>jQ w&&(w.key==o.key&&w.value==o.value))))=(tT h n u).ops:=by
       have:opsOf h n=t.ops:=by simp[opsOf,HT.out]
       simp[tT,zC,this]
      rw[hft]at s2;have hml:(tT h n u).ops.length=m:=by obtain⟨A9,c9,e9,_⟩:=s2;injection e9 with _ e9 _;exact e9.symm
      have hsub:∀a k c,Value.slice A1 m m=.slice (some a) k c->0<k->∃c',Value.slice A1 u.ops.length u.ops.length=.slice (some a) u.ops.length c'/\0<u.ops.length:=λa k c e hk=>by injection e with e1 e2 e3;subst e1 e2;exact⟨_,rfl,by omega⟩
      have hS3:aL 3 encOpr (w2.setCell ⟨wr.heap.size,1,none⟩ (.slice A1 m m)) (.slice A1 m m) (tT h n u).ops:=vB (rM s2 m) (λa k c e hk=>by obtain⟨c',e',hk'⟩:=hsub a k c e hk;exact hne a _ _ e' hk') _
      have hO3:Own wr.heap.size (w2.setCell ⟨wr.heap.size,1,none⟩ (.slice A1 m m)) (.slice A1 m m):=tL (λa k c e hk=>by
       obtain⟨c',e',hk'⟩:=hsub a k c e hk
       have:=SW.out.2.1.only o2.only a _ _ e' hk'
       exact⟨by omega,this.2⟩) _ _ _
      have hI3:jD 67 (w2.setCell ⟨wr.heap.size,1,none⟩ (.slice A1 m m)) (.slice A1 m m):=oM (λa k c e hk=>by obtain⟨c',e',hk'⟩:=hsub a k c e hk;exact o2.ty _ SW.out.2.2 a _ _ e' hk') _ _
      obtain⟨v',w4,hrun,hB2,hE2⟩:=uF (t:=tT h n u) (w:=w2.setCell ⟨wr.heap.size,1,none⟩ (.slice A1 m m)) w2.heap.size (by simp) HB.out NK hS3 hO3 hI3 (nG (av _) (by omega)) hle (by omega);have bH:=aa hrun;have HB2:=aa hB2;have HE2:=aa (hE2 wa hbk (av _));have hcap:m<=u.ops.length:=hm;have hcap2:u.ops.length<=9223372036854775807:=by omega
      clear hrun hB2 hE2 hS3 hO3 hI3 NK hsub hft s2 adQ XF BW adj hWe hml;go_wp2_with (first|(go_at_call 108;refine(yD A1 m u.ops.length _ hcap hcap2).mono ?_;rintro e w' ⟨rfl,rfl⟩)|(at_builtin;refine wpList_append_run rfl rfl rfl rfl bH.out ?_))
      go_roundw;case rel=>exact⟨HE2.out,k+1,by omega,by go_num,_,by rw[HP.out];exact HB2.out⟩
      case measure=>simp[intOf];omega
    ·obtain rfl:k=h.length:=by omega
     obtain⟨rs,hB⟩:=HI.out;have HB:=aa hB;obtain⟨A5,c5,rfl,_⟩:=hB.2.1.cell.1;have hcp:=hB.2.1.cap _ _ _ rfl;clear hB HI;go_wp2_with (go_at_call 153;refine(NQ _ _ _ _ hcp.1 hcp.2).mono ?_;rintro e w' ⟨rfl,rfl⟩)
     go_returns;have hB:=HB.out;rw[Vm]at hB;have hd:=hB.done (by decide);exact⟨_,rs,rfl,U2 hd.1 _,(Ui hd.2 _).mono hb.size,hb.trans hbk⟩
theorem NA{v:Value}{h:List aG}(n:Nat)(w:World)(H:iM w v h)(hok:aD h=true)(hn:n<h.length)(hlen:h.length<=2097152)(hM:∀t∈h,t.ops.length<=2097152) :
 Calls Tryz.prog 62 #[v,.int .i64 (n:Int)] w λe w'=>∃v' rs,e=.returned (.tuple #[v',.bool true])/\yB w' v' rs (om h n)/\yX w.heap.size w' v' rs/\Ext w w':=by
 obtain⟨A,c,rfl⟩:=H.slice;have HH:=aa H;have HV:=aa (bZ w H hlen hM);have HM:=aa hM;have fu:=aa hok;have hin:lH (n:Int) 0 ((h.length:Int)-1)=true:=cK.2 (by omega);have hwr:IntKind.i64.wrap ((h.length:Int)-1)=(h.length:Int)-1:=dL _ (by omega);clear H hM hok;go_enter Tryz.func62,Tryz.ntmps62
 go_wp2_with (first
  | (go_at_call 12;refine HV.out.mono ?_;rw[fu.out];rintro e w1 ⟨rfl,b1⟩;have B1:=aa b1)
  | (go_at_call 106;refine(eZ _ _ _ _).mono ?_;rw[hin];rintro e w' ⟨rfl,rfl⟩)
  | (go_at_call 107;refine(PU n _ (HH.out.ext b1) hn hlen HM.out).mono ?_;rintro e w2 ⟨v2,rs,rfl,d1,d2,b2⟩))
 go_returns;exact⟨_,rs,rfl,d1,d2.mono B1.out.size,B1.out.trans b2⟩
theorem Dk{v:Value}{h:List aG}(n:Int)(w:World)(H:iM w v h)(hok:aD h=true)(hn:¬(0<=n/\n<h.length))(hlen:h.length<=2097152)(hM:∀t∈h,t.ops.length<=2097152) :
 Calls Tryz.prog 62 #[v,.int .i64 n] w λe w'=>e=.returned (.tuple #[.slice none 0 0,.bool false])/\Ext w w':=by
 obtain⟨A,c,rfl⟩:=H.slice;have HV:=aa (bZ w H hlen hM);have fu:=aa hok;have hin:lH n 0 ((h.length:Int)-1)=false:=by rw[Bool.eq_false_iff];intro e;have:=cK.1 e;omega
 have hwr:IntKind.i64.wrap ((h.length:Int)-1)=(h.length:Int)-1:=dL _ (by omega);clear H hM hok;go_enter Tryz.func62,Tryz.ntmps62
 go_wp2_with (first
  | (go_at_call 12;refine HV.out.mono ?_;rw[fu.out];rintro e w1 ⟨rfl,b1⟩;have B1:=aa b1)
  | (go_at_call 106;refine(eZ _ _ _ _).mono ?_;rw[hin];rintro e w' ⟨rfl,rfl⟩))
 go_returns;exact⟨rfl,B1.out⟩
def J8(X:Nat->Prop)(v:Value):Prop:=∀a n c,v=.slice (some a) n c->0<n->¬X a.block
theorem J8.own{X:Nat->Prop}{lo:Nat}{w:World}{v:Value}(h:Own lo w v)(hX:∀q,X q->q<lo):J8 X v:=λa n c hv hn hx=>by have:=(h a n c hv hn).1;have:=hX _ hx;omega
def kW(X:Nat->Prop)(w:World)(v:Value)(h:List aG):Prop:=∃rs,yB w v rs h/\J8 X v/\∀(i:Nat) r,rs[i]? =some r->J8 X r.dA
theorem kW.his{X:Nat->Prop}{w:World}{v:Value}{h:List aG}(H:kW X w v h):iM w v h:=let ⟨rs,H,_⟩:=H;⟨rs,H⟩
theorem kW.ext{X:Nat->Prop}{w w':World}{v:Value}{h:List aG}(H:kW X w v h)(hb:Ext w w'):kW X w' v h:=let ⟨rs,H,a,b⟩:=H;⟨rs,H.ext hb,a,b⟩
theorem kW.slice{X:Nat->Prop}{w:World}{v:Value}{h:List aG}(H:kW X w v h):∃A c,v=.slice A h.length c:=H.his.slice
theorem kW.MV{X:Nat->Prop}{lo:Nat}{w:World}{v:Value}{rs:List jg}{h:List aG}(H:yB w v rs h)(O:yX lo w v rs)(hX:∀q,X q->q<lo):kW X w v h:=⟨rs,H,J8.own O.1 hX,λi r hr=>J8.own (O.2.1 i r hr).1 hX⟩
theorem kW.frX{X:Nat->Prop}{w w':World}{v:Value}{h:List aG}(H:kW X w v h)(k:dz X w w'):kW X w' v h:=by obtain⟨rs,⟨h1,h2,h3⟩,h4,h5⟩:=H;exact⟨rs,⟨h1,h2.frX k h4,λi r t hr ht=>⟨(h3 i r t hr ht).1,(h3 i r t hr ht).2.1,(h3 i r t hr ht).2.2.1.frX k (h5 i r hr),(h3 i r t hr ht).2.2.2⟩⟩,h4,h5⟩
theorem kW.mono{X Y:Nat->Prop}{w:World}{v:Value}{h:List aG}(H:kW X w v h)(hY:∀q,Y q->X q):kW Y w v h:=
 let ⟨rs,H,a,b⟩:=H;⟨rs,H,λp n c hv hn hy=>a p n c hv hn (hY _ hy),λi r hr p n c hv hn hy=>b i r hr p n c hv hn (hY _ hy)⟩
theorem PD{α:Type}{m:Nat}{enc:α->Nat->Value}{w:World}{v:Value}{xs:List α}(h:aL m enc w v xs){a:Addr}{n c:Nat}(hv:v=.slice (some a) n c)(hn:0<n):a.block<w.heap.size:=by obtain⟨A,c',e,hc⟩:=h;rw[hv]at e;injection e with e1 e2 _;obtain⟨b,off,e3,hlt,_⟩:=hc (by omega);rw[e3]at e1;injection e1 with e1;rw[e1];exact hlt
theorem kW.more{X:Nat->Prop}{w:World}{v:Value}{h:List aG}(H:kW X w v h):kW (λq=>X q∨w.heap.size<=q) w v h:=by
 obtain⟨rs,H,a,b⟩:=H;refine⟨rs,H,λp n c hv hn hx=>?_,λi r hr p n c hv hn hx=>?_⟩
 ·rcases hx with hx|hx
  ·exact a p n c hv hn hx
  ·have:=PD H.2.1 hv hn
   omega
 ·rcases hx with hx|hx
  ·exact b i r hr p n c hv hn hx
  ·obtain⟨t,ht⟩:∃t,h[i]? =some t:=⟨_,dJ (by rw[<-H.1];exact(bG.1 hr).1)⟩
   have:=PD (H.2.2 i r t hr ht).2.2.1 hv hn
   omega
def tV(X:Nat->Prop)(w:World)(r:List aG × List UInt8)(e:Ending)(w':World):Prop:=∃v,e=.returned (.tuple #[v,.string (tx r.2)])/\kW X w' v r.1/\Ext w w'
theorem Nf{X:Nat->Prop}{v u:Value}{h g:List aG}(ok:Bool)(w:World)(H:kW X w v h)(G:kW X w u g)(hlen:g.length<=2097152)(hM:ok=true->∀t∈g,t.ops.length<=2097152) :
 Calls Tryz.prog 63 #[v,u,.bool ok] w (tV X w (if (ok&&aD g)=true then (g,Fe) else (h,DT))):=by
 obtain⟨A,c,rfl⟩:=H.slice;obtain⟨A',c',rfl⟩:=G.slice;have HH:=aa (aB H G)
 cases ok with
 | false=>
   clear H G hlen hM;go_enter Tryz.func63,Tryz.ntmps63;go_wp2;go_returns;exact⟨_,rfl,HH.out.1,af _⟩
 | true=>
   have HV:=aa (bZ w G.his hlen (hM rfl));clear H G hlen hM
   cases hk:aD g with
   | false=>
     rw[hk]at HV;go_enter Tryz.func63,Tryz.ntmps63;go_wp2_with (go_at_call 12;refine HV.out.mono ?_;rintro e w1 ⟨rfl,b1⟩)
     go_returns;exact⟨_,rfl,HH.out.1.ext b1,b1⟩
   | true=>
     rw[hk]at HV;go_enter Tryz.func63,Tryz.ntmps63;go_wp2_with (go_at_call 12;refine HV.out.mono ?_;rintro e w1 ⟨rfl,b1⟩)
     go_returns;exact⟨_,rfl,HH.out.2.ext b1,b1⟩
theorem LU{v:Value}{xs:List jg}(w:World)(h:aL 3 encTxV w v xs)(hlen:xs.length<=2097152)(h1:∀x∈xs,∃A n c,x.dA=.slice A n c) :
 Calls Tryz.prog 102 #[v] w λe w'=>∃v',e=.returned v'/\Row 48 3 encTxV w.heap.size w' v' xs/\Ext w w':=by
 obtain⟨A,c,rfl,h'⟩:=id h;have heq:=λW=>Lib.run_eql_slice_nil (P:=Tryz.prog) W 23 48 A xs.length c 0 0 kC
 cases A with
 | none=>
   have hx:xs=[]:=by
    rcases Nat.eq_zero_or_pos xs.length with h0|h0
    ·exact mZ h0
    ·obtain⟨b,off,hA,_⟩:=h' h0;cases hA
   subst hx;clear h h';simp only[iJ]at heq ⊢;go_enter Tryz.func102,Tryz.ntmps102;go_wp2;go_returns;exact⟨_,rfl,Row.nil,af _⟩
 | some ad=>
   have hrow:Row 48 3 encTxV w.heap.size (w.alloc (.cells #[] 48)) (.slice (some ⟨w.heap.size,0,none⟩) 0 0) ([]:List jg):=World.ownsRow_made w #[] 0 (av _) (by simp[maxLen]) (by simp);obtain⟨v',w',hrun,hrow',hgrow⟩:=lX (P:=Tryz.prog) (t:=23) (ty:=23) (e:=48) kC pW rfl (by omega) hrow (h.ext ((af w).alloc (.cells #[] 48))) (λx hx j=>Gg x (h1 x hx) j) (by simp;omega) (by omega) (by simp);have Wt:=aa hrow';have hg:=aa (Ext.grown ((af w).alloc (.cells #[] 48)) hgrow (λk hk=>by simp[Value.ownBlock]at hk;omega));have XP:=aa hrun;clear h h' hrow hrow' hgrow hrun;go_enter Tryz.func102,Tryz.ntmps102;go_wp2_with (at_builtin;refine wpList_append_run rfl rfl rfl rfl XP.out ?_)
   go_returns;exact⟨_,rfl,by simpa using Wt.out,hg.out⟩
theorem YB{X:Nat->Prop}{base:Nat}{w w':World}{v':Value}{rs:List jg}{h:List aG}{r:jg}{t:aG}(hl:rs.length=h.length)(H:∀(i:Nat) r t,rs[i]? =some r->h[i]? =some t->FP w r t)(hu:FP w r t)
 (hrow:Row 48 3 encTxV base w' v' (rs++[r])) (hb:∀r t,FP w r t->FP w' r t) (hX:∀q,X q->q<base) (hf:∀(i:Nat) r,rs[i]? =some r->J8 X r.dA) (hr:J8 X r.dA):kW X w' v' (h++[t]):=by
 refine⟨rs++[r],⟨by simp[hl],hrow.cell.1,λi y s hy hs=>?_⟩,λa n c hv hn e=>?_,λi y hy=>?_⟩
 rotate_left
 ·obtain⟨g,cap,e2,_⟩:=nZ hrow (by simp);rw[hv]at e2;injection e2 with e2 _ _;injection e2 with e2
  have:=(jU hrow (k:=g) (by rw[hv,e2];rfl)).1
  rw[e2]at e
  have:=hX _ e
  simp only at this;omega
 ·rw[MS]at hy;split at hy
  ·exact hf i y hy
  ·have hi0:i-rs.length=0:=by
    have:=(bG.1 hy).1
    simp at this;omega
   rw[hi0]at hy;simp at hy;subst hy;exact hr
 rw[MS]at hy hs;split at hy
 ·rename_i hi;rw[aj (by rw[<-hl];exact hi)]at hs;exact hb _ _ (H i y s hy hs)
 ·rename_i hi;rw[au (by rw[<-hl];exact hi)]at hs;have hi0:i-rs.length=0:=by
   have:=(bG.1 hy).1
   simp at this;omega
  rw[hi0]at hy;rw[<-hl,hi0]at hs;simp at hy hs;subst hy hs;exact hb _ _ hu
theorem Ug(h:List aG)(r:List UInt8)(t:aG)(ht:∀t',dQ r=some t'->t=t'):putR h r=if ((dQ r).isSome&&aD (h++[t]))=true then (h++[t],Fe) else (h,DT):=by
 unfold putR
 cases e:dQ r with
 | none=>simp
 | some t'=>rw[<-ht t' e];simp
theorem Sk(W:World)(s:Int)(ov:Value)(d:Bool):aL 3 encTxV (W.alloc (.cells #[.int .i64 s,ov,.bool d] 48)) (.slice (some ⟨W.heap.size,0,none⟩) 1 1) [⟨s,ov,d⟩]:=by
 refine⟨_,_,rfl,λ_=>⟨_,0,rfl,by simp,λi x hx j hj=>?_⟩⟩;obtain rfl:i=0:=by have:=(bG.1 hx).1;simp at this;omega
 simp at hx;subst hx;refine aF ?_
 match j,hj with
 | 0,_=>rfl
 | 1,_=>rfl
 | 2,_=>rfl
theorem Row.slice'{α:Type}{e:TypeId}{m:Nat}{enc:α->Nat->Value}{base:Nat}{W:World}{v:Value}{xs:List α}(h:Row e m enc base W v xs):∃A n c,v=.slice A n c:=by obtain⟨A,c,e,_⟩:=h.cell.1;exact⟨_,_,_,e⟩
theorem ZJ{X:Nat->Prop}{v:Value}{h:List aG}(l:List UInt8)(w:World)(hX:∀q,X q->q<w.heap.size)(H:kW X w v h)(hok:aD h=true)(hE:Env w)(hl:l.length<=1048576)(hne:l≠[]) :
 Calls Tryz.prog 58 #[v,.string (tx l)] w (tV X w (putR h l)):=by
 obtain⟨A,c,rfl⟩:=H.slice;have JM:=aa (LW l w hE hl hne);have HH:=aa H;have fu:=aa hok;obtain⟨z,hz⟩:∃z,tx l=z:=⟨_,rfl⟩;rw[hz]at JM ⊢;clear H hok hE hl hne hz;go_enter Tryz.func58,Tryz.ntmps58;go_wp2_with fail
 refine JM.out.mono ?_;rintro e W1 ⟨t,ov,rfl,hso,hcap,ht,hfr,b1⟩;obtain⟨A3,c3,rfl,_⟩:=id hso;obtain⟨ok,CS⟩:∃ok,(dQ l).isSome=ok:=⟨_,rfl⟩;have HP:Hid (putR h l=if (ok&&aD (h++[t]))=true then (h++[t],Fe) else (h,DT)):=by rw[<-CS];exact Ug h l t ht
 have HM:Hid (ok=true->t.ops.length<=2097152):=λe=>by
  obtain⟨t',ht'⟩:=Option.isSome_iff_exists.1 (CS.trans e)
  have:=dF (oJ.1 ht').1
  rw[ht t' ht'];omega
 rw[CS];unfold o9;have HB1:=aa b1;obtain⟨rs,⟨hlr,hs,hi⟩,hoff,aaN⟩:=HH.out.ext b1;have hlen:rs.length<=6:=by rw[hlr];exact aR fu.out
 have hops:∀x∈rs,∃A n c,x.dA=.slice A n c:=λx hx=>by obtain⟨i,hi1,hi2⟩:=jq hx;obtain⟨A,c,e,_⟩:=(hi i x (h[i]'(by omega)) (by rw[dJ hi1,hi2]) (dJ _)).2.2.1;exact⟨A,_,c,e⟩
 have HCL:Hid (∀W,Ext W1 W->Calls Tryz.prog 102 #[.slice A h.length c] W λe w'=>∃v',e=.returned v'/\Row 48 3 encTxV W1.heap.size w' v' rs/\Ext W1 w'/\Ext W w'):=λW k=>by
  refine(LU W (hs.ext k) (by omega) hops).mono ?_
  rintro e w' ⟨v',rfl,hr,b⟩;exact⟨v',rfl,hr.low k.size,k.trans b,b⟩
 have jR:Hid (∀(W5:World) (v':Value) (q:Nat),Row 48 3 encTxV W1.heap.size W5 v' rs->aL 3 encTxV W5 (.slice (some ⟨q,0,none⟩) 1 1) [⟨t.az,.slice A3 t.ops.length c3,t.done⟩]->Ext W1 W5 ->
  ∃A7 n7 c7 w7,(Builtin.append_ #[23,23] 23 #[v',.slice (some ⟨q,0,none⟩) 1 1]).run Tryz.prog W5=.ok (.slice A7 n7 c7) w7 /\
   Calls Tryz.prog 63 #[.slice A h.length c,.slice A7 n7 c7,.bool ok] w7 (tV X w7 (putR h l))/\Ext W1 w7):=λW5 v' q hr ho hx=>by
  obtain⟨v7,w7,hrun,hrow,hg⟩:=lX (P:=Tryz.prog) (t:=23) (ty:=23) (e:=48) kC pW rfl (by omega) hr ho (λx hx j=>Gg x (by simp at hx;subst hx;exact⟨_,_,_,rfl⟩) j) (by simp;omega) (by omega) hx.size;have b7:Ext W1 w7:=Ext.grown hx hg (λk hk=>(jU hr hk).1);obtain⟨A7,n7,c7,rfl⟩:=Row.slice' hrow;refine⟨A7,n7,c7,w7,hrun,?_,b7⟩;rw[HP.out];have aeF:=hso.ext b7;refine Nf ok w7 ((HH.out.ext b1).ext b7) ?_ (by have:=aR fu.out;simp;omega) (λe s hs=>?_)
  ·exact YB (w:=w7) hlr (λi r s h1 h2=>(hi i r s h1 h2).ext b7) ⟨rfl,rfl,aeF,hcap⟩ hrow (λ_ _ h=>h) (λq hq=>bR (hX q hq) HB1.out.size) aaN (λa n c hv hn hx=>by have:=hfr a n c hv hn;have:=hX _ hx;omega)
  ·rcases iR.1 hs with hs|hs
   ·exact aJ fu.out s hs
   ·rw[pF]at hs;subst hs;exact HM.out e
 clear hso hcap ht CS b1 hs hi hops hfr hoff aaN hX;obtain⟨B,hB⟩:∃B,W1.heap.size=B:=⟨_,rfl⟩;have c0:(W1.alloc (.cells #[.int .i64 t.az,.slice A3 t.ops.length c3,.bool t.done] 48)).drew.cell? ⟨B,0,none⟩=some (.int .i64 t.az):=by rw[<-hB];exact aF rfl
 have c1:(W1.alloc (.cells #[.int .i64 t.az,.slice A3 t.ops.length c3,.bool t.done] 48)).drew.cell? ⟨B,1,none⟩=some (.slice A3 t.ops.length c3):=by rw[<-hB];exact aF rfl
 have c2:(W1.alloc (.cells #[.int .i64 t.az,.slice A3 t.ops.length c3,.bool t.done] 48)).drew.cell? ⟨B,2,none⟩=some (.bool t.done):=by rw[<-hB];exact aF rfl
 go_wp2_with fail
 refine wp_region_held_drew (S:=λ_=>True) (by kernel_rfl) trivial (λhHeld=>?_);refine fG 0 (.slice A h.length c) rfl (iK ⟨by rfl,λV _=>by go_simp⟩) trivial ?_;try go_frame
 refine fG 1 (.slice A h.length c) rfl (iK ⟨by rfl,λV _=>by go_simp⟩) trivial ?_;try go_frame
 refine fG 6 (.bool ok) rfl (iK ⟨by rfl,λV _=>by go_simp⟩) trivial ?_;try go_frame
 refine aO (rs:=[2,3]) (by kernel_rfl) (by simp) ?_;refine aY rfl (λK hK=>?_) (aY rfl (λK hK=>?_) bu)
 ·go_simp
  refine(HCL.out (W1.alloc (.cells #[.int .i64 t.az,.slice A3 t.ops.length c3,.bool t.done] 48)).drew ((af _).alloc _).drew).mono ?_
  rintro e W3 ⟨v',rfl,hrow,b3,b13⟩;obtain⟨An,nn,cn,rfl⟩:=hrow.slice';have c0:=b13.cell c0;have c1:=b13.cell c1;have c2:=b13.cell c2;refine hK.out _ _ trivial (λ_=>?_);clear hK K;try go_frame
  refine aO (rs:=[3]) (by kernel_rfl) (by simp) ?_;refine aY rfl (λK hK=>?_) bu;go_simp;refine hK.out _ _ trivial (λ_=>?_);clear hK K;try go_frame
  refine aO (rs:=[4]) (by kernel_rfl) (by simp) ?_;refine aY rfl (λK hK=>?_) bu;go_simp;refine hK.out _ _ trivial (λ_=>?_);clear hK K;try go_frame
  have Ec:=Row.ext hrow ((af W3).alloc (.cells #[.int .i64 t.az,.slice A3 t.ops.length c3,.bool t.done] 48));have Zl:=Sk W3 t.az (.slice A3 t.ops.length c3) t.done;have Qx:=b3.alloc (.cells #[.int .i64 t.az,.slice A3 t.ops.length c3,.bool t.done] 48);obtain⟨A7,n7,c7,w7,hrun,hyes,b7⟩:=jR.out _ _ _ Ec Zl Qx;have Ff:=aa hyes;have bH:=aa hrun;have JK:=aa b7;clear hrun hyes b7 Ec Zl Qx;refine aO (rs:=[5]) (by kernel_rfl) (by simp) ?_;refine aY rfl (λK hK=>?_) bu;refine aP (by rfl) (by rfl) (by rfl) (by rfl) bH.out ?_;refine hK.out _ _ trivial (λ_=>?_);clear hK K;try go_frame
  refine aO (rs:=[7]) (by kernel_rfl) (by simp) ?_;refine aY rfl (λK hK=>?_) bu;go_simp;refine Ff.out.mono ?_;rintro e w8 ⟨vv,rfl,hh,b8⟩;have HH8:=aa (aB hh b8);clear hh b8;refine hK.out _ _ trivial (λ_=>?_);clear hK K;try go_frame
  refine fG 8 vv rfl (iK ⟨by rfl,λV _=>by go_simp⟩) trivial ?_;try go_frame
  refine fG 9 (.string (tx (putR h l).2)) rfl (iK ⟨by rfl,λV _=>by go_simp⟩) trivial ?_;try go_frame
  refine aO (rs:=[10]) (by kernel_rfl) (by simp) ?_;refine aY rfl (λK hK=>?_) bu;go_simp;refine hK.out _ _ trivial (λ_=>?_);clear hK K;try go_frame
  refine aO (rs:=[11]) (by kernel_rfl) (by simp) ?_;refine aY rfl (λK hK=>?_) bu;go_simp;refine hK.out _ _ trivial (λ_=>?_);clear hK K;try go_frame
  refine ji (by kernel_rfl) ?_ _;go_wp2;go_returns;exact⟨_,rfl,HH8.out.1,(HB1.out.trans JK.out).trans HH8.out.2⟩
 ·go_simp;refine hK.out _ _ trivial (λ_=>?_);clear hK K;try go_frame
  refine aO (rs:=[2,4]) (by kernel_rfl) (by simp) ?_;refine aY rfl (λK hK=>?_) (aY rfl (λK hK=>?_) bu)
  ·go_simp
   refine(HCL.out (W1.alloc (.cells #[.int .i64 t.az,.slice A3 t.ops.length c3,.bool t.done] 48)).drew ((af _).alloc _).drew).mono ?_
   rintro e W3 ⟨v',rfl,hrow,b3,b13⟩;obtain⟨An,nn,cn,rfl⟩:=hrow.slice';refine hK.out _ _ trivial (λ_=>?_);clear hK K;try go_frame
   refine aO (rs:=[4]) (by kernel_rfl) (by simp) ?_;refine aY rfl (λK hK=>?_) bu;go_simp;refine hK.out _ _ trivial (λ_=>?_);clear hK K;try go_frame
   have Ec:=Row.ext hrow ((af W3).alloc (.cells #[.int .i64 t.az,.slice A3 t.ops.length c3,.bool t.done] 48));have Zl:=Sk W3 t.az (.slice A3 t.ops.length c3) t.done;have Qx:=b3.alloc (.cells #[.int .i64 t.az,.slice A3 t.ops.length c3,.bool t.done] 48);obtain⟨A7,n7,c7,w7,hrun,hyes,b7⟩:=jR.out _ _ _ Ec Zl Qx;have Ff:=aa hyes;have bH:=aa hrun;have JK:=aa b7;clear hrun hyes b7 Ec Zl Qx;refine aO (rs:=[5]) (by kernel_rfl) (by simp) ?_;refine aY rfl (λK hK=>?_) bu;refine aP (by rfl) (by rfl) (by rfl) (by rfl) bH.out ?_;refine hK.out _ _ trivial (λ_=>?_);clear hK K;try go_frame
   refine aO (rs:=[7]) (by kernel_rfl) (by simp) ?_;refine aY rfl (λK hK=>?_) bu;go_simp;refine Ff.out.mono ?_;rintro e w8 ⟨vv,rfl,hh,b8⟩;have HH8:=aa (aB hh b8);clear hh b8;refine hK.out _ _ trivial (λ_=>?_);clear hK K;try go_frame
   refine fG 8 vv rfl (iK ⟨by rfl,λV _=>by go_simp⟩) trivial ?_;try go_frame
   refine fG 9 (.string (tx (putR h l).2)) rfl (iK ⟨by rfl,λV _=>by go_simp⟩) trivial ?_;try go_frame
   refine aO (rs:=[10]) (by kernel_rfl) (by simp) ?_;refine aY rfl (λK hK=>?_) bu;go_simp;refine hK.out _ _ trivial (λ_=>?_);clear hK K;try go_frame
   refine aO (rs:=[11]) (by kernel_rfl) (by simp) ?_;refine aY rfl (λK hK=>?_) bu;go_simp;refine hK.out _ _ trivial (λ_=>?_);clear hK K;try go_frame
   refine ji (by kernel_rfl) ?_ _;go_wp2;go_returns;exact⟨_,rfl,HH8.out.1,(HB1.out.trans JK.out).trans HH8.out.2⟩
  ·go_simp;refine hK.out _ _ trivial (λ_=>?_);clear hK K;try go_frame
   refine aO (rs:=[2]) (by kernel_rfl) (by simp) ?_;refine aY rfl (λK hK=>?_) bu;go_simp
   refine(HCL.out ((W1.alloc (.cells #[.int .i64 t.az,.slice A3 t.ops.length c3,.bool t.done] 48)).drew.alloc (.cells #[.int .i64 t.az,.slice A3 t.ops.length c3,.bool t.done] 48)) (((af _).alloc _).drew.alloc _)).mono ?_
   rintro e W3 ⟨v',rfl,hrow,b3,b13⟩;obtain⟨An,nn,cn,rfl⟩:=hrow.slice';refine hK.out _ _ trivial (λ_=>?_);clear hK K;try go_frame
   have Ec:=hrow;have Zl:=aL.ext (Sk (W1.alloc (.cells #[.int .i64 t.az,.slice A3 t.ops.length c3,.bool t.done] 48)).drew t.az (.slice A3 t.ops.length c3) t.done) b13;rw[show (W1.alloc (.cells #[.int .i64 t.az,.slice A3 t.ops.length c3,.bool t.done] 48)).drew.heap.size=B+1 by rw[<-hB];simp]at Zl;have Qx:=b3;obtain⟨A7,n7,c7,w7,hrun,hyes,b7⟩:=jR.out _ _ _ Ec Zl Qx;have Ff:=aa hyes;have bH:=aa hrun;have JK:=aa b7;clear hrun hyes b7 Ec Zl Qx;refine aO (rs:=[5]) (by kernel_rfl) (by simp) ?_;refine aY rfl (λK hK=>?_) bu;refine aP (by rfl) (by rfl) (by rfl) (by rfl) bH.out ?_;refine hK.out _ _ trivial (λ_=>?_);clear hK K;try go_frame
   refine aO (rs:=[7]) (by kernel_rfl) (by simp) ?_;refine aY rfl (λK hK=>?_) bu;go_simp;refine Ff.out.mono ?_;rintro e w8 ⟨vv,rfl,hh,b8⟩;have HH8:=aa (aB hh b8);clear hh b8;refine hK.out _ _ trivial (λ_=>?_);clear hK K;try go_frame
   refine fG 8 vv rfl (iK ⟨by rfl,λV _=>by go_simp⟩) trivial ?_;try go_frame
   refine fG 9 (.string (tx (putR h l).2)) rfl (iK ⟨by rfl,λV _=>by go_simp⟩) trivial ?_;try go_frame
   refine aO (rs:=[10]) (by kernel_rfl) (by simp) ?_;refine aY rfl (λK hK=>?_) bu;go_simp;refine hK.out _ _ trivial (λ_=>?_);clear hK K;try go_frame
   refine aO (rs:=[11]) (by kernel_rfl) (by simp) ?_;refine aY rfl (λK hK=>?_) bu;go_simp;refine hK.out _ _ trivial (λ_=>?_);clear hK K;try go_frame
   refine ji (by kernel_rfl) ?_ _;go_wp2;go_returns;exact⟨_,rfl,HH8.out.1,(HB1.out.trans JK.out).trans HH8.out.2⟩
def Ck(n i j:Nat):List Nat:=(List.replicate i (List.range n)).flatten++List.range j
theorem Ut(n i j:Nat):Ck n i j++[j]=Ck n i (j+1):=by unfold Ck;rw[jM,vU]
theorem YG(n i:Nat):Ck n i n=Ck n (i+1) 0:=by unfold Ck;rw[List.replicate_succ'];simp
theorem WA(n:Nat):Ck n 4 0=eD n:=by simp[Ck,eD,List.replicate]
theorem Xi(n i j:Nat):(Ck n i j).length=i*n+j:=by simp[Ck]
theorem aaK{w:World}{v:Value}{xs:List Nat}(h:aL 1 (one jl) w v xs):oZ encI w v (xs.map λn:Nat=>(n:Int)):=by
 obtain⟨A,c,rfl,hc⟩:=h;refine⟨A,c,by rw[dX],λhn=>?_⟩;rw[dX]at hn;obtain⟨b,off,hA,hlt,hx⟩:=hc hn;refine⟨b,off,hA,hlt,λi x hi=>?_⟩;rw[jT]at hi;obtain⟨y,hy,rfl⟩:=kL.1 hi
 have:=hx i y hy 0 (by omega)
 simpa[one,jl,encI] using this
theorem Zm(h:List aG)(r:List UInt8):runD h r=if ((bL r).isSome&&aD (BV ((bL r).getD [])))=true then (BV ((bL r).getD []),Fe) else (h,DT):=by
 unfold runD
 cases e:bL r with
 | none=>simp
 | some p=>simp[FY (kR.1 e).1]
theorem ZH{X:Nat->Prop}{v:Value}{h:List aG}(l:List UInt8)(w:World)(hX:∀q,X q->q<w.heap.size)(H:kW X w v h)(hok:aD h=true)(hE:Env w)(hl:l.length<=1048576)(hne:l≠[]) :
 Calls Tryz.prog 59 #[v,.string (tx l)] w (tV X w (runD h l)):=by
 obtain⟨A,c,rfl⟩:=H.slice;have JM:=aa (Kh l w hE hl hne);have HH:=aa H;have fu:=aa hok;have HXX:=aa hX;obtain⟨z,hz⟩:∃z,tx l=z:=⟨_,rfl⟩;rw[hz]at JM ⊢;clear H hok hE hl hne hz hX;go_enter Tryz.func59,Tryz.ntmps59;go_wp2_with fail
 refine JM.out.mono ?_;rintro e W1 ⟨p,pv,rfl,hpl,hpe,b1⟩;obtain⟨ok,CS⟩:∃ok,(bL l).isSome=ok:=⟨_,rfl⟩;have HD:Hid (runD h l=if (ok&&aD (BV p))=true then (BV p,Fe) else (h,DT)):=by rw[<-CS,hpe];exact Zm h l
 have hpk:eu p=true:=by
  rw[hpe]
  cases e:bL l with
  | none=>rfl
  | some p'=>exact(kR.1 e).1
 rw[CS];have TR:=jW hpk;have HB1:=aa b1;have Ju:=aa hpl;have HPK:=aa hpk;obtain⟨Ap,cp,rfl⟩:=hpl.slice;have aaZ:Row 3 1 (one jl) W1.heap.size (W1.alloc (.cells #[] 3)) (.slice (some ⟨W1.heap.size,0,none⟩) 0 0) ([]:List Nat):=dD;have zh:=aa aaZ;have hn0:(0:Int)<=(p.length:Int):=by omega
 have hn4:(p.length:Int)<=4:=by omega
 clear hpe CS hpk b1 hpl aaZ;go_wp2_with fail
 go_loopw [8,16] (λs i wr=>Ext W1 wr/\∃k:Nat,k<=4/\i=.int .i64 k/\Hid (Row 3 1 (one jl) W1.heap.size wr s (Ck p.length k 0))) (λ_ i _=>4-(intOf i).toNat)
 case atStart=>exact⟨(af _).alloc _,0,by omega,by rfl,zh.out⟩
 case round=>
  obtain⟨hb,k,hk,rfl,HR⟩:=hrel;obtain⟨A5,c5,rfl,_⟩:=id HR.out.cell.1;by_cases hlt:k<4
  ·have Xa:=aa hlt;have hd:decide ((k:Int)<4)=true:=jw (by omega);clear hlt;go_wp2_with fail
   clear hd;go_loopw [8,20] (λs j wr=>Ext W1 wr/\∃q:Nat,q<=p.length/\j=.int .i64 q/\Hid (Row 3 1 (one jl) W1.heap.size wr s (Ck p.length k q))) (λ_ j _=>p.length-(intOf j).toNat)
   case atStart=>exact⟨hb,0,by omega,by rfl,HR.out⟩
   case round=>
    obtain⟨hb,q,hq,rfl,HR⟩:=hrel;obtain⟨A5,c5,rfl,_⟩:=id HR.out.cell.1;by_cases Mh:q<p.length
    ·obtain⟨v',w7,hrun,hp⟩:=Nh wr.heap.size rfl HR.out (af _) q hb.size (by have h1:=Xi p.length k q;have h2:k*p.length<=4*4:=Nat.mul_le_mul (by omega) (by omega);omega);obtain⟨A7,c7,rfl,_⟩:=id hp.1.cell.1;have bH:=aa hrun;have HP:=aa hp;clear hrun hp;go_wp2_with (at_builtin;refine wpList_append_run rfl rfl rfl rfl bH.out ?_)
     go_roundw;case rel=>exact⟨HP.out.2.1 _ hb (av _),q+1,by omega,by go_num,by rw[<-Ut];have:=HP.out.1;rw[show (Ck p.length k q++[q]).length=(Ck p.length k q).length+1 by simp]at this;exact this⟩
     case measure=>simp[intOf];omega
    ·obtain rfl:q=p.length:=by omega
     go_wp2;go_roundw;case rel=>exact⟨hb,k+1,by have:=Xa.out;omega,by go_num,by rw[<-YG];exact HR.out⟩
     case measure=>have:=Xa.out;simp[intOf];omega
  ·obtain rfl:k=4:=by omega
   have Tf:=aa (BQ wr (Ju.out.ext hb) HPK.out (by rw[<-WA];exact aaK HR.out.cell.1));have HB2:=aa hb;go_wp2_with fail
   refine Tf.out.mono ?_;rintro e W3 ⟨vr,rs,rfl,hr,ho,b3⟩;have hxx:∀q,X q->q<wr.heap.size:=λq hq=>by have:=HB1.out.size;have:=HB2.out.size;have:=HXX.out q hq;omega
   have hw3:=(HB1.out.trans HB2.out).trans b3;obtain⟨Ar,cr,rfl⟩:=iM.slice (show iM W3 vr (BV p) from ⟨rs,hr⟩);have Zp:=FY HPK.out;have HY:=aa (Nf ok W3 (HH.out.ext hw3) (kW.MV hr ho hxx) (by have:=aR Zp;omega) (λ_=>aJ Zp));rw[<-HD.out]at HY;have HW3:=aa hw3;clear hr ho hxx b3 hw3 Zp;go_wp2_with fail
   refine HY.out.mono ?_;rintro e W4 ⟨vv,rfl,hh,b4⟩;go_wp2;go_returns;exact⟨_,rfl,hh,HW3.out.trans b4⟩
theorem KD(l:List UInt8)(w:World):∃cap W1,(convert 9 22 (.string (tx l))).run Tryz.prog w=.ok (.slice (some ⟨w.heap.size,0,none⟩) l.length cap) W1/\Ext w W1/\∀(j:Nat) x,l[j]? =some x->W1.cell? ⟨w.heap.size,j,none⟩=some (.int .u8 (x.toNat:Int)):=by
 refine⟨_,Lib.bytesWorld w 5 (tx l),by rw[<-dR l];exact Lib.run_convert_string_bytes (P:=Tryz.prog) w 9 22 5 (tx l) mR Tryz.underlying22 Tryz.underlying5,⟨rfl,rfl,rfl,by rw[Lib.bytesWorld_size];omega,λk hk=>Lib.bytesWorld_at_old w _ _ k hk⟩,λj x hj=>?_⟩;have hlt:j<l.length:=(bG.1 hj).1;rw[Lib.bytesWorld_cell w _ _ j (by rw[dR];exact hlt)]
 have:(tx l).data.toList=l:=rfl
 rw[this,mI,hj];rfl
theorem wrap_small{y:Int}(h1:0<=y)(h2:y<1000):wrap64 y=y:=by unfold wrap64;omega
theorem wS(l:List UInt8)(w:World)(h:l.length=0∨3<=l.length):Calls Tryz.prog 61 #[.string (tx l)] w λe w'=>e=.returned (.tuple #[.int .i64 (((eF l).getD 0:Nat):Int),.bool (eF l).isSome])/\Ext w w':=by
 have hno:=aa (xY h);have hsz:=dR l;have hin:lH (l.length:Int) 1 2=false:=by
  rw[Bool.eq_false_iff];intro e
  have:=cK.1 e
  omega
 obtain⟨z,hz⟩:∃z,tx l=z:=⟨_,rfl⟩;rw[hz]at hsz ⊢;clear hz h;go_enter Tryz.func61,Tryz.ntmps61;go_wp2_with (go_at_call 106;refine(eZ _ _ _ _).mono ?_;rintro e w' ⟨rfl,rfl⟩)
 go_returns;exact⟨by rw[hno.out];rfl,af _⟩
theorem FL(a:UInt8)(w:World):Calls Tryz.prog 61 #[.string (tx [a])] w λe w'=>e=.returned (.tuple #[.int .i64 (((eF [a]).getD 0:Nat):Int),.bool (eF [a]).isSome])/\Ext w w':=by
 obtain⟨cap,W1,hcv,hE,hC⟩:=KD [a] w;rw[show tx [a]=⟨#[a]⟩ from rfl]at hcv ⊢;have hsz:(⟨#[a]⟩:ByteArray).size=1:=rfl;have hin:lH 1 1 2=true:=by decide
 have HC:=aa hC;have HE:=aa hE;clear hC hE;go_enter Tryz.func61,Tryz.ntmps61;go_wp2_with (go_at_call 106;refine(eZ _ _ _ _).mono ?_;rintro e w' ⟨rfl,rfl⟩)
 go_loopw [4,24] (λn i wr=>wr=W1/\∃k:Nat,k<=1/\i=.int .i64 k/\n=.int .i64 ((numOf ([a].take k):Nat):Int)/\Hid (([a].take k).all gU=true/\numOf ([a].take k)<10 ^ k)) (λ_ i _=>1-(intOf i).toNat)
 case atStart=>exact⟨rfl,0,by omega,by rfl,by rfl,rfl,by simp[numOf]⟩
 case round=>
  obtain⟨rfl,k,hk,rfl,rfl,HA⟩:=hrel;by_cases hlt:k<1
  ·obtain⟨x,hx⟩:=ah (xs:=[a]) (show k<1 from hlt);have hc:=HC.out k x hx;have HX:=aa hx;have hki:(k:Int)<1:=by omega
   have hk0:(0:Int)<=(k:Int):=by omega
   clear hx;by_cases hd:gU x=true
   ·have hd1:(48:Int)<=(x.toNat:Int)/\(x.toNat:Int)<=57:=by simp only[gU,dh,rU]at hd;omega
    have HD:=aa hd;obtain⟨d1,d2⟩:=hd1;clear hd;have hn:numOf ([a].take (k+1))=10*numOf ([a].take k)+(x.toNat-48):=by rw[ak HX.out,numOf,nL];rfl
    have hb:numOf ([a].take k)<=9:=by
     have h1:=HA.out.2;obtain rfl|rfl:k=0∨k=1:=by omega
     ·exact aX (aai h1) (by decide)
     ·omega
    have HN:=aa (aB hn hb);clear hn hb;go_wp2;refine⟨⟨trivial,k+1,hlt,by simp,?_,?_,?_⟩,?_⟩
    ·rw[HN.out.1];have h1:=HN.out.2;rw[wrap_small (y:=10*((numOf ([a].take k):Nat):Int)) (by omega) (by omega),wrap_small (by omega) (by omega)];congr 1;omega
    ·rw[ak HX.out,List.all_append,HA.out.1];simp[HD.out]
    ·rw[HN.out.1,Nat.pow_succ];have h1:=HA.out.2;omega
    ·simp[intOf];omega
   ·have mF:Hid (eF [a]=none):=by
     show _ = _;have hall:[a].all gU=false:=by rw[Bool.eq_false_iff];intro h;exact hd (kT.1 h x (aM HX.out))
     simp only[eF,nH,hall,Bool.and_false];rfl
    have hd1:(x.toNat:Int)<48∨57<(x.toNat:Int):=by simp only[gU,dh,rU]at hd;omega
    clear hd;rcases hd1 with d1|d1
    ·go_wp2;go_returns;exact⟨by rw[mF.out];rfl,HE.out⟩
    ·have d2:¬((x.toNat:Int)<48):=by omega
     go_wp2;go_returns;exact⟨by rw[mF.out];rfl,HE.out⟩
  ·obtain rfl:k=1:=by omega
   go_wp2;go_returns;have hs:eF [a]=some (numOf [a]):=by
    have:=HA.out.1
    rw[jX (by simp)]at this;rw[eF,aj];simp only[nH,this,Bool.and_true];rfl
   refine⟨?_,HE.out⟩;rw[hs];show Ending.returned (.tuple #[.int .i64 ((numOf ([a].take 1):Nat):Int),.bool true]) = _;rw[jX (by simp)];rfl
theorem Fy(a b:UInt8)(w:World):Calls Tryz.prog 61 #[.string (tx [a,b])] w λe w'=>e=.returned (.tuple #[.int .i64 (((eF [a,b]).getD 0:Nat):Int),.bool (eF [a,b]).isSome])/\Ext w w':=by
 obtain⟨cap,W1,hcv,hE,hC⟩:=KD [a,b] w;rw[show tx [a,b]=⟨#[a,b]⟩ from rfl]at hcv ⊢;have hsz:(⟨#[a,b]⟩:ByteArray).size=2:=rfl;have hin:lH 2 1 2=true:=by decide
 have HC:=aa hC;have HE:=aa hE;clear hC hE;by_cases ha:a=48
 ·subst ha;have hno:Hid (eF [48,b]=none):=by show _ = _;rw[wH,au (by simp)]
  go_enter Tryz.func61,Tryz.ntmps61;go_wp2_with (go_at_call 106;refine(eZ _ _ _ _).mono ?_;rintro e w' ⟨rfl,rfl⟩)
  go_returns;exact⟨by rw[hno.out];rfl,af _⟩
 ·have h48:((a.toNat:Int)==48)=false:=by
   rw[fU];intro e;have e':(a.toNat:Int)=48:=by simpa using e
   exact ha (UInt8.toNat_inj.1 (show a.toNat=(48:UInt8).toNat from Int.ofNat_inj.1 e'))
  have hz0:(⟨#[a,b]⟩:ByteArray)[0]'(by rw[hsz];decide)=a:=rfl;have afL:=aa ha;clear ha;go_enter Tryz.func61,Tryz.ntmps61;go_wp2_with (go_at_call 106;refine(eZ _ _ _ _).mono ?_;rintro e w' ⟨rfl,rfl⟩)
  go_loopw [4,24] (λn i wr=>wr=W1/\∃k:Nat,k<=2/\i=.int .i64 k/\n=.int .i64 ((numOf ([a,b].take k):Nat):Int)/\Hid (([a,b].take k).all gU=true/\numOf ([a,b].take k)<10 ^ k)) (λ_ i _=>2-(intOf i).toNat)
  case atStart=>exact⟨rfl,0,by omega,by rfl,by rfl,rfl,by simp[numOf]⟩
  case round=>
   obtain⟨rfl,k,hk,rfl,rfl,HA⟩:=hrel;by_cases hlt:k<2
   ·obtain⟨x,hx⟩:=ah (xs:=[a,b]) (show k<2 from hlt);have hc:=HC.out k x hx;have HX:=aa hx;have hki:(k:Int)<2:=by omega
    have hk0:(0:Int)<=(k:Int):=by omega
    clear hx;by_cases hd:gU x=true
    ·have hd1:(48:Int)<=(x.toNat:Int)/\(x.toNat:Int)<=57:=by simp only[gU,dh,rU]at hd;omega
     have HD:=aa hd;obtain⟨d1,d2⟩:=hd1;clear hd;have hn:numOf ([a,b].take (k+1))=10*numOf ([a,b].take k)+(x.toNat-48):=by rw[ak HX.out,numOf,nL];rfl
     have hb:numOf ([a,b].take k)<=9:=by
      have h1:=HA.out.2;obtain rfl|rfl:k=0∨k=1:=by omega
      ·exact aX (aai h1) (by decide)
      ·omega
     have HN:=aa (aB hn hb);clear hn hb;go_wp2;refine⟨⟨trivial,k+1,hlt,by simp,?_,?_,?_⟩,?_⟩
     ·rw[HN.out.1];have h1:=HN.out.2;rw[wrap_small (y:=10*((numOf ([a,b].take k):Nat):Int)) (by omega) (by omega),wrap_small (by omega) (by omega)];congr 1;omega
     ·rw[ak HX.out,List.all_append,HA.out.1];simp[HD.out]
     ·rw[HN.out.1,Nat.pow_succ];have h1:=HA.out.2;omega
     ·simp[intOf];omega
    ·have mF:Hid (eF [a,b]=none):=by
      show _ = _;have hall:[a,b].all gU=false:=by rw[Bool.eq_false_iff];intro h;exact hd (kT.1 h x (aM HX.out))
      simp only[eF,nH,hall,Bool.and_false];rfl
     have hd1:(x.toNat:Int)<48∨57<(x.toNat:Int):=by simp only[gU,dh,rU]at hd;omega
     clear hd;rcases hd1 with d1|d1
     ·go_wp2;go_returns;exact⟨by rw[mF.out];rfl,HE.out⟩
     ·have d2:¬((x.toNat:Int)<48):=by omega
      go_wp2;go_returns;exact⟨by rw[mF.out];rfl,HE.out⟩
   ·obtain rfl:k=2:=by omega
    go_wp2;go_returns;have hs:eF [a,b]=some (numOf [a,b]):=by
     have:=HA.out.1
     rw[jX (by simp)]at this;rw[eF,aj];simp only[nH,this,Bool.and_true];simp[afL.out]
    refine⟨?_,HE.out⟩;rw[hs];show Ending.returned (.tuple #[.int .i64 ((numOf ([a,b].take 2):Nat):Int),.bool true]) = _;rw[jX (by simp)];rfl
theorem FT(l:List UInt8)(w:World):Calls Tryz.prog 61 #[.string (tx l)] w λe w'=>e=.returned (.tuple #[.int .i64 (((eF l).getD 0:Nat):Int),.bool (eF l).isSome])/\Ext w w':=by
 match l with
 | [a]=>exact FL a w
 | [a,b]=>exact Fy a b w
 | []=>exact wS [] w (.inl rfl)
 | a :: b :: c :: r=>exact wS _ w (.inr (by simp))
def QY(l:List UInt8):Option Value:=if l=wM then some (.func (.func 57) #[] #[]) else if l=nI then some (.func (.func 56) #[] #[]) else if l=qI then some (.func (.func 55) #[] #[]) else none
def Oq(l:List UInt8):Option Value:=if l=Np then some (.func (.func 59) #[] #[]) else if l=Mo then some (.func (.func 58) #[] #[]) else none
theorem aaA(w:World):∃o1 o2 o3,
 (Instr.mapUpdate 85 (.map (some w.heap.size)) (.string ⟨#[108,101,118,101,108]⟩) (.func (.func 55) #[] #[])).run Tryz.prog (w.alloc (.map #[] 0))=.ok () (bD (w.alloc (.map #[] 0)) w.heap.size o1) /\
 (Instr.mapUpdate 85 (.map (some w.heap.size)) (.string ⟨#[115,101,114,105,97,108]⟩) (.func (.func 56) #[] #[])).run Tryz.prog (bD (w.alloc (.map #[] 0)) w.heap.size o1)=.ok () (bD (bD (w.alloc (.map #[] 0)) w.heap.size o1) w.heap.size o2) /\
 (Instr.mapUpdate 85 (.map (some w.heap.size)) (.string ⟨#[116,101,120,116]⟩) (.func (.func 57) #[] #[])).run Tryz.prog (bD (bD (w.alloc (.map #[] 0)) w.heap.size o1) w.heap.size o2)=.ok () (bD (bD (bD (w.alloc (.map #[] 0)) w.heap.size o1) w.heap.size o2) w.heap.size o3) /\
 lY (bD (bD (bD (w.alloc (.map #[] 0)) w.heap.size o1) w.heap.size o2) w.heap.size o3) w.heap.size Fh QY/\Ext w (bD (bD (bD (w.alloc (.map #[] 0)) w.heap.size o1) w.heap.size o2) w.heap.size o3):=by
 obtain⟨o1,h1,g1,_⟩:=iB (P:=Tryz.prog) Tryz.underlying85 (lN mR) (lY.made w Fh) qI (.func (.func 55) #[] #[]);obtain⟨o2,h2,g2,_⟩:=iB (P:=Tryz.prog) Tryz.underlying85 (lN mR) g1 nI (.func (.func 56) #[] #[]);obtain⟨o3,h3,g3,_⟩:=iB (P:=Tryz.prog) Tryz.underlying85 (lN mR) g2 wM (.func (.func 57) #[] #[]);exact⟨o1,o2,o3,h1,h2,h3,g3.congr (λk=>by unfold QY;rfl),((((af _).alloc _).bD (av _) _).bD (av _) _).bD (av _) _⟩
theorem ZE(w:World):∃o1 o2,
 (Instr.mapUpdate 87 (.map (some w.heap.size)) (.string ⟨#[112,117,116]⟩) (.func (.func 58) #[] #[])).run Tryz.prog (w.alloc (.map #[] 0))=.ok () (bD (w.alloc (.map #[] 0)) w.heap.size o1) /\
 (Instr.mapUpdate 87 (.map (some w.heap.size)) (.string ⟨#[114,117,110]⟩) (.func (.func 59) #[] #[])).run Tryz.prog (bD (w.alloc (.map #[] 0)) w.heap.size o1)=.ok () (bD (bD (w.alloc (.map #[] 0)) w.heap.size o1) w.heap.size o2) /\
 lY (bD (bD (w.alloc (.map #[] 0)) w.heap.size o1) w.heap.size o2) w.heap.size Fh Oq/\Ext w (bD (bD (w.alloc (.map #[] 0)) w.heap.size o1) w.heap.size o2):=by
 obtain⟨o1,h1,g1,_⟩:=iB (P:=Tryz.prog) Tryz.underlying87 (lN mR) (lY.made w Fh) Mo (.func (.func 58) #[] #[]);obtain⟨o2,h2,g2,_⟩:=iB (P:=Tryz.prog) Tryz.underlying87 (lN mR) g1 Np (.func (.func 59) #[] #[]);exact⟨o1,o2,h1,h2,g2.congr (λk=>by unfold Oq;rfl),(((af _).alloc _).bD (av _) _).bD (av _) _⟩
theorem Z8:∃z,∀W,(zeroValue 63).run Tryz.prog W=.ok z W:=⟨.nilFunc,λW=>by kernel_rfl⟩
theorem Zj:∃z,∀W,(zeroValue 26).run Tryz.prog W=.ok z W:=⟨.nilFunc,λW=>by kernel_rfl⟩
theorem aas(s:List UInt8)(w:World)(hE:Env w)(hs:s.length<=1048576):Calls Tryz.prog 60 #[.string (tx s),.string ⟨#[32]⟩] w λe w'=>∃b,e=.returned (.tuple #[.string (tx (fD s)),.string (tx (eH s)),.bool b])/\Ext w w':=by
 obtain⟨m,hm⟩:=hE.max
 refine(Tryz.strings_Cut (tx s) (tx [32]) m w (by rw[dR];omega) hm).mono ?_
 rintro e w' ⟨rfl,n,rfl⟩;obtain⟨h1,h2⟩:=Y9 s;have e1:Lib.cut (tx s).data.toList (tx [32]).data.toList=Lib.cut s [32]:=rfl;refine⟨_,by rw[e1,h1,h2];rfl,⟨rfl,rfl,rfl,av _,λ_ _=>rfl⟩⟩
theorem Xt{X:Nat->Prop}{v:Value}{h:List aG}(n:Nat)(w:World)(hX:∀q,X q->q<w.heap.size)(H:kW X w v h)(hok:aD h=true) :
 Calls Tryz.prog 62 #[v,.int .i64 (n:Int)] w λe w'=>∃v',e=.returned (.tuple #[v',.bool (decide (n<h.length))])/\kW X w' v' (if n<h.length then om h n else [])/\Ext w w':=by
 by_cases hn:n<h.length
 ·refine(NA n w H.his hok hn (by have:=aR hok;omega) (aJ hok)).mono ?_
  rintro e w' ⟨v',rs,rfl,hr,ho,b⟩;exact⟨v',by rw[jw hn],by rw[aj hn];exact kW.MV hr ho hX,b⟩
 ·refine(Dk (n:Int) w H.his hok (by omega) (by have:=aR hok;omega) (aJ hok)).mono ?_
  rintro e w' ⟨rfl,b⟩;exact⟨_,by rw[dU hn],by rw[au hn];exact⟨[],⟨rfl,aL.nil _ _ _ _ _,λi r t hr=>by simp at hr⟩,λa n c e=>(by cases e),λi r hr=>by simp at hr⟩,b⟩
theorem Xp{h:List aG}(hok:aD h=true)(n:Nat):yA h n=if (decide (n<h.length)&&aD (if n<h.length then om h n else []))=true then ((if n<h.length then om h n else []),Fe) else (h,DT):=by
 unfold yA;by_cases hn:n<h.length
 ·simp[hn,GQ hok n]
 ·simp[hn]
theorem Oo{X:Nat->Prop}{v:Value}{h:List aG}(s:List UInt8)(w:World)(hX:∀q,X q->q<w.heap.size)(H:kW X w v h)(hok:aD h=true)(hE:Env w)(hl:s.length<=1048576) :
 Calls Tryz.prog 23 #[v,.string (tx s)] w (tV X w (deskR h s)):=by
 obtain⟨A,c,rfl⟩:=H.slice;obtain⟨o1,o2,o3,u1,u2,u3,gA,eA⟩:=aaA w;obtain⟨zA,hzA⟩:=Z8;obtain⟨zB,hzB⟩:=Zj;have hlA:=oC (P:=Tryz.prog) Tryz.underlying85 (lN mR) hzA gA s;unfold Fh at hlA;obtain⟨W3,hW3⟩:∃W3,bD (bD (bD (w.alloc (.map #[] 0)) w.heap.size o1) w.heap.size o2) w.heap.size o3=W3:=⟨_,rfl⟩;rw[hW3]at u3 hlA eA;have HH:=aa (H.ext eA);have fu:=aa hok;have HE:=aa (hE.ext eA);have HA:=aa eA;have Oj:Hid (∀q,X q->q<W3.heap.size):=λq hq=>bR (hX q hq) eA.size;have hmk:=@run_makeMap Tryz.prog;obtain⟨z,hz⟩:∃z,tx s=z:=⟨_,rfl⟩;rw[hz]at hlA;have HZ:=aa hz;rw[hz];clear H hok hE gA eA hW3 hzA hz hX;by_cases hs1:s=qI
 ·subst hs1;rw[show QY qI=some (.func (.func 55) #[] #[]) by rfl]at hlA;simp only[Option.getD_some,Option.isSome_some]at hlA;rw[show deskR h qI = _ from ES h];have HT:=aa (Kl W3 HH.out.his fu.out);go_enter Tryz.func23,Tryz.ntmps23;go_wp2_with fail
  refine HT.out.mono ?_;rintro e w' ⟨rfl,b⟩;go_wp2;go_returns;exact⟨_,rfl,HH.out.ext b,HA.out.trans b⟩
 by_cases hs2:s=nI
 ·subst hs2;rw[show QY nI=some (.func (.func 56) #[] #[]) by rfl]at hlA;simp only[Option.getD_some,Option.isSome_some]at hlA;rw[show deskR h nI = _ from Cq h];have HT:=aa (Gp W3 HH.out.his fu.out);go_enter Tryz.func23,Tryz.ntmps23;go_wp2_with fail
  refine HT.out.mono ?_;rintro e w' ⟨rfl,b⟩;go_wp2;go_returns;exact⟨_,rfl,HH.out.ext b,HA.out.trans b⟩
 by_cases hs3:s=wM
 ·subst hs3;rw[show QY wM=some (.func (.func 57) #[] #[]) by rfl]at hlA;simp only[Option.getD_some,Option.isSome_some]at hlA;rw[show deskR h wM = _ from GZ h];have HT:=aa (Ns W3 HH.out.his fu.out);go_enter Tryz.func23,Tryz.ntmps23;go_wp2_with fail
  refine HT.out.mono ?_;rintro e w' ⟨rfl,b⟩;go_wp2;go_returns;exact⟨_,rfl,HH.out.ext b,HA.out.trans b⟩
 have hno:QY s=none:=by unfold QY;rw[au (by assumption),au (by assumption),au (by assumption)]
 rw[hno]at hlA;simp only[Option.getD_none,Option.isSome_none]at hlA;have HS:=aa (aB hs1 (aB hs2 hs3));obtain⟨p1,p2,v1,v2,gB,eB⟩:=ZE W3;obtain⟨W5,hW5⟩:∃W5,bD (bD (W3.alloc (.map #[] 0)) W3.heap.size p1) W3.heap.size p2=W5:=⟨_,rfl⟩;rw[hW5]at v2 gB eB;have HC:=aa (aas s W5 (HE.out.ext eB) hl);rw[HZ.out]at HC;have YY:=aa gB;have BA:=aa eB;clear hno hs1 hs2 hs3 gB eB hW5;go_enter Tryz.func23,Tryz.ntmps23;go_wp2_with fail
 refine HC.out.mono ?_;rintro e W6 ⟨b,rfl,b6⟩;have zi:Hid (Ext W3 W6):=BA.out.trans b6;have hlB:=oC (P:=Tryz.prog) Tryz.underlying87 (lN mR) hzB (YY.out.ext b6) (fD s);unfold Fh at hlB;have hrl:=Lc s;have HRL:Hid ((eH s).length<=1048576):=by show _<=_;omega
 have CO:=aa (λW=>FT (eH s) W);have Kq:=aa (λhne=>ZJ (eH s) W6 (λq hq=>bR (Oj.out q hq) zi.out.size) (HH.out.ext zi.out) fu.out (HE.out.ext zi.out) HRL.out hne);have I9:=aa (λhne=>ZH (eH s) W6 (λq hq=>bR (Oj.out q hq) zi.out.size) (HH.out.ext zi.out) fu.out (HE.out.ext zi.out) HRL.out hne);clear HC hrl hzB b6 hlA u1 u2 u3 v1 v2 hmk;obtain⟨zw,Mf⟩:∃z,tx (fD s)=z:=⟨_,rfl⟩;obtain⟨zr,Tw⟩:∃z,tx (eH s)=z:=⟨_,rfl⟩;rw[Mf]at hlB;rw[Tw]at CO Kq I9;rw[Mf,Tw];have hrt:zr.toList=eH s:=by rw[<-Tw,fA]
 have hwt:zw.toList=fD s:=by rw[<-Mf,fA]
 by_cases hr:eH s=[]
 ·have hq0:(zr.toList != [])=false:=by rw[hrt,hr];rfl
  have hq1:zr.toList.isEmpty=true:=by rw[hrt,hr];rfl
  have HD:Hid (deskR h s=(h,nC)):=su HS.out.1 HS.out.2.1 HS.out.2.2 (λe=>e.2 hr) (λe=>e.2 hr) (λ_=>by rw[hr];rfl);rw[hr,show eF []=none from rfl]at CO;simp only[Option.getD_none,Option.isSome_none]at CO;obtain⟨fv,hfv⟩:∃x,(Oq (fD s)).getD zB=x:=⟨_,rfl⟩;obtain⟨bb,hbb⟩:∃x,(Oq (fD s)).isSome=x:=⟨_,rfl⟩;rw[hfv,hbb]at hlB;clear hfv hbb hr hrt hwt Tw Mf;cases bb<;>(
   go_wp2_with fail
   refine(CO.out _).mono ?_
   rintro e W7 ⟨rfl,b7⟩;go_wp2;go_returns;rw[HD.out];exact⟨_,rfl,(HH.out.ext zi.out).ext b7,(HA.out.trans zi.out).trans b7⟩)
 ·have hq0:(zr.toList != [])=true:=by rw[hrt];simpa using hr
  have hq1:zr.toList.isEmpty=false:=by rw[hrt];simpa using hr
  by_cases hw:fD s=Mo
  ·rw[show Oq (fD s)=some (.func (.func 58) #[] #[]) by rw[hw];rfl]at hlB;simp only[Option.getD_some,Option.isSome_some]at hlB;have HD:=aa (KQ (h:=h) hw hr);have HP:=aa (Kq.out hr);clear hr hrt hwt Tw Mf hw Kq I9 CO;go_wp2_with fail
   refine HP.out.mono ?_;rintro e W7 ⟨vv,rfl,hh,b7⟩;go_wp2;go_returns;rw[HD.out];exact⟨_,rfl,hh,(HA.out.trans zi.out).trans b7⟩
  by_cases hw2:fD s=Np
  ·rw[show Oq (fD s)=some (.func (.func 59) #[] #[]) by rw[hw2];rfl]at hlB;simp only[Option.getD_some,Option.isSome_some]at hlB;have HD:=aa (LA (h:=h) hw2 hr);have HP:=aa (I9.out hr);clear hr hrt hwt Tw Mf hw hw2 Kq I9 CO;go_wp2_with fail
   refine HP.out.mono ?_;rintro e W7 ⟨vv,rfl,hh,b7⟩;go_wp2;go_returns;rw[HD.out];exact⟨_,rfl,hh,(HA.out.trans zi.out).trans b7⟩
  rw[show Oq (fD s)=none by unfold Oq;rw[au hw2,au hw]]at hlB;simp only[Option.getD_none,Option.isSome_none]at hlB
  cases NF:eF (eH s) with
  | none=>
    have HD:Hid (deskR h s=(h,nC)):=su HS.out.1 HS.out.2.1 HS.out.2.2 (λe=>hw e.1) (λe=>hw2 e.1) (λ_=>NF);rw[NF]at CO;simp only[Option.getD_none,Option.isSome_none]at CO;clear hr hrt hwt Tw Mf hw hw2 Kq I9 NF;go_wp2_with fail
    refine(CO.out _).mono ?_
    rintro e W7 ⟨rfl,b7⟩;go_wp2;go_returns;rw[HD.out];exact⟨_,rfl,(HH.out.ext zi.out).ext b7,(HA.out.trans zi.out).trans b7⟩
  | some n=>
    have hn:=(rG NF).1;rw[NF]at CO;simp only[Option.getD_some,Option.isSome_some]at CO;by_cases hd:fD s=BF
    ·have hq2:(zw.toList==[100,114,111,112])=true:=by rw[hwt,hd];rfl
     have HD:Hid (deskR h s=if (decide (n<h.length)&&aD (if n<h.length then om h n else []))=true then ((if n<h.length then om h n else []),Fe) else (h,DT)):=by rw[Jb hd NF];exact Xp fu.out n
     have HG:Hid (aD (if n<h.length then om h n else [])=true):=by
      show _ = _;split
      ·exact GQ fu.out n
      ·rfl
     clear hr hrt hwt Tw Mf hw hw2 hd Kq I9 NF;go_wp2_with fail
     refine(CO.out _).mono ?_
     rintro e W7 ⟨rfl,b7⟩;have JK:Hid (Ext W3 W7):=zi.out.trans b7;have HDR:=aa (Xt n W7 (λq hq=>bR (Oj.out q hq) JK.out.size) (HH.out.ext JK.out) fu.out);obtain⟨g,hg⟩:∃g,(if n<h.length then om h n else [])=g:=⟨_,rfl⟩;obtain⟨ok,hok⟩:∃ok,decide (n<h.length)=ok:=⟨_,rfl⟩;rw[hg,hok]at HDR HD;rw[hg]at HG;clear hg hok b7;go_wp2_with fail
     refine HDR.out.mono ?_;rintro e W8 ⟨v',rfl,hh,b8⟩;obtain⟨A8,c8,rfl⟩:=hh.slice;have HY:=aa (Nf ok W8 ((HH.out.ext JK.out).ext b8) hh (by have:=aR HG.out;omega) (λ_=>aJ HG.out));have HB8:Hid (Ext W3 W8):=JK.out.trans b8;rw[<-HD.out]at HY;clear hh b8 HDR;go_wp2_with fail
     refine HY.out.mono ?_;rintro e W9 ⟨vv,rfl,hh,b9⟩;go_wp2;go_returns;exact⟨_,rfl,hh,(HA.out.trans HB8.out).trans b9⟩
    ·have hq2:(zw.toList==[100,114,111,112])=false:=by rw[hwt,fU];exact hd
     have HD:Hid (deskR h s=(h,nC)):=su HS.out.1 HS.out.2.1 HS.out.2.2 (λe=>hw e.1) (λe=>hw2 e.1) (λe=>absurd e hd);clear hr hrt hwt Tw Mf hw hw2 hd Kq I9 NF;go_wp2_with fail
     refine(CO.out _).mono ?_
     rintro e W7 ⟨rfl,b7⟩;go_wp2;go_returns;rw[HD.out];exact⟨_,rfl,(HH.out.ext zi.out).ext b7,(HA.out.trans zi.out).trans b7⟩
theorem yX.afK{lo lo':Nat}{w:World}{v:Value}{rs:List jg}(h:yX lo w v rs)(hl:lo'<=lo):yX lo' w v rs:=
 have ol:∀{u:Value},Own lo w u->Own lo' w u:=λh a n c hv hn=>⟨aX hl (h a n c hv hn).1,(h a n c hv hn).2⟩
 ⟨ol h.1,λi r hr=>⟨ol (h.2.1 i r hr).1,(h.2.1 i r hr).2⟩,h.2.2⟩
theorem uw.low{w W:World}{h:List aG}{e:Ending}{w':World}(r:uw W h e w')(hb:Ext w W):uw w h e w':=by obtain⟨v,rs,h1,h2,h3,h4⟩:=r;exact⟨v,rs,h1,h2,h3.afK hb.size,hb.trans h4⟩
noncomputable def gY (h:List aG) (s:List UInt8):List aG × List UInt8:=if aD h=true then deskR h s else ([],[])
noncomputable def iw (h:List aG) (ls:List (List UInt8)):List aG × List (List UInt8):=if aD h=true/\ls.length<=20 then eX h ls else ([],[])
theorem GH(h:List aG)(s:List UInt8):aD (gY h s).1=true:=by
 unfold gY;split
 ·rename_i h';exact I5 h' s
 ·rfl
theorem J9{v:Value}{h:List aG}(s:List UInt8)(w:World)(H:iM w v h)(hlen:h.length<=2097152)(hM:∀t∈h,t.ops.length<=2097152)(hE:Env w)(hl:s.length<=1048576) :
 Calls Tryz.prog 7 #[v,.string (tx s)] w λe w'=>∃v' rs,e=.returned (.tuple #[v',.string (tx (gY h s).2)])/\yB w' v' rs (gY h s).1/\yX w.heap.size w' v' rs/\Ext w w':=by
 obtain⟨A,c,rfl⟩:=H.slice;have HV:=aa (bZ w H hlen hM);have HH:=aa H;have HE:=aa hE
 cases hok:aD h with
 | false=>
   rw[hok]at HV;have HD:Hid (gY h s=([],[])):=au (by rw[hok];decide);clear H hlen hM hE hok;obtain⟨z,hz⟩:∃z,tx s=z:=⟨_,rfl⟩;rw[hz];clear hz;go_enter Tryz.func7,Tryz.ntmps7;go_wp2_with (go_at_call 12;refine HV.out.mono ?_;rintro e w1 ⟨rfl,b1⟩)
   go_returns;rw[HD.out];exact⟨.slice none 0 0,[],rfl,⟨rfl,aL.nil _ _ _ _ _,λi r t hr=>by simp at hr⟩,⟨Own.nil _ _ _ _,λi r hr=>by simp at hr,λi j r r' _ hr=>by simp at hr⟩,b1⟩
 | true=>
   rw[hok]at HV;have HD:Hid (gY h s=deskR h s):=aj hok;have HL:=aa (λW (b:Ext w W)=>Oo (X:=λ_=>False) s W (λ_ h=>h.elim) (let ⟨rs,Hr⟩:=H.ext b;⟨rs,Hr,λ_ _ _ _ _ h=>h,λ_ _ _ _ _ _ _ _ h=>h⟩) hok (hE.ext b) hl);have HK:=aa (I5 hok s);obtain⟨z,hz⟩:∃z,tx s=z:=⟨_,rfl⟩;rw[hz]at HL ⊢;clear H hlen hM hE hok hz;go_enter Tryz.func7,Tryz.ntmps7;go_wp2_with fail
   refine HV.out.mono ?_;rintro e w1 ⟨rfl,b1⟩;go_wp2_with fail
   refine(HL.out w1 b1).mono ?_
   rintro e w2 ⟨v2,rfl,h2,b2⟩;obtain⟨A2,c2,rfl⟩:=h2.slice;have HC:=aa (qL w2 h2.his (by have:=aR HK.out;omega) (aJ HK.out));have HB:=aa (b1.trans b2);clear h2 b1 b2;go_wp2_with fail
   refine HC.out.mono ?_;intro e w3 r;obtain⟨v3,rs,rfl,h3,o3,b3⟩:=uw.low r HB.out;go_wp2;go_returns;rw[HD.out];exact⟨v3,rs,rfl,h3,o3,b3⟩
theorem vV{v u:Value}{h:List aG}{ls:List (List UInt8)}(w:World)(H:iM w v h)(hlen:h.length<=2097152)(hM:∀t∈h,t.ops.length<=2097152)(hE:Env w)(U:aL 1 encS w u ls)(Kn:ls.length<=2097152)(hl:∀s∈ls,s.length<=1048576) :
 Calls Tryz.prog 14 #[v,u] w λe w'=>∃v' rs u' mid,e=.returned (.tuple #[v',u'])/\yB w' v' rs (iw h ls).1/\yX mid w' v' rs/\w.heap.size<=mid/\Row 9 1 encS w.heap.size w' u' (iw h ls).2/\(∀q,u'.ownBlock=some q->q<mid)/\Ext w w':=by
 obtain⟨A,c,rfl⟩:=H.slice;obtain⟨Au,cu,rfl,hcu⟩:=id U;have HV:=aa (bZ w H hlen hM);have HH:=aa H;have HE:=aa hE;have HU:=aa U;by_cases hgo:aD h=true/\ls.length<=20
 ·obtain⟨hok,h20⟩:=hgo;rw[hok]at HV;have HD:Hid (iw h ls=eX h ls):=aj ⟨hok,h20⟩;have HL:=aa (λ(X:Nat->Prop) g s W (b:Ext w W) v (hX:∀q,X q->q<W.heap.size) (hg:aD g=true) (H:kW X W v g) (hs:s.length<=1048576)=>Oo s W hX H hg (hE.ext b) hs);have HK:=aa (λk (hk:k<=ls.length)=>rO hok ls k hk);have HLL:=aa hl;have aey:(ls.length:Int)<=20:=by omega
  have hmr:=jo (P:=Tryz.prog) 31 9 kY jG ls.length (by omega) (by omega);clear H hlen hM hE hok U Kn hl hcu;go_enter Tryz.func14,Tryz.ntmps14;go_wp2_with (go_at_call 12;refine HV.out.mono ?_;rintro e w1 ⟨rfl,b1⟩)
  clear hmr;go_loopw [0,6,24] (λhv a i wr=>Ext w1 wr/\∃k:Nat,k<=ls.length/\i=.int .i64 (k:Int)/\Hid (kW (λq=>a.ownBlock=some q) wr hv (eX h (ls.take k)).1/\Row 9 1 encS w1.heap.size wr a (eX h (ls.take k)).2)) (λ_ _ i _=>ls.length-(intOf i).toNat)
  case atStart=>
   refine⟨(af _).alloc _,0,aT _,rfl,?_⟩;show _/\_;rw[aaD];refine⟨?_,lC _ ls.length (by unfold maxLen;omega) (by rw[size_madeCells,Nat.mul_one])⟩;obtain⟨rs0,h0⟩:=HH.out.ext b1;have h1:kW (λ_=>False) w1 (.slice A h.length c) h:=⟨rs0,h0,λ_ _ _ _ _ h=>h,λ_ _ _ _ _ _ _ _ h=>h⟩
   exact(h1.more.ext ((af _).alloc _)).mono (λq hq=>.inr (by simp[Value.ownBlock]at hq;omega))
  case round=>
   obtain⟨hb,k,hk,rfl,HI⟩:=hrel;obtain⟨g,hg⟩:∃g,(eX h (ls.take k)).1=g:=⟨_,rfl⟩;obtain⟨an,has⟩:∃g,(eX h (ls.take k)).2=g:=⟨_,rfl⟩;have hkk:=HK.out k hk;rw[hg,has]at hkk HI;obtain⟨Ag,cg,rfl⟩:=HI.out.1.slice;obtain⟨Aa,ca,rfl,_⟩:=id HI.out.2.cell.1;by_cases hlt:k<ls.length
   ·obtain⟨s,hs⟩:=ah hlt;obtain⟨_,_,e,hc⟩:=(HU.out.ext b1).ext hb;cases e;obtain⟨b,off,rfl,hbl,hc⟩:=hc (by omega);have c0:=hc k s hs 0 (by omega);simp only[Nat.mul_one,fE,encS]at c0;obtain⟨zs,hzs⟩:∃z,tx s=z:=⟨_,rfl⟩;have HC:=aa (HL.out (λq=>(Value.slice Aa an.length ca).ownBlock=some q) g s wr (b1.trans hb) _ (λq hq=>(jU HI.out.2 hq).2) hkk.1 HI.out.1 (HLL.out s (aM hs)));have HN:=aa (xZ (h:=h) hs);rw[hg,has]at HN;rw[hzs]at c0 HC;have hle:w1.heap.size<=wr.heap.size:=hb.size;have hal:an.length<=20:=by omega
    clear hc hs hzs hkk hg has;go_wp2_with fail
    refine HC.out.mono ?_;rintro e w2 ⟨v2,rfl,h2,b2⟩;obtain⟨zo,TE⟩:∃z,tx (deskR g s).2=z:=⟨_,rfl⟩;have hrow2:=Row.ext HI.out.2 b2;obtain⟨v',w3,hrun,hp⟩:=jY w2.heap.size rfl kY jG rfl (by omega) hrow2 (af _) (deskR g s).2 (λj=>rfl) #[.string zo] (by rw[<-TE];rfl) (aX hle b2.size) (by omega) (by omega);rw[TE];have kf:=jV hrow2 hp (hb.trans b2) (av _);have HI3:Hid (kW (λq=>v'.ownBlock=some q) w3 v2 (deskR g s).1):=by
     refine(kW.frX h2.more (kf.wide (λq hq=>.inl hq))).mono (λq hq=>?_)
     rcases hp.2.2.2 with e|⟨k',e,hk'⟩
     ·exact .inl (e▸hq)
     ·rw[e]at hq;cases hq;exact .inr hk'
    obtain⟨A7,c7,rfl,_⟩:=id hp.1.cell.1;rw[show (an++[(deskR g s).2]).length=an.length+1 by simp]at hp hrun HI3;obtain⟨A2,c2,rfl⟩:=h2.slice;have bH:=aa hrun;have HP:=aa hp;have HB2:=aa b2;clear hrun h2 TE hp kf hrow2;go_wp2_with (at_builtin;refine wpList_append_run rfl rfl rfl rfl bH.out ?_)
    go_roundw;case rel=>
     refine⟨HP.out.2.1 _ (hb.trans HB2.out) (av _),k+1,by omega,by go_num,?_⟩;rw[HN.out];exact⟨HI3.out,HP.out.1⟩
    case measure=>simp[intOf];omega
   ·obtain rfl:k=ls.length:=by omega
    rw[bM]at hg has;have HD2:Hid (eX h ls=(g,an)):=by show _ = _;rw[<-hg,<-has]
    have HC:=aa (qL wr HI.out.1.his (by have:=aR hkk.1;omega) (aJ hkk.1));have HB:=aa (b1.trans hb);have HR:=aa HI.out.2;clear hkk hg has HI;go_wp2_with fail
    refine HC.out.mono ?_;rintro e w3 ⟨v3,rs,rfl,h3,o3,b4⟩;go_wp2;go_returns;rw[HD.out,HD2.out];exact⟨v3,rs,_,wr.heap.size,rfl,h3,o3,HB.out.size,(Row.ext HR.out b4).low b1.size,λq hq=>(jU HR.out hq).2,HB.out.trans b4⟩
 ·have HD:Hid (iw h ls=([],[])):=au hgo;have hnil:∀W,Ext w W->∃v' rs u' mid,Ending.returned (.tuple #[.slice none 0 0,.slice none 0 0])=.returned (.tuple #[v',u'])/\yB W v' rs (iw h ls).1/\yX mid W v' rs/\w.heap.size<=mid/\Row 9 1 encS w.heap.size W u' (iw h ls).2/\(∀q,u'.ownBlock=some q->q<mid)/\Ext w W:=λW b=>by rw[HD.out];exact⟨.slice none 0 0,[],.slice none 0 0,w.heap.size,rfl,⟨rfl,aL.nil _ _ _ _ _,λi r t hr=>by simp at hr⟩,⟨Own.nil _ _ _ _,λi r hr=>by simp at hr,λi j r r' _ hr=>by simp at hr⟩,av _,Row.nil,λq hq=>(by cases hq),b⟩
  have Yq:=aa hnil
  cases hok:aD h with
  | false=>
    rw[hok]at HV;clear H hlen hM hE hok U Kn hl hcu hgo hnil;go_enter Tryz.func14,Tryz.ntmps14;go_wp2_with (go_at_call 12;refine HV.out.mono ?_;rintro e w1 ⟨rfl,b1⟩)
    go_returns;exact Yq.out _ b1
  | true=>
    rw[hok]at HV;have h20:(20:Int)<(ls.length:Int):=by
     have:¬ls.length<=20:=λe=>hgo ⟨hok,e⟩
     omega
    clear H hlen hM hE hok U Kn hl hcu hgo hnil;go_enter Tryz.func14,Tryz.ntmps14;go_wp2_with (go_at_call 12;refine HV.out.mono ?_;rintro e w1 ⟨rfl,b1⟩)
    go_returns;exact Yq.out _ b1
theorem vW:Fe≠[]/\DT≠[]/\nC≠[]:=by decide
theorem WO(l:List UInt8):Rm l≠[]:=by
 unfold Rm;split
 ·decide
 ·assumption
theorem ZI(n:Nat):levL n≠[]:=by
 unfold levL
 repeat' split
 all_goals decide
theorem aae(h:List aG):mP h≠[]/\tellSerialR h≠[]/\uS h≠[]:=by
 refine⟨?_,?_,WO _⟩
 ·unfold mP;split
  ·decide
  ·exact ZI _
 ·unfold tellSerialR;split
  ·decide
  ·exact WO _
theorem UG(h:List aG)(r:List UInt8):(putR h r).2≠[]/\((putR h r).2=Fe∨(putR h r).1=h):=by
 unfold putR
 repeat' split
 ·exact⟨vW.1,.inl rfl⟩
 ·exact⟨vW.2.1,.inr rfl⟩
 ·exact⟨vW.2.1,.inr rfl⟩
theorem Vp(h:List aG)(r:List UInt8):(runD h r).2≠[]/\((runD h r).2=Fe∨(runD h r).1=h):=by
 unfold runD
 repeat' split
 ·exact⟨vW.1,.inl rfl⟩
 ·exact⟨vW.2.1,.inr rfl⟩
theorem RU(h:List aG)(n:Nat):(yA h n).2≠[]/\((yA h n).2=Fe∨(yA h n).1=h):=by
 unfold yA
 repeat' split
 ·exact⟨vW.1,.inl rfl⟩
 ·exact⟨vW.2.1,.inr rfl⟩
theorem Ig(h:List aG)(s:List UInt8):(deskR h s).2≠[]/\((deskR h s).2=Fe∨(deskR h s).1=h):=by
 obtain⟨h1,h2,h3⟩:=aae h;unfold deskR
 repeat' split
 ·exact⟨h1,.inr rfl⟩
 ·exact⟨h2,.inr rfl⟩
 ·exact⟨h3,.inr rfl⟩
 ·exact UG h _
 ·exact Vp h _
 ·exact RU h _
 ·exact⟨vW.2.2,.inr rfl⟩
 ·exact⟨vW.2.2,.inr rfl⟩
def uB:List UInt8:=[110,111,116,104,105,110,103]
theorem JS(h:List aG):deskR h uB=(h,nC):=
 su (by decide) (by decide) (by decide) (λe=>absurd e.1 (by decide)) (λe=>absurd e.1 (by decide)) (λe=>absurd e (by decide))
theorem Q0(ls:List (List UInt8)):∀(h:List aG) (acc:List (List UInt8)),ls.foldl (λx l=>((deskR x.1 l).1,x.2++[(deskR x.1 l).2])) (h,acc)=((eX h ls).1,acc++(eX h ls).2):=by
 induction ls with
 | nil=>intro h acc;simp[eX]
 | cons l ls ih=>
   intro h acc;rw[uz,ih];have e:eX h (l :: ls)=ls.foldl (λx l=>((deskR x.1 l).1,x.2++[(deskR x.1 l).2])) ((deskR h l).1,[]++[(deskR h l).2]):=rfl;rw[e,ih];simp
theorem Rc(h:List aG)(a b:List (List UInt8)):eX h (a++b)=((eX (eX h a).1 b).1,(eX h a).2++(eX (eX h a).1 b).2):=by
 conv=>lhs;unfold eX;rw[nL]
 rw[show a.foldl (λx l=>((deskR x.1 l).1,x.2++[(deskR x.1 l).2])) (h,([]:List (List UInt8)))=eX h a from rfl,show eX h a=((eX h a).1,(eX h a).2) from rfl,Q0]
theorem Sr{h:List aG}{ls:List (List UInt8)}(hok:aD h=true)(hl:ls.length<=20)(k:Nat) :
 (iw (iw h (ls.take k)).1 (ls.drop k)).1=(iw h ls).1/\(iw h (ls.take k)).2++(iw (iw h (ls.take k)).1 (ls.drop k)).2=(iw h ls).2/\(iw h ls).2.length=ls.length:=by
 have e1:iw h (ls.take k)=eX h (ls.take k):=aj ⟨hok,by rw[eY];omega⟩;have e2:iw h ls=eX h ls:=aj ⟨hok,hl⟩;have hok2:aD (eX h (ls.take k)).1=true:=by
  have:=(rO hok (ls.take k) (ls.take k).length (av _)).1
  rwa [bM]at this
 have e3:iw (eX h (ls.take k)).1 (ls.drop k)=eX (eX h (ls.take k)).1 (ls.drop k):=aj ⟨hok2,by rw[rX];omega⟩;have hc:=Rc h (ls.take k) (ls.drop k);rw[List.take_append_drop]at hc;rw[e1,e2,e3,hc];refine⟨rfl,rfl,?_⟩
 have:=(rO hok ls ls.length (av _)).2
 rw[bM,hc]at this;exact this
