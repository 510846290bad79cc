/- Lemmas. -/
import Derived.Test.YtcdopfdgknglfaaGreatDoorCAJ
set_option maxHeartbeats 16000000
set_option maxRecDepth 8000
set_option linter.all false
namespace Go.Proofs.YtcdopfdgknglfaaGreatDoor
open Go.RowKit
theorem KM{α:Type}{m:Nat}{enc:α->Nat->Value}{w:World}{b off n c:Nat}{zs:List α}(h:aI m enc w (.slice (some ⟨b,off,none⟩) n c) zs){q:Nat}(hq:q<zs.length)(x:α) :
 aI m enc (w.setCells b (off+q*m) (aG m enc x)) (.slice (some ⟨b,off,none⟩) n c) (zs.set q x):=by
 obtain⟨A',c',e,hc⟩:=h;injection e with e1 e2 e3;subst e1 e2 e3;refine⟨_,_,by rw[jO],λhn=>?_⟩;rw[jO]at hn;obtain⟨b',off',e,hbl,hc⟩:=hc hn;injection e with e;injection e with e1 e2;subst e1 e2;have hsz:∀(vs:List Value) (o:Nat) (w:World),(w.setCells b o vs).heap.size=w.heap.size:=λvs=>by
  induction vs with
  | nil=>intro o w;rfl
  | cons v r ih=>intro o w;rw[World.setCells,ih];simp[World.setCell]
 refine⟨b,off,rfl,by rw[hsz];exact hbl,λi z hz j hj=>?_⟩;have hlen:(aG m enc x).length=m:=by simp[aG]
 rw[kF]at hz;obtain⟨z0,hz0⟩:=au hq;by_cases hi:q=i
 ·subst hi;rw[ah rfl,ah hq]at hz;cases hz
  have:=World.cell?_setCells_in b (aG m enc x) (off+q*m) w (λj' hj'=>by
   have:=hc q z0 hz0 j' (by rw[hlen]at hj';exact hj')
   rw[this];rfl) j (by rw[hlen];exact hj)
  rw[this]
  have:(aG m enc x)[j]? =some (enc x j):=by simp[aG,hj]
  rw[dz (by rw[hlen];exact hj)]at this;exact this
 ·rw[ak hi]at hz;rw[World.cell?_setCells_out _ _ _ _ _ (λ_ _=>by
   rw[hlen];simp only;rcases Nat.lt_or_gt_of_ne hi with h1|h1
   ·have:=Nat.mul_le_mul_right m h1
    rw[Nat.succ_mul]at this;omega
   ·have:=Nat.mul_le_mul_right m h1
    rw[Nat.succ_mul]at this
    omega)]
  exact hc i z hz j hj
theorem Kw{α:Type}{m:Nat}{enc:α->Nat->Value}{w:World}{b off n c q:Nat}{zs rest:List α}(h:aI m enc w (.slice (some ⟨b,off,none⟩) n c) (zs++rest))(hq:zs.length=q)(vs:List Value):aI m enc (w.setCells b (off+q*m) vs) (.slice (some ⟨b,off,none⟩) q c) zs:=by
 obtain⟨A',c',e,hc⟩:=h;injection e with e1 e2 e3;subst e1 e2 e3;have hsz:∀(vs:List Value) (o:Nat) (w:World),(w.setCells b o vs).heap.size=w.heap.size:=λvs=>by
  induction vs with
  | nil=>intro o w;rfl
  | cons v r ih=>intro o w;rw[World.setCells,ih];simp[World.setCell]
 refine⟨_,_,by rw[hq],λhn=>?_⟩;obtain⟨b',off',e,hbl,hc⟩:=hc (by rw[bN];omega);injection e with e;injection e with e1 e2;subst e1 e2;refine⟨b,off,rfl,by rw[hsz];exact hbl,λi z hz j hj=>?_⟩;have hi:=(aS.1 hz).1;rw[World.cell?_setCells_out _ _ _ _ _ (λ_ _=>by
  simp only
  have:=Nat.mul_le_mul_right m (show i+1<=q by omega)
  rw[Nat.succ_mul]at this
  omega)]
 exact hc i z (by rw[nZ hi];exact hz) j hj
structure jH (v:Value) (w w':World):Prop where
 only:Only v w w'
 ty:∀I,fT I w v->fT I w' v
theorem jH.aO{v:Value}{w w':World}(h:Ext w w'):jH v w w':=⟨Only.aO h,λ_ hi=>hi.ext h⟩
theorem jH.trans{v:Value}{a b c:World}(h:jH v a b)(k:jH v b c):jH v a c:=⟨h.only.trans k.only,λI hi=>k.ty I (h.ty I hi)⟩
theorem kJ{I:TypeId}{w:World}{v:Value}(h:fT I w v)(p:Addr)(u:Value):fT I (w.setCell p u) v:=λa n c hv hn=>by
 obtain⟨cs,fr,hg⟩:=h a n c hv hn;simp only[World.setCell,oM];by_cases e:p.block=a.block
 ·rw[ah e,hg];exact⟨_,_,rfl⟩
 ·rw[ak e];exact⟨cs,fr,hg⟩
theorem jH.setCell{a:Addr}{n c:Nat}{w:World}(hn:0<n)(off:Nat)(u:Value):jH (.slice (some a) n c) w (w.setCell ⟨a.block,off,none⟩ u):=⟨Only.setCell hn off u,λ_ h=>kJ h _ _⟩
theorem QM{w:World}{b off n c q:Nat}{u1 u2 u3:Value}(hn:0<n):jH (.slice (some ⟨b,off,none⟩) n c) w (((w.setCell ⟨b,q,none⟩ u1).setCell ⟨b,q+1,none⟩ u2).setCell ⟨b,q+2,none⟩ u3):=
 ((jH.setCell (a:=⟨b,off,none⟩) hn q u1).trans (jH.setCell (a:=⟨b,off,none⟩) hn (q+1) u2)).trans (jH.setCell (a:=⟨b,off,none⟩) hn (q+2) u3)
theorem zI{b off n c:Nat}(hn:0<n):∀(vs:List Value) (o:Nat) (w:World),jH (.slice (some ⟨b,off,none⟩) n c) w (w.setCells b o vs)
 | [],_,w=>jH.aO (af w)
 | v :: r,o,w=>(jH.setCell (a:=⟨b,off,none⟩) hn o v).trans (zI hn r (o+1) _)
theorem pX{α:Type}{m:Nat}{enc:α->Nat->Value}{w:World}{v:Value}{xs:List α}(h:aI m enc w v xs){b o:Nat}(hv:∀a n c,v=.slice (some a) n c->0<n->a.block≠b)(u:Value):aI m enc (w.setCell ⟨b,o,none⟩ u) v xs:=by refine h.only (v:=.slice (some ⟨b,0,none⟩) 1 1) (Only.setCell (a:=⟨b,0,none⟩) (by omega) o u) (λa n c a' n' c' h1 h2 h3 _=>?_);injection h2 with h2;injection h2 with h2;subst h2;exact hv a n c h1 h3
theorem nS{lo:Nat}{w:World}{v:Value}(h:Own lo w v)(b o:Nat)(u:Value):Own lo (w.setCell ⟨b,o,none⟩ u) v:=by exact h.only (v:=.slice (some ⟨b,0,none⟩) 1 1) (Only.setCell (a:=⟨b,0,none⟩) (by omega) o u)
def iA(p:aJ->Bool)(xs:List aJ)(j:Nat):List aJ:=(xs.take j).filter λo=>!p o
theorem zX{p:aJ->Bool}{xs:List aJ}{j:Nat}{x:aJ}(hx:xs[j]? =some x)(hp:p x=true):iA p xs (j+1)=iA p xs j:=by unfold iA;rw[aj hx,yl];simp[hp]
theorem FK{p:aJ->Bool}{xs:List aJ}{j:Nat}{x:aJ}(hx:xs[j]? =some x)(hp:p x=false):iA p xs (j+1)=iA p xs j++[x]:=by unfold iA;rw[aj hx,yl];simp[hp]
theorem I8{p:aJ->Bool}{xs:List aJ}:iA p xs xs.length=xs.filter λo=>!p o:=by unfold iA;rw[bY]
theorem CE{α:Type}{p:α->Bool}:∀(xs:List α) (k:Nat),(findAt p xs k=-1/\∀x∈xs,p x=false)∨∃i x,findAt p xs k=((k+i:Nat):Int)/\xs[i]? =some x/\p x=true/\∀(j:Nat) y,j<i->xs[j]? =some y->p y=false
 | [],_=>.inl ⟨rfl,λ_ h=>by cases h⟩
 | a :: xs,k=>by
   unfold findAt
   cases ha:p a with
   | true=>exact .inr ⟨0,a,by simp,rfl,ha,λj y hj=>absurd hj (oF j)⟩
   | false=>
     rcases CE xs (k+1) with ⟨h1,h2⟩|⟨i,x,h1,h2,h3,h4⟩
     ·exact .inl ⟨by simpa using h1,λx hx=>by rcases iC.1 hx with rfl|hx;exact ha;exact h2 x hx⟩
     ·refine .inr ⟨i+1,x,by simp only[Bool.false_eq_true,if_false,h1];omega,h2,h3,λj y hj hy=>?_⟩
      cases j with
      | zero=>cases hy;exact ha
      | succ j=>exact h4 j y (by omega) hy
theorem DI{p:aJ->Bool}{xs:List aJ}{i:Nat}(h:∀(j:Nat) y,j<i->xs[j]? =some y->p y=false):iA p xs i=xs.take i:=by
 unfold iA;rw[List.filter_eq_self];intro a ha;obtain⟨j,hj⟩:=List.getElem?_of_mem ha;have hji:j<i:=by have:=(aS.1 hj).1;rw[ig]at this;omega
 rw[List.getElem?_take_of_lt hji]at hj;rw[h j a hji hj];rfl
theorem AO:(Tryz.prog.info? 67).map (λi=>(i.zero,i.size,i.bytes))=some (some (.agg #[.int .i64 0,.int .i64 0,.int .i64 0]),3,24):=by kernel_rfl
theorem Bq{A:Option Addr}{n c lo:Nat}{xs:List aJ}(w:World)(F:FuncId)(cap:Array Value)(p:aJ->Bool)(E:World->Prop)(h:aI 3 encOpr w (.slice A n c) xs)(ho:Own lo w (.slice A n c))(hlen:xs.length<=2097152)(hcap:n<=c/\c<=9223372036854775807)
 (hE:E w) (hEs:∀W W',E W->Only (.slice A n c) W W'->E W')
 (hcf:∀args W,(callFunc F args).run Tryz.prog W=.ok (.enter F args) W) (hF:∀x∈xs,∀W,E W->Calls Tryz.prog F (#[.agg #[.int .i64 x.kind,.int .i64 x.key,.int .i64 x.value]]++cap) W λe w'=>e=.returned (.bool (p x))/\Ext W w') :
 Calls Tryz.prog 151 #[.slice A n c,.func (.func F) #[] cap] w λe w'=>∃q,q<=n/\e=.returned (.slice A q c)/\aI 3 encOpr w' (.slice A q c) (xs.filter λo=>!p o)/\jH (.slice A n c) w w':=by
 obtain rfl:n=xs.length:=by obtain⟨A',c',e,_⟩:=id h;injection e
 have H:=aa h;have HE:=aa hE;have ZO:=aa hEs;have HF:=aa hF;have hidx:=aa (o8 w F cap p h hlen hcf (λx hx W hb=>HF.out x hx W (ZO.out _ _ HE.out (Only.aO hb))));have HFZ:Hid (0<xs.length->∀b off,A=some ⟨b,off,none⟩->b<w.heap.size/\∀i,w.frozen? ⟨b,i,none⟩=false):=λhn b off e=>by subst e;exact(ho _ _ _ rfl hn).2
 clear h hE hEs hF ho;rcases CE (p:=p) xs 0 with ⟨hm,hall⟩|⟨f,xf,hm,ZV,hpf,hbef⟩
 ·rw[hm]at hidx;have OA:Hid ((xs.filter λo=>!p o)=xs):=by show _ = _;rw[List.filter_eq_self];intro a ha;rw[hall a ha];rfl
  clear hm hall;go_enter Tryz.func151,Tryz.ntmps151;go_wp2_with (go_at_call 121;refine hidx.out.mono ?_;rintro e w1 ⟨rfl,b1⟩)
  go_returns;exact⟨_,ay _,rfl,by rw[OA.out];exact H.out.ext b1,jH.aO b1⟩
 ·simp only[kP]at hm;rw[hm]at hidx;have hfl:f<xs.length:=(aS.1 ZV).1;obtain⟨b,off,rfl,hbl⟩:∃b off,A=some ⟨b,off,none⟩/\b<w.heap.size:=by obtain⟨A',c',e,hc⟩:=H.out;injection e with e1 e2 e3;subst e1 e3;obtain⟨b,off,rfl,hbl,_⟩:=hc (by omega);exact⟨b,off,rfl,hbl⟩
  have hn:0<xs.length:=by omega
  have hfz:=(HFZ.out hn b off rfl).2;have Un:=aa hfz;have QX:Hid (iA p xs (f+1)=xs.take f):=by show _ = _;rw[zX ZV hpf,DI hbef]
  clear hm hfz hbef HFZ;have hf1:(0:Int)<=(f:Int):=by omega
  have hfn:((f:Int) == -1)=false:=by simp
  go_enter Tryz.func151,Tryz.ntmps151;go_wp2_with (go_at_call 121;refine hidx.out.mono ?_;rintro e w1 ⟨rfl,b1⟩)
  clear hidx;go_loopw [5,6] (λqv jv wr=>∃q j:Nat,j<=xs.length/\q+1<=j/\qv=.int .i64 (q:Int)/\jv=.int .i64 (j:Int)/\Hid (jH (.slice (some ⟨b,off,none⟩) xs.length c) w wr)/\Hid (q=(iA p xs j).length)/\Hid (aI 3 encOpr wr (.slice (some ⟨b,off,none⟩) xs.length c) (iA p xs j++xs.drop q))) (λ_ jv _=>xs.length-(intOf jv).toNat)
  case atStart=>
   refine⟨f,f+1,by omega,by omega,rfl,by go_num,jH.aO b1,?_,?_⟩
   ·show _ = _;rw[QX.out,ig];omega
   ·show aI _ _ _ _ _;rw[QX.out,List.take_append_drop];exact H.out.ext b1
  case round=>
   obtain⟨q,j,hj,hq,rfl,rfl,HO,HL,HS⟩:=hrel;by_cases hjt:j<xs.length
   ·obtain⟨A',c',e,hc⟩:=HS.out;injection e with e1 e2 e3;subst e1 e3;clear e2;have BH:=HL.out;have hzl:(iA p xs j++xs.drop q).length=xs.length:=by rw[bN,kU,<-BH];omega
    obtain⟨b',off',e,Rf,hc⟩:=hc (by omega);injection e with e;injection e with e1 e2';subst e1 e2';have hz:∀(i:Nat) z,q<=i->xs[i]? =some z->(iA p xs j++xs.drop q)[i]? =some z:=λi z hi h=>by rw[qp (by omega),<-BH,ry,show q+(i-q)=i by omega];exact h
    obtain⟨x,hx⟩:=au hjt;obtain⟨z2,hz2⟩:=au (show q<(iA p xs j++xs.drop q).length by omega);have gx:=hc j x (hz _ _ (by omega) hx);have gz:=hc q z2 hz2;have c0:wr.cell? ⟨b,off+j*3,none⟩=some (.int .i64 x.kind):=gx 0 (by omega);have c1:wr.cell? ⟨b,off+j*3+1,none⟩=some (.int .i64 x.key):=gx 1 (by omega);have c2:wr.cell? ⟨b,off+j*3+2,none⟩=some (.int .i64 x.value):=gx 2 (by omega);have HX:=aa hx;have HG:Hid ((iA p xs j++xs.drop q)[q]? =some z2):=hz2;have Vg:=aa hzl;have hxm:=aN hx;have Lx:=HO;have HS2:=HS;have HL2:=HL;have ZU:=aa (HF.out x hxm);clear hc hz hx hz2 gx gz BH hzl hxm HS HO HL;go_wp2_with fail
    refine(ZU.out _ (ZO.out _ _ HE.out (Lx.out.only.trans (Only.aO ((af _).alloc _))))).mono ?_
    rintro e w2 ⟨rfl,b2⟩;have HB2:Hid (Ext wr w2):=((af _).alloc _).trans b2;have hbx:w2.cell? ⟨wr.heap.size,0,none⟩=some (.int .i64 x.kind):=b2.cell (az rfl);have aaz:w2.cell? ⟨wr.heap.size,1,none⟩=some (.int .i64 x.key):=b2.cell (az rfl);have aab:w2.cell? ⟨wr.heap.size,2,none⟩=some (.int .i64 x.value):=b2.cell (az rfl);have Yz:Hid (jH (.slice (some ⟨b,off,none⟩) xs.length c) w w2):=Lx.out.trans (jH.aO HB2.out);have Q7:Hid (aI 3 encOpr w2 (.slice (some ⟨b,off,none⟩) xs.length c) (iA p xs j++xs.drop q)):=HS2.out.ext HB2.out;have hz3:∀i,i<3->w2.cell? ⟨b,off+q*3+i,none⟩=some (encOpr z2 i):=λi hi=>by obtain⟨A',c',e,hc⟩:=Q7.out;injection e with e1 e2 e3;subst e1 e3;obtain⟨b',off',e,_,hc⟩:=hc (by rw[Vg.out];omega);injection e with e;injection e with e1 e2';subst e1 e2';exact hc q z2 HG.out i hi
    have e0:w2.cell? ⟨b,off+q*3,none⟩=some (.int .i64 z2.kind):=hz3 0 (by omega);have e1:w2.cell? ⟨b,off+q*3+1,none⟩=some (.int .i64 z2.key):=hz3 1 (by omega);have e2:w2.cell? ⟨b,off+q*3+2,none⟩=some (.int .i64 z2.value):=hz3 2 (by omega);have Js:∀i,w2.frozen? ⟨b,i,none⟩=false:=λi=>(Yz.out.only.sD ⟨b,i,none⟩ hbl).trans (Un.out i);have f0:=Js (off+q*3);have f1:=Js (off+q*3+1);have f2:=Js (off+q*3+2);have hq1:(q:Int)<(xs.length:Int):=by omega
    clear hz3 Js b2 Lx HS2 ZU c0 c1 c2
    cases hp:p x with
    | true=>
      have HN:=aa (zX HX.out hp);go_wp2;go_roundw;case rel=>exact⟨q,j+1,by omega,by omega,rfl,by go_num,Yz,by rw[HN.out];exact HL2,by rw[HN.out];exact Q7⟩
      case measure=>simp[intOf];omega
    | false=>
      have HN:=aa (FK HX.out hp);go_wp2;go_roundw;case rel=>exact⟨q+1,j+1,by omega,by omega,by go_num,by go_num,Yz.out.trans (QM hn),by show _ = _;rw[HN.out,bN,<-HL2.out];rfl,by
       have h3:=KM Q7.out (q:=q) (by rw[Vg.out];omega) x;obtain⟨zq,WU⟩:=au (show q<xs.length by omega);rw[JI HL2.out (z:=zq) (by rw[ry];exact WU),DR,<-HN.out]at h3;exact h3⟩
      case measure=>simp[intOf];omega
   ·have heq:j=xs.length:=by omega
    have BH:=HL.out;have hzl:(iA p xs j++xs.drop q).length=xs.length:=by rw[bN,kU,<-BH];omega
    have UT:∀W,(Instr.slice 46 (.slice (some ⟨b,off,none⟩) xs.length c) (some (.int .i64 (q:Int))) none none).run Tryz.prog W=.ok (.slice (some ⟨b,off+q*3,none⟩) (xs.length-q) (c-q)) W:=λW=>by
     have hadd:(⟨b,off,none⟩:Addr).add (q*3)=⟨b,off+q*3,none⟩:=by unfold Addr.add;split<;>simp_all
     have:=nT (P:=Tryz.prog) (A:=some ⟨b,off,none⟩) (n:=xs.length) (c:=c) Tryz.underlying46 AO q (by omega) W
     rw[ak (by omega)]at this;simp only[Option.map_some,hadd]at this;exact this
    have PY:∀W,(Instr.slice 46 (.slice (some ⟨b,off,none⟩) xs.length c) none (some (.int .i64 (q:Int))) none).run Tryz.prog W=.ok (.slice (some ⟨b,off,none⟩) q c) W:=λW=>by
     have:=qh (P:=Tryz.prog) (A:=some ⟨b,off,none⟩) (n:=xs.length) (c:=c) Tryz.underlying46 AO q (by omega) W
     rw[ak (by omega)]at this
     simpa[Addr.add] using this
    obtain⟨cs,hcs⟩:∃cs,(Builtin.zeroCells (Value.agg #[Value.int .i64 0,Value.int .i64 0,Value.int .i64 0]).cells (xs.length-q)).toList=cs:=⟨_,rfl⟩;have Qj:cs.length=(xs.length-q)*3:=by rw[<-hcs];simp[Builtin.zeroCells,Value.cells]
    have hcs1:∀v∈cs,v.oneCell'=true:=by
     rw[<-hcs];intro v hv;simp[Builtin.zeroCells,Value.cells]at hv;obtain⟨a,_,rfl⟩:=hv;have h3:a%3<3:=zZ _ (by omega);generalize a%3=r at h3
     match r,h3 with
     | 0,_=>rfl
     | 1,_=>rfl
     | 2,_=>rfl
    have hcl:∀ty,(Builtin.clear_ #[46] ty #[.slice (some ⟨b,off+q*3,none⟩) (xs.length-q) (c-q)]).run Tryz.prog wr=.ok (.tuple #[]) (wr.setCells b (off+q*3) cs):=
     λty=>qC wr _ _ ty _ Tryz.underlying46 (λw=>by kernel_rfl) b (off+q*3) _ _ (by omega) cs hcs (λi hi=>by
      obtain⟨A',c',e,hc⟩:=HS.out;injection e with e1 e2 e3;subst e1 e3;obtain⟨b',off',e,_,hc⟩:=hc (by omega);injection e with e;injection e with e1 e2';subst e1 e2';obtain⟨z,hz⟩:=au (show q+i/3<(iA p xs j++xs.drop q).length by omega)
      have:=hc (q+i/3) z hz (i%3) (by omega)
      rw[show off+(q+i/3)*3+i%3=off+q*3+i by omega]at this;rw[this];rfl) (λi hi=>(HO.out.only.sD ⟨b,_,none⟩ hbl).trans (Un.out _)) hcs1
    have HW:Hid (aI 3 encOpr (wr.setCells b (off+q*3) cs) (.slice (some ⟨b,off,none⟩) q c) (xs.filter λo=>!p o)):=by
     have:=HS.out
     rw[heq]at this BH;rw[<-I8];exact Kw this BH.symm cs
    have HOW:Hid (jH (.slice (some ⟨b,off,none⟩) xs.length c) w (wr.setCells b (off+q*3) cs)):=HO.out.trans (zI hn cs _ _);have i5:decide ((j:Int)<(xs.length:Int))=false:=jW (by omega);have Oz:q<=xs.length:=by omega
    clear HS HO HL hzl BH hcs Qj hcs1 heq;go_wp2;go_returns;exact⟨q,Oz,rfl,HW.out,HOW.out⟩
theorem GD(A:Option Addr)(n c:Nat)(w:World)(hc:n<=c)(hc2:c<=9223372036854775807) :
 Calls Tryz.prog 153 #[.slice A n c] w λe w'=>e=.returned (.slice A n n)/\w=w':=by
 go_enter Tryz.func153,Tryz.ntmps153;go_wp2;go_returns;exact⟨rfl,rfl⟩
theorem Lg{w:World}{A:Option Addr}{n c:Nat}{rs:List mo}{h:List aF}(H:xE w (.slice A n c) rs h)(c':Nat):xE w (.slice A n c') rs h:=⟨H.1,ny H.2.1 c',H.2.2⟩
theorem IX{A:Option Addr}{n c:Nat}{v:Value}(h:Apart (.slice A n c) v)(c':Nat):Apart (.slice A n c') v:=λa k d a' k' d' e1 e2 h1 h2=>by injection e1 with e1 e3 e4;subst e1 e3;exact h a _ c a' k' d' rfl e2 h1 h2
theorem KI{lo:Nat}{w:World}{A:Option Addr}{n c:Nat}{rs:List mo}(H:vV lo w (.slice A n c) rs)(c':Nat):vV lo w (.slice A n c') rs:=
 ⟨Gl H.1 c',λi r hr=>⟨(H.2.1 i r hr).1,IX (H.2.1 i r hr).2 c'⟩,H.2.2⟩
theorem BU:wR Tryz.prog 67 fZ:=
 zu Tryz.underlying67 (λk p=>by simp[Instr.sameNow]) (λb k W=>by
  have u3:=Tryz.underlying3;have a3:=Tryz.isAgg3;have z3:=Tryz.sizeOf3;have hi:∀x W,(Instr.checkKey b 9999 3 (.int .i64 x)).run Tryz.prog W=.ok () W:=λx W=>Go.MapKept.run_checkKey u3 (by simp[Go.MapKept.IsKey]) b 9998;unfold fZ;rw[show (10000:Nat)=9999+1 from rfl,Instr.checkKey];simp only[Sem.run_bind,run_underlying Tryz.underlying67,Result.andThen_ok];go_simp) (λk p W=>by
   have h:=tQ k.kind k.key k.value p.kind p.key p.value W;unfold fZ;simp only[Op.equal,Op.maxDepth];rw[h];congr 1;rw[lH];obtain⟨a,b,c⟩:=k;obtain⟨a',b',c'⟩:=p
   simp) (λk=>by unfold fZ;simp[Instr.sameBits])
theorem iJ.only{K:Type}[DecidableEq K]{fC:K->Value}{m:K->Option Value}{w w':World}{g:Nat}{v:Value}(h:iJ w g fC m)(ho:Only v w w')(hv:∀a n c,v=.slice (some a) n c->0<n->a.block≠g):iJ w' g fC m:=by have hl:=h.lt;obtain⟨es,sP,l,h,h2⟩:=h;exact⟨es,sP,l,(ho.block g hl hv).trans h,h2⟩
def vC(ops:List aJ)(o:aJ):Option Value:=if mh o&&ops.any (λw=>jl w&&(w.key==o.key&&w.value==o.value)) then some (.bool true) else none
def rG(g:Nat)(m:aJ->Option Value)(W:World):Prop:=W.cell? ⟨g+1,0,none⟩=some (.map (some g))/\iJ W g fZ m
theorem Di(g:Nat)(ops:List aJ)(o:aJ)(W:World)(h:rG g (vC ops) W) :
 Calls Tryz.prog 152 (#[.agg #[.int .i64 o.kind,.int .i64 o.key,.int .i64 o.value]]++#[.pointer (some ⟨g+1,0,none⟩)]) W λe w'=>e=.returned (.bool (mh o&&ops.any (λw=>jl w&&(w.key==o.key&&w.value==o.value))))/\Ext W w':=by
 show Calls Tryz.prog 152 #[.agg #[.int .i64 o.kind,.int .i64 o.key,.int .i64 o.value],.pointer (some ⟨g+1,0,none⟩)] W _;obtain⟨h1',h2⟩:=h;have h1:=((af W).alloc (.cells #[.int .i64 o.kind,.int .i64 o.key,.int .i64 o.value] 67)).cell h1';have hl1:=uX (w:=W.alloc (.cells #[.int .i64 o.kind,.int .i64 o.key,.int .i64 o.value] 67)) Tryz.underlying169 BU Cs (h2.ext ((af _).alloc _)) o;unfold fZ at hl1;have hv:((vC ops o).getD (.bool false))=.bool (mh o&&ops.any (λw=>jl w&&(w.key==o.key&&w.value==o.value))):=by
  unfold vC;split
  ·rename_i h;rw[h];rfl
  ·rename_i h;simp only[Bool.not_eq_true]at h;rw[h];rfl
 rw[hv]at hl1;clear h2 hv;generalize (mh o&&ops.any (λw=>jl w&&(w.key==o.key&&w.value==o.value)))=r at hl1 ⊢;go_enter Tryz.func152,Tryz.ntmps152;go_wp2;go_returns;exact⟨rfl,(af _).alloc _⟩
theorem FP(args:Array Value)(W:World):(callFunc 152 args).run Tryz.prog W=.ok (.enter 152 args) W:=by kernel_rfl
theorem Ke{ops:List aJ}{j:Nat}{o:aJ}(ho:ops[j]? =some o)(hw:(o.kind==2)=true)(r:aJ):(if r=⟨1,o.key,o.value⟩ then some (.bool true) else vC (ops.take j) r)=vC (ops.take (j+1)) r:=by
 have hW:jl o=true:=hw;rw[aj ho];unfold vC;rw[List.any_append];by_cases e:r=⟨1,o.key,o.value⟩
 ·rw[ah e];subst e;simp[mh,hW]
 ·rw[ak e]
  have:(mh r&&(o.key==r.key&&o.value==r.value))=false:=by rw[Bool.eq_false_iff];intro h;simp only[mh,bK,beq_iff_eq]at h;apply e;obtain⟨a,b,c⟩:=r;simp only at h ⊢;obtain⟨rfl,rfl,rfl⟩:=h;rfl
  simp only[List.any_cons,List.any_nil,Bool.or_false,hW,Bool.true_and,Bool.and_or_distrib_left,this,Bool.or_false]
theorem Kh{ops:List aJ}{j:Nat}{o:aJ}(ho:ops[j]? =some o)(hw:(o.kind==2)=false):vC (ops.take (j+1))=vC (ops.take j):=by have hW:jl o=false:=hw;funext r;rw[aj ho];unfold vC;rw[List.any_append];simp[hW]
theorem rG.ext{g:Nat}{m:aJ->Option Value}{W W':World}(h:rG g m W)(hb:Ext W W'):rG g m W':=⟨hb.cell h.1,h.2.ext hb⟩
def pE(h:List aF)(n k:Nat):List aF:=((h.take k).eraseIdx n).map (sS h n)
theorem IG{h:List aF}{n:Nat}{t:aF}(ht:h[n]? =some t):pE h n (n+1)=pE h n n:=by
 unfold pE;have hl:=(aS.1 ht).1;have h1:(h.take n).length=n:=by rw[ig];omega
 rw[aj ht,List.eraseIdx_append_of_length_le (by omega),h1,Nat.sub_self,List.eraseIdx_of_length_le (by omega:(h.take n).length<=n)];simp
theorem Jk{h:List aF}{n k:Nat}{t:aF}(ht:h[k]? =some t)(hk:k≠n):pE h n (k+1)=pE h n k++[sS h n t]:=by
 unfold pE;have hl:=(aS.1 ht).1;have h1:(h.take k).length=k:=by rw[ig];omega
 rw[aj ht];rcases eX n k with h2|h2
 ·rw[List.eraseIdx_append_of_lt_length (by omega),j3];rfl
 ·rw[List.eraseIdx_of_length_le (by rw[bN,h1];simp;omega),List.eraseIdx_of_length_le (by omega),j3];rfl
theorem KU{h:List aF}{n k:Nat}:(pE h n k).length<=k:=by unfold pE;rw[dF];exact aR (List.length_eraseIdx_le _ _) (List.length_take_le _ _)
theorem J4{h:List aF}{n:Nat}:pE h n h.length=mq h n:=by unfold pE mq;rw[bY]
theorem EX{v:Value}{h:List aF}(n:Nat)(w:World)(H:lV w v h)(hn:n<h.length)(hlen:h.length<=2097152)(hM:∀t∈h,t.ops.length<=2097152) :
 Calls Tryz.prog 107 #[v,.int .i64 (n:Int)] w (qc w (mq h n)):=by
 obtain⟨A,c,rfl⟩:=H.slice;have HH:=aa H;have HM:=aa hM;have hmk:=@run_makeMap Tryz.prog;have hmr:=fM (P:=Tryz.prog) 23 48 Tryz.underlying23 mX h.length (by omega) (by omega);obtain⟨b,off,rfl,hbl,hc⟩:=HH.out.head (by omega);obtain⟨t,ht⟩:=au hn;obtain⟨ov,c0,c1,c2,hs⟩:=hc n t ht;obtain⟨A',c',rfl,_⟩:=id hs;have hl:=hM t (aN ht);have HT:=aa ht;have HS:=aa hs;have hni:(n:Int)<(h.length:Int):=by omega
 have c0':=((((af w).alloc (.map #[] 0)).alloc (.cells #[.map (some w.heap.size)] 169))).cell c0;have c1':=((((af w).alloc (.map #[] 0)).alloc (.cells #[.map (some w.heap.size)] 169))).cell c1;have c2':=((((af w).alloc (.map #[] 0)).alloc (.cells #[.map (some w.heap.size)] 169))).cell c2;clear H hM hc ht hs c0 c1 c2;go_enter Tryz.func107,Tryz.ntmps107;go_wp2;clear hmk;go_loopw [18] (λi wr=>Ext w wr/\∃j:Nat,j<=t.ops.length/\i=.int .i64 (j:Int)/\Hid (rG w.heap.size (vC (t.ops.take j)) wr)) (λi _=>t.ops.length-(intOf i).toNat)
 case atStart=>
  refine⟨((af w).alloc _).alloc _,0,bR _,rfl,jF (by simp) rfl,?_⟩
  exact((iJ.made w fZ).congr (λk=>by simp[vC])).ext ((af _).alloc _)
 case round=>
  obtain⟨hb,j,hj,rfl,HG⟩:=hrel;by_cases hjt:j<t.ops.length
  ·obtain⟨A2,c3,hA2,hcc⟩:=HS.out.ext hb;injection hA2 with e1 e2 e3;subst e1 e3;obtain⟨b',off',rfl,DF,hcc⟩:=hcc (by omega);obtain⟨o,ho⟩:=au hjt;have d0:wr.cell? ⟨b',off'+j*3,none⟩=some (.int .i64 o.kind):=hcc j o ho 0 (by omega);have d1:wr.cell? ⟨b',off'+j*3+1,none⟩=some (.int .i64 o.key):=hcc j o ho 1 (by omega);have d2:wr.cell? ⟨b',off'+j*3+2,none⟩=some (.int .i64 o.value):=hcc j o ho 2 (by omega);have Ho:=aa ho;have hE2:Hid (Ext wr ((wr.alloc (.cells #[.int .i64 o.kind,.int .i64 o.key,.int .i64 o.value] 67)).alloc (.cells #[.int .i64 o.kind,.int .i64 o.key,.int .i64 o.value] 67))):=((af _).alloc _).alloc _;have PM:=aa (HG.out.ext hE2.out);have g0:=PM.out.1;have hsz:w.heap.size+2<=wr.heap.size:=by
    have h1:=HG.out.1
    have:w.heap.size+1<wr.heap.size:=by
     rcases eX (w.heap.size+1) wr.heap.size with h'|h'
     ·exact h'
     ·simp[World.cell?,oJ h']at h1
    omega
   clear hcc ho e2
   cases hw:(o.kind==2) with
   | false=>
     have HN:=aa (Kh Ho.out hw);go_wp2_with (go_at_call 87;refine(dD _ _ _ _).mono ?_;rw[hw];rintro e w' ⟨rfl,rfl⟩)
     go_roundw;case rel=>exact⟨hb.trans hE2.out,j+1,by omega,by go_num,by rw[HN.out];exact PM⟩
     case measure=>simp[intOf];omega
   | true=>
     obtain⟨ob,hu,hG,_⟩:=dP Tryz.underlying169 BU PM.out.2 ⟨1,o.key,o.value⟩ (.bool true);have HG2:=aa (hG.congr (Ke Ho.out hw));unfold fZ at hu;clear hG;go_wp2_with (go_at_call 87;refine(dD _ _ _ _).mono ?_;rw[hw];rintro e w' ⟨rfl,rfl⟩)
     go_roundw;case rel=>exact⟨(hb.trans hE2.out).aK (ay _) _,j+1,by omega,by go_num,by show _/\_;exact⟨(FQ (by simp)).trans g0,HG2.out⟩⟩
     case measure=>simp[intOf];omega
  ·obtain rfl:j=t.ops.length:=by omega
   have Pv:Hid (rG w.heap.size (vC t.ops) wr):=by have:=HG.out;rw[bY]at this;exact this
   obtain⟨wa,rfl⟩:∃wa:World,wa=wr:=⟨_,rfl⟩;have hsz:Hid (w.heap.size+2<=wa.heap.size):=by
    have h1:=Pv.out.1;show _<=_;rcases eX (w.heap.size+1) wa.heap.size with h'|h'
    ·omega
    ·simp[World.cell?,oJ h']at h1
   clear HG c0' c1' c2';go_wp2;clear hmr;go_loopw [8,36] (λo i wr=>Ext wa wr/\∃k:Nat,k<=h.length/\i=.int .i64 (k:Int)/\Hid (∃rs,uN 48 67 wa.heap.size wr o rs (pE h n k))) (λ_ i _=>h.length-(intOf i).toNat)
   case atStart=>
    have h0:pE h n 0=[]:=by simp[pE]
    exact⟨(af _).alloc _,0,bR _,rfl,[],by rw[h0];exact BX _ h.length (by unfold maxLen;omega) (size_madeCells _ _)⟩
   case round=>
    obtain⟨hbk,k,hk,rfl,HI⟩:=hrel;by_cases hlt:k<h.length
    ·obtain⟨b3,Fx,e3,_,hcc⟩:=((HH.out.ext hb).ext hbk).head (by omega);injection e3 with e3;injection e3 with e3 e4;subst e3 e4;obtain⟨u,hu⟩:=au hlt;obtain⟨ov,c0,c1,c2,hs⟩:=hcc k u hu;obtain⟨A4,c4,rfl,_⟩:=id hs;have hl2:=HM.out u (aN hu);obtain⟨rs,hB⟩:=HI.out;have HU:=aa hu;have HB:=aa hB;have hrl:rs.length<=k:=by rw[hB.1];exact KU
     have GM:=aa (hs.ext ((af wr).alloc (.cells #[.int .i64 u.aD,.slice A4 u.ops.length c4,.bool u.done] 48)));have NP:=aa (Pv.out.ext hbk);have hle:wa.heap.size<=wr.heap.size:=hbk.size;clear hcc hu hs hB HI;by_cases hkn:k=n
     ·subst hkn;have HP:=aa (IG HU.out);go_wp2;go_roundw;case rel=>exact⟨hbk.alloc _,k+1,by omega,by go_num,rs,by rw[HP.out];exact HB.out.ext ((af _).alloc _)⟩
      case measure=>simp[intOf];omega
     ·have hkz:((k:Int)==(n:Int))=false:=by simp;omega
      have HP:=aa (Jk HU.out hkn);clear hkn;go_wp2_with fail
      refine(rF u.aD u.done _ GM.out hl2).mono ?_
      rintro e w1 ⟨A1,rfl,s1,o1,i1,b1⟩;have hq:wr.heap.size<w1.heap.size:=by have:=b1.size;simp at this;omega
      obtain⟨q,hqe⟩:∃q,wr.heap.size=q:=⟨_,rfl⟩;have HB1:Hid (Ext wr w1):=((af _).alloc _).trans b1;have HV:Hid (∀a n c,Value.slice A1 u.ops.length u.ops.length=.slice (some a) n c->0<n->a.block≠q):=λa n c e hn=>by
       have:=(o1 a n c e hn).1
       simp at this;omega
      have z0:w1.cell? ⟨wr.heap.size,0,none⟩=some (.int .i64 u.aD):=b1.cell (az rfl);have z1:w1.cell? ⟨wr.heap.size,1,none⟩=some (.slice A4 u.ops.length c4):=b1.cell (az rfl);have z2:w1.cell? ⟨wr.heap.size,2,none⟩=some (.bool u.done):=b1.cell (az rfl);have hf1:∀j,w1.frozen? ⟨wr.heap.size,j,none⟩=false:=λj=>(b1.frozen (p:=⟨wr.heap.size,j,none⟩) (by simp)).trans (iy j rfl);have y0:=hf1 0;have y1:=hf1 1;have y2:=hf1 2;have HW1:Hid (∃W,W=(((w1.setCell ⟨q,0,none⟩ (.int .i64 u.aD)).setCell ⟨q,1,none⟩ (.slice A1 u.ops.length u.ops.length)).setCell ⟨q,2,none⟩ (.bool u.done))/\aI 3 encOpr W (.slice A1 u.ops.length u.ops.length) u.ops/\Own (wr.heap.size+1) W (.slice A1 u.ops.length u.ops.length)/\fT 67 W (.slice A1 u.ops.length u.ops.length)/\rG w.heap.size (vC t.ops) W/\Ext wr W/\q<W.heap.size/\W.cell? ⟨q,0,none⟩=some (.int .i64 u.aD)/\W.cell? ⟨q,1,none⟩=some (.slice A1 u.ops.length u.ops.length)/\W.cell? ⟨q,2,none⟩=some (.bool u.done)/\∀j,W.frozen? ⟨q,j,none⟩=false):=by
       have hE1:Ext wr (((w1.setCell ⟨q,0,none⟩ (.int .i64 u.aD)).setCell ⟨q,1,none⟩ (.slice A1 u.ops.length u.ops.length)).setCell ⟨q,2,none⟩ (.bool u.done)):=((HB1.out.setCell (by simp;omega) _).setCell (by simp;omega) _).setCell (by simp;omega) _;refine⟨_,rfl,pX (pX (pX s1 HV.out _) HV.out _) HV.out _,nS (nS (nS (o1.mono (by simp)) _ _ _) _ _ _) _ _ _,kJ (kJ (kJ i1 _ _) _ _) _ _,NP.out.ext hE1,hE1,by simp;omega,?_,?_,?_,λj=>?_⟩
       ·subst hqe;rw[av (by simp),av (by simp)];exact dN z0 _
       ·subst hqe;rw[av (by simp)];exact dN ((av (by simp) _).trans z1) _
       ·subst hqe;exact dN (((av (by simp) _).trans ((av (by simp) _).trans z2))) _
       ·subst hqe;exact(Only.setCell (a:=⟨wr.heap.size,0,none⟩) (n:=1) (c:=1) (by omega) 2 _).sD _ (by simpa using hq) |>.trans ((Only.setCell (a:=⟨wr.heap.size,0,none⟩) (n:=1) (c:=1) (by omega) 1 _).sD _ (by simpa using hq)) |>.trans ((Only.setCell (a:=⟨wr.heap.size,0,none⟩) (n:=1) (c:=1) (by omega) 0 _).sD _ (by simpa using hq)) |>.trans (hf1 j)
      obtain⟨W,hWe,sW,oW,iW,gW,bW,qW,x0,x1,x2,xf⟩:=HW1.out;have TZ:=aa (Bq W 152 #[.pointer (some ⟨w.heap.size+1,0,none⟩)] (λo=>mh o&&t.ops.any (λw=>jl w&&(w.key==o.key&&w.value==o.value))) (rG w.heap.size (vC t.ops)) sW oW (by omega) ⟨ay _,by omega⟩ gW (λX Y hX hXY=>by
       have hne:∀a n c,Value.slice A1 u.ops.length u.ops.length=.slice (some a) n c->0<n->w.heap.size+1<a.block:=λa n c e hn=>by have h1:=(oW a n c e hn).1;have h2:=hsz.out;omega
       exact⟨hXY.cell (λa n c e hn=>by have:=hne a n c e hn;simp;omega) hX.1,hX.2.only hXY (λa n c e hn=>by have:=hne a n c e hn;omega)⟩) FP (λx _ X hX=>Di w.heap.size t.ops x X hX))
      have SW:=aa (aL sW (aL oW iW));have XF:=aa xf;have BW:=aa bW;have Ud:=aa hWe;clear s1 o1 i1 b1 hf1 HW1 sW oW iW gW xf bW HB1 NP GM;subst hqe;go_wp2_with fail
      rw[<-Ud.out];refine TZ.out.mono ?_;rintro e w2 ⟨m,hm,rfl,s2,o2⟩;have hne:∀a n c,Value.slice A1 u.ops.length u.ops.length=.slice (some a) n c->0<n->a.block≠wr.heap.size:=λa n c e hn=>by
       have:=(SW.out.2.1 a n c e hn).1
       omega
      replace x0:=o2.only.cell (λa n c e hn=>hne a n c e hn) x0;replace x1:=o2.only.cell (λa n c e hn=>hne a n c e hn) x1;replace x2:=o2.only.cell (λa n c e hn=>hne a n c e hn) x2;have y0:w2.frozen? ⟨wr.heap.size,0,none⟩=false:=(o2.only.sD _ qW).trans (XF.out 0);have y1:w2.frozen? ⟨wr.heap.size,1,none⟩=false:=(o2.only.sD _ qW).trans (XF.out 1);have y2:w2.frozen? ⟨wr.heap.size,2,none⟩=false:=(o2.only.sD _ qW).trans (XF.out 2);have GI:Ext wr (w2.setCell ⟨wr.heap.size,1,none⟩ (.slice A1 m m)):=(BW.out.only o2.only (SW.out.2.1.mono (by omega)) (ay _)).setCell (ay _) _;have hft:(u.ops.filter λo=>!(mh o&&t.ops.any (λw=>jl w&&(w.key==o.key&&w.value==o.value))))=(sS h n u).ops:=by
       have:opsOf h n=t.ops:=by simp[opsOf,HT.out]
       simp[sS,Mo,this]
      rw[hft]at s2;have hml:(sS h n u).ops.length=m:=by obtain⟨A9,c9,e9,_⟩:=s2;injection e9 with _ e9 _;exact e9.symm
      have hsub:∀a k c,Value.slice A1 m m=.slice (some a) k c->0<k->∃c',Value.slice A1 u.ops.length u.ops.length=.slice (some a) u.ops.length c'/\0<u.ops.length:=λa k c e hk=>by injection e with e1 e2 e3;subst e1 e2;exact⟨_,rfl,by omega⟩
      have hS3:aI 3 encOpr (w2.setCell ⟨wr.heap.size,1,none⟩ (.slice A1 m m)) (.slice A1 m m) (sS h n u).ops:=pX (ny s2 m) (λa k c e hk=>by obtain⟨c',e',hk'⟩:=hsub a k c e hk;exact hne a _ _ e' hk') _
      have hO3:Own wr.heap.size (w2.setCell ⟨wr.heap.size,1,none⟩ (.slice A1 m m)) (.slice A1 m m):=nS (λa k c e hk=>by
       obtain⟨c',e',hk'⟩:=hsub a k c e hk
       have:=SW.out.2.1.only o2.only a _ _ e' hk'
       exact⟨by omega,this.2⟩) _ _ _
      have Z5:fT 67 (w2.setCell ⟨wr.heap.size,1,none⟩ (.slice A1 m m)) (.slice A1 m m):=kJ (λa k c e hk=>by obtain⟨c',e',hk'⟩:=hsub a k c e hk;exact o2.ty _ SW.out.2.2 a _ _ e' hk') _ _
      obtain⟨v',w4,hrun,hB2,hE2⟩:=Gw (t:=sS h n u) (w:=w2.setCell ⟨wr.heap.size,1,none⟩ (.slice A1 m m)) w2.heap.size (by simp) HB.out GI hS3 hO3 Z5 (jP (ay _) (by omega)) hle (by omega);have cz:=aa hrun;have HB2:=aa hB2;have HE2:=aa (hE2 wa hbk (ay _));have hcap:m<=u.ops.length:=hm;have hcap2:u.ops.length<=9223372036854775807:=by omega
      clear hrun hB2 hE2 hS3 hO3 Z5 GI hsub hft s2 TZ XF BW Ud hWe hml;go_wp2_with (first|(go_at_call 108;refine(rH A1 m u.ops.length _ hcap hcap2).mono ?_;rintro e w' ⟨rfl,rfl⟩)|(at_builtin;refine wpList_append_run rfl rfl rfl rfl cz.out ?_))
      go_roundw;case rel=>exact⟨HE2.out,k+1,by omega,by go_num,_,by rw[HP.out];exact HB2.out⟩
      case measure=>simp[intOf];omega
    ·obtain rfl:k=h.length:=by omega
     obtain⟨rs,hB⟩:=HI.out;have HB:=aa hB;obtain⟨A5,c5,rfl,_⟩:=hB.2.1.cell.1;have hcp:=hB.2.1.cap _ _ _ rfl;clear hB HI;go_wp2_with (go_at_call 153;refine(GD _ _ _ _ hcp.1 hcp.2).mono ?_;rintro e w' ⟨rfl,rfl⟩)
     go_returns;have hB:=HB.out;rw[J4]at hB;have hd:=hB.done (by decide);exact⟨_,rs,rfl,Lg hd.1 _,(KI hd.2 _).mono hb.size,hb.trans hbk⟩
theorem Dy{v:Value}{h:List aF}(n:Nat)(w:World)(H:lV w v h)(hok:aH h=true)(hn:n<h.length)(hlen:h.length<=2097152)(hM:∀t∈h,t.ops.length<=2097152) :
 Calls Tryz.prog 62 #[v,.int .i64 (n:Int)] w λe w'=>∃v' rs,e=.returned (.tuple #[v',.bool true])/\xE w' v' rs (mq h n)/\vV w.heap.size w' v' rs/\Ext w w':=by
 obtain⟨A,c,rfl⟩:=H.slice;have HH:=aa H;have HV:=aa (aZ w H hlen hM);have HM:=aa hM;have jh:=aa hok;have hin:kV (n:Int) 0 ((h.length:Int)-1)=true:=cK.2 (by omega);have hwr:IntKind.i64.wrap ((h.length:Int)-1)=(h.length:Int)-1:=jI _ (by omega);clear H hM hok;go_enter Tryz.func62,Tryz.ntmps62
 go_wp2_with (first
  | (go_at_call 12;refine HV.out.mono ?_;rw[jh.out];rintro e w1 ⟨rfl,b1⟩;have B1:=aa b1)
  | (go_at_call 106;refine(bQ _ _ _ _).mono ?_;rw[hin];rintro e w' ⟨rfl,rfl⟩)
  | (go_at_call 107;refine(EX n _ (HH.out.ext b1) hn hlen HM.out).mono ?_;rintro e w2 ⟨v2,rs,rfl,d1,d2,b2⟩))
 go_returns;exact⟨_,rs,rfl,d1,d2.mono B1.out.size,B1.out.trans b2⟩
theorem vH{v:Value}{h:List aF}(n:Int)(w:World)(H:lV w v h)(hok:aH h=true)(hn:¬(0<=n/\n<h.length))(hlen:h.length<=2097152)(hM:∀t∈h,t.ops.length<=2097152) :
 Calls Tryz.prog 62 #[v,.int .i64 n] w λe w'=>e=.returned (.tuple #[.slice none 0 0,.bool false])/\Ext w w':=by
 obtain⟨A,c,rfl⟩:=H.slice;have HV:=aa (aZ w H hlen hM);have jh:=aa hok;have hin:kV n 0 ((h.length:Int)-1)=false:=by rw[Bool.eq_false_iff];intro e;have:=cK.1 e;omega
 have hwr:IntKind.i64.wrap ((h.length:Int)-1)=(h.length:Int)-1:=jI _ (by omega);clear H hM hok;go_enter Tryz.func62,Tryz.ntmps62
 go_wp2_with (first
  | (go_at_call 12;refine HV.out.mono ?_;rw[jh.out];rintro e w1 ⟨rfl,b1⟩;have B1:=aa b1)
  | (go_at_call 106;refine(bQ _ _ _ _).mono ?_;rw[hin];rintro e w' ⟨rfl,rfl⟩))
 go_returns;exact⟨rfl,B1.out⟩
