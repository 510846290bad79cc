/- Lemmas. -/
import Derived.Test.YtomkjlklninhpaaGreatDoorKAT
set_option maxHeartbeats 16000000
set_option maxRecDepth 8000
set_option linter.all false
namespace Go.Proofs.YtomkjlklninhpaaGreatDoor
open Go.RowKit
theorem Edge.ext'{x y:Edge}(h1:x.dV=y.dV)(h2:x.to=y.to)(h3:x.kind=y.kind):x=y:=by cases x;cases y;simp at h1 h2 h3;simp[h1,h2,h3]
instance:DecidableEq Edge:=fun x y=>if h:x.dV=y.dV/\x.to=y.to/\x.kind=y.kind then isTrue (Edge.ext' h.1 h.2.1 h.2.2) else isFalse fun e=>h (by rw[e];exact⟨rfl,rfl,rfl⟩)
def kI(es:List Edge):Nat->List Edge
 | 0=>[]
 | m+1=>match es[m]? with
   | none=>kI es m
   | some x=>if 0<m/\es[m-1]? =some x then kI es m else kI es m++[x]
theorem OT{es:List Edge}{m:Nat}{x:Edge}(hx:es[m]? =some x)(hm:0<m)(hy:es[m-1]? =some x):kI es (m+1)=kI es m:=by rw[kI,hx];simp[hm,hy]
theorem VC{es:List Edge}{m:Nat}{x y:Edge}(hx:es[m]? =some x)(hy:es[m-1]? =some y)(hne:x≠y):kI es (m+1)=kI es m++[x]:=by
 rw[kI,hx]
 have:¬(0<m/\es[m-1]? =some x):=fun h=>hne (by rw[hy]at h;exact(Option.some.inj h.2).symm)
 simp only[this,if_false]
theorem OQ(es:List Edge):∀m,(kI es m).length<=m
 | 0=>Nat.le_refl _
 | m+1=>by
   have:=OQ es m
   rw[kI];split
   ·omega
   ·split
    ·omega
    ·simp;omega
theorem Ng{es:List Edge}:∀{m:Nat},m<=es.length->∀x,x∈kI es m↔x∈es.take m
 | 0,_,x=>by simp[kI]
 | m+1,h,x=>by
   have ih:=Ng (es:=es) (m:=m) (by omega) x;obtain⟨y,hy⟩:=af (show m<es.length by omega);rw[ah hy,List.mem_append,List.mem_singleton,kI,hy];simp only;split
   ·rename_i h1;rw[ih];constructor
    ·exact .inl
    ·rintro (h2|rfl)
     ·exact h2
     ·refine List.mem_of_getElem? (i:=m-1) ?_;rw[List.getElem?_take_of_lt (by omega)];exact h1.2
   ·rw[List.mem_append,List.mem_singleton,ih]
theorem xe{es:List Edge}:∀{k:Nat},k<=es.length->(∀(i:Nat) x y,0<i->i<k->es[i]? =some x->es[i-1]? =some y->x≠y)->kI es k=es.take k
 | 0,_,_=>by simp[kI]
 | k+1,h,hd=>by
   have ih:=xe (es:=es) (k:=k) (by omega) (fun i x y h1 h2=>hd i x y h1 (by omega));obtain⟨x,hx⟩:=af (show k<es.length by omega);rw[ah hx,kI,hx,ih];simp only;split
   ·rename_i h1;exact absurd rfl (hd k x x h1.1 (by omega) hx h1.2)
   ·rfl
theorem tT(a b c a' b' c':Int)(W:World):(Op.equalIn 10000 177 (.agg #[.int .i64 a,.int .i64 b,.int .i64 c]) (.agg #[.int .i64 a',.int .i64 b',.int .i64 c'])).run Tryz.prog W=.ok (decide (a=a'/\b=b'/\c=c')) W:=by
 have u3:=Tryz.underlying3;have a3:=Tryz.isAgg3;have z3:=Tryz.sizeOf3;have hS:Tryz.prog.underlying 177=some (.struct (Tryz.prog.fieldsOf 177)):=by kernel_rfl
 have hp:Tryz.prog.stoodInHeld 177=false:=by kernel_rfl
 rw[show (10000:Nat)=9999+1 from rfl,run_equalIn_agg W 9999 _ _ _ hS hp];simp only[Program.fieldsOf,Tryz.underlying177];go_simp;by_cases h1:a=a'<;>by_cases h2:b=b'<;>by_cases h3:c=c'<;>simp[h1,h2,h3]
theorem uu:(Tryz.prog.info? 177).map (fun i=>(i.zero,i.size,i.bytes))=some (some (.agg #[.int .i64 0,.int .i64 0,.int .i64 0]),3,24):=by kernel_rfl
theorem EO:Tryz.prog.eqGuardType Tryz.prog.depth 177=false:=by kernel_rfl
theorem uL{P:Program}(w:World)(t e ty:TypeId)(z:Value)(ht:P.underlying t=some (.slice e))(hv:∀w,(zeroValue e).run P w=.ok z w)(b o n c:Nat)(hn:0<n)(cs:List Value)(hcs:(Builtin.zeroCells z.cells n).toList=cs)
 (hc:∀j,j<cs.length->(w.cell? ⟨b,o+j,none⟩).isSome=true) (hf:∀j,j<cs.length->w.frozen? ⟨b,o+j,none⟩=false) (h1:∀v∈cs,v.oneCell'=true) :
 (Builtin.clear_ #[t] ty #[.slice (some ⟨b,o,none⟩) n c]).run P w=.ok (.tuple #[]) (w.setCells b o cs):=by
 have hst:=run_storeCells_cells (P:=P) b o cs 0 w (by simpa using hc) (by simpa using hf) h1;simp only[Nat.add_zero]at hst;obtain⟨m,rfl⟩:∃m,n=m+1:=⟨n-1,by omega⟩;simp[Builtin.clear_,run_underlying ht,hv,hcs,hst]
theorem Tq{w:World}{b off n c:Nat}{zs:List Edge}(h:aF 3 aR w (.slice (some ⟨b,off,none⟩) n c) zs){q:Nat}(hq:q<zs.length)(x:Edge) :
 aF 3 aR (((w.setCell ⟨b,off+q*3,none⟩ (.int .i64 x.dV)).setCell ⟨b,off+q*3+1,none⟩ (.int .i64 x.to)).setCell ⟨b,off+q*3+2,none⟩ (.int .i64 x.kind)) (.slice (some ⟨b,off,none⟩) n c) (zs.set q x):=by
 have hw:(((w.setCell ⟨b,off+q*3,none⟩ (.int .i64 x.dV)).setCell ⟨b,off+q*3+1,none⟩ (.int .i64 x.to)).setCell ⟨b,off+q*3+2,none⟩ (.int .i64 x.kind))=w.setCells b (off+q*3) (yL x):=rfl;rw[hw];obtain⟨A',c',e,hc⟩:=h;injection e with e1 e2 e3;subst e1 e2 e3;refine⟨_,_,by rw[List.length_set],fun hn=>?_⟩;rw[List.length_set]at hn;obtain⟨b',off',e,hbl,hc⟩:=hc hn;injection e with e;injection e with e1 e2;subst e1 e2;have hsz:∀(vs:List Value) (o:Nat) (w:World),(w.setCells b o vs).heap.size=w.heap.size:=fun vs=>by
  induction vs with
  | nil=>intro o w;rfl
  | cons v r ih=>intro o w;rw[World.setCells,ih];simp[World.setCell]
 refine⟨b,off,rfl,by rw[hsz];exact hbl,fun i z hz j hj=>?_⟩;rw[List.getElem?_set]at hz;obtain⟨z0,hz0⟩:=af hq;by_cases hi:q=i
 ·subst hi;rw[if_pos rfl,if_pos hq]at hz;cases hz
  have:=World.cell?_setCells_in b (yL x) (off+q*3) w (fun j' hj'=>by
   have:=hc q z0 hz0 j' (by simpa[yL] using hj')
   rw[this];rfl) j (by simpa[yL] using hj)
  rw[this,<-KD x j hj];rw[getElem!_pos (yL x) j (by simpa[yL] using hj)]
 ·rw[if_neg hi]at hz;rw[World.cell?_setCells_out _ _ _ _ _ (fun _ _=>by
   have:(yL x).length=3:=rfl
   rw[this];simp only
   omega)]
  exact hc i z hz j hj
theorem R8{α:Type}{l r:List α}{q:Nat}(hq:q=l.length){x z:α}(hz:r[0]? =some z):(l++r).set q x=l++[x]++r.drop 1:=by
 subst hq
 cases r with
 | nil=>simp at hz
 | cons a r=>simp
theorem abB{w:World}{b off n c q:Nat}{u1 u2 u3:Value}(hn:0<n):Only (.slice (some ⟨b,off,none⟩) n c) w (((w.setCell ⟨b,q,none⟩ u1).setCell ⟨b,q+1,none⟩ u2).setCell ⟨b,q+2,none⟩ u3):=
 ((Only.setCell (a:=⟨b,off,none⟩) hn q u1).trans (Only.setCell (a:=⟨b,off,none⟩) hn (q+1) u2)).trans (Only.setCell (a:=⟨b,off,none⟩) hn (q+2) u3)
theorem Jm{b off n c:Nat}(hn:0<n):∀(vs:List Value) (o:Nat) (w:World),Only (.slice (some ⟨b,off,none⟩) n c) w (w.setCells b o vs)
 | [],_,w=>Only.aT (Ext.refl w)
 | v :: r,o,w=>(Only.setCell (a:=⟨b,off,none⟩) hn o v).trans (Jm hn r (o+1) _)
theorem Wn{w:World}{b off n c q:Nat}{zs rest:List Edge}(h:aF 3 aR w (.slice (some ⟨b,off,none⟩) n c) (zs++rest))(hq:zs.length=q)(vs:List Value):aF 3 aR (w.setCells b (off+q*3) vs) (.slice (some ⟨b,off,none⟩) q c) zs:=by
 obtain⟨A',c',e,hc⟩:=h;injection e with e1 e2 e3;subst e1 e2 e3;have hsz:∀(vs:List Value) (o:Nat) (w:World),(w.setCells b o vs).heap.size=w.heap.size:=fun vs=>by
  induction vs with
  | nil=>intro o w;rfl
  | cons v r ih=>intro o w;rw[World.setCells,ih];simp[World.setCell]
 refine⟨_,_,by rw[hq],fun hn=>?_⟩;obtain⟨b',off',e,hbl,hc⟩:=hc (by rw[List.length_append];omega);injection e with e;injection e with e1 e2;subst e1 e2;refine⟨b,off,rfl,by rw[hsz];exact hbl,fun i z hz j hj=>?_⟩;have hi:=(List.getElem?_eq_some_iff.1 hz).1;rw[World.cell?_setCells_out _ _ _ _ _ (fun _ _=>by simp only;omega)];exact hc i z (by rw[List.getElem?_append_left hi];exact hz) j hj
theorem DR{b off n c lo:Nat}{es:List Edge}(w:World)(h:aF 3 aR w (.slice (some ⟨b,off,none⟩) n c) es)(ho:Own lo w (.slice (some ⟨b,off,none⟩) n c))(hn:0<n)(hlen:es.length<=2097152)(hcap:n<=c/\c<=9223372036854775807) :
 Calls Tryz.prog 230 #[.slice (some ⟨b,off,none⟩) n c] w fun e w'=>∃q,q<=n/\e=.returned (.slice (some ⟨b,off,none⟩) q c)/\aF 3 aR w' (.slice (some ⟨b,off,none⟩) q c) (kI es es.length)/\Only (.slice (some ⟨b,off,none⟩) n c) w w':=by
 obtain rfl:n=es.length:=by obtain⟨A',c',e,_⟩:=id h;injection e
 have H:=aa h;have hfr:=(ho _ _ _ rfl hn).2;have HF:=aa hfr;have hg:=EO;have hcut:=fun(k:Nat) (hk:k<es.length) W=>(mh (P:=Tryz.prog) (A:=some ⟨b,off,none⟩) (n:=es.length) (c:=c) Tryz.underlying132 uu k (by omega) W);clear h ho hfr;by_cases h2:es.length<2
 ·have hd:Hid (kI es es.length=es):=by show _ = _;rw[xe (Nat.le_refl _) (fun i x y h1 h2=>by omega),List.take_length]
  clear hcut;go_enter Tryz.func230,Tryz.ntmps230;go_wp2;go_returns;refine⟨_,Nat.le_refl _,rfl,?_,Only.aT (Ext.refl _)⟩;rw[hd.out];exact H.out
 ·go_enter Tryz.func230,Tryz.ntmps230;have h2d:decide ((es.length:Int)<2)=false:=decide_eq_false (by omega);go_wp2;go_loopw [3] (fun i wr=>Ext w wr/\∃j:Nat,j+1<=es.length/\i=.int .i64 ((j:Int)+1)/\Hid (∀(i:Nat) x y,0<i->i<j+1->es[i]? =some x->es[i-1]? =some y->x≠y)) (fun i _=>es.length-(intOf i).toNat)
  case atStart=>exact⟨Ext.refl _,0,by omega,rfl,fun i x y h1 h2=>by omega⟩
  case round=>
   obtain⟨hb,j,hj,rfl,HI⟩:=hrel;by_cases hlt:j+1<es.length
   ·obtain⟨A',c',e,hc⟩:=H.out.ext hb;injection e with e1 e2 e3;subst e1 e3;obtain⟨b',off',e,hbl,hc⟩:=hc (by omega);injection e with e;injection e with e1 e2';subst e1 e2';obtain⟨x,hx⟩:=af hlt;obtain⟨y,hy⟩:=af (show j<es.length by omega);have c0:wr.cell? ⟨b,off+(j+1)*3,none⟩=some (.int .i64 x.dV):=hc (j+1) x hx 0 (by omega);have c1:wr.cell? ⟨b,off+(j+1)*3+1,none⟩=some (.int .i64 x.to):=hc (j+1) x hx 1 (by omega);have c2:wr.cell? ⟨b,off+(j+1)*3+2,none⟩=some (.int .i64 x.kind):=hc (j+1) x hx 2 (by omega);have d0:wr.cell? ⟨b,off+j*3,none⟩=some (.int .i64 y.dV):=hc j y hy 0 (by omega);have d1:wr.cell? ⟨b,off+j*3+1,none⟩=some (.int .i64 y.to):=hc j y hy 1 (by omega);have d2:wr.cell? ⟨b,off+j*3+2,none⟩=some (.int .i64 y.kind):=hc j y hy 2 (by omega);have he:=fun W=>tT x.dV x.to x.kind y.dV y.to y.kind W;have HX:=aa (And.intro hx hy);have i1:(0:Int)<=(j:Int)+1:=by omega
    have i2:(j:Int)+1<(es.length:Int):=by omega
    have i3:(0:Int)<=(j:Int):=by omega
    have w1:IntKind.i64.wrap ((j:Int)+1-1)=(j:Int):=by rw[Int.add_sub_cancel];exact IntWalk.i64_in _ (by omega)
    have w2:IntKind.i64.wrap (j:Int)=(j:Int):=IntWalk.i64_in _ (by omega);have i4:(j:Int)<(es.length:Int):=by omega
    have aci:=aa hcut;have hE:=hb.drew;clear hc hx hy e2 hcut;by_cases hm:x.dV=y.dV/\x.to=y.to/\x.kind=y.kind
    ·rw[decide_eq_true hm]at he;have hxy:x=y:=Edge.ext' hm.1 hm.2.1 hm.2.2;have HD:Hid (kI es (j+2)=es.take (j+1)):=by show _ = _;rw[OT HX.out.1 (by omega) (by rw[Nat.add_sub_cancel,HX.out.2,hxy]),xe (by omega) HI.out]
     have hc1:∀W,(Instr.slice 132 (.slice (some ⟨b,off,none⟩) es.length c) (some (.int .i64 ((j:Int)+1))) none none).run Tryz.prog W=.ok (.slice (some ⟨b,off+(j+1)*3,none⟩) (es.length-(j+1)) (c-(j+1))) W:=fun W=>by
      have:=aci.out (j+1) hlt W
      rw[if_neg (by omega)]at this
      simpa[Addr.add] using this
     clear hm hxy;go_wp2;go_region_held3 (fun W=>W.cell? ⟨b,off+(j+1)*3,none⟩=some (.int .i64 x.dV)/\W.cell? ⟨b,off+(j+1)*3+1,none⟩=some (.int .i64 x.to)/\W.cell? ⟨b,off+(j+1)*3+2,none⟩=some (.int .i64 x.kind)/\W.cell? ⟨b,off+j*3,none⟩=some (.int .i64 y.dV)/\W.cell? ⟨b,off+j*3+1,none⟩=some (.int .i64 y.to)/\W.cell? ⟨b,off+j*3+2,none⟩=some (.int .i64 y.kind)) (go_keep) (fail)
     clear c0 c1 c2 d0 d1 d2 he;go_wp2;have Py:Hid (aF 3 aR wr.drew (.slice (some ⟨b,off,none⟩) es.length c) (kI es (j+0+2)++es.drop (j+1))):=by show aF _ _ _ _ _;rw[Nat.add_zero,HD.out,List.take_append_drop];exact H.out.ext hE
     have HO0:Hid (Only (.slice (some ⟨b,off,none⟩) es.length c) w wr.drew):=Only.aT hE;have HL0:Hid (j+1=(kI es (j+0+2)).length):=by show _ = _;rw[Nat.add_zero,HD.out,List.length_take];omega
     clear hb hE;obtain⟨wo,rfl⟩:∃wo:World,wo=wr:=⟨_,rfl⟩;generalize hn':es.length-(j+1)=n2;have tF:=aa hn';clear hn' hc1;go_loopw [3,5] (fun kv i wr=>∃q m:Nat,j+m+2<=es.length/\q<=j+m+1/\i=.int .i64 ((m:Int)+1)/\kv=.int .i64 (q:Int)/\Hid (Only (.slice (some ⟨b,off,none⟩) es.length c) w wr)/\Hid (q=(kI es (j+m+2)).length)/\Hid (aF 3 aR wr (.slice (some ⟨b,off,none⟩) es.length c) (kI es (j+m+2)++es.drop q))) (fun _ i _=>es.length-(intOf i).toNat)
     case atStart=>exact⟨j+1,0,by omega,by omega,rfl,by go_num,HO0,HL0,Py⟩
     case round=>
      obtain⟨q,m,hm,hq,rfl,rfl,HO,HL,HS⟩:=hrel;by_cases hmt:j+m+2<es.length
      ·obtain⟨A',c',e,hc⟩:=HS.out;injection e with e1 e2 e3;subst e1 e3;clear e2;have Kh:=HL.out;have hzl:(kI es (j+m+2)++es.drop q).length=es.length:=by rw[List.length_append,List.length_drop,<-Kh];omega
       obtain⟨b',off',e,WZ,hc⟩:=hc (by omega);injection e with e;injection e with e1 e2';subst e1 e2';have hz:∀(i:Nat) z,q<=i->es[i]? =some z->(kI es (j+m+2)++es.drop q)[i]? =some z:=fun i z hi h=>by rw[List.getElem?_append_right (by omega),<-Kh,List.getElem?_drop,show q+(i-q)=i by omega];exact h
       obtain⟨x2,hx2⟩:=af hmt;obtain⟨y2,hy2⟩:=af (show j+m+1<es.length by omega);obtain⟨z2,hz2⟩:=af (show q<(kI es (j+m+2)++es.drop q).length by omega);have gx:=hc (j+m+2) x2 (hz _ _ (by omega) hx2);have gy:=hc (j+m+1) y2 (hz _ _ (by omega) hy2);have gz:=hc q z2 hz2;rw[show off+(j+m+2)*3=off+(j+1)*3+(m+1)*3 by omega]at gx;rw[show off+(j+m+1)*3=off+(j+1)*3+m*3 by omega]at gy;have c0:wr.drew.cell? ⟨b,off+(j+1)*3+(m+1)*3,none⟩=some (.int .i64 x2.dV):=gx 0 (by omega);have c1:wr.drew.cell? ⟨b,off+(j+1)*3+(m+1)*3+1,none⟩=some (.int .i64 x2.to):=gx 1 (by omega);have c2:wr.drew.cell? ⟨b,off+(j+1)*3+(m+1)*3+2,none⟩=some (.int .i64 x2.kind):=gx 2 (by omega);have d0:wr.drew.cell? ⟨b,off+(j+1)*3+m*3,none⟩=some (.int .i64 y2.dV):=gy 0 (by omega);have d1:wr.drew.cell? ⟨b,off+(j+1)*3+m*3+1,none⟩=some (.int .i64 y2.to):=gy 1 (by omega);have d2:wr.drew.cell? ⟨b,off+(j+1)*3+m*3+2,none⟩=some (.int .i64 y2.kind):=gy 2 (by omega);have e0:wr.drew.cell? ⟨b,off+q*3,none⟩=some (.int .i64 z2.dV):=gz 0 (by omega);have e1:wr.drew.cell? ⟨b,off+q*3+1,none⟩=some (.int .i64 z2.to):=gz 1 (by omega);have e2:wr.drew.cell? ⟨b,off+q*3+2,none⟩=some (.int .i64 z2.kind):=gz 2 (by omega);have e0':wr.cell? ⟨b,off+q*3,none⟩=some (.int .i64 z2.dV):=gz 0 (by omega);have Zl:wr.cell? ⟨b,off+q*3+1,none⟩=some (.int .i64 z2.to):=gz 1 (by omega);have e2':wr.cell? ⟨b,off+q*3+2,none⟩=some (.int .i64 z2.kind):=gz 2 (by omega);have hfw:∀i,wr.frozen? ⟨b,i,none⟩=false:=fun i=>(HO.out.uN ⟨b,i,none⟩ HF.out.1).trans (HF.out.2 i);have f0':=hfw (off+q*3);have f1':=hfw (off+q*3+1);have f2':=hfw (off+q*3+2);have HOW:=HO;have HSW:=HS;clear hfw;have Rv:∀i,wr.drew.frozen? ⟨b,i,none⟩=false:=fun i=>(HO.out.uN ⟨b,i,none⟩ HF.out.1).trans (HF.out.2 i);have f0:=Rv (off+q*3);have f1:=Rv (off+q*3+1);have f2:=Rv (off+q*3+2);have he:=fun W=>tT x2.dV x2.to x2.kind y2.dV y2.to y2.kind W;have hq1:(q:Int)<(es.length:Int):=by omega
       have i5:(m:Int)+1<(n2:Int):=by have:=tF.out;omega
       have i6:(0:Int)<=(m:Int)+1:=by omega
       have i7:(m:Int)<(n2:Int):=by have:=tF.out;omega
       have v1:IntKind.i64.wrap ((m:Int)+1-1)=(m:Int):=by rw[Int.add_sub_cancel];exact IntWalk.i64_in _ (by omega)
       have v2:IntKind.i64.wrap (m:Int)=(m:Int):=IntWalk.i64_in _ (by omega);have PD:Hid (Only (.slice (some ⟨b,off,none⟩) es.length c) w wr.drew):=HO.out.trans (Only.aT ((Ext.refl _).drew));have HS2:Hid (aF 3 aR wr.drew (.slice (some ⟨b,off,none⟩) es.length c) (kI es (j+m+2)++es.drop q)):=HS.out.ext ((Ext.refl _).drew);have uP:=aa (And.intro hx2 hy2);have HZL:=aa hzl;clear hc hz hx2 hy2 hz2 gx gy gz Rv HS HO hzl Kh;by_cases hm2:x2.dV=y2.dV/\x2.to=y2.to/\x2.kind=y2.kind
       ·rw[decide_eq_true hm2]at he;have hxy:x2=y2:=Edge.ext' hm2.1 hm2.2.1 hm2.2.2;have HN:Hid (kI es (j+(m+1)+2)=kI es (j+m+2)):=by show _ = _;rw[show j+(m+1)+2=j+m+2+1 by omega,OT uP.out.1 (by omega) (by rw[show j+m+2-1=j+m+1 by omega,uP.out.2,hxy])]
        clear hm2 hxy;go_wp2;go_region_held3 (fun W=>W.cell? ⟨b,off+(j+1)*3+(m+1)*3,none⟩=some (.int .i64 x2.dV)/\W.cell? ⟨b,off+(j+1)*3+(m+1)*3+1,none⟩=some (.int .i64 x2.to)/\W.cell? ⟨b,off+(j+1)*3+(m+1)*3+2,none⟩=some (.int .i64 x2.kind)/\W.cell? ⟨b,off+(j+1)*3+m*3,none⟩=some (.int .i64 y2.dV)/\W.cell? ⟨b,off+(j+1)*3+m*3+1,none⟩=some (.int .i64 y2.to)/\W.cell? ⟨b,off+(j+1)*3+m*3+2,none⟩=some (.int .i64 y2.kind)) (go_keep) (fail)
        go_wp2;go_roundw;case rel=>exact⟨q,m+1,by omega,by omega,by go_num,rfl,PD,by rw[HN.out];exact HL,by rw[HN.out];exact HS2⟩
        case measure=>simp[intOf];omega
       ·rw[decide_eq_false hm2]at he;have hxy:x2≠y2:=fun e=>hm2 (by rw[e];exact⟨rfl,rfl,rfl⟩);have HN:Hid (kI es (j+(m+1)+2)=kI es (j+m+2)++[x2]):=by show _ = _;rw[show j+(m+1)+2=j+m+2+1 by omega,VC uP.out.1 (by rw[show j+m+2-1=j+m+1 by omega];exact uP.out.2) hxy]
        clear hm2 hxy;go_wp2;go_region_held3 (fun W=>W.cell? ⟨b,off+(j+1)*3+(m+1)*3,none⟩=some (.int .i64 x2.dV)/\W.cell? ⟨b,off+(j+1)*3+(m+1)*3+1,none⟩=some (.int .i64 x2.to)/\W.cell? ⟨b,off+(j+1)*3+(m+1)*3+2,none⟩=some (.int .i64 x2.kind)/\W.cell? ⟨b,off+(j+1)*3+m*3,none⟩=some (.int .i64 y2.dV)/\W.cell? ⟨b,off+(j+1)*3+m*3+1,none⟩=some (.int .i64 y2.to)/\W.cell? ⟨b,off+(j+1)*3+m*3+2,none⟩=some (.int .i64 y2.kind)) (go_keep) (fail)
        go_wp2;go_roundw;case rel=>exact⟨q+1,m+1,by omega,by omega,by go_num,by go_num,HOW.out.trans ((abB hn).trans (Only.aT ((Ext.refl _).drew))),by rw[HN.out,List.length_append,<-HL.out];rfl,by
         have h3:=Tq HSW.out (q:=q) (by rw[HZL.out];omega) x2;obtain⟨zq,hzq⟩:=af (show q<es.length by omega);rw[R8 HL.out (z:=zq) (by rw[List.getElem?_drop];exact hzq),List.drop_drop,<-HN.out]at h3;exact h3.ext ((Ext.refl _).drew)⟩
        case measure=>simp[intOf];omega
      ·have heq:j+m+2=es.length:=by omega
       have Kh:=HL.out;have hzl:(kI es (j+m+2)++es.drop q).length=es.length:=by rw[List.length_append,List.length_drop,<-Kh];omega
       have adt:∀W,(Instr.slice 132 (.slice (some ⟨b,off,none⟩) es.length c) (some (.int .i64 (q:Int))) none none).run Tryz.prog W=.ok (.slice (some ⟨b,off+q*3,none⟩) (es.length-q) (c-q)) W:=fun W=>by
        have hadd:(⟨b,off,none⟩:Addr).add (q*3)=⟨b,off+q*3,none⟩:=by unfold Addr.add;split<;>simp_all
        have:=aci.out q (by omega) W
        rw[if_neg (by omega)]at this;simp only[Option.map_some,hadd]at this;exact this
       have RN:∀W,(Instr.slice 132 (.slice (some ⟨b,off,none⟩) es.length c) none (some (.int .i64 (q:Int))) none).run Tryz.prog W=.ok (.slice (some ⟨b,off,none⟩) q c) W:=fun W=>by
        have:=mR (P:=Tryz.prog) (A:=some ⟨b,off,none⟩) (n:=es.length) (c:=c) Tryz.underlying132 uu q (by omega) W
        rw[if_neg (by omega)]at this
        simpa[Addr.add] using this
       obtain⟨cs,hcs⟩:∃cs,(Builtin.zeroCells (Value.agg #[Value.int .i64 0,Value.int .i64 0,Value.int .i64 0]).cells (es.length-q)).toList=cs:=⟨_,rfl⟩;have aaz:cs.length=(es.length-q)*3:=by rw[<-hcs];simp[Builtin.zeroCells,Value.cells]
       have hcs1:∀v∈cs,v.oneCell'=true:=by
        rw[<-hcs];intro v hv;simp[Builtin.zeroCells,Value.cells]at hv;obtain⟨a,_,rfl⟩:=hv;have h3:a%3<3:=Nat.mod_lt _ (by omega);generalize a%3=r at h3
        match r,h3 with
        | 0,_=>rfl
        | 1,_=>rfl
        | 2,_=>rfl
       have hcl:∀ty,(Builtin.clear_ #[132] ty #[.slice (some ⟨b,off+q*3,none⟩) (es.length-q) (c-q)]).run Tryz.prog wr=.ok (.tuple #[]) (wr.setCells b (off+q*3) cs):=
        fun ty=>uL wr _ _ ty _ Tryz.underlying132 (fun w=>by kernel_rfl) b (off+q*3) _ _ (by omega) cs hcs (fun i hi=>by
         obtain⟨A',c',e,hc⟩:=HS.out;injection e with e1 e2 e3;subst e1 e3;obtain⟨b',off',e,_,hc⟩:=hc (by omega);injection e with e;injection e with e1 e2';subst e1 e2';obtain⟨z,hz⟩:=af (show q+i/3<(kI es (j+m+2)++es.drop q).length by omega)
         have:=hc (q+i/3) z hz (i%3) (by omega)
         rw[show off+(q+i/3)*3+i%3=off+q*3+i by omega]at this;rw[this];rfl) (fun i hi=>(HO.out.uN ⟨b,_,none⟩ HF.out.1).trans (HF.out.2 _)) hcs1
       have HW:Hid (aF 3 aR (wr.setCells b (off+q*3) cs) (.slice (some ⟨b,off,none⟩) q c) (kI es es.length)):=by
        have:=HS.out
        rw[heq]at this Kh;exact Wn this Kh.symm cs
       have HOW:Hid (Only (.slice (some ⟨b,off,none⟩) es.length c) w (wr.setCells b (off+q*3) cs)):=HO.out.trans (Jm hn cs _ _);have i5:decide ((m:Int)+1<(n2:Int))=false:=decide_eq_false (by have:=tF.out;omega);have ML:q<=es.length:=by omega
       clear HS HO HL hzl Kh hcs aaz hcs1 heq;go_wp2;go_returns;exact⟨q,ML,rfl,HW.out,HOW.out⟩
    ·rw[decide_eq_false hm]at he;have hne:x≠y:=fun e=>hm (by rw[e];exact⟨rfl,rfl,rfl⟩);have HI2:Hid (∀(i:Nat) x y,0<i->i<j+1+1->es[i]? =some x->es[i-1]? =some y->x≠y):=fun i x' y' h1 h2 h3 h4=>by
      rcases Nat.lt_or_ge i (j+1) with h5|h5
      ·exact HI.out i x' y' h1 h5 h3 h4
      ·obtain rfl:i=j+1:=by omega
       rw[Nat.add_sub_cancel]at h4;rw[HX.out.1]at h3;rw[HX.out.2]at h4;cases h3;cases h4;exact hne
     clear hm hne;go_wp2;go_region_held3 (fun W=>W.cell? ⟨b,off+(j+1)*3,none⟩=some (.int .i64 x.dV)/\W.cell? ⟨b,off+(j+1)*3+1,none⟩=some (.int .i64 x.to)/\W.cell? ⟨b,off+(j+1)*3+2,none⟩=some (.int .i64 x.kind)/\W.cell? ⟨b,off+j*3,none⟩=some (.int .i64 y.dV)/\W.cell? ⟨b,off+j*3+1,none⟩=some (.int .i64 y.to)/\W.cell? ⟨b,off+j*3+2,none⟩=some (.int .i64 y.kind)) (go_keep) (fail)
     go_wp2;go_roundw;case rel=>exact⟨hE,j+1,by omega,by go_num,HI2.out⟩
     case measure=>simp[intOf];omega
   ·have hj':j+1=es.length:=by omega
    have hd:Hid (kI es es.length=es):=by show _ = _;rw[xe (Nat.le_refl _) (fun i x y h1 h2=>HI.out i x y h1 (by omega)),List.take_length]
    have i2:¬((j:Int)+1<(es.length:Int)):=by omega
    go_wp2;go_returns;refine⟨_,Nat.le_refl _,rfl,?_,Only.aT hb⟩;rw[hd.out];exact H.out.ext hb
theorem qU(A:Option Addr)(n c:Nat)(w:World)(h:n<=c/\c<=9223372036854775807) :
 Calls Tryz.prog 229 #[.slice A n c] w fun e w'=>e=.returned (.slice A n n)/\w=w':=by
 go_enter Tryz.func229,Tryz.ntmps229;go_wp2;go_returns;exact⟨rfl,rfl⟩
theorem uD(A:Option Addr)(c:Nat)(w:World) :
 Calls Tryz.prog 230 #[.slice A 0 c] w fun e w'=>e=.returned (.slice A 0 c)/\w=w':=by
 go_enter Tryz.func230,Tryz.ntmps230;go_wp2;go_returns;exact⟨rfl,rfl⟩
open Go.Shelf Go.Lib Go.Sort in
theorem rV(A:Option Addr)(c:Nat)(fv:Value)(w:World) :
 Calls Tryz.prog 227 #[.slice A 0 c,fv] w fun e w'=>e=.returned (.tuple #[])/\Ext w w':=by
 have hcon:=AnyF.slices_SortFunc_none Tryz.Mq A c fv w;change Calls Tryz.prog 227 _ _ _ at hcon;refine hcon.mono ?_;rintro e w' ⟨rfl,rfl⟩;exact⟨rfl,Ext.refl _⟩
def zK(es ds:List Edge):Prop:=(∀x,x∈ds↔x∈es)/\ds.length<=es.length
theorem OG{es es':List Edge}(hp:es'.Perm es):zK es (kI es' es'.length):=by
 refine⟨fun x=>?_,?_⟩
 ·rw[Ng (Nat.le_refl _),List.take_length,hp.mem_iff]
 ·have:=OQ es' es'.length
  rw[hp.length_eq]at this ⊢;exact this
theorem Lu{b off n c lo:Nat}{es:List Edge}(w:World)(h:aF 3 aR w (.slice (some ⟨b,off,none⟩) n c) es)(ho:Own lo w (.slice (some ⟨b,off,none⟩) n c))(hb:b<w.heap.size)(hlen:es.length<=2097152)(hcap:n<=c/\c<=9223372036854775807) :
 Calls Tryz.prog 201 #[.slice (some ⟨b,off,none⟩) n c] w fun e w'=>∃q ds,e=.returned (.slice (some ⟨b,off,none⟩) q q)/\zK es ds/\aF 3 aR w' (.slice (some ⟨b,off,none⟩) q q) ds/\Only (.slice (some ⟨b,off,none⟩) n c) w w':=by
 obtain rfl:n=es.length:=by obtain⟨A',c',e,_⟩:=id h;injection e
 have H:=aa h;have HO:=aa ho;have hcp2:∀q,q<=es.length->q<=c/\c<=9223372036854775807:=fun q hq=>⟨by omega,hcap.2⟩;have HC:=aa hcp2;clear h ho hcp2;rcases Nat.eq_zero_or_pos es.length with h0|hn
 ·obtain rfl:es=[]:=List.eq_nil_of_length_eq_zero h0;go_enter Tryz.func201,Tryz.ntmps201;go_wp2_with fail
  refine(rV _ _ _ _).mono ?_
  rintro e w1 ⟨rfl,b1⟩;go_wp2_with fail
  refine(uD _ _ _).mono ?_
  rintro e w2 ⟨rfl,rfl⟩;go_wp2_with fail
  refine(qU _ _ _ _ (HC.out 0 (Nat.le_refl _))).mono ?_
  rintro e w3 ⟨rfl,rfl⟩;go_wp2;go_returns;exact⟨0,[],rfl,⟨fun _=>Iff.rfl,Nat.le_refl _⟩,⟨_,_,rfl,fun h=>by simp at h⟩,Only.aT b1⟩
 ·go_enter Tryz.func201,Tryz.ntmps201;go_wp2_with fail
  refine(BQ _ H.out HO.out hb hn hlen).mono ?_
  rintro e w1 ⟨rfl,es',hp,hs,ho1⟩;have hl:=hp.length_eq;have HS:=aa hs;have ZH:=aa ho1;have HD:=aa (OG hp);clear hs ho1 hp;go_wp2_with fail
  refine(DR _ HS.out (HO.out.only ZH.out) hn (by omega) (HC.out _ (Nat.le_refl _))).mono ?_
  rintro e w2 ⟨q,hq,rfl,hs2,ho2⟩;have HS2:=aa hs2;have PD:=aa ho2;clear hs2 ho2;go_wp2_with fail
  refine(qU _ _ _ _ (HC.out q hq)).mono ?_
  rintro e w3 ⟨rfl,rfl⟩;go_wp2;go_returns;exact⟨q,_,rfl,HD.out,pO HS2.out _,ZH.out.trans PD.out⟩
def isDone(h:List aA)(n:Int):Bool:=(h[n.toNat]?.map (·.done)).getD false
def jd(h:List aA)(f t k:Int):List Edge:=if 0<=f/\0<=t/\f≠t/\isDone h f=true/\isDone h t=true then [⟨f,t,k⟩] else []
def chainTo(h:List aA)(key:Int)(order:List Int)(m:Nat):List Edge:=(List.range m).flatMap fun i=>jd h (aB h key (order.getD i 0)) (aB h key (order.getD (i+1) 0)) 1
def kE(order:List Int)(v:Int):Option Nat:=if v=0 then some 0 else (order.findIdx? (·==v)).map (· + 1)
def lZ(h:List aA)(os:List (List Int))(n:Nat)(o:aQ):List Edge:=
 match kE (os.getD o.key.toNat []) o.value with
 | none=>[]
 | some b=>if b<(os.getD o.key.toNat []).length then jd h n (aB h o.key ((os.getD o.key.toNat []).getD b 0)) 3 else []
def iO(h:List aA)(os:List (List Int))(n:Nat)(o:aQ):List Edge:=jd h (aB h o.key o.value) n 2++lZ h os n o
def jr(h:List aA)(os:List (List Int))(n:Nat)(os':List aQ)(j:Nat):List Edge:=(os'.take j).flatMap (iO h os n)
def bZ(h:List aA)(os:List (List Int)):List Edge:=
 ((List.range 3).flatMap fun(key:Nat)=>chainTo h (key:Int) (os.getD key []) ((os.getD key []).length-1))++(aH h).flatMap fun n=>(kS (opsOf h n)).flatMap (iO h os n)
theorem sZ(h:List aA)(f t k:Int):(jd h f t k).length<=1:=by unfold jd;split<;>simp
def jH(w w':World):Prop:=w.heap.size<=w'.heap.size/\∀(k:Nat) (cs:Array Value) (t:TypeId) (fr:Nat × Nat),w.heap[k]? =some (Obj.cells cs t fr)->t≠177->t≠132->w'.heap[k]? =w.heap[k]?
theorem jH.refl(w:World):jH w w:=⟨Nat.le_refl _,fun _ _ _ _ _ _ _=>rfl⟩
theorem jH.aT{w w':World}(h:Ext w w'):jH w w':=⟨h.size,fun k _ _ _ hk _ _=>Below.block h k (Array.getElem?_eq_some_iff.1 hk).1⟩
theorem jH.trans{a b c:World}(h:jH a b)(k:jH b c):jH a c:=
 ⟨Nat.le_trans h.1 k.1,fun i cs t fr hi h1 h2=>(k.2 i cs t fr ((h.2 i cs t fr hi h1 h2).trans hi) h1 h2).trans (h.2 i cs t fr hi h1 h2)⟩
def LB(B base:Nat)(W:World)(es:List Edge):Prop:=∃v,Boxed W B 132 v/\Row 177 3 aR base W v es
theorem Jp(x:Edge)(j:Nat):(aR x j).oneCell'=true:=by unfold aR;split<;>rfl
theorem WR{base B:Nat}{W:World}{v:Value}{es:List Edge}(hO:Boxed W B 132 v)(H:Row 177 3 aR base W v es)(hbase:base<=W.heap.size)(hB:base<=B)(x:Edge)(hn:es.length+1<=4194304) :
 ∃v' w',(Builtin.append_ #[132,132] 132 #[v,.slice (some ⟨W.heap.size,0,none⟩) 1 1]).run Tryz.prog (W.alloc (.cells #[.int .i64 x.dV,.int .i64 x.to,.int .i64 x.kind] 177))=.ok v' w' /\
  Boxed w' B 132 v/\LB B base (w'.setCell ⟨B,0,none⟩ v') (es++[x])/\Below base W (w'.setCell ⟨B,0,none⟩ v')/\jH W (w'.setCell ⟨B,0,none⟩ v')/\∃A n c,v'=.slice A n c:=by
 obtain⟨i,hi,hz,hs,hby⟩:=oq uu;obtain⟨v',w',hrun,hown,hg,_,hat⟩:=run_append_own_at (P:=Tryz.prog) (w:=W.alloc (.cells #[.int .i64 x.dV,.int .i64 x.to,.int .i64 x.kind] 177)) base 132 132 177 i _ 3 24 Tryz.underlying132 hi hz hs hby rfl (by omega) v es.length _ (World.ownsRow.alloc H _)
  ⟨W.heap.size,0,none⟩ 1 1 (aI 3 aR x) rfl
  (fun j u hu=>by
   have hadd:(⟨W.heap.size,0,none⟩:Addr).add j=⟨W.heap.size,j,none⟩:=by unfold Addr.add;split<;>simp_all
   rw[hadd,cell_of_row _ _ j _ 177 (0,0) (heap_alloc_new W _)];have hcs:(aI 3 aR x)=[.int .i64 x.dV,.int .i64 x.to,.int .i64 x.kind]:=rfl;rw[hcs]at hu;simpa using hu)
  (fun u hu=>by simp[aI]at hu;obtain⟨j,_,rfl⟩:=hu;exact Jp x j) (by simp only[maxLen];omega)
  (by omega) (by simp;omega)
 have hrow':World.ownsRow w' base 177 3 v' (es.length+1) ((es++[x]).flatMap (aI 3 aR)):=by rw[List.flatMap_append];simpa using hown
 have AP:=Boxed.appended (tmp:=.cells #[.int .i64 x.dV,.int .i64 x.to,.int .i64 x.kind] 177) hO (by decide) H hbase hB hrow' hg;have hrow2:Row 177 3 aR base (w'.setCell ⟨B,0,none⟩ v') v' (es++[x]):=by unfold Row;rw[List.length_append];exact AP.2.2.1
 refine⟨v',w',hrun,AP.1,⟨v',AP.2.1,hrow2⟩,AP.2.2.2.2,?_,by obtain⟨A,c,e,_⟩:=hrow2.cell.1;exact⟨A,_,c,e⟩⟩;refine⟨AP.2.2.2.2.size,fun k cs t fr hk h1 h2=>?_⟩;have hkl:=(Array.getElem?_eq_some_iff.1 hk).1;have hkB:k≠B:=fun e=>by
  subst e
  have:=hO.symm.trans hk
  injection this with this;injection this with _ e2 _;exact h2 e2.symm
 rw[Below.heap_setCell _ _ _ _ hkB]
 refine(hg.block k (by simp;omega) (fun e=>?_)).trans (Below.block ((Ext.refl W).alloc _) k hkl)
 rcases H.2 with ⟨rfl,_⟩|⟨g,cap,cur,rfl,_,hgb,_⟩
 ·simp[Value.ownBlock]at e
 ·simp[Value.ownBlock]at e;subst e;rw[hgb]at hk;injection hk with hk;injection hk with _ e2 _;exact h1 e2.symm
theorem rW{h:List aA}{n:Nat}{t:aA}(ht:h[n]? =some t):isDone h (n:Int)=t.done:=by simp[isDone,ht]
def om(h:List aA)(B base:Nat)(W:World)(es:List Edge)(f t k:Int)(e:Ending)(W':World):Prop:=
 e=.returned (.tuple #[])/\LB B base W' (es++jd h f t k)/\Below base W W'/\jH W W'
theorem om.none{h:List aA}{B base:Nat}{W:World}{es:List Edge}{f t k:Int}(hL:LB B base W es)(hn:jd h f t k=[]):om h B base W es f t k (.returned (.tuple #[])) W:=
 ⟨rfl,by rw[hn,List.append_nil];exact hL,Below.refl _ _,jH.refl _⟩
theorem sN{bh B base:Nat}{hv:Value}{h:List aA}{es:List Edge}(f t k:Int)(W:World)(ch:W.cell? ⟨bh,0,none⟩=some hv)(H:gL W hv h)(hL:LB B base W es)(hbase:base<=W.heap.size)(hB:base<=B)(hn:es.length<=1000)(hlen:h.length<=6)(hf:f<h.length)(ht:t<h.length) :
 Calls Tryz.prog 196 #[.int .i64 f,.int .i64 t,.int .i64 k,.pointer (some ⟨bh,0,none⟩),.pointer (some ⟨B,0,none⟩)] W (om h B base W es f t k):=by
 obtain⟨A,c,rfl⟩:=H.slice;have HH:=aa H;have UT:=aa hL;clear H hL;by_cases h1:0<=f;case neg=>
  have hN:Hid (jd h f t k=[]):=if_neg (fun e=>h1 e.1);go_enter Tryz.func196,Tryz.ntmps196;go_wp2;go_end0
  exact om.none UT.out hN.out
 by_cases h2:0<=t;case neg=>
  have hN:Hid (jd h f t k=[]):=if_neg (fun e=>h2 e.2.1);go_enter Tryz.func196,Tryz.ntmps196;go_wp2;go_end0
  exact om.none UT.out hN.out
 obtain⟨a,rfl⟩:=Int.eq_ofNat_of_zero_le h1;obtain⟨d,rfl⟩:=Int.eq_ofNat_of_zero_le h2;by_cases h3:(a:Int)=(d:Int)
 ·have hN:Hid (jd h a d k=[]):=if_neg (fun e=>e.2.2.1 h3);have hne:((a:Int) != (d:Int))=false:=by simp[h3]
  clear h3;go_enter Tryz.func196,Tryz.ntmps196;go_wp2;go_end0
  exact om.none UT.out hN.out
 have hne:((a:Int) != (d:Int))=true:=by simpa using h3
 obtain⟨b,off,rfl,hbl,hc⟩:=HH.out.head (by omega);obtain⟨ta,hta⟩:=af (show a<h.length by omega);obtain⟨td,htd⟩:=af (show d<h.length by omega);obtain⟨_,_,_,ca,_⟩:=hc a ta hta;obtain⟨_,_,_,cd,_⟩:=hc d td htd;have ia:=rW hta;have id:=rW htd
 cases hda:ta.done with
 | false=>
   have hN:Hid (jd h a d k=[]):=if_neg (fun e=>by rw[ia,hda]at e;cases e.2.2.2.1);rw[hda]at ca;clear h3 ia id hta htd hc cd hda;go_enter Tryz.func196,Tryz.ntmps196;go_wp2;go_end0
   exact om.none UT.out hN.out
 | true=>
   rw[hda]at ca
   cases hdd:td.done with
   | false=>
     have hN:Hid (jd h a d k=[]):=if_neg (fun e=>by rw[id,hdd]at e;cases e.2.2.2.2);rw[hdd]at cd;clear h3 ia id hta htd hc hda hdd;go_enter Tryz.func196,Tryz.ntmps196;go_wp2;go_end0
     exact om.none UT.out hN.out
   | true=>
     have hN:Hid (jd h a d k=[⟨a,d,k⟩]):=if_pos ⟨h1,h2,h3,by rw[ia,hda],by rw[id,hdd]⟩;rw[hdd]at cd;obtain⟨v,hO,hR⟩:=UT.out;obtain⟨v',w',hrun,hB1,hL1,hE1,hK1,A1,n1,c1,rfl⟩:=WR hO hR hbase hB ⟨a,d,k⟩ (by omega);obtain⟨Av,cv,rfl,_⟩:=hR.cell.1;have cB:=hO.cell;have cB1:=hB1.cell;have fB1:=hB1.frozen;have aU:=aa hrun;have Zc:=aa hL1;have KO:=aa hE1;have HK1:=aa hK1;clear h3 ia id hta htd hc hda hdd hO hR hrun hB1 hL1 hE1 hK1;go_enter Tryz.func196,Tryz.ntmps196;go_wp2_with (at_builtin;refine wpList_append_run rfl rfl rfl rfl aU.out ?_)
     go_end0
     exact⟨rfl,by rw[hN.out];exact Zc.out,KO.out,HK1.out⟩
theorem Tz{α:Type}{m:Nat}{enc:α->Nat->Value}{w:World}{b off n c:Nat}{zs:List α}(h:aF m enc w (.slice (some ⟨b,off,none⟩) n c) zs){q:Nat}(hq:q<zs.length)(x:α) :
 aF m enc (w.setCells b (off+q*m) (aI m enc x)) (.slice (some ⟨b,off,none⟩) n c) (zs.set q x):=by
 obtain⟨A',c',e,hc⟩:=h;injection e with e1 e2 e3;subst e1 e2 e3;refine⟨_,_,by rw[List.length_set],fun hn=>?_⟩;rw[List.length_set]at hn;obtain⟨b',off',e,hbl,hc⟩:=hc hn;injection e with e;injection e with e1 e2;subst e1 e2;have hsz:∀(vs:List Value) (o:Nat) (w:World),(w.setCells b o vs).heap.size=w.heap.size:=fun vs=>by
  induction vs with
  | nil=>intro o w;rfl
  | cons v r ih=>intro o w;rw[World.setCells,ih];simp[World.setCell]
 refine⟨b,off,rfl,by rw[hsz];exact hbl,fun i z hz j hj=>?_⟩;have hlen:(aI m enc x).length=m:=by simp[aI]
 rw[List.getElem?_set]at hz;obtain⟨z0,hz0⟩:=af hq;by_cases hi:q=i
 ·subst hi;rw[if_pos rfl,if_pos hq]at hz;cases hz
  have:=World.cell?_setCells_in b (aI m enc x) (off+q*m) w (fun j' hj'=>by
   have:=hc q z0 hz0 j' (by rw[hlen]at hj';exact hj')
   rw[this];rfl) j (by rw[hlen];exact hj)
  rw[this]
  have:(aI m enc x)[j]? =some (enc x j):=by simp[aI,hj]
  rw[List.getElem?_eq_getElem (by rw[hlen];exact hj)]at this;exact this
 ·rw[if_neg hi]at hz;rw[World.cell?_setCells_out _ _ _ _ _ (fun _ _=>by
   rw[hlen];simp only;rcases Nat.lt_or_gt_of_ne hi with h1|h1
   ·have:=Nat.mul_le_mul_right m h1
    rw[Nat.succ_mul]at this;omega
   ·have:=Nat.mul_le_mul_right m h1
    rw[Nat.succ_mul]at this
    omega)]
  exact hc i z hz j hj
theorem Ud{α:Type}{m:Nat}{enc:α->Nat->Value}{w:World}{b off n c q:Nat}{zs rest:List α}(h:aF m enc w (.slice (some ⟨b,off,none⟩) n c) (zs++rest))(hq:zs.length=q)(vs:List Value):aF m enc (w.setCells b (off+q*m) vs) (.slice (some ⟨b,off,none⟩) q c) zs:=by
 obtain⟨A',c',e,hc⟩:=h;injection e with e1 e2 e3;subst e1 e2 e3;have hsz:∀(vs:List Value) (o:Nat) (w:World),(w.setCells b o vs).heap.size=w.heap.size:=fun vs=>by
  induction vs with
  | nil=>intro o w;rfl
  | cons v r ih=>intro o w;rw[World.setCells,ih];simp[World.setCell]
 refine⟨_,_,by rw[hq],fun hn=>?_⟩;obtain⟨b',off',e,hbl,hc⟩:=hc (by rw[List.length_append];omega);injection e with e;injection e with e1 e2;subst e1 e2;refine⟨b,off,rfl,by rw[hsz];exact hbl,fun i z hz j hj=>?_⟩;have hi:=(List.getElem?_eq_some_iff.1 hz).1;rw[World.cell?_setCells_out _ _ _ _ _ (fun _ _=>by
  simp only
  have:=Nat.mul_le_mul_right m (show i+1<=q by omega)
  rw[Nat.succ_mul]at this
  omega)]
 exact hc i z (by rw[List.getElem?_append_left hi];exact hz) j hj
structure lC (v:Value) (w w':World):Prop where
 only:Only v w w'
 ty:∀I,iY I w v->iY I w' v
theorem lC.aT{v:Value}{w w':World}(h:Ext w w'):lC v w w':=⟨Only.aT h,fun _ hi=>hi.ext h⟩
theorem lC.trans{v:Value}{a b c:World}(h:lC v a b)(k:lC v b c):lC v a c:=⟨h.only.trans k.only,fun I hi=>k.ty I (h.ty I hi)⟩
theorem mV{I:TypeId}{w:World}{v:Value}(h:iY I w v)(p:Addr)(u:Value):iY I (w.setCell p u) v:=fun a n c hv hn=>by
 obtain⟨cs,fr,hg⟩:=h a n c hv hn;simp only[World.setCell,Array.getElem?_modify];by_cases e:p.block=a.block
 ·rw[if_pos e,hg];exact⟨_,_,rfl⟩
 ·rw[if_neg e];exact⟨cs,fr,hg⟩
theorem lC.setCell{a:Addr}{n c:Nat}{w:World}(hn:0<n)(off:Nat)(u:Value):lC (.slice (some a) n c) w (w.setCell ⟨a.block,off,none⟩ u):=⟨Only.setCell hn off u,fun _ h=>mV h _ _⟩
theorem aaR{w:World}{b off n c q:Nat}{u1 u2 u3:Value}(hn:0<n):lC (.slice (some ⟨b,off,none⟩) n c) w (((w.setCell ⟨b,q,none⟩ u1).setCell ⟨b,q+1,none⟩ u2).setCell ⟨b,q+2,none⟩ u3):=
 ((lC.setCell (a:=⟨b,off,none⟩) hn q u1).trans (lC.setCell (a:=⟨b,off,none⟩) hn (q+1) u2)).trans (lC.setCell (a:=⟨b,off,none⟩) hn (q+2) u3)
theorem Fq{b off n c:Nat}(hn:0<n):∀(vs:List Value) (o:Nat) (w:World),lC (.slice (some ⟨b,off,none⟩) n c) w (w.setCells b o vs)
 | [],_,w=>lC.aT (Ext.refl w)
 | v :: r,o,w=>(lC.setCell (a:=⟨b,off,none⟩) hn o v).trans (Fq hn r (o+1) _)
theorem sM{α:Type}{m:Nat}{enc:α->Nat->Value}{w:World}{v:Value}{xs:List α}(h:aF m enc w v xs){b o:Nat}(hv:∀a n c,v=.slice (some a) n c->0<n->a.block≠b)(u:Value):aF m enc (w.setCell ⟨b,o,none⟩ u) v xs:=by refine h.only (v:=.slice (some ⟨b,0,none⟩) 1 1) (Only.setCell (a:=⟨b,0,none⟩) (by omega) o u) (fun a n c a' n' c' h1 h2 h3 _=>?_);injection h2 with h2;injection h2 with h2;subst h2;exact hv a n c h1 h3
theorem qM{lo:Nat}{w:World}{v:Value}(h:Own lo w v)(b o:Nat)(u:Value):Own lo (w.setCell ⟨b,o,none⟩ u) v:=by exact h.only (v:=.slice (some ⟨b,0,none⟩) 1 1) (Only.setCell (a:=⟨b,0,none⟩) (by omega) o u)
def jM(p:aQ->Bool)(xs:List aQ)(j:Nat):List aQ:=(xs.take j).filter fun o=>!p o
theorem Fa{p:aQ->Bool}{xs:List aQ}{j:Nat}{x:aQ}(hx:xs[j]? =some x)(hp:p x=true):jM p xs (j+1)=jM p xs j:=by unfold jM;rw[ah hx,List.filter_append];simp[hp]
theorem Nu{p:aQ->Bool}{xs:List aQ}{j:Nat}{x:aQ}(hx:xs[j]? =some x)(hp:p x=false):jM p xs (j+1)=jM p xs j++[x]:=by unfold jM;rw[ah hx,List.filter_append];simp[hp]
theorem PG{p:aQ->Bool}{xs:List aQ}:jM p xs xs.length=xs.filter fun o=>!p o:=by unfold jM;rw[List.take_length]
theorem Jq{α:Type}{p:α->Bool}:∀(xs:List α) (k:Nat),(findAt p xs k=-1/\∀x∈xs,p x=false)∨∃i x,findAt p xs k=((k+i:Nat):Int)/\xs[i]? =some x/\p x=true/\∀(j:Nat) y,j<i->xs[j]? =some y->p y=false
 | [],_=>.inl ⟨rfl,fun _ h=>by cases h⟩
 | a :: xs,k=>by
   unfold findAt
   cases ha:p a with
   | true=>exact .inr ⟨0,a,by simp,rfl,ha,fun j y hj=>absurd hj (Nat.not_lt_zero j)⟩
   | false=>
     rcases Jq xs (k+1) with ⟨h1,h2⟩|⟨i,x,h1,h2,h3,h4⟩
     ·exact .inl ⟨by simpa using h1,fun x hx=>by rcases List.mem_cons.1 hx with rfl|hx;exact ha;exact h2 x hx⟩
     ·refine .inr ⟨i+1,x,by simp only[Bool.false_eq_true,if_false,h1];omega,h2,h3,fun j y hj hy=>?_⟩
      cases j with
      | zero=>cases hy;exact ha
      | succ j=>exact h4 j y (by omega) hy
theorem Ld{p:aQ->Bool}{xs:List aQ}{i:Nat}(h:∀(j:Nat) y,j<i->xs[j]? =some y->p y=false):jM p xs i=xs.take i:=by
 unfold jM;rw[List.filter_eq_self];intro a ha;obtain⟨j,hj⟩:=List.getElem?_of_mem ha;have hji:j<i:=by have:=(List.getElem?_eq_some_iff.1 hj).1;rw[List.length_take]at this;omega
 rw[List.getElem?_take_of_lt hji]at hj;rw[h j a hji hj];rfl
theorem EY:(Tryz.prog.info? 71).map (fun i=>(i.zero,i.size,i.bytes))=some (some (.agg #[.int .i64 0,.int .i64 0,.int .i64 0]),3,24):=by kernel_rfl
theorem Ip{A:Option Addr}{n c lo:Nat}{xs:List aQ}(w:World)(F:FuncId)(cap:Array Value)(p:aQ->Bool)(E:World->Prop)(h:aF 3 aj w (.slice A n c) xs)(ho:Own lo w (.slice A n c))(hlen:xs.length<=2097152)(hcap:n<=c/\c<=9223372036854775807)
 (hE:E w) (hEs:∀W W',E W->Only (.slice A n c) W W'->E W')
 (hcf:∀args W,(callFunc F args).run Tryz.prog W=.ok (.enter F args) W) (hF:∀x∈xs,∀W,E W->Calls Tryz.prog F (#[.agg #[.int .i64 x.kind,.int .i64 x.key,.int .i64 x.value]]++cap) W fun e w'=>e=.returned (.bool (p x))/\Ext W w') :
 Calls Tryz.prog 148 #[.slice A n c,.func (.func F) #[] cap] w fun e w'=>∃q,q<=n/\e=.returned (.slice A q c)/\aF 3 aj w' (.slice A q c) (xs.filter fun o=>!p o)/\lC (.slice A n c) w w':=by
 obtain rfl:n=xs.length:=by obtain⟨A',c',e,_⟩:=id h;injection e
 have H:=aa h;have HE:=aa hE;have HEs:=aa hEs;have HF:=aa hF;have hidx:=aa (sG w F cap p h hlen hcf (fun x hx W hb=>HF.out x hx W (HEs.out _ _ HE.out (Only.aT hb))));have HFZ:Hid (0<xs.length->∀b off,A=some ⟨b,off,none⟩->b<w.heap.size/\∀i,w.frozen? ⟨b,i,none⟩=false):=fun hn b off e=>by subst e;exact(ho _ _ _ rfl hn).2
 clear h hE hEs hF ho;rcases Jq (p:=p) xs 0 with ⟨hm,hall⟩|⟨f,xf,hm,hxf,hpf,hbef⟩
 ·rw[hm]at hidx;have PI:Hid ((xs.filter fun o=>!p o)=xs):=by show _ = _;rw[List.filter_eq_self];intro a ha;rw[hall a ha];rfl
  clear hm hall;go_enter Tryz.func148,Tryz.ntmps148;go_wp2_with (go_at_call 114;refine hidx.out.mono ?_;rintro e w1 ⟨rfl,b1⟩)
  go_returns;exact⟨_,Nat.le_refl _,rfl,by rw[PI.out];exact H.out.ext b1,lC.aT b1⟩
 ·simp only[Nat.zero_add]at hm;rw[hm]at hidx;have hfl:f<xs.length:=(List.getElem?_eq_some_iff.1 hxf).1;obtain⟨b,off,rfl,hbl⟩:∃b off,A=some ⟨b,off,none⟩/\b<w.heap.size:=by obtain⟨A',c',e,hc⟩:=H.out;injection e with e1 e2 e3;subst e1 e3;obtain⟨b,off,rfl,hbl,_⟩:=hc (by omega);exact⟨b,off,rfl,hbl⟩
  have hn:0<xs.length:=by omega
  have hfz:=(HFZ.out hn b off rfl).2;have adz:=aa hfz;have HL0:Hid (jM p xs (f+1)=xs.take f):=by show _ = _;rw[Fa hxf hpf,Ld hbef]
  clear hm hfz hbef HFZ;have hf1:(0:Int)<=(f:Int):=by omega
  have hfn:((f:Int) == -1)=false:=by simp
  go_enter Tryz.func148,Tryz.ntmps148;go_wp2_with (go_at_call 114;refine hidx.out.mono ?_;rintro e w1 ⟨rfl,b1⟩)
  clear hidx;go_loopw [5,6] (fun qv jv wr=>∃q j:Nat,j<=xs.length/\q+1<=j/\qv=.int .i64 (q:Int)/\jv=.int .i64 (j:Int)/\Hid (lC (.slice (some ⟨b,off,none⟩) xs.length c) w wr)/\Hid (q=(jM p xs j).length)/\Hid (aF 3 aj wr (.slice (some ⟨b,off,none⟩) xs.length c) (jM p xs j++xs.drop q))) (fun _ jv _=>xs.length-(intOf jv).toNat)
  case atStart=>
   refine⟨f,f+1,by omega,by omega,rfl,by go_num,lC.aT b1,?_,?_⟩
   ·show _ = _;rw[HL0.out,List.length_take];omega
   ·show aF _ _ _ _ _;rw[HL0.out,List.take_append_drop];exact H.out.ext b1
  case round=>
   obtain⟨q,j,hj,hq,rfl,rfl,HO,HL,HS⟩:=hrel;by_cases hjt:j<xs.length
   ·obtain⟨A',c',e,hc⟩:=HS.out;injection e with e1 e2 e3;subst e1 e3;clear e2;have Kh:=HL.out;have hzl:(jM p xs j++xs.drop q).length=xs.length:=by rw[List.length_append,List.length_drop,<-Kh];omega
    obtain⟨b',off',e,WZ,hc⟩:=hc (by omega);injection e with e;injection e with e1 e2';subst e1 e2';have hz:∀(i:Nat) z,q<=i->xs[i]? =some z->(jM p xs j++xs.drop q)[i]? =some z:=fun i z hi h=>by rw[List.getElem?_append_right (by omega),<-Kh,List.getElem?_drop,show q+(i-q)=i by omega];exact h
    obtain⟨x,hx⟩:=af hjt;obtain⟨z2,hz2⟩:=af (show q<(jM p xs j++xs.drop q).length by omega);have gx:=hc j x (hz _ _ (by omega) hx);have gz:=hc q z2 hz2;have c0:wr.cell? ⟨b,off+j*3,none⟩=some (.int .i64 x.kind):=gx 0 (by omega);have c1:wr.cell? ⟨b,off+j*3+1,none⟩=some (.int .i64 x.key):=gx 1 (by omega);have c2:wr.cell? ⟨b,off+j*3+2,none⟩=some (.int .i64 x.value):=gx 2 (by omega);have HX:=aa hx;have HG:Hid ((jM p xs j++xs.drop q)[q]? =some z2):=hz2;have HZL:=aa hzl;have hxm:=List.mem_of_getElem? hx;have PD:=HO;have HS2:=HS;have HL2:=HL;have HFX:=aa (HF.out x hxm);clear hc hz hx hz2 gx gz Kh hzl hxm HS HO HL;go_wp2_with fail
    refine(HFX.out _ (HEs.out _ _ HE.out (PD.out.only.trans (Only.aT ((Ext.refl _).alloc _))))).mono ?_
    rintro e w2 ⟨rfl,b2⟩;have HB2:Hid (Ext wr w2):=((Ext.refl _).alloc _).trans b2;have hbx:w2.cell? ⟨wr.heap.size,0,none⟩=some (.int .i64 x.kind):=b2.cell (av rfl);have af3:w2.cell? ⟨wr.heap.size,1,none⟩=some (.int .i64 x.key):=b2.cell (av rfl);have af2:w2.cell? ⟨wr.heap.size,2,none⟩=some (.int .i64 x.value):=b2.cell (av rfl);have HO3:Hid (lC (.slice (some ⟨b,off,none⟩) xs.length c) w w2):=PD.out.trans (lC.aT HB2.out);have L6:Hid (aF 3 aj w2 (.slice (some ⟨b,off,none⟩) xs.length c) (jM p xs j++xs.drop q)):=HS2.out.ext HB2.out;have hz3:∀i,i<3->w2.cell? ⟨b,off+q*3+i,none⟩=some (aj z2 i):=fun i hi=>by obtain⟨A',c',e,hc⟩:=L6.out;injection e with e1 e2 e3;subst e1 e3;obtain⟨b',off',e,_,hc⟩:=hc (by rw[HZL.out];omega);injection e with e;injection e with e1 e2';subst e1 e2';exact hc q z2 HG.out i hi
    have e0:w2.cell? ⟨b,off+q*3,none⟩=some (.int .i64 z2.kind):=hz3 0 (by omega);have e1:w2.cell? ⟨b,off+q*3+1,none⟩=some (.int .i64 z2.key):=hz3 1 (by omega);have e2:w2.cell? ⟨b,off+q*3+2,none⟩=some (.int .i64 z2.value):=hz3 2 (by omega);have Rv:∀i,w2.frozen? ⟨b,i,none⟩=false:=fun i=>(HO3.out.only.uN ⟨b,i,none⟩ hbl).trans (adz.out i);have f0:=Rv (off+q*3);have f1:=Rv (off+q*3+1);have f2:=Rv (off+q*3+2);have hq1:(q:Int)<(xs.length:Int):=by omega
    clear hz3 Rv b2 PD HS2 HFX c0 c1 c2
    cases hp:p x with
    | true=>
      have HN:=aa (Fa HX.out hp);go_wp2;go_roundw;case rel=>exact⟨q,j+1,by omega,by omega,rfl,by go_num,HO3,by rw[HN.out];exact HL2,by rw[HN.out];exact L6⟩
      case measure=>simp[intOf];omega
    | false=>
      have HN:=aa (Nu HX.out hp);go_wp2;go_roundw;case rel=>exact⟨q+1,j+1,by omega,by omega,by go_num,by go_num,HO3.out.trans (aaR hn),by show _ = _;rw[HN.out,List.length_append,<-HL2.out];rfl,by
       have h3:=Tz L6.out (q:=q) (by rw[HZL.out];omega) x;obtain⟨zq,hzq⟩:=af (show q<xs.length by omega);rw[R8 HL2.out (z:=zq) (by rw[List.getElem?_drop];exact hzq),List.drop_drop,<-HN.out]at h3;exact h3⟩
      case measure=>simp[intOf];omega
   ·have heq:j=xs.length:=by omega
    have Kh:=HL.out;have hzl:(jM p xs j++xs.drop q).length=xs.length:=by rw[List.length_append,List.length_drop,<-Kh];omega
    have adt:∀W,(Instr.slice 46 (.slice (some ⟨b,off,none⟩) xs.length c) (some (.int .i64 (q:Int))) none none).run Tryz.prog W=.ok (.slice (some ⟨b,off+q*3,none⟩) (xs.length-q) (c-q)) W:=fun W=>by
     have hadd:(⟨b,off,none⟩:Addr).add (q*3)=⟨b,off+q*3,none⟩:=by unfold Addr.add;split<;>simp_all
     have:=mh (P:=Tryz.prog) (A:=some ⟨b,off,none⟩) (n:=xs.length) (c:=c) Tryz.underlying46 EY q (by omega) W
     rw[if_neg (by omega)]at this;simp only[Option.map_some,hadd]at this;exact this
    have RN:∀W,(Instr.slice 46 (.slice (some ⟨b,off,none⟩) xs.length c) none (some (.int .i64 (q:Int))) none).run Tryz.prog W=.ok (.slice (some ⟨b,off,none⟩) q c) W:=fun W=>by
     have:=mR (P:=Tryz.prog) (A:=some ⟨b,off,none⟩) (n:=xs.length) (c:=c) Tryz.underlying46 EY q (by omega) W
     rw[if_neg (by omega)]at this
     simpa[Addr.add] using this
    obtain⟨cs,hcs⟩:∃cs,(Builtin.zeroCells (Value.agg #[Value.int .i64 0,Value.int .i64 0,Value.int .i64 0]).cells (xs.length-q)).toList=cs:=⟨_,rfl⟩;have aaz:cs.length=(xs.length-q)*3:=by rw[<-hcs];simp[Builtin.zeroCells,Value.cells]
    have hcs1:∀v∈cs,v.oneCell'=true:=by
     rw[<-hcs];intro v hv;simp[Builtin.zeroCells,Value.cells]at hv;obtain⟨a,_,rfl⟩:=hv;have h3:a%3<3:=Nat.mod_lt _ (by omega);generalize a%3=r at h3
     match r,h3 with
     | 0,_=>rfl
     | 1,_=>rfl
     | 2,_=>rfl
    have hcl:∀ty,(Builtin.clear_ #[46] ty #[.slice (some ⟨b,off+q*3,none⟩) (xs.length-q) (c-q)]).run Tryz.prog wr=.ok (.tuple #[]) (wr.setCells b (off+q*3) cs):=
     fun ty=>uL wr _ _ ty _ Tryz.underlying46 (fun w=>by kernel_rfl) b (off+q*3) _ _ (by omega) cs hcs (fun i hi=>by
      obtain⟨A',c',e,hc⟩:=HS.out;injection e with e1 e2 e3;subst e1 e3;obtain⟨b',off',e,_,hc⟩:=hc (by omega);injection e with e;injection e with e1 e2';subst e1 e2';obtain⟨z,hz⟩:=af (show q+i/3<(jM p xs j++xs.drop q).length by omega)
      have:=hc (q+i/3) z hz (i%3) (by omega)
      rw[show off+(q+i/3)*3+i%3=off+q*3+i by omega]at this;rw[this];rfl) (fun i hi=>(HO.out.only.uN ⟨b,_,none⟩ hbl).trans (adz.out _)) hcs1
    have HW:Hid (aF 3 aj (wr.setCells b (off+q*3) cs) (.slice (some ⟨b,off,none⟩) q c) (xs.filter fun o=>!p o)):=by
     have:=HS.out
     rw[heq]at this Kh;rw[<-PG];exact Ud this Kh.symm cs
    have HOW:Hid (lC (.slice (some ⟨b,off,none⟩) xs.length c) w (wr.setCells b (off+q*3) cs)):=HO.out.trans (Fq hn cs _ _);have i5:decide ((j:Int)<(xs.length:Int))=false:=decide_eq_false (by omega);have ML:q<=xs.length:=by omega
    clear HS HO HL hzl Kh hcs aaz hcs1 heq;go_wp2;go_returns;exact⟨q,ML,rfl,HW.out,HOW.out⟩
theorem Mg(A:Option Addr)(n c:Nat)(w:World)(hc:n<=c)(hc2:c<=9223372036854775807) :
 Calls Tryz.prog 150 #[.slice A n c] w fun e w'=>e=.returned (.slice A n n)/\w=w':=by
 go_enter Tryz.func150,Tryz.ntmps150;go_wp2;go_returns;exact⟨rfl,rfl⟩
theorem SA{w:World}{A:Option Addr}{n c:Nat}{rs:List iX}{h:List aA}(H:jI w (.slice A n c) rs h)(c':Nat):jI w (.slice A n c') rs h:=⟨H.1,pO H.2.1 c',H.2.2⟩
theorem O6{A:Option Addr}{n c:Nat}{v:Value}(h:Apart (.slice A n c) v)(c':Nat):Apart (.slice A n c') v:=fun a k d a' k' d' e1 e2 h1 h2=>by injection e1 with e1 e3 e4;subst e1 e3;exact h a _ c a' k' d' rfl e2 h1 h2
theorem Ub{lo:Nat}{w:World}{A:Option Addr}{n c:Nat}{rs:List iX}(H:iZ lo w (.slice A n c) rs)(c':Nat):iZ lo w (.slice A n c') rs:=
 ⟨OU H.1 c',fun i r hr=>⟨(H.2.1 i r hr).1,O6 (H.2.1 i r hr).2 c'⟩,H.2.2⟩
theorem JW:Dt Tryz.prog 71 fP:=
 Gf Tryz.underlying71 (fun k p=>by simp[Instr.sameNow]) (fun b k W=>by
  have u3:=Tryz.underlying3;have a3:=Tryz.isAgg3;have z3:=Tryz.sizeOf3;have hi:∀x W,(Instr.checkKey b 9999 3 (.int .i64 x)).run Tryz.prog W=.ok () W:=fun x W=>Go.MapKept.run_checkKey u3 (by simp[Go.MapKept.IsKey]) b 9998;unfold fP;rw[show (10000:Nat)=9999+1 from rfl,Instr.checkKey];simp only[Sem.run_bind,run_underlying Tryz.underlying71,Result.andThen_ok];go_simp) (fun k p W=>by
   have h:=pY k.kind k.key k.value p.kind p.key p.value W;unfold fP;simp only[Op.equal,Op.maxDepth];rw[h];congr 1;rw[Bool.eq_iff_iff];obtain⟨a,b,c⟩:=k;obtain⟨a',b',c'⟩:=p
   simp) (fun k=>by unfold fP;simp[Instr.sameBits])
theorem j4.only{K:Type}[DecidableEq K]{iH:K->Value}{m:K->Option Value}{w w':World}{g:Nat}{v:Value}(h:j4 w g iH m)(ho:Only v w w')(hv:∀a n c,v=.slice (some a) n c->0<n->a.block≠g):j4 w' g iH m:=by have hl:=h.lt;obtain⟨es,xN,l,h,h2⟩:=h;exact⟨es,xN,l,(ho.block g hl hv).trans h,h2⟩
def zi(ops:List aQ)(o:aQ):Option Value:=if mM o&&ops.any (fun w=>iN w&&(w.key==o.key&&w.value==o.value)) then some (.bool true) else none
def uY(g:Nat)(m:aQ->Option Value)(W:World):Prop:=W.cell? ⟨g+1,0,none⟩=some (.map (some g))/\j4 W g fP m
theorem J5(g:Nat)(ops:List aQ)(o:aQ)(W:World)(h:uY g (zi ops) W) :
 Calls Tryz.prog 149 (#[.agg #[.int .i64 o.kind,.int .i64 o.key,.int .i64 o.value]]++#[.pointer (some ⟨g+1,0,none⟩)]) W fun e w'=>e=.returned (.bool (mM o&&ops.any (fun w=>iN w&&(w.key==o.key&&w.value==o.value))))/\Ext W w':=by
 show Calls Tryz.prog 149 #[.agg #[.int .i64 o.kind,.int .i64 o.key,.int .i64 o.value],.pointer (some ⟨g+1,0,none⟩)] W _;obtain⟨h1',h2⟩:=h;have h1:=((Ext.refl W).alloc (.cells #[.int .i64 o.kind,.int .i64 o.key,.int .i64 o.value] 71)).cell h1';have hl1:=Ac (w:=W.alloc (.cells #[.int .i64 o.kind,.int .i64 o.key,.int .i64 o.value] 71)) Tryz.underlying173 JW Jz (h2.ext ((Ext.refl _).alloc _)) o;unfold fP at hl1;have hv:((zi ops o).getD (.bool false))=.bool (mM o&&ops.any (fun w=>iN w&&(w.key==o.key&&w.value==o.value))):=by
  unfold zi;split
  ·rename_i h;rw[h];rfl
  ·rename_i h;simp only[Bool.not_eq_true]at h;rw[h];rfl
 rw[hv]at hl1;clear h2 hv;generalize (mM o&&ops.any (fun w=>iN w&&(w.key==o.key&&w.value==o.value)))=r at hl1 ⊢;go_enter Tryz.func149,Tryz.ntmps149;go_wp2;go_returns;exact⟨rfl,(Ext.refl _).alloc _⟩
theorem NC(args:Array Value)(W:World):(callFunc 149 args).run Tryz.prog W=.ok (.enter 149 args) W:=by kernel_rfl
theorem Tx{ops:List aQ}{j:Nat}{o:aQ}(ho:ops[j]? =some o)(hw:(o.kind==2)=true)(r:aQ):(if r=⟨1,o.key,o.value⟩ then some (.bool true) else zi (ops.take j) r)=zi (ops.take (j+1)) r:=by
 have hW:iN o=true:=hw;rw[ah ho];unfold zi;rw[List.any_append];by_cases e:r=⟨1,o.key,o.value⟩
 ·rw[if_pos e];subst e;simp[mM,hW]
 ·rw[if_neg e]
  have:(mM r&&(o.key==r.key&&o.value==r.value))=false:=by rw[Bool.eq_false_iff];intro h;simp only[mM,Bool.and_eq_true,beq_iff_eq]at h;apply e;obtain⟨a,b,c⟩:=r;simp only at h ⊢;obtain⟨rfl,rfl,rfl⟩:=h;rfl
  simp only[List.any_cons,List.any_nil,Bool.or_false,hW,Bool.true_and,Bool.and_or_distrib_left,this,Bool.or_false]
theorem Td{ops:List aQ}{j:Nat}{o:aQ}(ho:ops[j]? =some o)(hw:(o.kind==2)=false):zi (ops.take (j+1))=zi (ops.take j):=by have hW:iN o=false:=hw;funext r;rw[ah ho];unfold zi;rw[List.any_append];simp[hW]
theorem uY.ext{g:Nat}{m:aQ->Option Value}{W W':World}(h:uY g m W)(hb:Ext W W'):uY g m W':=⟨hb.cell h.1,h.2.ext hb⟩
def rQ(h:List aA)(n k:Nat):List aA:=((h.take k).eraseIdx n).map (qR h n)
theorem QU{h:List aA}{n:Nat}{t:aA}(ht:h[n]? =some t):rQ h n (n+1)=rQ h n n:=by
 unfold rQ;have hl:=(List.getElem?_eq_some_iff.1 ht).1;have h1:(h.take n).length=n:=by rw[List.length_take];omega
 rw[ah ht,List.eraseIdx_append_of_length_le (by omega),h1,Nat.sub_self,List.eraseIdx_of_length_le (by omega:(h.take n).length<=n)];simp
theorem Qr{h:List aA}{n k:Nat}{t:aA}(ht:h[k]? =some t)(hk:k≠n):rQ h n (k+1)=rQ h n k++[qR h n t]:=by
 unfold rQ;have hl:=(List.getElem?_eq_some_iff.1 ht).1;have h1:(h.take k).length=k:=by rw[List.length_take];omega
 rw[ah ht];rcases Nat.lt_or_ge n k with h2|h2
 ·rw[List.eraseIdx_append_of_lt_length (by omega),List.map_append];rfl
 ·rw[List.eraseIdx_of_length_le (by rw[List.length_append,h1];simp;omega),List.eraseIdx_of_length_le (by omega),List.map_append];rfl
theorem Tw{h:List aA}{n k:Nat}:(rQ h n k).length<=k:=by unfold rQ;rw[List.length_map];exact Nat.le_trans (List.length_eraseIdx_le _ _) (List.length_take_le _ _)
theorem Si{h:List aA}{n:Nat}:rQ h n h.length=mg h n:=by unfold rQ mg;rw[List.take_length]
theorem Oz{v:Value}{h:List aA}(n:Nat)(w:World)(H:gL w v h)(hn:n<h.length)(hlen:h.length<=2097152)(hM:∀t∈h,t.ops.length<=2097152) :
 Calls Tryz.prog 106 #[v,.int .i64 (n:Int)] w (qj w (mg h n)):=by
 obtain⟨A,c,rfl⟩:=H.slice;have HH:=aa H;have HM:=aa hM;have hmk:=@run_makeMap Tryz.prog;have hmr:=gY (P:=Tryz.prog) 24 48 Tryz.underlying24 mq h.length (by omega) (by omega);obtain⟨b,off,rfl,hbl,hc⟩:=HH.out.head (by omega);obtain⟨t,ht⟩:=af hn;obtain⟨ov,c0,c1,c2,hs⟩:=hc n t ht;obtain⟨A',c',rfl,_⟩:=id hs;have hl:=hM t (List.mem_of_getElem? ht);have HT:=aa ht;have HS:=aa hs;have hni:(n:Int)<(h.length:Int):=by omega
 have c0':=((((Ext.refl w).alloc (.map #[] 0)).alloc (.cells #[.map (some w.heap.size)] 173))).cell c0;have c1':=((((Ext.refl w).alloc (.map #[] 0)).alloc (.cells #[.map (some w.heap.size)] 173))).cell c1;have c2':=((((Ext.refl w).alloc (.map #[] 0)).alloc (.cells #[.map (some w.heap.size)] 173))).cell c2;clear H hM hc ht hs c0 c1 c2;go_enter Tryz.func106,Tryz.ntmps106;go_wp2;clear hmk;go_loopw [18] (fun i wr=>Ext w wr/\∃j:Nat,j<=t.ops.length/\i=.int .i64 (j:Int)/\Hid (uY w.heap.size (zi (t.ops.take j)) wr)) (fun i _=>t.ops.length-(intOf i).toNat)
 case atStart=>
  refine⟨((Ext.refl w).alloc _).alloc _,0,Nat.zero_le _,rfl,fT (by simp) rfl,?_⟩
  exact((j4.made w fP).congr (fun k=>by simp[zi])).ext ((Ext.refl _).alloc _)
 case round=>
  obtain⟨hb,j,hj,rfl,HG⟩:=hrel;by_cases hjt:j<t.ops.length
  ·obtain⟨A2,c3,hA2,hcc⟩:=HS.out.ext hb;injection hA2 with e1 e2 e3;subst e1 e3;obtain⟨b',off',rfl,pg,hcc⟩:=hcc (by omega);obtain⟨o,ho⟩:=af hjt;have d0:wr.cell? ⟨b',off'+j*3,none⟩=some (.int .i64 o.kind):=hcc j o ho 0 (by omega);have d1:wr.cell? ⟨b',off'+j*3+1,none⟩=some (.int .i64 o.key):=hcc j o ho 1 (by omega);have d2:wr.cell? ⟨b',off'+j*3+2,none⟩=some (.int .i64 o.value):=hcc j o ho 2 (by omega);have Ho:=aa ho;have hE2:Hid (Ext wr ((wr.alloc (.cells #[.int .i64 o.kind,.int .i64 o.key,.int .i64 o.value] 71)).alloc (.cells #[.int .i64 o.kind,.int .i64 o.key,.int .i64 o.value] 71))):=((Ext.refl _).alloc _).alloc _;have ZU:=aa (HG.out.ext hE2.out);have g0:=ZU.out.1;have hsz:w.heap.size+2<=wr.heap.size:=by
    have h1:=HG.out.1
    have:w.heap.size+1<wr.heap.size:=by
     rcases Nat.lt_or_ge (w.heap.size+1) wr.heap.size with h'|h'
     ·exact h'
     ·simp[World.cell?,Array.getElem?_eq_none h']at h1
    omega
   clear hcc ho e2
   cases hw:(o.kind==2) with
   | false=>
     have HN:=aa (Td Ho.out hw);go_wp2_with (go_at_call 93;refine(eX _ _ _ _).mono ?_;rw[hw];rintro e w' ⟨rfl,rfl⟩)
     go_roundw;case rel=>exact⟨hb.trans hE2.out,j+1,by omega,by go_num,by rw[HN.out];exact ZU⟩
     case measure=>simp[intOf];omega
   | true=>
     obtain⟨ob,hu,hG,_⟩:=fG Tryz.underlying173 JW ZU.out.2 ⟨1,o.key,o.value⟩ (.bool true);have HG2:=aa (hG.congr (Tx Ho.out hw));unfold fP at hu;clear hG;go_wp2_with (go_at_call 93;refine(eX _ _ _ _).mono ?_;rw[hw];rintro e w' ⟨rfl,rfl⟩)
     go_roundw;case rel=>exact⟨(hb.trans hE2.out).aS (Nat.le_refl _) _,j+1,by omega,by go_num,by show _/\_;exact⟨(NH (by simp)).trans g0,HG2.out⟩⟩
     case measure=>simp[intOf];omega
  ·obtain rfl:j=t.ops.length:=by omega
   have uK:Hid (uY w.heap.size (zi t.ops) wr):=by have:=HG.out;rw[List.take_length]at this;exact this
   obtain⟨wa,rfl⟩:∃wa:World,wa=wr:=⟨_,rfl⟩;have hsz:Hid (w.heap.size+2<=wa.heap.size):=by
    have h1:=uK.out.1;show _<=_;rcases Nat.lt_or_ge (w.heap.size+1) wa.heap.size with h'|h'
    ·omega
    ·simp[World.cell?,Array.getElem?_eq_none h']at h1
   clear HG c0' c1' c2';go_wp2;clear hmr;go_loopw [8,36] (fun o i wr=>Ext wa wr/\∃k:Nat,k<=h.length/\i=.int .i64 (k:Int)/\Hid (∃rs,mW 48 71 wa.heap.size wr o rs (rQ h n k))) (fun _ i _=>h.length-(intOf i).toNat)
   case atStart=>exact⟨(Ext.refl _).alloc _,0,Nat.zero_le _,rfl,[],by have:rQ h n 0=[]:=by simp[rQ]
                                                                      rw[this];exact JO _ h.length (by unfold maxLen;omega) (size_madeCells _ _)⟩
   case round=>
    obtain⟨hbk,k,hk,rfl,HI⟩:=hrel;by_cases hlt:k<h.length
    ·obtain⟨b3,zh,e3,_,hcc⟩:=((HH.out.ext hb).ext hbk).head (by omega);injection e3 with e3;injection e3 with e3 e4;subst e3 e4;obtain⟨u,hu⟩:=af hlt;obtain⟨ov,c0,c1,c2,hs⟩:=hcc k u hu;obtain⟨A4,c4,rfl,_⟩:=id hs;have hl2:=HM.out u (List.mem_of_getElem? hu);obtain⟨rs,hB⟩:=HI.out;have HU:=aa hu;have HB:=aa hB;have hrl:rs.length<=k:=by rw[hB.1];exact Tw
     have Ay:=aa (hs.ext ((Ext.refl wr).alloc (.cells #[.int .i64 u.az,.slice A4 u.ops.length c4,.bool u.done] 48)));have Xx:=aa (uK.out.ext hbk);have hle:wa.heap.size<=wr.heap.size:=hbk.size;clear hcc hu hs hB HI;by_cases hkn:k=n
     ·subst hkn;have HP:=aa (QU HU.out);go_wp2;go_roundw;case rel=>exact⟨hbk.alloc _,k+1,by omega,by go_num,rs,by rw[HP.out];exact HB.out.ext ((Ext.refl _).alloc _)⟩
      case measure=>simp[intOf];omega
     ·have hkz:((k:Int)==(n:Int))=false:=by simp;omega
      have HP:=aa (Qr HU.out hkn);clear hkn;go_wp2_with fail
      refine(vS u.az u.done _ Ay.out hl2).mono ?_
      rintro e w1 ⟨A1,rfl,s1,o1,i1,b1⟩;have hq:wr.heap.size<w1.heap.size:=by have:=b1.size;simp at this;omega
      obtain⟨q,hqe⟩:∃q,wr.heap.size=q:=⟨_,rfl⟩;have HB1:Hid (Ext wr w1):=((Ext.refl _).alloc _).trans b1;have HV:Hid (∀a n c,Value.slice A1 u.ops.length u.ops.length=.slice (some a) n c->0<n->a.block≠q):=fun a n c e hn=>by
       have:=(o1 a n c e hn).1
       simp at this;omega
      have z0:w1.cell? ⟨wr.heap.size,0,none⟩=some (.int .i64 u.az):=b1.cell (av rfl);have z1:w1.cell? ⟨wr.heap.size,1,none⟩=some (.slice A4 u.ops.length c4):=b1.cell (av rfl);have z2:w1.cell? ⟨wr.heap.size,2,none⟩=some (.bool u.done):=b1.cell (av rfl);have hf1:∀j,w1.frozen? ⟨wr.heap.size,j,none⟩=false:=fun j=>(b1.frozen (p:=⟨wr.heap.size,j,none⟩) (by simp)).trans (gN j rfl);have y0:=hf1 0;have y1:=hf1 1;have y2:=hf1 2;have HW1:Hid (∃W,W=(((w1.setCell ⟨q,0,none⟩ (.int .i64 u.az)).setCell ⟨q,1,none⟩ (.slice A1 u.ops.length u.ops.length)).setCell ⟨q,2,none⟩ (.bool u.done))/\aF 3 aj W (.slice A1 u.ops.length u.ops.length) u.ops/\Own (wr.heap.size+1) W (.slice A1 u.ops.length u.ops.length)/\iY 71 W (.slice A1 u.ops.length u.ops.length)/\uY w.heap.size (zi t.ops) W/\Ext wr W/\q<W.heap.size/\W.cell? ⟨q,0,none⟩=some (.int .i64 u.az)/\W.cell? ⟨q,1,none⟩=some (.slice A1 u.ops.length u.ops.length)/\W.cell? ⟨q,2,none⟩=some (.bool u.done)/\∀j,W.frozen? ⟨q,j,none⟩=false):=by
       have hE1:Ext wr (((w1.setCell ⟨q,0,none⟩ (.int .i64 u.az)).setCell ⟨q,1,none⟩ (.slice A1 u.ops.length u.ops.length)).setCell ⟨q,2,none⟩ (.bool u.done)):=((HB1.out.setCell (by simp;omega) _).setCell (by simp;omega) _).setCell (by simp;omega) _;refine⟨_,rfl,sM (sM (sM s1 HV.out _) HV.out _) HV.out _,qM (qM (qM (o1.mono (by simp)) _ _ _) _ _ _) _ _ _,mV (mV (mV i1 _ _) _ _) _ _,Xx.out.ext hE1,hE1,by simp;omega,?_,?_,?_,fun j=>?_⟩
       ·subst hqe;rw[au (by simp),au (by simp)];exact dx z0 _
       ·subst hqe;rw[au (by simp)];exact dx ((au (by simp) _).trans z1) _
       ·subst hqe;exact dx (((au (by simp) _).trans ((au (by simp) _).trans z2))) _
       ·subst hqe;exact(Only.setCell (a:=⟨wr.heap.size,0,none⟩) (n:=1) (c:=1) (by omega) 2 _).uN _ (by simpa using hq) |>.trans ((Only.setCell (a:=⟨wr.heap.size,0,none⟩) (n:=1) (c:=1) (by omega) 1 _).uN _ (by simpa using hq)) |>.trans ((Only.setCell (a:=⟨wr.heap.size,0,none⟩) (n:=1) (c:=1) (by omega) 0 _).uN _ (by simpa using hq)) |>.trans (hf1 j)
      obtain⟨W,hWe,sW,oW,iW,gW,bW,qW,x0,x1,x2,xf⟩:=HW1.out;have adj:=aa (Ip W 149 #[.pointer (some ⟨w.heap.size+1,0,none⟩)] (fun o=>mM o&&t.ops.any (fun w=>iN w&&(w.key==o.key&&w.value==o.value))) (uY w.heap.size (zi t.ops)) sW oW (by omega) ⟨Nat.le_refl _,by omega⟩ gW (fun X Y hX hXY=>by
       have hne:∀a n c,Value.slice A1 u.ops.length u.ops.length=.slice (some a) n c->0<n->w.heap.size+1<a.block:=fun a n c e hn=>by have h1:=(oW a n c e hn).1;have h2:=hsz.out;omega
       exact⟨hXY.cell (fun a n c e hn=>by have:=hne a n c e hn;simp;omega) hX.1,hX.2.only hXY (fun a n c e hn=>by have:=hne a n c e hn;omega)⟩) NC (fun x _ X hX=>J5 w.heap.size t.ops x X hX))
      have SW:=aa (And.intro sW (And.intro oW iW));have XF:=aa xf;have BW:=aa bW;have abY:=aa hWe;clear s1 o1 i1 b1 hf1 HW1 sW oW iW gW xf bW HB1 Xx Ay;subst hqe;go_wp2_with fail
      rw[<-abY.out];refine adj.out.mono ?_;rintro e w2 ⟨m,hm,rfl,s2,o2⟩;have hne:∀a n c,Value.slice A1 u.ops.length u.ops.length=.slice (some a) n c->0<n->a.block≠wr.heap.size:=fun a n c e hn=>by
       have:=(SW.out.2.1 a n c e hn).1
       omega
      replace x0:=o2.only.cell (fun a n c e hn=>hne a n c e hn) x0;replace x1:=o2.only.cell (fun a n c e hn=>hne a n c e hn) x1;replace x2:=o2.only.cell (fun a n c e hn=>hne a n c e hn) x2;have y0:w2.frozen? ⟨wr.heap.size,0,none⟩=false:=(o2.only.uN _ qW).trans (XF.out 0);have y1:w2.frozen? ⟨wr.heap.size,1,none⟩=false:=(o2.only.uN _ qW).trans (XF.out 1);have y2:w2.frozen? ⟨wr.heap.size,2,none⟩=false:=(o2.only.uN _ qW).trans (XF.out 2);have LZ:Ext wr (w2.setCell ⟨wr.heap.size,1,none⟩ (.slice A1 m m)):=(BW.out.only o2.only (SW.out.2.1.mono (by omega)) (Nat.le_refl _)).setCell (Nat.le_refl _) _;have hft:(u.ops.filter fun o=>!(mM o&&t.ops.any (fun w=>iN w&&(w.key==o.key&&w.value==o.value))))=(qR h n u).ops:=by
       have:opsOf h n=t.ops:=by simp[opsOf,HT.out]
       simp[qR,xP,this]
      rw[hft]at s2;have hml:(qR h n u).ops.length=m:=by obtain⟨A9,c9,e9,_⟩:=s2;injection e9 with _ e9 _;exact e9.symm
      have hsub:∀a k c,Value.slice A1 m m=.slice (some a) k c->0<k->∃c',Value.slice A1 u.ops.length u.ops.length=.slice (some a) u.ops.length c'/\0<u.ops.length:=fun a k c e hk=>by injection e with e1 e2 e3;subst e1 e2;exact⟨_,rfl,by omega⟩
      have hS3:aF 3 aj (w2.setCell ⟨wr.heap.size,1,none⟩ (.slice A1 m m)) (.slice A1 m m) (qR h n u).ops:=sM (pO s2 m) (fun a k c e hk=>by obtain⟨c',e',hk'⟩:=hsub a k c e hk;exact hne a _ _ e' hk') _
      have hO3:Own wr.heap.size (w2.setCell ⟨wr.heap.size,1,none⟩ (.slice A1 m m)) (.slice A1 m m):=qM (fun a k c e hk=>by
       obtain⟨c',e',hk'⟩:=hsub a k c e hk
       have:=SW.out.2.1.only o2.only a _ _ e' hk'
       exact⟨by omega,this.2⟩) _ _ _
      have hI3:iY 71 (w2.setCell ⟨wr.heap.size,1,none⟩ (.slice A1 m m)) (.slice A1 m m):=mV (fun a k c e hk=>by obtain⟨c',e',hk'⟩:=hsub a k c e hk;exact o2.ty _ SW.out.2.2 a _ _ e' hk') _ _
      obtain⟨v',w4,hrun,hB2,hE2⟩:=rF (t:=qR h n u) (w:=w2.setCell ⟨wr.heap.size,1,none⟩ (.slice A1 m m)) w2.heap.size (by simp) HB.out LZ hS3 hO3 hI3 (mQ (Nat.le_refl _) (by omega)) hle (by omega);have aU:=aa hrun;have HB2:=aa hB2;have HE2:=aa (hE2 wa hbk (Nat.le_refl _));have hcap:m<=u.ops.length:=hm;have hcap2:u.ops.length<=9223372036854775807:=by omega
      clear hrun hB2 hE2 hS3 hO3 hI3 LZ hsub hft s2 adj XF BW abY hWe hml;go_wp2_with (first|(go_at_call 107;refine(vk A1 m u.ops.length _ hcap hcap2).mono ?_;rintro e w' ⟨rfl,rfl⟩)|(at_builtin;refine wpList_append_run rfl rfl rfl rfl aU.out ?_))
      go_roundw;case rel=>exact⟨HE2.out,k+1,by omega,by go_num,_,by rw[HP.out];exact HB2.out⟩
      case measure=>simp[intOf];omega
    ·obtain rfl:k=h.length:=by omega
     obtain⟨rs,hB⟩:=HI.out;have HB:=aa hB;obtain⟨A5,c5,rfl,_⟩:=hB.2.1.cell.1;have hcp:=hB.2.1.cap _ _ _ rfl;clear hB HI;go_wp2_with (go_at_call 150;refine(Mg _ _ _ _ hcp.1 hcp.2).mono ?_;rintro e w' ⟨rfl,rfl⟩)
     go_returns;have hB:=HB.out;rw[Si]at hB;have hd:=hB.done (by decide);exact⟨_,rs,rfl,SA hd.1 _,(Ub hd.2 _).mono hb.size,hb.trans hbk⟩
theorem Lj{v:Value}{h:List aA}(n:Nat)(w:World)(H:gL w v h)(hok:aC h=true)(hn:n<h.length)(hlen:h.length<=2097152)(hM:∀t∈h,t.ops.length<=2097152) :
 Calls Tryz.prog 74 #[v,.int .i64 (n:Int)] w fun e w'=>∃v' rs,e=.returned (.tuple #[v',.bool true])/\jI w' v' rs (mg h n)/\iZ w.heap.size w' v' rs/\Ext w w':=by
 obtain⟨A,c,rfl⟩:=H.slice;have HH:=aa H;have HV:=aa (bN w H hlen hM);have HM:=aa hM;have dO:=aa hok;have hin:jR (n:Int) 0 ((h.length:Int)-1)=true:=bL.2 (by omega);have hwr:IntKind.i64.wrap ((h.length:Int)-1)=(h.length:Int)-1:=IntWalk.i64_in _ (by omega);clear H hM hok;go_enter Tryz.func74,Tryz.ntmps74
 go_wp2_with (first
  | (go_at_call 34;refine HV.out.mono ?_;rw[dO.out];rintro e w1 ⟨rfl,b1⟩;have B1:=aa b1)
  | (go_at_call 105;refine(dN _ _ _ _).mono ?_;rw[hin];rintro e w' ⟨rfl,rfl⟩)
  | (go_at_call 106;refine(Oz n _ (HH.out.ext b1) hn hlen HM.out).mono ?_;rintro e w2 ⟨v2,rs,rfl,d1,d2,b2⟩))
 go_returns;exact⟨_,rs,rfl,d1,d2.mono B1.out.size,B1.out.trans b2⟩
theorem Bw{v:Value}{h:List aA}(n:Int)(w:World)(H:gL w v h)(hok:aC h=true)(hn:¬(0<=n/\n<h.length))(hlen:h.length<=2097152)(hM:∀t∈h,t.ops.length<=2097152) :
 Calls Tryz.prog 74 #[v,.int .i64 n] w fun e w'=>e=.returned (.tuple #[.slice none 0 0,.bool false])/\Ext w w':=by
 obtain⟨A,c,rfl⟩:=H.slice;have HV:=aa (bN w H hlen hM);have dO:=aa hok;have hin:jR n 0 ((h.length:Int)-1)=false:=by rw[Bool.eq_false_iff];intro e;have:=bL.1 e;omega
 have hwr:IntKind.i64.wrap ((h.length:Int)-1)=(h.length:Int)-1:=IntWalk.i64_in _ (by omega);clear H hM hok;go_enter Tryz.func74,Tryz.ntmps74
 go_wp2_with (first
  | (go_at_call 34;refine HV.out.mono ?_;rw[dO.out];rintro e w1 ⟨rfl,b1⟩;have B1:=aa b1)
  | (go_at_call 105;refine(dN _ _ _ _).mono ?_;rw[hin];rintro e w' ⟨rfl,rfl⟩))
 go_returns;exact⟨rfl,B1.out⟩
