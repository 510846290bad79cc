/- Lemmas. -/
import Derived.Test.YtcdopfdgknglfaaGreatDoorCAQ
set_option maxHeartbeats 16000000
set_option maxRecDepth 8000
set_option linter.all false
namespace Go.Proofs.YtcdopfdgknglfaaGreatDoor
open Go.RowKit
theorem M0(x y:Int)(p l:Nat)(n:Int)(hx:0<=x/\x<=255)(hy:0<=y/\y<=255)(hp:p<=1000000)(h1:1<=n) :
 0<=(bits .xor .i64 (wrap64 (x*131+y*1117+↑p*29+wrap64 (wrap64 (↑p / ↑l)*53))) (wrap64 ((wrap64 (x*131+y*1117+↑p*29+wrap64 (wrap64 (↑p / ↑l)*53))).tdiv 64))).tmod n /\
 (bits .xor .i64 (wrap64 (x*131+y*1117+↑p*29+wrap64 (wrap64 (↑p / ↑l)*53))) (wrap64 ((wrap64 (x*131+y*1117+↑p*29+wrap64 (wrap64 (↑p / ↑l)*53))).tdiv 64))).tmod n<n:=by
 have hq:p/l<=p:=II _ _;obtain⟨q,hq'⟩:∃q:Nat,p/l=q:=⟨_,rfl⟩;have e:((p:Int)/(l:Int))=(q:Int):=by rw[<-hq'];simp
 rw[hq']at hq;rw[e,IntWalk.wrap64_in (q:Int) (by omega),IntWalk.wrap64_in ((q:Int)*53) (by omega),IntWalk.wrap64_in (x*131+y*1117+↑p*29+(q:Int)*53) (by omega)];obtain⟨X,hX⟩:=iH (show 0<=x*131+y*1117+↑p*29+(q:Int)*53 by omega);rw[hX,Int.tdiv_eq_ediv_of_nonneg (by omega),IntWalk.wrap64_in _ (by omega),KS X (by omega)];rw[Int.tmod_eq_emod_of_nonneg (by omega)];exact⟨Int.emod_nonneg _ (by omega),Int.emod_lt_of_pos _ (by omega)⟩
theorem QZ(B rb m:Nat)(n:Int)(w:World)(h:Bn B w rb m)(hm:m<=1000000)(h1:1<=n)(h2:n<=1000000) :
 Calls Tryz.prog 45 #[.pointer (some ⟨rb,0,none⟩),.int .i64 n] w (OJ B n rb m w):=by
 obtain⟨A,xs,c,p,T,hb,hp,hs,hx,hl,ho0,hB⟩:=h;have ho:Under rb (.slice A xs.length c):=λa n c hv hn=>dJ (ho0 a n c hv hn) hB;have c0:w.cell? ⟨rb,0,none⟩=some (.slice A xs.length c):=by simp[World.cell?,hb]
 have c1:w.cell? ⟨rb,1,none⟩=some (.int .i64 (p:Int)):=by simp[World.cell?,hb]
 have f1:w.frozen? ⟨rb,1,none⟩=false:=by simp[World.frozen?,hb]
 have hend:Bn B (w.setCell ⟨rb,1,none⟩ (.int .i64 ((p:Int)+1))) rb (m+1)/\Ex rb w (w.setCell ⟨rb,1,none⟩ (.int .i64 ((p:Int)+1))):=by refine⟨⟨A,xs,c,p+1,T,?_,by omega,hs.off ((Ex.refl rb w).setCell _ _) ho.off,hx,hl,ho0,hB⟩,(Ex.refl rb w).setCell _ _⟩;simp[World.setCell,oM,hb]
 have HE:=aa hend;clear hend ho0;obtain⟨A',c',hA,hc⟩:=hs;injection hA with e1 e2 e3;subst e1 e3;clear hb e2;by_cases h0:0<xs.length;case neg=>
  have hz:xs.length=0:=by omega
  rw[hz]at c0;clear hc ho hx hl h0 hz;go_enter Tryz.func45,Tryz.ntmps45;go_wp2;go_returns;exact⟨0,rfl,by omega,by omega,HE.out⟩
 obtain⟨b,off,rfl,hlt,hcell⟩:=hc h0;have hne:b≠rb:=ho.off _ _ _ rfl h0;have hne':rb≠b:=λe=>hne e.symm;have HX:=aa hx;clear hx hc ho;by_cases hk:p<xs.length
 ·obtain⟨x,hx⟩:=au hk;have hv:=HX.out x (aN hx);have d0:w.cell? ⟨b,off+p,none⟩=some (.int .u8 x):=hcell p x hx;have g1:decide (n<1)=false:=by simpa using h1
  have g2:((xs.length:Int)==0)=false:=oO.2 (by omega);clear hcell hx;go_enter Tryz.func45,Tryz.ntmps45;go_wp2;go_returns;exact⟨_,rfl,Int.emod_nonneg _ (by omega),Int.emod_lt_of_pos _ (by omega),HE.out⟩
 ·have hq1:p%xs.length<xs.length:=zZ _ h0;have hq2:(p*7+3)%xs.length<xs.length:=zZ _ h0;have hq3:p/xs.length<=p:=II _ _;obtain⟨x,hx⟩:=au hq1;obtain⟨y,hy⟩:=au hq2;have hv:=HX.out x (aN hx);have hv':=HX.out y (aN hy);have d0:∀e,(over (w.setCell ⟨rb,1,none⟩ (.int .i64 ((p:Int)+1))) e).cell? ⟨b,off+p%xs.length,none⟩=some (.int .u8 x):=fI (by rw[av (by intro e;injection e with e;exact hne' e)];exact hcell _ x hx);have d1:∀e,(over (w.setCell ⟨rb,1,none⟩ (.int .i64 ((p:Int)+1))) e).cell? ⟨b,off+(p*7+3)%xs.length,none⟩=some (.int .u8 y):=fI (by rw[av (by intro e;injection e with e;exact hne' e)];exact hcell _ y hy);have d2:∀e,(over (w.setCell ⟨rb,1,none⟩ (.int .i64 ((p:Int)+1))) e).cell? ⟨rb,0,none⟩=some (.slice (some ⟨b,off,none⟩) xs.length c):=fI (by rw[av (by intro e;injection e with _ e _;cases e)];exact c0);have g1:decide (n<1)=false:=by simpa using h1
  have g2:((xs.length:Int)==0)=false:=oO.2 (by omega);obtain⟨q,hq⟩:∃q:Nat,(p*7+3)%xs.length=q:=⟨_,rfl⟩;have hqi:((p:Int)*7+3)%(xs.length:Int)=(q:Int):=by rw[<-hq];simp
  rw[hq]at hq2 d1;clear hcell hx hy hq;go_enter Tryz.func45,Tryz.ntmps45;go_wp2;refine fP (by kernel_rfl) (by kernel_rfl) ?_;repeat (go_big_quiet_step (fail))
  refine tC ?_;intro w1 hb1;go_wp2;go_returns;have hn:=M0 x y p xs.length n hv hv' (by omega) h1;exact⟨_,rfl,hn.1,hn.2,HE.out.1.ext hb1,HE.out.2.ext hb1⟩
theorem jR(rb m:Nat)(n:Int)(w:World)(h:Rd w rb m)(hm:m<=1000000)(h1:1<=n)(h2:n<=1000000) :
 Calls Tryz.prog 45 #[.pointer (some ⟨rb,0,none⟩),.int .i64 n] w (QK n rb m w):=QZ rb rb m n w h hm h1 h2
theorem Og(rb m:Nat)(n:Int)(w:World)(h:Rd w rb m)(hm:m<=1000000)(h2:n<=1000000) :
 Calls Tryz.prog 46 #[.pointer (some ⟨rb,0,none⟩),.int .i64 n] w (UY rb m w):=by
 by_cases h1:1<=n
 ·have g1:decide (0<n)=true:=by simp;omega
  go_enter Tryz.func46,Tryz.ntmps46;go_wp2_with fail
  refine(jR rb m n _ h hm h1 h2).mono ?_
  rintro e w1 ⟨k,rfl,k0,k1,r1,x1⟩;go_wp2;go_returns;exact⟨_,rfl,r1,x1⟩
 ·have g1:decide (0<n)=false:=by simp;omega
  go_enter Tryz.func46,Tryz.ntmps46;go_wp2;go_returns;exact⟨_,rfl,h.mono (by omega),Ex.refl _ _⟩
theorem mD.under{w:World}{v:Value}{xs:List Int}(h:mD FY w v xs):Under w.heap.size v:=by obtain⟨A,c,rfl,h⟩:=h;intro a n c' hv hn;injection hv with e1 e2 e3;subst e1 e2;obtain⟨b,off,hb,hlt,_⟩:=h hn;injection hb with hb;subst hb;exact hlt
def Pj(B:Nat)(w:World)(e:Ending)(w':World):Prop:=∃rb:Nat,e=.returned (.pointer (some ⟨rb,0,none⟩))/\w.heap.size<=rb/\Bn B w' rb 0/\Ext w w'
def Ny(w:World)(e:Ending)(w':World):Prop:=∃rb:Nat,e=.returned (.pointer (some ⟨rb,0,none⟩))/\w.heap.size<=rb/\Rd w' rb 0/\Ext w w'
theorem Qf{v:Value}{xs:List Int}(B:Nat)(w:World)(hB:B<=w.heap.size)(hU:Under B v)(h:mD FY w v xs)(hx:∀x∈xs,0<=x/\x<=255)(hlen:xs.length<=1048576)(hcap:∀A n c,v=.slice A n c->n<=c/\c<=9223372036854775807) :
 Calls Tryz.prog 20 #[v] w (Pj B w):=by
 have HU:=aa hU;clear hU;have H:=aa h;obtain⟨A,c,rfl,h⟩:=h;have hc:=hcap _ _ _ rfl;have HX:=aa hx;clear hcap h hx;by_cases hl:xs.length<=2000
 ·go_enter Tryz.func20,Tryz.ntmps20;go_wp2;go_returns;refine⟨w.heap.size,rfl,ay _,⟨A,xs,c,0,_,dx w _,ay _,H.out.ext ((af w).alloc _),HX.out,hl,HU.out,hB⟩,(af w).alloc _⟩
 ·have hl':2000<xs.length:=by omega
  clear hl;go_enter Tryz.func20,Tryz.ntmps20;go_wp2;go_returns;have hT:mD FY w (.slice A (xs.take 2000).length c) (xs.take 2000):=by
   obtain⟨A',c',hA,hc'⟩:=H.out;injection hA with e1 e2 e3;subst e1 e3;refine⟨_,_,rfl,λhn=>?_⟩;obtain⟨b,off,hb,hlt,hcell⟩:=hc' (by omega);refine⟨b,off,hb,hlt,λi x hi=>hcell i x ?_⟩;rw[zg]at hi;split at hi
   ·exact hi
   ·cases hi
  have Nn:(xs.take 2000).length=2000:=by rw[ig];omega
  refine⟨w.heap.size,rfl,ay _,⟨A,xs.take 2000,c,0,_,by rw[Nn];exact dx w _,ay _,hT.ext ((af w).alloc _),λx hx=>HX.out x (uA hx),by omega,λa n c' hv hn=>HU.out a xs.length c (by injection hv with e1 e2 e3;rw[e1]) (by omega),hB⟩,(af w).alloc _⟩
theorem M3{v:Value}{xs:List Int}(w:World)(h:mD FY w v xs)(hx:∀x∈xs,0<=x/\x<=255)(hlen:xs.length<=1048576)(hcap:∀A n c,v=.slice A n c->n<=c/\c<=9223372036854775807) :
 Calls Tryz.prog 20 #[v] w (Ny w):=(Qf w.heap.size w (ay _) h.under h hx hlen hcap).mono λ_ _ ⟨rb,h1,h2,h3,h4⟩=>⟨rb,h1,h2,h3.rd,h4⟩
def IM(w:World)(v:Value):Prop:=∃xs:List Int,mD FY w v xs/\(∀x∈xs,0<=x/\x<=255)/\xs.length<=1048576/\∀A n c,v=.slice A n c->n<=c/\c<=9223372036854775807
theorem KO{v:Value}(w:World)(h:IM w v):Calls Tryz.prog 20 #[v] w (Ny w):=by obtain⟨xs,h1,h2,h3,h4⟩:=h;exact M3 w h1 h2 h3 h4
section
open Go.RowKit
end
