/- Lemmas. -/
import Derived.Test.YtcdopfdgknglfaaGreatDoorKAS
import Derived.Test.YtcdopfdgknglfaaGreatDoorKAU
import Derived.Test.YtcdopfdgknglfaaGreatDoorKAV
import Derived.Test.YtcdopfdgknglfaaGreatDoorKBA
set_option maxHeartbeats 16000000
set_option maxRecDepth 8000
set_option linter.all false
namespace Go.Proofs.YtcdopfdgknglfaaGreatDoor
open Go.RowKit
theorem zK{v:Value}{p:List fI}(w:World)(H:yV w v p)(hlen:p.length<=2097152)(hst:∀d∈p,d.steps.length<=2097152) :
 Calls Tryz.prog 19 #[v] w λe w'=>e=.returned (.string (tx (if eu p then jP p else [])))/\Ext w w':=by
 obtain⟨A,c,rfl⟩:=H.slice;have HH:=aa H;have HV:=aa (λW (b:Ext w W)=>sP W (H.ext b) hlen hst);clear H hst
 cases hok:eu p with
 | false=>
   rw[hok]at HV;have h0:0<p.length:=by
    cases p with
    | nil=>cases hok
    | cons d r=>simp
   have h0i:(0:Int)<(p.length:Int):=by omega
   clear hok;go_enter Tryz.func19,Tryz.ntmps19;go_wp2;go_loopw [3,4] (λo i wr=>Ext w wr/\o=.string ⟨#[]⟩/\i=.int .i64 0) (λ_ i _=>0)
   case atStart=>exact⟨af _,rfl,rfl⟩
   case round=>
    obtain⟨hb,rfl,rfl⟩:=hrel;go_wp2_with (go_at_call 52;refine(HV.out _ hb).mono ?_;rintro e w1 ⟨rfl,b1⟩)
    go_returns;exact⟨rfl,hb.trans b1⟩
 | true=>
   have hl:p.length<=4:=jW hok;have fu:=aa (λd (hd:d∈p)=>dO hok hd);rw[hok]at HV;have hgoal:Hid ((if true=true then jP p else [])=jP p):=by show _ = _;simp
   rw[hgoal.out];obtain⟨z,hz⟩:∃z,tx (jP p)=z:=⟨_,rfl⟩;rw[hz];have HZ:Hid (tx (joinL [59,32] ((p.map fo).take p.length))=z):=by show _ = _;rw[<-hz,jX (by rw[dX];exact av _)];rfl
   have HLEN:Hid (∀k,(joinL [59,32] ((p.map fo).take k)).length<=88):=λk=>by
    have:=pK [59,32] 20 (ws:=p.map fo) (λx hx=>by
     obtain⟨d,hd,rfl⟩:=fV.1 hx
     have:=qj (fu.out d hd) (d.steps.length+1)
     rw[nV]at this;exact this) k
    rw[dX]at this;simp only[eO,iJ]at this;omega
   clear hok hgoal hz;go_enter Tryz.func19,Tryz.ntmps19;go_wp2;go_loopw [3,4] (λs i wr=>Ext w wr/\∃(k:Nat) (y:ByteArray),k<=p.length/\i=.int .i64 (k:Int)/\s=.string y/\Hid (y=tx (joinL [59,32] ((p.map fo).take k)))) (λ_ i _=>p.length-(intOf i).toNat)
   case atStart=>exact⟨af _,0,_,aT _,rfl,rfl,rfl⟩
   case round=>
    obtain⟨hb,k,yk,hk,rfl,rfl,HYK⟩:=hrel;by_cases hlt:k<p.length
    ·obtain⟨b,off,rfl,hbl,hcc⟩:=(HH.out.ext hb).head (by omega);obtain⟨d,hd⟩:=ah hlt;obtain⟨ov,c0,c1,hs⟩:=hcc k d hd;obtain⟨A4,c4,rfl,hs4⟩:=id hs;have HS:=aa hs;have Y1:=aM hd;have hdk:=fu.out d Y1;have HDK:=aa hdk;have hdl:=iN hdk;have hds:=kD hdk;have G8:bT d.az.toNat=[kX d.az.toNat]:=by unfold bT;rw[aj (by omega)]
     have i1:(k:Int)<(p.length:Int):=by omega
     have i2:(0:Int)<=(k:Int):=by omega
     have hnx:=sD (l:=p.map fo) (k:=k) (x:=fo d) (by rw[jT,hd];rfl) [59,32];have hkl:=HLEN.out k;clear hdk;by_cases hk0:0<k
     ·rw[aj hk0]at hnx;have afa:(0:Int)<(k:Int):=by omega
      have a0:=bX (joinL [59,32] ((p.map fo).take k)) [59,32] (by simp;omega);obtain⟨cur,kJ⟩:∃cur,joinL [59,32] ((p.map fo).take k)++[59,32]=cur:=⟨_,rfl⟩;have hcl:cur.length<=90:=by rw[<-kJ,dw];simp;omega
      have hf2:cur++[115]++[kX d.az.toNat]=cur++joinL [32] ((dM d).take 1):=by rw[wu];simp
      rw[kJ]at hnx a0;rw[<-HYK.out]at a0;have jC:=aa hnx;replace a0:∀w,(Op.stringOp .add yk ⟨#[59,32]⟩).run Tryz.prog w=.ok (.string (tx cur)) w:=a0;clear hnx hkl kJ hk0;have HB:=aa hb;have R7:=aa (λW=>gL d.az W hds.1 (by omega));rw[G8]at R7;have a1:=bX cur [115] (by simp;omega);have a2:=bX (cur++[115]) [kX d.az.toNat] (by simp;omega);rw[hf2]at a2;obtain⟨aaw,NR⟩:∃y,tx cur=y:=⟨_,rfl⟩;obtain⟨y1,hy1⟩:∃y,tx (cur++[115])=y:=⟨_,rfl⟩;obtain⟨z1,hz1⟩:∃y,tx [kX d.az.toNat]=y:=⟨_,rfl⟩;obtain⟨y2,hy2⟩:∃y,tx (cur++joinL [32] ((dM d).take 1))=y:=⟨_,rfl⟩;rw[NR,hy1]at a1;rw[NR]at a0;rw[hy1,hz1,hy2]at a2;rw[hz1]at R7;replace a1:∀w,(Op.stringOp .add aaw ⟨#[115]⟩).run Tryz.prog w=.ok (.string y1) w:=a1;have V9:=aa hy2;clear hcc hd hs hs4 Y1 G8 hf2 hy1 hz1 hy2 hb;go_wp2_with (first|(go_at_call 52;refine(HV.out _ HB.out).mono ?_;rintro e w1 ⟨rfl,b1⟩;have c0:=b1.cell c0;have c1:=b1.cell c1)|(go_at_call 53;refine(R7.out _).mono ?_;rintro e w2 ⟨rfl,b2⟩))
      have HC1:=aa (b2.cell c1);have HS2:=aa (HS.out.ext (b1.trans b2));have Db:=aa (HB.out.trans (b1.trans b2));clear c0 c1 HB b1 b2;go_loopw [3,5] (λs i wr=>Ext w2 wr/\∃(j:Nat) (y:ByteArray),j<=d.steps.length/\i=.int .i64 (j:Int)/\s=.string y/\Hid (y=tx (cur++joinL [32] ((dM d).take (j+1))))) (λ_ i _=>d.steps.length-(intOf i).toNat)
      case atStart=>exact⟨af _,0,_,aT _,rfl,rfl,V9.out.symm⟩
      case round=>
       obtain⟨hv,j,ys,hj,rfl,rfl,HYJ⟩:=hrel;have d1:=hv.cell HC1.out;by_cases hjt:j<d.steps.length
       ·obtain⟨A5,c5,e,hc4⟩:=HS2.out.ext hv;injection e with e1 e2 e3;subst e1 e3;obtain⟨b4,abd,rfl,abB,hc4⟩:=hc4 (by omega);obtain⟨o,ho⟩:=ah hjt;have f0:=hc4 j o ho 0 (by omega);have f1:=hc4 j o ho 1 (by omega);have f2:=hc4 j o ho 2 (by omega);simp only[encOpr,fE]at f0 f1 f2;have hos:=gN HDK.out (aM ho);have hkey:=jy hos;have hkind:=kF hos;have hnk:bT o.key.toNat=[kX o.key.toNat]:=by unfold bT;rw[aj (by omega)]
        have hpl:=qj HDK.out (j+1);obtain⟨X,hX⟩:∃X,cur++joinL [32] ((dM d).take (j+1))=X:=⟨_,rfl⟩;have hXl:X.length<=200:=by rw[<-hX,dw];omega
        have JU:X++[32]++[bN o]++bT o.key.toNat=cur++joinL [32] ((dM d).take (j+2)):=by rw[<-hX,yz ho,hnk];simp[mg]
        have HXE:Hid (ys=tx X):=by show _ = _;rw[HYJ.out,hX]
        have a1:=bX X [32] (by simp;omega);have a2:=bX (X++[32]) [bN o] (by simp;omega);have a3:=bX (X++[32]++[bN o]) (bT o.key.toNat) (by rw[hnk];simp;omega);rw[JU]at a3;obtain⟨y1,hy1⟩:∃z,tx (X++[32])=z:=⟨_,rfl⟩;obtain⟨y2,hy2⟩:∃z,tx (X++[32]++[bN o])=z:=⟨_,rfl⟩;obtain⟨y3,hy3⟩:∃z,tx (cur++joinL [32] ((dM d).take (j+2)))=z:=⟨_,rfl⟩;have NL:=aa (λW=>gL o.key W hkey.1 (by omega));obtain⟨zk,qO⟩:∃z,tx (bT o.key.toNat)=z:=⟨_,rfl⟩;rw[qO]at NL a3;rw[<-HXE.out,hy1]at a1;rw[hy1,hy2]at a2;rw[hy2,hy3]at a3;replace a1:∀w,(Op.stringOp .add ys ⟨#[32]⟩).run Tryz.prog w=.ok (.string y1) w:=a1;have jC:=aa hy3.symm;have HB2:=aa hv;have j1:(j:Int)<(d.steps.length:Int):=by omega
        have j2:(0:Int)<=(j:Int):=by omega
        obtain⟨kd,ky,vl⟩:=o;simp only at f0 f1 f2 NL hkind;rcases hkind with hkind|hkind
        ·subst hkind;have a4:(⟨#[114,119]⟩:ByteArray).extract 0 1=tx [114]:=rfl;have a2':∀w,(Op.stringOp .add y1 (tx [114])).run Tryz.prog w=.ok (.string y2) w:=a2;clear a2;generalize tx [114]=zl at *;clear hc4 e2 ho hos hkey hnk hpl hX hXl JU hy1 hy2 hy3 qO hv hcl;have hw:IntKind.i64.wrap 0=0:=by decide
         go_wp2;have v0:(wr.alloc (.cells #[.int .i64 1,.int .i64 ky,.int .i64 vl] 67)).cell? ⟨wr.heap.size,0,none⟩=some (.int .i64 1):=aF rfl;have v1:(wr.alloc (.cells #[.int .i64 1,.int .i64 ky,.int .i64 vl] 67)).cell? ⟨wr.heap.size,1,none⟩=some (.int .i64 ky):=aF rfl;have v2:(wr.alloc (.cells #[.int .i64 1,.int .i64 ky,.int .i64 vl] 67)).cell? ⟨wr.heap.size,2,none⟩=some (.int .i64 vl):=aF rfl;go_region_held3 (λW=>W.cell? ⟨wr.heap.size,0,none⟩=some (.int .i64 1)/\W.cell? ⟨wr.heap.size,1,none⟩=some (.int .i64 ky)/\W.cell? ⟨wr.heap.size,2,none⟩=some (.int .i64 vl)) (exact⟨by assumption,by assumption,by assumption⟩) ((go_at_call 53;refine(NL.out _).mono ?_;rintro e w2 ⟨rfl,b2⟩;have x0:=b2.cell v0;have x1:=b2.cell v1;have x2:=b2.cell v2))
         go_wp2;go_roundw;case rel=>exact⟨HB2.out.trans (((af _).alloc _).drew.trans b2),j+1,_,by omega,by go_num,rfl,jC.out⟩
         case measure=>simp[intOf];omega
        ·subst hkind;have a4:(⟨#[114,119]⟩:ByteArray).extract 1 2=tx [119]:=rfl;have a2':∀w,(Op.stringOp .add y1 (tx [119])).run Tryz.prog w=.ok (.string y2) w:=a2;clear a2;generalize tx [119]=zl at *;clear hc4 e2 ho hos hkey hnk hpl hX hXl JU hy1 hy2 hy3 qO hv hcl;have hw:IntKind.i64.wrap 1=1:=by decide
         go_wp2;have v0:(wr.alloc (.cells #[.int .i64 2,.int .i64 ky,.int .i64 vl] 67)).cell? ⟨wr.heap.size,0,none⟩=some (.int .i64 2):=aF rfl;have v1:(wr.alloc (.cells #[.int .i64 2,.int .i64 ky,.int .i64 vl] 67)).cell? ⟨wr.heap.size,1,none⟩=some (.int .i64 ky):=aF rfl;have v2:(wr.alloc (.cells #[.int .i64 2,.int .i64 ky,.int .i64 vl] 67)).cell? ⟨wr.heap.size,2,none⟩=some (.int .i64 vl):=aF rfl;go_region_held3 (λW=>W.cell? ⟨wr.heap.size,0,none⟩=some (.int .i64 2)/\W.cell? ⟨wr.heap.size,1,none⟩=some (.int .i64 ky)/\W.cell? ⟨wr.heap.size,2,none⟩=some (.int .i64 vl)) (exact⟨by assumption,by assumption,by assumption⟩) ((go_at_call 53;refine(NL.out _).mono ?_;rintro e w2 ⟨rfl,b2⟩;have x0:=b2.cell v0;have x1:=b2.cell v1;have x2:=b2.cell v2))
         go_wp2;go_roundw;case rel=>exact⟨HB2.out.trans (((af _).alloc _).drew.trans b2),j+1,_,by omega,by go_num,rfl,jC.out⟩
         case measure=>simp[intOf];omega
       ·obtain rfl:j=d.steps.length:=by omega
        have HNY:Hid (ys=tx (joinL [59,32] ((p.map fo).take (k+1)))):=by show _ = _;rw[HYJ.out,nV,jC.out]
        have ZG:=aa (Db.out.trans hv);clear hv hcl;go_wp2;go_roundw;case rel=>exact⟨ZG.out,k+1,_,by omega,by go_num,rfl,HNY.out⟩
        case measure=>simp[intOf];omega
     ·rw[au hk0]at hnx;have afa:¬((0:Int)<(k:Int)):=by omega
      obtain⟨cur,kJ⟩:∃cur,joinL [59,32] ((p.map fo).take k)=cur:=⟨_,rfl⟩;have hcl:cur.length<=90:=by rw[<-kJ];omega
      have hf2:cur++[115]++[kX d.az.toNat]=cur++joinL [32] ((dM d).take 1):=by rw[wu];simp
      rw[kJ]at hnx;have HYC:=HYK.out;rw[kJ]at HYC;have jC:=aa hnx;clear hnx hkl kJ hk0;have HB:=aa hb;have R7:=aa (λW=>gL d.az W hds.1 (by omega));rw[G8]at R7;have a1:=bX cur [115] (by simp;omega);have a2:=bX (cur++[115]) [kX d.az.toNat] (by simp;omega);rw[hf2]at a2;obtain⟨aaw,NR⟩:∃y,tx cur=y:=⟨_,rfl⟩;obtain⟨y1,hy1⟩:∃y,tx (cur++[115])=y:=⟨_,rfl⟩;obtain⟨z1,hz1⟩:∃y,tx [kX d.az.toNat]=y:=⟨_,rfl⟩;obtain⟨y2,hy2⟩:∃y,tx (cur++joinL [32] ((dM d).take 1))=y:=⟨_,rfl⟩;rw[NR,hy1]at a1;obtain rfl:aaw=yk:=(HYC.trans NR).symm;clear HYC;rw[hy1,hz1,hy2]at a2;rw[hz1]at R7;replace a1:∀w,(Op.stringOp .add aaw ⟨#[115]⟩).run Tryz.prog w=.ok (.string y1) w:=a1;have V9:=aa hy2;clear hcc hd hs hs4 Y1 G8 hf2 hy1 hz1 hy2 hb;go_wp2_with (first|(go_at_call 52;refine(HV.out _ HB.out).mono ?_;rintro e w1 ⟨rfl,b1⟩;have c0:=b1.cell c0;have c1:=b1.cell c1)|(go_at_call 53;refine(R7.out _).mono ?_;rintro e w2 ⟨rfl,b2⟩))
      have HC1:=aa (b2.cell c1);have HS2:=aa (HS.out.ext (b1.trans b2));have Db:=aa (HB.out.trans (b1.trans b2));clear c0 c1 HB b1 b2;go_loopw [3,5] (λs i wr=>Ext w2 wr/\∃(j:Nat) (y:ByteArray),j<=d.steps.length/\i=.int .i64 (j:Int)/\s=.string y/\Hid (y=tx (cur++joinL [32] ((dM d).take (j+1))))) (λ_ i _=>d.steps.length-(intOf i).toNat)
      case atStart=>exact⟨af _,0,_,aT _,rfl,rfl,V9.out.symm⟩
      case round=>
       obtain⟨hv,j,ys,hj,rfl,rfl,HYJ⟩:=hrel;have d1:=hv.cell HC1.out;by_cases hjt:j<d.steps.length
       ·obtain⟨A5,c5,e,hc4⟩:=HS2.out.ext hv;injection e with e1 e2 e3;subst e1 e3;obtain⟨b4,abd,rfl,abB,hc4⟩:=hc4 (by omega);obtain⟨o,ho⟩:=ah hjt;have f0:=hc4 j o ho 0 (by omega);have f1:=hc4 j o ho 1 (by omega);have f2:=hc4 j o ho 2 (by omega);simp only[encOpr,fE]at f0 f1 f2;have hos:=gN HDK.out (aM ho);have hkey:=jy hos;have hkind:=kF hos;have hnk:bT o.key.toNat=[kX o.key.toNat]:=by unfold bT;rw[aj (by omega)]
        have hpl:=qj HDK.out (j+1);obtain⟨X,hX⟩:∃X,cur++joinL [32] ((dM d).take (j+1))=X:=⟨_,rfl⟩;have hXl:X.length<=200:=by rw[<-hX,dw];omega
        have JU:X++[32]++[bN o]++bT o.key.toNat=cur++joinL [32] ((dM d).take (j+2)):=by rw[<-hX,yz ho,hnk];simp[mg]
        have HXE:Hid (ys=tx X):=by show _ = _;rw[HYJ.out,hX]
        have a1:=bX X [32] (by simp;omega);have a2:=bX (X++[32]) [bN o] (by simp;omega);have a3:=bX (X++[32]++[bN o]) (bT o.key.toNat) (by rw[hnk];simp;omega);rw[JU]at a3;obtain⟨y1,hy1⟩:∃z,tx (X++[32])=z:=⟨_,rfl⟩;obtain⟨y2,hy2⟩:∃z,tx (X++[32]++[bN o])=z:=⟨_,rfl⟩;obtain⟨y3,hy3⟩:∃z,tx (cur++joinL [32] ((dM d).take (j+2)))=z:=⟨_,rfl⟩;have NL:=aa (λW=>gL o.key W hkey.1 (by omega));obtain⟨zk,qO⟩:∃z,tx (bT o.key.toNat)=z:=⟨_,rfl⟩;rw[qO]at NL a3;rw[<-HXE.out,hy1]at a1;rw[hy1,hy2]at a2;rw[hy2,hy3]at a3;replace a1:∀w,(Op.stringOp .add ys ⟨#[32]⟩).run Tryz.prog w=.ok (.string y1) w:=a1;have jC:=aa hy3.symm;have HB2:=aa hv;have j1:(j:Int)<(d.steps.length:Int):=by omega
        have j2:(0:Int)<=(j:Int):=by omega
        obtain⟨kd,ky,vl⟩:=o;simp only at f0 f1 f2 NL hkind;rcases hkind with hkind|hkind
        ·subst hkind;have a4:(⟨#[114,119]⟩:ByteArray).extract 0 1=tx [114]:=rfl;have a2':∀w,(Op.stringOp .add y1 (tx [114])).run Tryz.prog w=.ok (.string y2) w:=a2;clear a2;generalize tx [114]=zl at *;clear hc4 e2 ho hos hkey hnk hpl hX hXl JU hy1 hy2 hy3 qO hv hcl;have hw:IntKind.i64.wrap 0=0:=by decide
         go_wp2;have v0:(wr.alloc (.cells #[.int .i64 1,.int .i64 ky,.int .i64 vl] 67)).cell? ⟨wr.heap.size,0,none⟩=some (.int .i64 1):=aF rfl;have v1:(wr.alloc (.cells #[.int .i64 1,.int .i64 ky,.int .i64 vl] 67)).cell? ⟨wr.heap.size,1,none⟩=some (.int .i64 ky):=aF rfl;have v2:(wr.alloc (.cells #[.int .i64 1,.int .i64 ky,.int .i64 vl] 67)).cell? ⟨wr.heap.size,2,none⟩=some (.int .i64 vl):=aF rfl;go_region_held3 (λW=>W.cell? ⟨wr.heap.size,0,none⟩=some (.int .i64 1)/\W.cell? ⟨wr.heap.size,1,none⟩=some (.int .i64 ky)/\W.cell? ⟨wr.heap.size,2,none⟩=some (.int .i64 vl)) (exact⟨by assumption,by assumption,by assumption⟩) ((go_at_call 53;refine(NL.out _).mono ?_;rintro e w2 ⟨rfl,b2⟩;have x0:=b2.cell v0;have x1:=b2.cell v1;have x2:=b2.cell v2))
         go_wp2;go_roundw;case rel=>exact⟨HB2.out.trans (((af _).alloc _).drew.trans b2),j+1,_,by omega,by go_num,rfl,jC.out⟩
         case measure=>simp[intOf];omega
        ·subst hkind;have a4:(⟨#[114,119]⟩:ByteArray).extract 1 2=tx [119]:=rfl;have a2':∀w,(Op.stringOp .add y1 (tx [119])).run Tryz.prog w=.ok (.string y2) w:=a2;clear a2;generalize tx [119]=zl at *;clear hc4 e2 ho hos hkey hnk hpl hX hXl JU hy1 hy2 hy3 qO hv hcl;have hw:IntKind.i64.wrap 1=1:=by decide
         go_wp2;have v0:(wr.alloc (.cells #[.int .i64 2,.int .i64 ky,.int .i64 vl] 67)).cell? ⟨wr.heap.size,0,none⟩=some (.int .i64 2):=aF rfl;have v1:(wr.alloc (.cells #[.int .i64 2,.int .i64 ky,.int .i64 vl] 67)).cell? ⟨wr.heap.size,1,none⟩=some (.int .i64 ky):=aF rfl;have v2:(wr.alloc (.cells #[.int .i64 2,.int .i64 ky,.int .i64 vl] 67)).cell? ⟨wr.heap.size,2,none⟩=some (.int .i64 vl):=aF rfl;go_region_held3 (λW=>W.cell? ⟨wr.heap.size,0,none⟩=some (.int .i64 2)/\W.cell? ⟨wr.heap.size,1,none⟩=some (.int .i64 ky)/\W.cell? ⟨wr.heap.size,2,none⟩=some (.int .i64 vl)) (exact⟨by assumption,by assumption,by assumption⟩) ((go_at_call 53;refine(NL.out _).mono ?_;rintro e w2 ⟨rfl,b2⟩;have x0:=b2.cell v0;have x1:=b2.cell v1;have x2:=b2.cell v2))
         go_wp2;go_roundw;case rel=>exact⟨HB2.out.trans (((af _).alloc _).drew.trans b2),j+1,_,by omega,by go_num,rfl,jC.out⟩
         case measure=>simp[intOf];omega
       ·obtain rfl:j=d.steps.length:=by omega
        have HNY:Hid (ys=tx (joinL [59,32] ((p.map fo).take (k+1)))):=by show _ = _;rw[HYJ.out,nV,jC.out]
        have ZG:=aa (Db.out.trans hv);clear hv hcl;go_wp2;go_roundw;case rel=>exact⟨ZG.out,k+1,_,by omega,by go_num,rfl,HNY.out⟩
        case measure=>simp[intOf];omega
    ·obtain rfl:k=p.length:=by omega
     have HFY:Hid (yk=z):=HYK.out.trans HZ.out;go_wp2;go_returns;exact⟨agB (λy=>Ending.returned (.string y)) HFY.out,hb⟩
section
structure tZ (base:Nat) (w:World) (v:Value) (rs:List BK) (p:List fI):Prop where
 len:rs.length=p.length
 row:Row 79 2 encDrV base w v rs
 rows:∀(i:Nat) r d,rs[i]? =some r->p[i]? =some d->r.az=d.az/\kV base w r.iP d.steps
theorem tZ.ext{base:Nat}{w w':World}{v:Value}{rs:List BK}{p:List fI}(H:tZ base w v rs p)(hb:Ext w w'):tZ base w' v rs p:=
 ⟨H.len,H.row.ext hb,λi r t hr ht=>let ⟨a,c⟩:=H.rows i r t hr ht;⟨a,c.ext hb⟩⟩
theorem tZ.ex{base rb:Nat}{w w':World}{v:Value}{rs:List BK}{p:List fI}(H:tZ base w v rs p)(hb:Ex rb w w')(hl:rb<base):tZ base w' v rs p:=
 ⟨H.len,H.row.ex hb hl,λi r t hr ht=>let ⟨a,c⟩:=H.rows i r t hr ht;⟨a,c.ex hb hl⟩⟩
theorem tZ.made(w:World):tZ w.heap.size (w.alloc (.cells #[] 79)) (.slice (some ⟨w.heap.size,0,none⟩) 0 0) [] []:=
 ⟨rfl,Row.made w _,λ_ _ _ h=>by simp at h⟩
theorem tZ.pla{base:Nat}{w:World}{v:Value}{rs:List BK}{p:List fI}(H:tZ base w v rs p):yV w v p:=
 ⟨rs,H.len,H.row.cell.1,λi r t hr ht=>let ⟨a,c⟩:=H.rows i r t hr ht;⟨a,c.1⟩⟩
theorem tZ.push{base:Nat}{w w':World}{v v':Value}{rs:List BK}{p:List fI}{r:BK}{t:fI}(H:tZ base w v rs p)(hrow:Row 79 2 encDrV base w' v' (rs++[r]))(hg:w.grownBy w' v.ownBlock)
 (h1:r.az=t.az) (ho:kV base w r.iP t.steps):tZ base w' v' (rs++[r]) (p++[t]):=by
 have keep:∀{u:Value} {ops:List aV},kV base w u ops->kV base w' u ops:=λk=>k.grown hg (k.far H.row (by decide));refine⟨by simp[H.len],hrow,λi y s hy hs=>?_⟩;rw[MS]at hy hs;split at hy
 ·rename_i hi';rw[aj (by rw[<-H.len];exact hi')]at hs;obtain⟨a,c⟩:=H.rows i y s hy hs;exact⟨a,keep c⟩
 ·rename_i hi';rw[au (by rw[<-H.len];exact hi')]at hs;have hi0:i-rs.length=0:=by
   have:=(bG.1 hy).1
   simp at this;omega
  rw[hi0]at hy;rw[<-H.len,hi0]at hs;simp at hy hs;subst hy hs;exact⟨h1,keep ho⟩
section
variable{base:Nat}{w:World}{v:Value}{ops:Array Oper}{rest:List Oper}{o:Oper}{a:Act}{Q:Exit->Act->World->Prop}{s x:Operand}{A:Option Addr}{n c:Nat}
theorem adp{rs:List BK}{p:List fI}{r:BK}(t:fI)(hwant:Region.wanted o (yielded ops a.tmps)=true)
 (ho:o.op=.call { callee:=.builtin .append,args:=#[s,x],argTypes:=#[36,36] }) (hs:a.eval s=v) (hx:a.eval x=.slice A n c)
 (H:tZ base w v rs p) (hsrc:aL 2 encDrV w (.slice A n c) [r]) (h1:r.iP.oneCell'=true) (hn:p.length+1<=4194304) (hbase:base<=w.heap.size) (e1:r.az=t.az) (hO:kV base w r.iP t.steps)
 (k:∀v' w',tZ base w' v' (rs++[r]) (p++[t])->w.grownBy w' v.ownBlock->wpList Tryz.prog ops Q rest (a.put o.dst v') w'):wpList Tryz.prog ops Q (o :: rest) a w:=
 qD qm QF rfl (by omega) (by omega) hwant ho hs hx H.row hsrc (λx hx j=>by simp at hx;subst hx;unfold encDrV;split<;>first|rfl|exact h1) (by rw[H.len];simpa using hn) hbase
  (λv' w' hrow hg=>k v' w' (H.push hrow hg e1 hO) hg)
end
def B2(T:TypeId)(W:World)(g:Nat)(a b:Value):Prop:=W.heap[g]? =some (.cells #[a,b] T (0,0))
theorem B2.made(w:World)(a b:Value)(T:TypeId):B2 T (w.alloc (.cells #[a,b] T)) w.heap.size a b:=dP w _
theorem B2.lt{T:TypeId}{W:World}{g:Nat}{a b:Value}(h:B2 T W g a b):g<W.heap.size:=(fF.1 h).1
theorem B2.ex{T:TypeId}{rb:Nat}{W W':World}{g:Nat}{a b:Value}(h:B2 T W g a b)(hx:Ex rb W W')(hn:g≠rb):B2 T W' g a b:=(World.grownBy.block hx g h.lt (by simpa using hn)).trans h
theorem B2.ext{T:TypeId}{W W':World}{g:Nat}{a b:Value}(h:B2 T W g a b)(hx:Ext W W'):B2 T W' g a b:=(Below.block hx g h.lt).trans h
theorem B2.grown{T:TypeId}{W W':World}{g:Nat}{a b:Value}{row:Option Nat}(h:B2 T W g a b)(hg:W.grownBy W' row)(hn:row≠some g):B2 T W' g a b:=(hg.block g h.lt (λe=>hn e.symm)).trans h
theorem B2.c0{T:TypeId}{W:World}{g:Nat}{a b:Value}(h:B2 T W g a b):W.cell? ⟨g,0,none⟩=some a:=by unfold B2 at h;simp[World.cell?,h]
theorem B2.c1{T:TypeId}{W:World}{g:Nat}{a b:Value}(h:B2 T W g a b):W.cell? ⟨g,1,none⟩=some b:=by unfold B2 at h;simp[World.cell?,h]
theorem B2.fr{T:TypeId}{W:World}{g:Nat}{a b:Value}(h:B2 T W g a b)(j:Nat):W.frozen? ⟨g,j,none⟩=false:=by unfold B2 at h;simp[World.frozen?,h]
theorem B2.s1{T:TypeId}{W:World}{g:Nat}{a b:Value}(h:B2 T W g a b)(u:Value):B2 T (W.setCell ⟨g,1,none⟩ u) g a u:=by unfold B2 at *;simp[World.setCell,lW,h]
theorem Row.aaQ{α:Type}{e T:TypeId}{m g:Nat}{enc:α->Nat->Value}{base:Nat}{w:World}{v:Value}{xs:List α}{a b:Value}(h:Row e m enc base w v xs)(hB:B2 T w g a b)(hne:e≠T):v.ownBlock≠some g:=λe'=>h.ne hB hne e'.symm
def PL(rb m:Nat)(w wr:World)(out:Value)(q:Nat):Prop:=ER rb m w wr/\∃rs p,tZ w.heap.size wr out rs p/\p.length+q<=4/\∀d∈p,d.steps.length<=4
def PI(rb m:Nat)(wo wr:World)(tb:Nat)(s:Int)(j:Nat):Prop:=ER rb m wo wr/\∃ov ops,B2 79 wr tb (.int .i64 s) ov/\Row 67 3 encOpr wo.heap.size wr ov ops/\ops.length+j<=4
theorem PI.I4{rb m tb j:Nat}{wo W w0 w7:World}{ov v7:Value}{s:Int}{ops:List aV}{x:aV}(hr:rb<wo.heap.size)(htb:wo.heap.size<=tb)(hE:ER rb m wo W)(hB:B2 79 W tb (.int .i64 s) ov)(hO:Row 67 3 encOpr wo.heap.size W ov ops)(hl:ops.length+j<=4)(hp:0<j)
 (b:Ext W w0) (hrow:Row 67 3 encOpr wo.heap.size w7 v7 (ops++[x])) (hg:w0.grownBy w7 ov.ownBlock) :
 B2 79 w7 tb (.int .i64 s) ov/\PI rb m wo (w7.setCell ⟨tb,1,none⟩ v7) tb s (j-1):=by
 have FJ:B2 79 w7 tb (.int .i64 s) ov:=(hB.ext b).grown hg ((hO.ext b).aaQ (hB.ext b) (by decide));refine⟨FJ,((hE.ext b).grown hg hr (λk hk=>hO.block k hk)).set hr htb _ _,v7,_,FJ.s1 v7,hrow.keep (jZ _ ⟨tb,1,none⟩ _) (λk hk e=>?_),by simp;omega⟩;exact hrow.aaQ FJ (by decide) (hk.trans e.symm)
theorem adP{base:Nat}{W0 W:World}{v:Value}{xs:List aV}(q:Nat)(hq:W.heap.size=q)(H:Row 67 3 encOpr base W0 v xs)(hx:Ext W0 W)(x:aV)(hn:xs.length+1<=4194304)(hb:base<=W0.heap.size) :
 ∃A c w',(Builtin.append_ #[46,46] 46 #[v,.slice (some ⟨q,0,none⟩) 1 1]).run Tryz.prog (W.alloc (.cells #[.int .i64 x.kind,.int .i64 x.key,.int .i64 x.value] 67))=.ok (.slice A (xs.length+1) c) w' /\
  Row 67 3 encOpr base w' (.slice A (xs.length+1) c) (xs++[x])/\(W.alloc (.cells #[.int .i64 x.kind,.int .i64 x.key,.int .i64 x.value] 67)).grownBy w' v.ownBlock:=by
 subst hq;obtain⟨v',w',hrun,hrow,hg⟩:=sJ (P:=Tryz.prog) (t:=46) (ty:=46) (e:=67) eG Tz rfl (by omega) (H.ext hx) x (λj=>by unfold encOpr;split<;>rfl) hn (by omega) (aX hb hx.size)
 obtain⟨A,c,e,-⟩:=hrow.cell.1;rw[dw]at e;subst e;exact⟨A,c,w',hrun,hrow,hg⟩
def O7:Nat->Int
 | 2=>1
 | 3=>1
 | 4=>2
 | _=>0
def xq(W:World)(L:Nat):Prop:=∀i:Nat,i<5->W.cell? ⟨L,i,none⟩=some (.int .i64 (O7 i))
theorem xq.made(W:World):xq (W.alloc (.cells #[.int .i64 0,.int .i64 0,.int .i64 1,.int .i64 1,.int .i64 2] 3)) W.heap.size:=λi hi=>by
 simp only[World.cell?,dP]
 match i,hi with
 | 0,_=>rfl
 | 1,_=>rfl
 | 2,_=>rfl
 | 3,_=>rfl
 | 4,_=>rfl
theorem xq.ex{rb L:Nat}{W W':World}(h:xq W L)(x:Ex rb W W')(hn:L≠rb):xq W' L:=λi hi=>x.cell (h i hi) hn
def PS(rb m:Nat)(wo W:World)(tb:Nat)(s:Int)(ov:Value)(ops:List aV):Prop:=ER rb m wo W/\B2 79 W tb (.int .i64 s) ov/\Row 67 3 encOpr wo.heap.size W ov ops
theorem PS.ext{rb m tb:Nat}{wo W W':World}{s:Int}{ov:Value}{ops:List aV}(h:PS rb m wo W tb s ov ops)(b:Ext W W'):PS rb m wo W' tb s ov ops:=⟨h.1.ext b,h.2.1.ext b,h.2.2.ext b⟩
theorem PS.ex{rb m m' tb:Nat}{wo W W':World}{s:Int}{ov:Value}{ops:List aV}(h:PS rb m wo W tb s ov ops)(hr:rb<wo.heap.size)(htb:wo.heap.size<=tb)(x:Ex rb W W')(r:Rd W' rb m'):PS rb m' wo W' tb s ov ops:=⟨⟨h.1.1.trans x,r⟩,h.2.1.ex x (by omega),h.2.2.ex x hr⟩
theorem PS.app{rb m tb j:Nat}{wo W0 W:World}{s:Int}{ov:Value}{ops:List aV}(q:Nat)(hq:W.heap.size=q)(h:PS rb m wo W0 tb s ov ops)(hr:rb<wo.heap.size)(htb:wo.heap.size<=tb)(hl:ops.length+j<=4)(hp:0<j)(hx:Ext W0 W)(x:aV) :
 ∃A c w',(Builtin.append_ #[46,46] 46 #[ov,.slice (some ⟨q,0,none⟩) 1 1]).run Tryz.prog (W.alloc (.cells #[.int .i64 x.kind,.int .i64 x.key,.int .i64 x.value] 67))=.ok (.slice A (ops.length+1) c) w' /\
  w'.cell? ⟨tb,1,none⟩=some ov/\w'.frozen? ⟨tb,1,none⟩=false/\PI rb m wo (w'.setCell ⟨tb,1,none⟩ (.slice A (ops.length+1) c)) tb s (j-1):=by
 obtain⟨A,c,w',hrun,hrow,hg⟩:=adP q hq h.2.2 hx x (by omega) h.1.size;obtain⟨hB,hN⟩:=PI.I4 hr htb h.1 h.2.1 h.2.2 hl hp (hx.alloc _) hrow hg;exact⟨A,c,w',hrun,hB.c1,hB.fr 1,hN⟩
theorem PL.pushed{rb m q:Nat}{w W W1 w9:World}{out v9:Value}{rs:List BK}{p:List fI}{r:BK}{t:fI}(hr:rb<w.heap.size)(H:tZ w.heap.size W out rs p)(hl:p.length+q<=4)(hq:0<q)(hM:∀d∈p,d.steps.length<=4)(hE:ER rb m w W)(b:Ext W W1)(ht:t.steps.length<=4)
 (hH:tZ w.heap.size w9 v9 (rs++[r]) (p++[t])) (hg:W1.grownBy w9 out.ownBlock):PL rb m w w9 v9 (q-1):=by
 refine⟨(hE.ext b).grown hg hr (λk hk=>H.row.block k hk),_,_,hH,by simp;omega,λx hx=>?_⟩;rcases iR.1 hx with hx|hx
 ·exact hM x hx
 ·simp at hx;subst hx;exact ht
theorem tZ.slice{base:Nat}{w:World}{v:Value}{rs:List BK}{p:List fI}(H:tZ base w v rs p):∃A c,v=.slice A p.length c:=H.pla.slice
theorem WN(rb:Nat)(w:World):Calls Tryz.prog 46 #[.pointer (some ⟨rb,0,none⟩),.int .i64 0] w λe w'=>e=.returned (.bool false)/\w=w':=by go_enter Tryz.func46,Tryz.ntmps46;go_wp2;go_returns;exact⟨rfl,rfl⟩
def acj(rb m:Nat)(w:World)(e:Ending)(w':World):Prop:=∃v p,e=.returned v/\yV w' v p/\p.length<=5/\(∀d∈p,d.steps.length<=5)/\ER rb m w w'
theorem MR(rb m:Nat)(w:World)(h:Rd w rb m)(hm:m<=100000) :
 Calls Tryz.prog 47 #[.pointer (some ⟨rb,0,none⟩),.int .i64 0] w (acj rb (m+60) w):=by
 have hrl:=h.lt;have HR:=aa h;clear h;go_enter Tryz.func47,Tryz.ntmps47;go_wp2_with fail
 refine(cZ rb _ 5 _ (HR.out.alloc _) (by omega) (by omega) (by omega)).mono ?_
 rintro e w2 ⟨K,rfl,k0,k1,r2,x2⟩;obtain⟨K,rfl⟩:=dZ k0;have Yi:Hid (PL rb (m+1) w w2 (.slice (some ⟨w.heap.size,0,none⟩) 0 0) K):=⟨⟨((Ex.refl rb w).alloc _).trans x2,r2⟩,[],[],(tZ.made w).ex x2 hrl,by simp;omega,λd hd=>by cases hd⟩;clear r2 x2 HR;go_wp2;go_loopw [5,6] (λout k wr=>∃(q:Nat) (ov:Value),ov=out/\q<=4/\k=.int .i64 (q:Int)/\Hid (PL rb (m+45-10*q) w wr ov q)) (λ_ k _=>(intOf k).toNat)
 case atStart=>exact⟨K,_,rfl,by omega,rfl,⟨Yi.out.1.mono (by omega),Yi.out.2⟩⟩
 case round=>
  clear Yi;obtain⟨q,out,rfl,hq,rfl,HA⟩:=hrel;obtain⟨wo,rfl⟩:∃wo:World,wo=wr:=⟨_,rfl⟩;have hwo:rb<wo.heap.size:=bR hrl HA.out.1.size;by_cases hq0:0<q
  ·go_wp2_with fail
   refine(cZ rb _ 3 _ HA.out.1.2 (by omega) (by omega) (by omega)).mono ?_
   rintro e w3 ⟨s,rfl,s0,s1,r3,x3⟩;go_wp2_with fail
   refine(cZ rb _ 4 _ (r3.alloc _) (by omega) (by omega) (by omega)).mono ?_
   rintro e w4 ⟨j,rfl,j0,j1,r4,x4⟩;obtain⟨j,rfl⟩:=dZ j0;have hz3:=x3.size;have hz4:w3.heap.size+1<=w4.heap.size:=by have:=x4.size;simpa using this
   obtain⟨tb,htb⟩:∃tb,w3.heap.size=tb:=⟨_,rfl⟩;have HJ4:Hid (PI rb (m+45-10*q+2) wo w4 tb s (j+1)):=by have hB:=(B2.made w3 (.int .i64 s) (.slice none 0 0) 79).ex x4 (by omega);rw[htb]at hB;exact⟨⟨(x3.alloc _).trans x4,r4⟩,_,[],hB,Row.nil,by simp;omega⟩
   have DJ:wo.heap.size<=tb:=by omega
   rw[htb];clear r3 x3 r4 x4 hz3 hz4 htb;have hjw:IntKind.i64.wrap (1+(j:Int))=((j+1:Nat):Int):=by rw[bF];omega
   go_wp2;go_loopw [8] (λjv wr=>∃(j:Nat),j<=4/\jv=.int .i64 (j:Int)/\Hid (PI rb (m+55-10*q-2*j) wo wr tb s j)) (λjv _=>(intOf jv).toNat)
   case atStart=>exact⟨j+1,by omega,by go_num,⟨HJ4.out.1.mono (by omega),HJ4.out.2⟩⟩
   case round=>
    clear HJ4;obtain⟨j,hj,rfl,HJ⟩:=hrel;by_cases hj0:0<j
    ·obtain⟨hE,ov,ops,hB,hO,hol⟩:=HJ.out;obtain⟨A8,c8,rfl,-⟩:=id hO.cell.1;have HS:Hid (PS rb (m+55-10*q-2*j) wo wr tb s (.slice A8 ops.length c8) ops):=⟨hE,hB,hO⟩;have k0:=hB.c1;have hwr:wr.heap.size≠rb:=by have:=hE.size;omega
     have HM:=aa (show m+55-10*q-2*j<=1000000/\m+55-10*q-2*j+1<=1000000 by omega);have HW5:Hid (∀W:World,ER rb (m+55-10*q-2*j+1) wo W->W.heap.size≠rb):=λW h=>by have:=h.size;omega
     clear hE hB hO HJ;go_wp2;refine nJ 12 (λW:World=>W.cell? ⟨tb,1,none⟩=some (.slice A8 ops.length c8)) (by kernel_rfl) (by kernel_rfl) ?_;simp only[List.take_succ_cons,aaD,List.drop_succ_cons,oP];have hHeld:(λW:World=>W.cell? ⟨tb,1,none⟩=some (.slice A8 ops.length c8)) wr.drew:=k0;refine fG 0 (.pointer (some ⟨tb,1,none⟩)) rfl (iK ⟨by rfl,λ_ _=>by go_simp⟩) hHeld ?_;try go_frame
     refine fG 1 (.slice A8 ops.length c8) rfl (iK ⟨by rfl,λV hV=>by (have hV:V.cell? ⟨tb,1,none⟩=some (.slice A8 ops.length c8):=hV);go_simp⟩) hHeld ?_;try go_frame
     refine fG 2 (.pointer (some ⟨rb,0,none⟩)) rfl (iK ⟨by rfl,λ_ _=>by go_simp⟩) hHeld ?_;try go_frame
     refine fG 6 (.pointer (some ⟨rb,0,none⟩)) rfl (iK ⟨by rfl,λ_ _=>by go_simp⟩) hHeld ?_;try go_frame
     refine aO (rs:=[3,5]) (by kernel_rfl) (by simp) ?_;refine aY rfl (λK hK=>?_) (aY rfl (λK hK=>?_) bu)
     ·go_simp
      refine(cZ rb (m+55-10*q-2*j) 2 _ (by first|exact HS.out.1.2.drew|exact HS.out.1.2.drew.alloc _) HM.out.1 (by decide) (by decide)).mono ?_
      rintro e w5 ⟨a,rfl,a0,a1,r5,x5⟩;have aad:IntKind.i64.wrap (1+a)=1+a:=by rw[bF];omega
      have NH:Hid (PS rb ((m+55-10*q-2*j)+1) wo w5 tb s (.slice A8 ops.length c8) ops):=by first|exact(HS.out.ext (af wr).drew).ex hwo DJ x5 r5|exact(HS.out.ext ((af wr).drew.alloc (.cells #[.int .i64 0,.int .i64 0,.int .i64 1,.int .i64 1,.int .i64 2] 3))).ex hwo DJ x5 r5
      have k5:=NH.out.2.1.c1;clear x5 r5;refine hK.out _ _ (k5) (λh5=>?_);clear hK K;try go_frame
      refine fG 4 (.int .i64 (1+a)) rfl (iK ⟨by rfl,λ_ _=>by go_simp⟩) h5 ?_;try go_frame
      refine aO (rs:=[5,7]) (by kernel_rfl) (by simp) ?_;refine aY rfl (λK hK=>?_) (aY rfl (λK hK=>?_) bu)
      ·go_simp;refine hK.out _ _ (((af w5).alloc _).cell k5) (λh6=>?_);clear hK K;try go_frame
       refine aO (rs:=[7]) (by kernel_rfl) (by simp) ?_;refine aY rfl (λK hK=>?_) bu;go_simp
       refine(cZ rb ((m+55-10*q-2*j)+1) 5 _ (by first|exact NH.out.1.2|exact NH.out.1.2.alloc _) HM.out.2 (by decide) (by decide)).mono ?_
       rintro e w6 ⟨i,rfl,i0,i1,r6,x6⟩;obtain⟨i,rfl⟩:=dZ i0;have hi5:i<5:=by omega
       have hs6:PS rb ((m+55-10*q-2*j)+1+1) wo w6 tb s (.slice A8 ops.length c8) ops:=by first|exact NH.out.ex hwo DJ x6 r6|exact(NH.out.ext ((af w5).alloc (.cells #[.int .i64 0,.int .i64 0,.int .i64 1,.int .i64 1,.int .i64 2] 3))).ex hwo DJ x6 r6
       have k6:=hs6.2.1.c1;have u6:=(xq.made w5).ex x6 (HW5.out _ NH.out.1) i hi5;obtain⟨A9,c9,w9,hrun,y1,f1,hN⟩:=PS.app (W:=w6) w6.heap.size rfl hs6 hwo DJ hol hj0 (af w6) ⟨1+a,O7 i,0⟩;have bH:=aa hrun;have HN:=aa hN;clear hrun hN x6 r6 hs6;refine hK.out _ _ (k6) (λh7=>?_);clear hK K;try go_frame
       refine fG 8 (.pointer (some ⟨w5.heap.size,i,none⟩)) rfl (iK ⟨by rfl,λ_ _=>by go_simp⟩) h7 ?_;try go_frame
       refine aO (rs:=[9]) (by kernel_rfl) (by simp) ?_;refine aY rfl (λK hK=>?_) bu;go_simp;refine hK.out _ _ (k6) (λh9=>?_);clear hK K;try go_frame
       refine fG 10 (.agg #[.int .i64 (1+a),.int .i64 (O7 i),.int .i64 0]) rfl (iK ⟨by rfl,λ_ _=>by go_simp⟩) h9 ?_;try go_frame
       refine aO (rs:=[11]) (by kernel_rfl) (by simp) ?_;refine aY rfl (λK hK=>?_) bu;go_simp;refine hK.out _ _ (((af _).alloc _).cell (k6)) (λh11=>?_);clear hK K;try go_frame
       refine ji (by kernel_rfl) ?_ _;show wpList _ _ _ _ _ _;refine wpList_append_run rfl rfl rfl rfl bH.out ?_;clear bH;go_wp2;go_roundw;case rel=>exact⟨j-1,by omega,by go_num,⟨HN.out.1.mono (by omega),HN.out.2⟩⟩
       case measure=>simp[intOf];omega
      ·go_simp
       refine(cZ rb ((m+55-10*q-2*j)+1) 5 _ (by first|exact NH.out.1.2|exact NH.out.1.2.alloc _) HM.out.2 (by decide) (by decide)).mono ?_
       rintro e w6 ⟨i,rfl,i0,i1,r6,x6⟩;obtain⟨i,rfl⟩:=dZ i0;have hi5:i<5:=by omega
       have hs6:PS rb ((m+55-10*q-2*j)+1+1) wo w6 tb s (.slice A8 ops.length c8) ops:=by first|exact NH.out.ex hwo DJ x6 r6|exact(NH.out.ext ((af w5).alloc (.cells #[.int .i64 0,.int .i64 0,.int .i64 1,.int .i64 1,.int .i64 2] 3))).ex hwo DJ x6 r6
       have k6:=hs6.2.1.c1;have u6:=xq.made w6 i hi5;obtain⟨A9,c9,w9,hrun,y1,f1,hN⟩:=PS.app (W:=w6.alloc (.cells #[.int .i64 0,.int .i64 0,.int .i64 1,.int .i64 1,.int .i64 2] 3)) (w6.heap.size+1) (nY _ _) hs6 hwo DJ hol hj0 ((af w6).alloc (.cells #[.int .i64 0,.int .i64 0,.int .i64 1,.int .i64 1,.int .i64 2] 3)) ⟨1+a,O7 i,0⟩;have bH:=aa hrun;have HN:=aa hN;clear hrun hN x6 r6 hs6;refine hK.out _ _ (k6) (λh7=>?_);clear hK K;try go_frame
       refine aO (rs:=[5]) (by kernel_rfl) (by simp) ?_;refine aY rfl (λK hK=>?_) bu;go_simp;refine hK.out _ _ (((af w6).alloc _).cell k6) (λh8=>?_);clear hK K;try go_frame
       refine fG 8 (.pointer (some ⟨w6.heap.size,i,none⟩)) rfl (iK ⟨by rfl,λ_ _=>by go_simp⟩) h8 ?_;try go_frame
       refine aO (rs:=[9]) (by kernel_rfl) (by simp) ?_;refine aY rfl (λK hK=>?_) bu;go_simp;refine hK.out _ _ (((af w6).alloc _).cell k6) (λh9=>?_);clear hK K;try go_frame
       refine fG 10 (.agg #[.int .i64 (1+a),.int .i64 (O7 i),.int .i64 0]) rfl (iK ⟨by rfl,λ_ _=>by go_simp⟩) h9 ?_;try go_frame
       refine aO (rs:=[11]) (by kernel_rfl) (by simp) ?_;refine aY rfl (λK hK=>?_) bu;go_simp;refine hK.out _ _ (((af _).alloc _).cell (((af w6).alloc _).cell k6)) (λh11=>?_);clear hK K;try go_frame
       refine ji (by kernel_rfl) ?_ _;show wpList _ _ _ _ _ _;refine wpList_append_run rfl rfl rfl rfl bH.out ?_;clear bH;go_wp2;go_roundw;case rel=>exact⟨j-1,by omega,by go_num,⟨HN.out.1.mono (by omega),HN.out.2⟩⟩
       case measure=>simp[intOf];omega
     ·go_simp;refine hK.out _ _ (((af wr).drew.alloc _).cell k0) (λh4=>?_);clear hK K;try go_frame
      refine aO (rs:=[3]) (by kernel_rfl) (by simp) ?_;refine aY rfl (λK hK=>?_) bu;go_simp
      refine(cZ rb (m+55-10*q-2*j) 2 _ (by first|exact HS.out.1.2.drew|exact HS.out.1.2.drew.alloc _) HM.out.1 (by decide) (by decide)).mono ?_
      rintro e w5 ⟨a,rfl,a0,a1,r5,x5⟩;have aad:IntKind.i64.wrap (1+a)=1+a:=by rw[bF];omega
      have NH:Hid (PS rb ((m+55-10*q-2*j)+1) wo w5 tb s (.slice A8 ops.length c8) ops):=by first|exact(HS.out.ext (af wr).drew).ex hwo DJ x5 r5|exact(HS.out.ext ((af wr).drew.alloc (.cells #[.int .i64 0,.int .i64 0,.int .i64 1,.int .i64 1,.int .i64 2] 3))).ex hwo DJ x5 r5
      have HK5:=aa (((xq.made wr.drew)).ex x5 hwr);have k5:=NH.out.2.1.c1;clear x5 r5;refine hK.out _ _ (k5) (λh5=>?_);clear hK K;try go_frame
      refine fG 4 (.int .i64 (1+a)) rfl (iK ⟨by rfl,λ_ _=>by go_simp⟩) h5 ?_;try go_frame
      refine aO (rs:=[7]) (by kernel_rfl) (by simp) ?_;refine aY rfl (λK hK=>?_) bu;go_simp
      refine(cZ rb ((m+55-10*q-2*j)+1) 5 _ (by first|exact NH.out.1.2|exact NH.out.1.2.alloc _) HM.out.2 (by decide) (by decide)).mono ?_
      rintro e w6 ⟨i,rfl,i0,i1,r6,x6⟩;obtain⟨i,rfl⟩:=dZ i0;have hi5:i<5:=by omega
      have hs6:PS rb ((m+55-10*q-2*j)+1+1) wo w6 tb s (.slice A8 ops.length c8) ops:=by first|exact NH.out.ex hwo DJ x6 r6|exact(NH.out.ext ((af w5).alloc (.cells #[.int .i64 0,.int .i64 0,.int .i64 1,.int .i64 1,.int .i64 2] 3))).ex hwo DJ x6 r6
      have k6:=hs6.2.1.c1;have u6:w6.cell? ⟨wr.heap.size,i,none⟩=some (.int .i64 (O7 i)):=HK5.out.ex x6 hwr i hi5;obtain⟨A9,c9,w9,hrun,y1,f1,hN⟩:=PS.app (W:=w6) w6.heap.size rfl hs6 hwo DJ hol hj0 (af w6) ⟨1+a,O7 i,0⟩;have bH:=aa hrun;have HN:=aa hN;clear hrun hN x6 r6 hs6;refine hK.out _ _ (k6) (λh7=>?_);clear hK K;try go_frame
      refine fG 8 (.pointer (some ⟨wr.heap.size,i,none⟩)) rfl (iK ⟨by rfl,λ_ _=>by go_simp⟩) h7 ?_;try go_frame
      refine aO (rs:=[9]) (by kernel_rfl) (by simp) ?_;refine aY rfl (λK hK=>?_) bu;go_simp;refine hK.out _ _ (k6) (λh9=>?_);clear hK K;try go_frame
      refine fG 10 (.agg #[.int .i64 (1+a),.int .i64 (O7 i),.int .i64 0]) rfl (iK ⟨by rfl,λ_ _=>by go_simp⟩) h9 ?_;try go_frame
      refine aO (rs:=[11]) (by kernel_rfl) (by simp) ?_;refine aY rfl (λK hK=>?_) bu;go_simp;refine hK.out _ _ (((af _).alloc _).cell (k6)) (λh11=>?_);clear hK K;try go_frame
      refine ji (by kernel_rfl) ?_ _;show wpList _ _ _ _ _ _;refine wpList_append_run rfl rfl rfl rfl bH.out ?_;clear bH;go_wp2;go_roundw;case rel=>exact⟨j-1,by omega,by go_num,⟨HN.out.1.mono (by omega),HN.out.2⟩⟩
      case measure=>simp[intOf];omega
    ·obtain rfl:j=0:=by omega
     clear hj0;obtain⟨hE,ov,ops,hB,hO,hol⟩:=HJ.out;obtain⟨A8,c8,rfl,-⟩:=id hO.cell.1;obtain⟨hE0,rs,p,hD,hl,hM⟩:=HA.out;have HX:=aa (aB (hD.ex hE.1 hrl) (aB (show ER rb (m+55-10*q) w wr from ⟨hE0.1.trans hE.1,hE.2⟩) (aB hM ((kV.row hO).mono hE0.size))));have hp5:p.length+1<=4194304:=by omega
     have k0:=hB.c0;have k1:=hB.c1;clear hE hB hO HJ hE0 hD hM HA;go_wp2_with (at_builtin;refine halt ?_)
     refine Halt.go ?_;refine adp (r:=⟨s,.slice A8 ops.length c8⟩) ⟨s,ops⟩ rfl rfl rfl rfl (HX.out.1.ext ((af _).alloc _)) (aL.lit _ _ _ _ [(⟨s,.slice A8 ops.length c8⟩:BK)] rfl) rfl hp5 (HX.out.2.1.alloc _).size rfl (HX.out.2.2.2.ext ((af _).alloc _)) ?_;intro v9 w9 hH hg;have HN:=aa (PL.pushed hrl HX.out.1 hl hq0 HX.out.2.2.1 HX.out.2.1 ((af _).alloc _) (show ops.length<=4 by omega) hH hg);clear hH hg k0 k1;go_wp2;go_roundw;case rel=>exact⟨q-1,_,rfl,by omega,by go_num,⟨HN.out.1.mono (by omega),HN.out.2⟩⟩
     case measure=>simp[intOf];omega
  ·obtain rfl:q=0:=by omega
   clear hq0;obtain⟨hE,rs,p,hD,hl,hM⟩:=HA.out;obtain⟨A,c,rfl⟩:=hD.slice;go_wp2_with (go_at_call 46;refine(WN rb _).mono ?_;rintro e w8 ⟨rfl,rfl⟩)
   go_returns;exact⟨_,p,rfl,hD.pla,by omega,λd hd=>by have:=hM d hd;omega,hE.mono (by omega)⟩
end
theorem UZ{p:List fI}(hp:eu p=true):(jP p).length<=88:=by
 have hl:p.length<=4:=jW hp
 have:=pK [59,32] 20 (ws:=p.map fo) (λx hx=>by
  obtain⟨d,hd,rfl⟩:=fV.1 hx
  have:=qj (dO hp hd) (d.steps.length+1)
  rw[nV]at this;exact this) p.length
 rw[dX,jX (by rw[dX];exact av _)]at this;simp only[eO,iJ]at this;show (joinL [59,32] (p.map fo)).length<=88;omega
theorem oQ(a b:ByteArray)(ha:a.size<=500)(hb:b.size<=500):∃z:ByteArray,(∀w,(Op.stringOp .add a b).run Tryz.prog w=.ok (.string z) w)/\z.size=a.size+b.size:=
 ⟨a++b,λw=>run_string_add_sum w a b (by omega),ByteArray.size_append⟩
def XK(rb m:Nat)(w:World)(e:Ending)(w':World):Prop:=∃s:List UInt8,e=.returned (.string (tx s))/\s.length<=1000/\ER rb m w w'
theorem Lh{rb m:Nat}{w w':World}{z:ByteArray}(hz:z.size<=1000)(h:ER rb m w w'):XK rb m w (.returned (.string z)) w':=⟨z.data.toList,rfl,by simpa using hz,h⟩
theorem EI(rb m:Nat)(next:Int)(w:World)(h:Rd w rb m)(hm:m<=50000)(h0:0<=next)(h1:next<=1000) :
 Calls Tryz.prog 22 #[.pointer (some ⟨rb,0,none⟩),.int .i64 next] w (XK rb (m+70) w):=by
 have hrl:=h.lt;have HR:=aa h;clear h;go_enter Tryz.func22,Tryz.ntmps22;go_wp2_with fail
 refine(Ga rb m 6 _ HR.out (by omega) (by decide)).mono ?_
 rintro e w1 ⟨k,rfl,r1,x1⟩;have hw1:=bR hrl x1.size
 cases k with
 | true=>
   have HX:=aa x1;clear x1;go_wp2_with fail
   refine(cZ rb _ 11 _ (r1.alloc _) (by omega) (by decide) (by decide)).mono ?_
   rintro e w2 ⟨i,rfl,i0,i1,r2,x2⟩;obtain⟨i,rfl⟩:=dZ i0;obtain⟨u,cu,z,rfl,hz⟩:=JB (λv=>∃z:ByteArray,v=.string z/\z.size<=1000) x2 hw1 i (by simp;omega) (by intro v hv;simp only[mM,agH,or_false]at hv;rcases hv with (rfl|rfl|rfl|rfl|rfl|rfl|rfl|rfl|rfl|rfl|rfl)<;>exact⟨_,rfl,by decide⟩)
   have HE:Hid (ER rb (m+70) w w2):=⟨(HX.out.alloc _).trans x2,r2.mono (by omega)⟩;clear HX r1 r2 x2 HR;go_wp2;go_returns;exact Lh hz HE.out
 | false=>
   have Il:Hid (ER rb (m+1) w w1):=⟨x1,r1⟩;clear x1 r1 HR;go_wp2_with fail
   refine(cZ rb _ 9 _ Il.out.2 (by omega) (by decide) (by decide)).mono ?_
   rintro e w2 ⟨a,rfl,a0,a1,r2,x2⟩;have HE2:Hid (ER rb (m+2) w w2):=⟨Il.out.1.trans x2,r2⟩;clear Il r2 x2;go_wp2_with fail
   refine(gL (min 99 (next+a)) _ (by omega) (by omega)).mono ?_
   rintro e w3 ⟨rfl,b3⟩;obtain⟨zn,hzn⟩:∃z,tx (bT (min 99 (next+a)).toNat)=z:=⟨_,rfl⟩;have hsn:zn.size<=2:=by rw[<-hzn,dR];exact kE _
   rw[hzn];have tF:=aa (HE2.out.ext b3);clear HE2 b3 hzn;go_wp2_with fail
   refine(cZ rb _ 3 _ tF.out.2 (by omega) (by decide) (by decide)).mono ?_
   rintro e w4 ⟨c,rfl,c0,c1,r4,x4⟩;have sU:Hid (ER rb (m+3) w w4):=⟨tF.out.1.trans x4,r4⟩;clear tF r4 x4;go_wp2_with fail
   refine(gL c _ c0 (by omega)).mono ?_
   rintro e w5 ⟨rfl,b5⟩;obtain⟨z1,hz1⟩:∃z,tx (bT c.toNat)=z:=⟨_,rfl⟩;have hs1:z1.size<=2:=by rw[<-hz1,dR];exact kE _
   rw[hz1];have L6:=aa (sU.out.ext b5);clear sU b5 hz1;obtain⟨y1,k1,t1⟩:=oQ ⟨#[112,117,116,32,115]⟩ z1 (by decide) (by omega);replace t1:y1.size=5+z1.size:=t1;obtain⟨y2,k2,t2⟩:=oQ y1 ⟨#[32,111,107,32,119,48,61]⟩ (by omega) (by decide);replace t2:y2.size=y1.size+7:=t2;obtain⟨y3,k3,t3⟩:=oQ y2 zn (by omega) (by omega);obtain⟨y4,k4,t4⟩:=oQ ⟨#[112,117,116,32,115,49,32,111,107,32,114,48,61]⟩ zn (by decide) (by omega);replace t4:y4.size=13+zn.size:=t4;obtain⟨y5,k5,t5⟩:=oQ y4 ⟨#[32,119,49,61]⟩ (by omega) (by decide);replace t5:y5.size=y4.size+4:=t5;obtain⟨y6,k6,t6⟩:=oQ y5 zn (by omega) (by omega);obtain⟨y7,k7,t7⟩:=oQ ⟨#[112,117,116,32,115,50,32,111,102,102,32,119,50,61]⟩ zn (by decide) (by omega);replace t7:y7.size=14+zn.size:=t7;have HS:Hid (y3.size<=1000/\y6.size<=1000/\y7.size<=1000):=⟨by omega,by omega,by omega⟩;clear t1 t2 t3 t4 t5 t6 t7 hs1 hsn;go_wp2_with fail
   refine(cZ rb _ 5 _ L6.out.2 (by omega) (by decide) (by decide)).mono ?_
   rintro e w6 ⟨d,rfl,d0,d1,r6,x6⟩;have Wp:Hid (ER rb (m+4) w w6):=⟨L6.out.1.trans x6,r6⟩;clear L6 r6 x6 k1 k2 k3 k4 k5 k6 k7;go_wp2_with fail
   refine(gL d _ d0 (by omega)).mono ?_
   rintro e w7 ⟨rfl,b7⟩;obtain⟨z2,hz2⟩:∃z,tx (bT d.toNat)=z:=⟨_,rfl⟩;have hs2:z2.size<=2:=by rw[<-hz2,dR];exact kE _
   rw[hz2];have Ak:=aa (Wp.out.ext b7);clear Wp b7 hz2;obtain⟨y8,k8,t8⟩:=oQ ⟨#[100,114,111,112,32]⟩ z2 (by decide) (by omega);replace t8:y8.size=5+z2.size:=t8;have HS8:Hid (y8.size<=1000):=by show _<=_;omega
   clear t8 hs2;go_wp2_with fail
   refine(MR rb (m+4) _ Ak.out.2 (by omega)).mono ?_
   rintro e w8 ⟨v,p,rfl,hv,hpl,hps,x8,r8⟩;have Y7:Hid (ER rb (m+64) w w8):=⟨Ak.out.1.trans x8,r8.mono (by omega)⟩;have HT:=aa (zK w8 hv (by omega) (λd hd=>by have:=hps d hd;omega));have HL:Hid ((tx (if eu p then jP p else [])).size<=88):=by
    show (tx _).size<=88;rw[dR];split
    ·rename_i hok;exact UZ hok
    ·simp
   obtain⟨A,cc,rfl⟩:=hv.slice;obtain⟨z3,hz3⟩:∃z,tx (if eu p then jP p else [])=z:=⟨_,rfl⟩;rw[hz3]at HT HL;clear Ak x8 r8 hv hpl hps k8 hz3;go_wp2_with fail
   refine HT.out.mono ?_;rintro e w9 ⟨rfl,b9⟩;obtain⟨y9,k9,t9⟩:=oQ ⟨#[114,117,110,32]⟩ z3 (by decide) (by have:=HL.out;omega);replace t9:y9.size=4+z3.size:=t9;have HS9:Hid (y9.size<=1000):=by show _<=_;have:=HL.out;omega
   have Qz:=aa (Y7.out.ext b9);clear t9 HT HL Y7 b9;go_wp2_with fail
   refine(cZ rb _ 8 _ (Qz.out.2.alloc _) (by omega) (by decide) (by decide)).mono ?_
   rintro e Yf ⟨i,rfl,i0,i1,V7,Un⟩;obtain⟨i,rfl⟩:=dZ i0;obtain⟨u,cu,z,rfl,hz⟩:=JB (λv=>∃z:ByteArray,v=.string z/\z.size<=1000) Un (bR hrl Qz.out.size) i (by simp;omega) (by
    intro v hv;simp only[mM,agH,or_false]at hv;rcases hv with (rfl|rfl|rfl|rfl|rfl|rfl|rfl|rfl)
    ·exact⟨_,rfl,HS.out.1⟩
    ·exact⟨_,rfl,HS.out.2.1⟩
    ·exact⟨_,rfl,HS.out.2.2⟩
    ·exact⟨_,rfl,HS8.out⟩
    ·exact⟨_,rfl,HS9.out⟩
    ·exact⟨_,rfl,by decide⟩
    ·exact⟨_,rfl,by decide⟩
    ·exact⟨_,rfl,by decide⟩)
   have HE:Hid (ER rb (m+70) w Yf):=⟨(Qz.out.1.alloc _).trans Un,V7.mono (by omega)⟩;clear Qz V7 Un k9;go_wp2;go_returns;exact Lh hz HE.out
theorem DD{v:Value}(w:World)(h:GG w v):Calls Tryz.prog 6 #[v] w λe w'=>∃u h s,e=.returned (.tuple #[u,.string (tx s)])/\iM w' u h/\h.length<=2097152/\(∀t∈h,t.ops.length<=2097152)/\s.length<=1000/\Ext w w':=by
 have H:=aa h;clear h;go_enter Tryz.func6,Tryz.ntmps6;go_wp2_with fail
 refine(Lt _ H.out).mono ?_
 rintro e w1 ⟨rb,rfl,hl,r1,b1⟩;have HB:=aa b1;clear b1;go_wp2_with fail
 refine(xW rb 0 4 14 w1 r1 (by decide) (by decide) (by decide) (by decide)).mono ?_
 rintro e w2 ⟨u,h,rfl,hh,hlen,hM,x2,r2⟩;have HH:=aa (aB hh (aB (show h.length<=2097152 by omega) (show ∀t∈h,t.ops.length<=2097152 from λt ht=>by have:=hM t ht;omega)));have sV:=aa x2;obtain⟨A,c,rfl⟩:=(hh _ (Ex.refl _ _)).slice;clear hh hlen hM x2 r1;go_wp2_with fail
 refine(EI rb (0+200) 8 w2 r2 (by decide) (by decide) (by decide)).mono ?_
 rintro e w3 ⟨s,rfl,hs,x3,r3⟩;have HF:Hid (iM w3 (.slice A h.length c) h/\Ext w w3):=⟨HH.out.1 _ x3,HB.out.ex (sV.out.trans x3) hl⟩;obtain⟨z,hz⟩:∃z,tx s=z:=⟨_,rfl⟩;rw[hz];have HZ:=aa hz;clear x3 r3 r2 hz;go_wp2;go_returns;exact⟨_,h,s,by rw[HZ.out];rfl,HF.out.1,HH.out.2.1,HH.out.2.2,hs,HF.out.2⟩
theorem Fz{v:Value}(w:World)(h:GG w v):Calls Tryz.prog 13 #[v] w λe w'=>∃u y h ls,e=.returned (.tuple #[u,y])/\iM w' u h/\h.length<=2097152/\(∀t∈h,t.ops.length<=2097152)/\aL 1 encS w' y ls/\ls.length<=2097152/\(∀s∈ls,s.length<=1048576)/\(∀A n c,y=.slice A n c->n<=c/\c<=9223372036854775807)/\Ext w w':=by
 have H:=aa h;clear h;obtain⟨ZT,hZT⟩:∃ZT,List.replicate 21 ([]:List UInt8)=ZT:=⟨_,rfl⟩;have hmk:∀W,(Instr.makeSlice 31 (.int .i64 21) (.int .i64 21)).run Tryz.prog W=.ok (.slice (some ⟨W.heap.size,0,none⟩) 21 21) (W.alloc (.cells ((List.replicate 21 ([]:List UInt8)).flatMap (aH 1 encS)).toArray 9)):=by
  intro W;have hr:=lJ (P:=Tryz.prog) 31 9 kY CK 21 (by omega) (by omega) W;have hm:madeCells (Value.string ⟨#[]⟩).cells (21*1)=((List.replicate 21 ([]:List UInt8)).flatMap (aH 1 encS)).toArray:=by kernel_rfl
  rw[hm]at hr;exact hr
 have hsl:∀W:World,aL 1 encS (W.alloc (.cells (ZT.flatMap (aH 1 encS)).toArray 9)) (.slice (some ⟨W.heap.size,0,none⟩) 21 21) ZT:=λW=>by
  have:=aL.lit (m:=1) (enc:=encS) W (ZT.flatMap (aH 1 encS)).toArray 9 21 ZT rfl
  have e:ZT.length=21:=by rw[<-hZT];simp
  rw[e]at this;exact this
 rw[hZT]at hmk;have HMK:=aa (aB hmk (aB hsl (show ZT.length<=2097152/\∀s∈ZT,s.length<=1048576 from ⟨by rw[<-hZT];simp,λs hs=>by rw[<-hZT]at hs;rw[List.eq_of_mem_replicate hs];simp⟩)));clear hmk hsl hZT;go_enter Tryz.func13,Tryz.ntmps13;go_wp2_with fail
 refine(Lt _ H.out).mono ?_
 rintro e w1 ⟨rb,rfl,hl,r1,b1⟩;have HB:=aa b1;clear b1;go_wp2_with fail
 refine(xW rb 0 2 14 w1 r1 (by decide) (by decide) (by decide) (by decide)).mono ?_
 rintro e w2 ⟨u,h,rfl,hh,hlen,hM,x2,r2⟩;have HH:=aa (aB hh (aB (show h.length<=2097152 by omega) (show ∀t∈h,t.ops.length<=2097152 from λt ht=>by have:=hM t ht;omega)));have sV:=aa x2;obtain⟨A,c,rfl⟩:=(hh _ (Ex.refl _ _)).slice;have hrl:=r2.lt;clear hh hlen hM x2 r1;go_wp2_with fail
 refine(cZ rb (0+200) 7 _ (r2.alloc _) (by decide) (by decide) (by decide)).mono ?_
 rintro e w3 ⟨K,rfl,k0,k1,r3,x3⟩;obtain⟨K,rfl⟩:=dZ k0;have Yi:Hid (ER rb 201 w2 w3/\Row 9 1 encS w2.heap.size w3 (.slice (some ⟨w2.heap.size,0,none⟩) 0 0) []):=⟨⟨((Ex.refl _ _).alloc _).trans x3,r3⟩,(Row.made w2 _).ex x3 hrl⟩;clear r2 r3 x3;go_wp2;go_loopw [6,7] (λout k wr=>∃(q:Nat) (ov:Value) (ls:List (List UInt8)),ov=out/\q<=6/\k=.int .i64 (q:Int)/\Hid (ER rb (621-70*q) w2 wr/\Row 9 1 encS w2.heap.size wr ov ls/\ls.length+q<=6/\∀s∈ls,s.length<=1000)) (λ_ k _=>(intOf k).toNat)
 case atStart=>exact⟨K,_,[],rfl,by omega,rfl,Yi.out.1.mono (by omega),Yi.out.2,by simp;omega,λs hs=>by cases hs⟩
 case round=>
  clear Yi;obtain⟨q,out,ls,rfl,hq,rfl,HA⟩:=hrel;by_cases hq0:0<q
  ·go_wp2_with fail
   refine(EI rb _ (10*(q:Int)) _ HA.out.1.2 (by omega) (by omega) (by omega)).mono ?_
   rintro e w4 ⟨s,rfl,hs,x4,r4⟩;have sU:Hid (ER rb (621-70*q+70) w2 w4):=⟨HA.out.1.1.trans x4,r4⟩;have HR4:=aa (HA.out.2.1.ex x4 hrl);have HL:=aa HA.out.2.2;have hln:ls.length+[s].length<=4194304:=by have:=HA.out.2.2.1;simp;omega
   obtain⟨z,hz⟩:∃z,tx s=z:=⟨_,rfl⟩;rw[hz];have ad2:aL 1 encS (w4.alloc (.cells #[.string z] 9)) (.slice (some ⟨w4.heap.size,0,none⟩) 1 1) [s]:=by rw[<-hz];exact aL.lit (m:=1) (enc:=encS) w4 _ _ 1 [s] rfl
   have afE:=aa ad2;clear HA x4 r4 hz ad2;go_wp2_with (at_builtin;refine halt ?_)
   refine Halt.go ?_;refine XT rfl rfl rfl rfl (HR4.out.ext ((af _).alloc _)) afE.out hln (sU.out.alloc _).size ?_;intro v9 w9 hrow hg;have HN:Hid (ER rb (621-70*(q-1)) w2 w9/\Row 9 1 encS w2.heap.size w9 v9 (ls++[s])/\(ls++[s]).length+(q-1)<=6/\∀x∈ls++[s],x.length<=1000):=⟨((sU.out.alloc _).grown hg hrl (λk hk=>HR4.out.block k hk)).mono (by omega),hrow,by have:=HL.out.1;simp;omega,λx hx=>by
    rcases iR.1 hx with hx|hx
    ·exact HL.out.2 x hx
    ·simp at hx;subst hx;exact hs⟩
   clear hrow hg;go_wp2;go_roundw;case rel=>exact⟨q-1,_,_,rfl,by omega,by go_num,HN.out⟩
   case measure=>simp[intOf];omega
  ·obtain rfl:q=0:=by omega
   clear hq0;go_wp2_with fail
   refine(Ga rb _ 24 _ HA.out.1.2 (by omega) (by decide)).mono ?_
   rintro e w5 ⟨k,rfl,r5,x5⟩;have BS:=aa (HA.out.1.1.trans x5);have HR5:=aa (HA.out.2.1.ex x5 hrl);have HL:=aa HA.out.2.2;clear HA x5 r5
   cases k with
   | false=>
     go_wp2;go_returns;exact⟨_,_,h,ls,rfl,HH.out.1 _ BS.out,HH.out.2.1,HH.out.2.2,HR5.out.cell.1,by have:=HL.out.1;omega,λs hs=>by have:=HL.out.2 s hs;omega,HR5.out.cap,HB.out.ex (sV.out.trans BS.out) hl⟩
   | true=>
     have hmk:=HMK.out.1;go_wp2;go_returns;exact⟨_,_,h,ZT,rfl,HH.out.1 _ (BS.out.alloc _),HH.out.2.1,HH.out.2.2,HMK.out.2.1 w5,HMK.out.2.2.1,HMK.out.2.2.2,(λA n c e=>by cases e;decide),HB.out.ex (sV.out.trans (BS.out.alloc _)) hl⟩
