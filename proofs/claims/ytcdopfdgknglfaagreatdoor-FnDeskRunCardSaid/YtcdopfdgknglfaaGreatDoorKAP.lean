/- Lemmas. -/
import Derived.Test.YtcdopfdgknglfaaGreatDoorKAM
import Derived.Test.YtcdopfdgknglfaaGreatDoorKAN
set_option maxHeartbeats 16000000
set_option maxRecDepth 8000
set_option linter.all false
namespace Go.Proofs.YtcdopfdgknglfaaGreatDoor
open Go.RowKit
theorem qz{h:List aG}(hok:aD h=true){k:Nat}{t:aG}(ht:h[k]? =some t){o:aV}(ho:o∈t.ops)(hw:jQ o=true):aI h o.key o.value=k:=by obtain⟨j,hj,rfl⟩:=jq ho;obtain⟨l,e⟩:=DF ht (dJ hj) hw;have hnd:=Mg hok;rw[e,rR,List.nodup_append]at hnd;have hn:lookW (dY h k t.ops j) ((t.ops[j]).key,(t.ops[j]).value)=none:=uY.2 λhm=>hnd.2.2 _ hm _ (by simp) rfl;unfold aI;rw[e,vX,hn];simp[lookW]
theorem zu{h:List aG}{k:Nat}{key value:Int}(hw:aI h key value=k):∃t,h[k]? =some t/\∃o∈t.ops,jQ o=true/\o.key=key/\o.value=value:=by
 unfold aI at hw
 cases hl:lookW (Da h) (key,value) with
 | none=>rw[hl]at hw;simp at hw
 | some n=>
   rw[hl]at hw;simp at hw
   have:n=k:=by omega
   subst this;have hm:((key,value),n)∈Da h:=by unfold lookW at hl;rw[kL]at hl;obtain⟨p,hp,rfl⟩:=hl;have h1:=List.find?_some hp;have h2:=List.mem_of_find?_eq_some hp;obtain⟨q,n⟩:=p;simp at h1;subst h1;exact h2
   obtain⟨t,ht,o,ho,hw,e⟩:=Ub hm;injection e with e1 e2;exact⟨t,ht,o,ho,hw,e1,e2⟩
theorem Rv{h:List aG}(hok:aD h=true){k:Nat}{t:aG}(ht:h[k]? =some t){i m:Nat}{p l:aV}(hp:t.ops[i]? =some p)(hl:t.ops[m]? =some l)(him:i<m)(hwp:jQ p=true)(hwl:jQ l=true)(hk:p.key=l.key)(hv:p.value=l.value):False:=by
 have hnt:kH h=true:=by simp only[aD,dh]at hok;exact hok.2
 have hmem:(l.key,l.value)∈(dY h k t.ops m).map (·.1):=by unfold dY;rw[rR,iR];right;unfold iC;rw[Xl,fV];refine⟨p,nT.2 ⟨?_,hwp⟩,by simp[hk,hv]⟩;exact aM (i:=i) (by rw[nU,aj him];exact hp)
 cases hlk:lookW (dY h k t.ops m) (l.key,l.value) with
 | none=>exact uY.1 hlk hmem
 | some n=>
   have:=zX ht hl hwl hlk
   rw[hnt]at this;cases this
def qC(h:List aG)(k:Nat)(xs:List aV):Bool:=xs.any λo=>decide (0<o.value)&&aI h o.key o.value==(k:Int)
theorem Q7{h:List aG}(hok:aD h=true){k:Nat}{t:aG}(ht:h[k]? =some t)(hown:zZ t.ops=false):uj t.ops=qC h k (mH t.ops):=by
 have hto:=dH hok (aM ht);have abv:∀i,i<t.ops.length->xM t.ops i=false:=λi hi=>by unfold zZ zV at hown;rw[List.any_eq_false]at hown;simpa using hown i (by simpa using hi)
 rw[kQ];unfold uj qC;rw[jF,jF];constructor
 ·rintro⟨i,hi,h1⟩;obtain⟨o,ho⟩:=ah (show i<t.ops.length by simpa using hi);rw[ho]at h1;simp only[dh,jF,rU]at h1;obtain⟨hr,l,hl,hlk,aaX,Yz⟩:=h1;obtain⟨d,hd,rfl⟩:=jq hl;have hl2:t.ops[i+1+d]? =some (t.ops.drop (i+1))[d]:=by rw[<-Bd,dJ hd]
  generalize (t.ops.drop (i+1))[d]=l at *;have hwl:jQ l=true:=by simp[jQ,hlk]
  have key:∀(i:Nat),∀o,t.ops[i]? =some o->oH o=true->∀m:Nat,i<m->t.ops[m]? =some l->l.key=o.key->l.value=o.value->∃f∈mH t.ops,f.key=o.key/\f.value=o.value:=by
   intro i
   induction i using Nat.strongRecOn with
   | _ i ih=>
     intro o ho hr m him hlm hk hv
     cases hb:before (t.ops.take i) o.key with
     | none=>exact⟨o,Gc.2 ⟨i,ho,by simp[J4,ho,hr,hb]⟩,rfl,rfl⟩
     | some v=>
       have hno:=abv i (bG.1 ho).1;have hv2:v=o.value:=by unfold xM at hno;rw[ho]at hno;simp only[hb,hr,Bool.true_and,bne_eq_false_iff_eq]at hno;exact hno
       obtain⟨p,hp,hpk,hpv⟩:=xN hb;obtain⟨i',hi',rfl⟩:=jq hp;have hi2:i'<i:=by rw[eY]at hi';omega
       have hp2:t.ops[i']? =some (t.ops.take i)[i']:=by rw[List.getElem_take,dJ]
       generalize (t.ops.take i)[i']=p at *;have hpo:=gD hto (aM hp2);rcases p8 hpo with hkind|hkind
       ·obtain⟨f,hf,h1,h2⟩:=ih i' hi2 p hp2 (by simp[oH,hkind]) m (by omega) hlm (by rw[hk,hpk]) (by rw[hv,hpv,hv2]);exact⟨f,hf,by rw[h1,hpk],by rw[h2,hpv,hv2]⟩
       ·exact(Rv hok ht hp2 hlm (by omega) (by simp[jQ,hkind]) hwl (by rw[hpk,hk]) (by rw[hpv,hv2,hv])).elim
  obtain⟨f,hf,h1,h2⟩:=key i o ho hr (i+1+d) (by omega) hl2 aaX Yz;refine⟨f,hf,?_⟩;have hm:l∈t.ops:=aM hl2;have hpos:=AJ (gD hto hm) hwl;have hwr:=qz hok ht hm hwl;rw[dh,rU,beq_iff_eq];exact⟨by rw[h2,<-Yz];exact hpos,by rw[h1,h2,<-aaX,<-Yz];exact hwr⟩
 ·rintro⟨f,hf,h1⟩;rw[dh,rU,beq_iff_eq]at h1;obtain⟨j,hj,hfa⟩:=Gc.1 hf;have hjl:=(bG.1 hj).1;unfold J4 at hfa;rw[hj]at hfa;simp only[dh,Option.isNone_iff_eq_none]at hfa;obtain⟨t',ht',l,hl,hwl,hlk,hlv⟩:=zu h1.2;rw[ht]at ht';cases ht';obtain⟨m,hm,rfl⟩:=jq hl;have hjm:j<m:=by
   rcases Nat.lt_trichotomy j m with h'|h'|h'
   ·exact h'
   ·subst h';rw[dJ hm]at hj;cases hj
    have:=Vt hfa.1
    rw[show (t.ops[j].kind==2)=true from hwl]at this;cases this
   ·exact absurd hlk (Ep hfa.2 (aM (i:=m) (by rw[nU,aj h',dJ hm])))
  refine⟨j,by simpa using hjl,?_⟩;rw[hj];simp only[dh,jF,rU];refine⟨hfa.1,t.ops[m],?_,by simpa[jQ] using hwl,hlk,hlv⟩;refine aM (i:=m-(j+1)) ?_;rw[Bd,show j+1+(m-(j+1))=m by omega,dJ hm]
def ug(h:List aG)(k:Nat):Bool:=(List.range k).any λn=>jk h n&&qC h n (mH (opsOf h n))
theorem OP(h:List aG)(k:Nat):ug h (k+1)=(ug h k || (jk h k&&qC h k (mH (opsOf h k)))):=by unfold ug;rw[vU,List.any_append];simp
theorem FM{h:List aG}(hok:aD h=true)(hb:∀k:Nat,1<=k->k<=4->iF h (k:Int)=false):jc h = !ug h h.length:=by
 have b1:iF h 1=false:=hb 1 (by omega) (by omega);have b2:iF h 2=false:=hb 2 (by omega) (by omega);have b3:iF h 3=false:=hb 3 (by omega) (by omega);have b4:iF h 4=false:=hb 4 (by omega) (by omega);have key:((List.range h.length).any λn=>jk h n&&uj (opsOf h n))=ug h h.length:=by
  unfold ug;rw[kQ,jF,jF];have hsame:∀n∈List.range h.length,(jk h n&&uj (opsOf h n))=(jk h n&&qC h n (mH (opsOf h n))):=λn hn=>by
   cases hd:jk h n with
   | false=>rfl
   | true=>
     obtain⟨t,ht⟩:=ah (show n<h.length by simpa using hn);have hown:zZ t.ops=false:=by
      unfold iF at b4;rw[List.any_eq_false]at b4
      have:=b4 n hn
      rw[hd,nO,aj rfl,dV ht,Bool.true_and]at this;simpa using this
     rw[dV ht,Q7 hok ht hown]
  constructor
  ·rintro⟨n,hn,h1⟩;exact⟨n,hn,by rw[<-hsame n hn];exact h1⟩
  ·rintro⟨n,hn,h1⟩;exact⟨n,hn,by rw[hsame n hn];exact h1⟩
 unfold jc;rw[hok,b1,b2,b3,b4,key];simp
theorem Fp{v:Value}{h:List aG}(w:World)(H:iM w v h)(hok:aD h=true) :
 Calls Tryz.prog 157 #[v] w λe w'=>e=.returned (.bool (jc h))/\Ext w w':=by
 obtain⟨A,c,rfl⟩:=H.slice;have HH:=aa H;have fu:=aa hok;have hlen:=aR hok;clear H hok;go_enter Tryz.func157,Tryz.ntmps157;go_wp2;go_loopw [3] (λi wr=>Ext w wr/\∃k:Nat,1<=k/\k<=5/\i=.int .i64 k/\Hid (∀j:Nat,1<=j->j<k->iF h (j:Int)=false)) (λi _=>5-(intOf i).toNat)
 case atStart=>exact⟨af _,1,av _,by omega,rfl,λj h1 h2=>by omega⟩
 case round=>
  obtain⟨hb,k,hk1,hk5,rfl,HI⟩:=hrel;by_cases hlt:k<=4
  ·go_wp2_with fail
   refine(JR (k:Int) _ (HH.out.ext hb) fu.out (by omega)).mono ?_
   rintro e w2 ⟨A2,n,c2,rfl,hn,hn2,b2⟩
   cases hba:iF h (k:Int) with
   | true=>
     have hr:=aa (xU hk1 hlt hba);rw[hba]at hn;have hn0:0<n:=by simpa using hn
     clear hba hn;go_wp2;go_returns;exact⟨aS hr.out.symm,hb.trans b2⟩
   | false=>
     rw[hba]at hn;have hn0:n=0:=by simpa using hn
     subst hn0;have HBA:=aa hba;clear hba hn;go_wp2;go_roundw;case rel=>exact⟨hb.trans b2,k+1,by omega,by omega,by go_num,λj h1 h2=>by
      rcases eP j k with h'|h'
      ·exact HI.out j h1 h'
      ·obtain rfl:j=k:=by omega
       exact HBA.out⟩
     case measure=>simp[intOf];omega
  ·obtain rfl:k=5:=by omega
   have hend:=aa (FM fu.out (λj h1 h2=>HI.out j h1 (by omega)));have HB0:=aa hb;clear hb HI;rw[show ((5:Nat):Int)=5 from rfl];go_wp2;go_loopw [4] (λi wr=>Ext w wr/\∃k:Nat,k<=h.length/\i=.int .i64 k/\Hid (ug h k=false)) (λi _=>h.length-(intOf i).toNat)
   case atStart=>exact⟨HB0.out,0,aT _,rfl,rfl⟩
   case round=>
    obtain⟨hb,k,hk,rfl,HI⟩:=hrel;by_cases hlt:k<h.length
    ·obtain⟨b,off,rfl,hbl,hc⟩:=HH.out.head (by omega);obtain⟨t,ht⟩:=ah hlt;obtain⟨ov,c0,c1,c2,hs⟩:=hc k t ht;have CC:=aa (aB c0 (aB c1 c2));replace c0:=hb.cell c0;replace c1:=hb.cell c1;replace c2:=hb.cell c2;have hto:=dH fu.out (aM ht);have VZ:=aa hto;have HS:=aa hs;have hdo:Hid (jk h k=t.done):=by show _ = _;simp[jk,ht]
     have hnx:=OP h k;rw[dV ht]at hnx;have jC:=aa hnx;have hfl:(mH t.ops).length<=6:=by have h1:=BZ t.ops t.ops.length;have h2:=dF hto;show (Cy t.ops t.ops.length).length<=6;omega
     clear ht hc hs hto hnx;go_wp2_with fail
     refine(wN t _ _ (HS.out.ext hb) VZ.out).mono ?_
     rintro e w2 ⟨v2,rfl,r2,b2⟩;obtain⟨A2,c2',rfl,_⟩:=id r2.cell.1;have HR2:=aa r2.cell.1;have HB2:=aa (hb.trans b2);clear r2 b2 hb c0 c1 c2;go_wp2;go_loopw [6] (λi wr=>Ext w2 wr/\∃j:Nat,j<=(mH t.ops).length/\i=.int .i64 j/\Hid ((t.done&&qC h k ((mH t.ops).take j))=false)) (λi _=>(mH t.ops).length-(intOf i).toNat)
     case atStart=>exact⟨af _,0,aT _,rfl,by show _ = _;simp[qC]⟩
     case round=>
      obtain⟨hb3,j,hj,rfl,HJ⟩:=hrel;by_cases hjt:j<(mH t.ops).length
      ·obtain⟨A3,c3,hA3,hcc⟩:=HR2.out.ext hb3;injection hA3 with e1 e2 e3;subst e1 e3;obtain⟨b',off',rfl,ru,hcc⟩:=hcc (by omega);obtain⟨o,ho⟩:=ah hjt;have hbb:=HB2.out.trans hb3;have d1:∀e,(over wr e).cell? ⟨b',off'+j*3+1,none⟩=some (.int .i64 o.key):=aK (hcc j o ho 1 (by omega));have d2:∀e,(over wr e).cell? ⟨b',off'+j*3+2,none⟩=some (.int .i64 o.value):=aK (hcc j o ho 2 (by omega));have d3:∀e,(over wr e).cell? ⟨b,off+k*3+2,none⟩=some (.bool t.done):=aK (hbb.cell CC.out.2.2);obtain⟨z,hz⟩:∃z,aI h o.key o.value=z:=⟨_,rfl⟩;have hW:Hid (∀e,Calls Tryz.prog 69 #[.slice (some ⟨b,off,none⟩) h.length c,.int .i64 o.key,.int .i64 o.value] (over wr e) λx w'=>x=.returned (.int .i64 z)/\over wr e=w'):=λe=>by rw[<-hz];exact iH o.key o.value _ ((HH.out.ext hbb).ext (xI _ _)) (by omega) (aJ fu.out)
       have htk:Hid (∀r,(decide (0<o.value)&&z==(k:Int))=r->qC h k ((mH t.ops).take (j+1))=(qC h k ((mH t.ops).take j) || r)):=λr hr=>by rw[<-hr,<-hz];unfold qC;rw[ak ho,List.any_append];simp
       have hyes:Hid ((t.done&&qC h k ((mH t.ops).take (j+1)))=true->jc h=false):=λhy=>by
        rw[dh]at hy;have h1:ug h (k+1)=true:=by
         rw[jC.out,hdo.out,hy.1]
         have:qC h k (mH t.ops)=true:=by have h2:=hy.2;unfold qC at h2 ⊢;rw[jF]at h2 ⊢;obtain⟨x,hx,h3⟩:=h2;exact⟨x,oI hx,h3⟩
         rw[this];simp
        have h2:ug h h.length=true:=by unfold ug at h1 ⊢;rw[jF]at h1 ⊢;obtain⟨x,hx,h3⟩:=h1;exact⟨x,by simp at *;omega,h3⟩
        rw[hend.out,h2];rfl
       have Db:=aa hbb;clear hcc ho e2 hz hbb
       cases hd:t.done with
       | false=>
         rw[hd]at d3;go_wp2;refine aU (by kernel_rfl) (by kernel_rfl) ?_;repeat (go_big_quiet_step ((go_at_call 69;exact pO (hW.out _))))
         refine j5 ?_;intro w4 hb4;go_wp2;go_roundw;case rel=>exact⟨hb3.trans hb4,j+1,by omega,by go_num,rfl⟩
         case measure=>simp[intOf];omega
       | true=>
         rw[hd]at d3
         cases hv:decide (0<o.value) with
         | false=>
           have hn:Hid (qC h k ((mH t.ops).take (j+1))=qC h k ((mH t.ops).take j)):=by show _ = _;rw[htk.out false (by rw[hv];rfl),Bool.or_false]
           go_wp2;refine aU (by kernel_rfl) (by kernel_rfl) ?_;repeat (go_big_quiet_step ((go_at_call 69;exact pO (hW.out _))))
           refine j5 ?_;intro w4 hb4;go_wp2;go_roundw;case rel=>exact⟨hb3.trans hb4,j+1,by omega,by go_num,by
            have:=HJ.out
            rw[hd]at this;show _ = _;rw[hn.out];exact this⟩
           case measure=>simp[intOf];omega
         | true=>
           cases qO:(z==(k:Int)) with
           | false=>
             have hn:Hid (qC h k ((mH t.ops).take (j+1))=qC h k ((mH t.ops).take j)):=by show _ = _;rw[htk.out false (by rw[hv,qO];rfl),Bool.or_false]
             go_wp2;refine aU (by kernel_rfl) (by kernel_rfl) ?_;repeat (go_big_quiet_step ((go_at_call 69;exact pO (hW.out _))))
             refine j5 ?_;intro w4 hb4;go_wp2;go_roundw;case rel=>exact⟨hb3.trans hb4,j+1,by omega,by go_num,by
              have:=HJ.out
              rw[hd]at this;show _ = _;rw[hn.out];exact this⟩
             case measure=>simp[intOf];omega
           | true=>
             have hf:=aa (hyes.out (by rw[hd,htk.out true (by rw[hv,qO];rfl)];simp));go_wp2;refine aU (by kernel_rfl) (by kernel_rfl) ?_;repeat (go_big_quiet_step ((go_at_call 69;exact pO (hW.out _))))
             refine j5 ?_;intro w4 hb4;go_wp2;go_returns;exact⟨aS hf.out.symm,Db.out.trans hb4⟩
      ·obtain rfl:j=(mH t.ops).length:=by omega
       go_wp2;go_roundw;case rel=>exact⟨HB2.out.trans hb3,k+1,by omega,by go_num,by
        show _ = _
        have:=HJ.out
        rw[bM]at this;rw[jC.out,HI.out,hdo.out,this];rfl⟩
       case measure=>simp[intOf];omega
    ·obtain rfl:k=h.length:=by omega
     go_wp2_with fail
     refine(bJ _ (HH.out.ext hb) (by omega) (aJ fu.out)).mono ?_
     rw[fu.out];rintro e w2 ⟨rfl,b2⟩;go_wp2;go_returns;exact⟨aS (by rw[hend.out,HI.out];rfl),hb.trans b2⟩
theorem Sl(ops:List aV){key:Int}(hk:key=0∨key=1∨key=2):qh ops key=((gT ops key).map (·.value)).toList:=by
 unfold qh bQ;rw[List.filterMap_filterMap];have e:∀k:Int,(gT ops k).bind (λo=>if o.key=key then some o.value else none)=if k=key then (gT ops k).map (·.value) else none:=λk=>by
  cases h:gT ops k with
  | none=>simp
  | some o=>simp[CR h]
 simp only[e];rcases hk with rfl|rfl|rfl<;>simp only[agK,List.filterMap_nil]<;>simp<;>split<;>rename_i h<;>simp[h]
theorem zQ(h:List aG){key:Int}(hk:key=0∨key=1∨key=2):aW h key=(aN h).filterMap λn=>(gT (opsOf h n) key).map (·.value):=by
 unfold aW
 induction aN h with
 | nil=>rfl
 | cons n l ih=>
   rw[agD,ih,agK,Sl _ hk];cases (gT (opsOf h n) key).map (·.value)<;>rfl
theorem Z9{h:List aG}{key v:Int}(hk:key=0∨key=1∨key=2)(hv:v∈aW h key):∃n o,n∈aN h/\gT (opsOf h n) key=some o/\o.value=v:=by rw[zQ h hk,List.mem_filterMap]at hv;obtain⟨n,hn,hv⟩:=hv;rw[kL]at hv;obtain⟨o,ho,hv⟩:=hv;exact⟨n,o,hn,ho,hv⟩
theorem vF{h:List aG}{n:Nat}(hn:n∈aN h):∃t,h[n]? =some t/\t.done=true/\opsOf h n=t.ops:=by unfold aN at hn;rw[nT]at hn;obtain⟨h1,h2⟩:=hn;obtain⟨t,ht⟩:∃t,h[n]? =some t:=⟨_,dJ (by simpa using h1)⟩;rw[ht]at h2;exact⟨t,ht,by simpa using h2,by simp[opsOf,ht]⟩
theorem qE{h:List aG}(hok:aD h=true){key v:Int}(hk:key=0∨key=1∨key=2)(hv:v∈aW h key):∃n o,n∈aN h/\gT (opsOf h n) key=some o/\o.value=v/\aI h key v=(n:Int)/\isDone h (n:Int)=true/\0<v:=by
 obtain⟨n,o,hn,ho,rfl⟩:=Z9 hk hv;obtain⟨t,ht,hd,e⟩:=vF hn;have ho2:=ho;rw[e]at ho;obtain⟨h1,h2,rfl⟩:=lV ho;refine⟨n,o,hn,ho2,rfl,qz hok ht h1 h2,by simp[isDone,ht,hd],?_⟩;have hall:h.all dG=true:=by unfold aD at hok;simp only[dh]at hok;exact hok.1.2
 exact AJ (gD (kT.1 hall t (aM ht)) h1) h2
theorem X5{h:List aG}(hok:aD h=true){key v v':Int}(hk:key=0∨key=1∨key=2)(hv:v∈aW h key)(hv':v'∈aW h key)(e:aI h key v=aI h key v'):v=v':=by
 obtain⟨n,o,_,ho,rfl,hw,_⟩:=qE hok hk hv;obtain⟨n',o',_,ho',rfl,hw',_⟩:=qE hok hk hv';rw[hw,hw']at e;obtain rfl:n=n':=by omega
 rw[ho]at ho';injection ho' with ho';rw[ho']
theorem Jv{h:List aG}(hok:aD h=true){key:Int}(hk:key=0∨key=1∨key=2):(aW h key).Nodup:=by
 rw[zQ h hk];unfold List.Nodup;rw[List.pairwise_filterMap];have hn:=zP h
 have:=List.Pairwise.and_mem.1 hn
 refine this.imp (λ{a b} hab v hv v' hv' e=>?_);subst e;obtain⟨ha,hb,hne⟩:=hab;have hw:∀n,n∈aN h->(gT (opsOf h n) key).map (·.value)=some v->aI h key v=(n:Int):=λn hn hv=>by rw[kL]at hv;obtain⟨o,ho,rfl⟩:=hv;obtain⟨t,ht,_,e⟩:=vF hn;rw[e]at ho;obtain⟨h1,h2,rfl⟩:=lV ho;exact qz hok ht h1 h2
 have h1:=hw a ha hv;have h2:=hw b hb hv';rw[h1]at h2;exact hne (by omega)
def nu(order:List Int)(v:Int):Int:=match l7 order v with
 | none=>-1
 | some b=>(order[b]?).getD (-1)
def pV(h:List aG)(key:Int)(order:List Int)(m:Nat):List Edge:=(List.range m).map λi=>⟨aI h key (order.getD i 0),aI h key (order.getD (i+1) 0),1⟩
def tQ(h:List aG)(n:Nat)(o:aV):List Edge:=if 0<=aI h o.key o.value/\isDone h (aI h o.key o.value)=true/\aI h o.key o.value≠n then [⟨aI h o.key o.value,n,2⟩] else []
def l6(h:List aG)(os:List (List Int))(n:Nat)(o:aV):List Edge:=if 0<=nu (os.getD o.key.toNat []) o.value/\aI h o.key (nu (os.getD o.key.toNat []) o.value)≠n then [⟨n,aI h o.key (nu (os.getD o.key.toNat []) o.value),3⟩] else []
def Eg(h:List aG)(os:List (List Int))(n:Nat)(o:aV):List Edge:=tQ h n o++l6 h os n o
def Rt(h:List aG)(os:List (List Int)):List Edge:=
 ((List.range 3).flatMap λ(key:Nat)=>pV h (key:Int) (os.getD key []) ((os.getD key []).length-1))++(aN h).flatMap λn=>(mH (opsOf h n)).flatMap (Eg h os n)
theorem rq{α β:Type}{l:List α}{f g:α->List β}(h:∀x∈l,f x=g x):l.flatMap f=l.flatMap g:=by
 induction l with
 | nil=>rfl
 | cons x l ih=>rw[agD,agD,h x (by simp),ih (λy hy=>h y (by simp[hy]))]
theorem CX{h:List aG}{os:List (List Int)}(ho:lu h os){k i:Nat}(hk:k<3)(hi:i<(os.getD k []).length):(os.getD k [])[i]∈aW h (k:Int):=by
 have hk':k<os.length:=by rw[ho.1];exact hk
 have e:os.getD k []=os[k]:=by simp[List.getD,dJ hk']
 have hm:(os.getD k [])[i]∈os.getD k []:=List.getElem_mem _;have key:∀l:List Int,l=os[k]->∀x∈l,x∈aW h (k:Int):=λl el x hx=>by
  subst el
  exact(ho.2 k _ (dJ hk')).mem_iff.1 hx
 exact key _ e _ hm
theorem Qi{h:List aG}{os:List (List Int)}(hok:aD h=true)(ho:lu h os){k:Nat}(hk:k<3):(os.getD k []).Nodup:=by
 have hk':k<os.length:=by rw[ho.1];exact hk
 rw[show os.getD k []=os[k] by simp[List.getD,dJ hk']]
 exact(ho.2 k _ (dJ hk')).nodup_iff.2 (Jv hok (by omega))
theorem U5{h:List aG}{n:Nat}(hn:n∈aN h):isDone h (n:Int)=true:=by obtain⟨t,ht,hd,_⟩:=vF hn;simp[isDone,ht,hd]
theorem Zq{h:List aG}{os:List (List Int)}(hok:aD h=true)(ho:lu h os):Rt h os=dN h os:=by
 unfold Rt dN;congr 1
 ·refine rq λk hk=>?_;have hk3:k<3:=by simpa using hk
  unfold pV chainTo
  rw[show ∀(l:List Nat) (f:Nat->Edge),l.map f=l.flatMap λi=>[f i] from λl f=>by induction l with
   | nil=>rfl
   | cons x l ih=>rw[qc,agD,ih];rfl]
  refine rq λi hi=>?_;have hi':i+1<(os.getD k []).length:=by have:=Q6.1 hi;omega
  have m1:=CX ho hk3 (show i<(os.getD k []).length by omega);have m2:=CX ho hk3 hi';have g1:(os.getD k []).getD i 0=(os.getD k [])[i]:=by simp[List.getD,dJ (show i<(os[k]?.getD []).length by simpa[List.getD] using (show i<(os.getD k []).length by omega))]
  have g2:(os.getD k []).getD (i+1) 0=(os.getD k [])[i+1]:=by simp[List.getD,dJ (show i+1<(os[k]?.getD []).length by simpa[List.getD] using hi')]
  rw[g1,g2];have hk0:(k:Int)=0∨(k:Int)=1∨(k:Int)=2:=by omega
  obtain⟨n1,_,_,_,_,w1,d1,_⟩:=qE hok hk0 m1;obtain⟨n2,_,_,_,_,w2,d2,_⟩:=qE hok hk0 m2;unfold j6;have hne:aI h (k:Int) (os.getD k [])[i]≠aI h (k:Int) (os.getD k [])[i+1]:=λe=>by
   have e':=X5 hok hk0 m1 m2 e
   have:=(List.getElem_inj (h₀:=show i<(os.getD k []).length by omega) (h₁:=hi') (Qi hok ho hk3)).1 e'
   omega
  rw[aj ⟨by omega,by omega,hne,by rw[w1];exact d1,by rw[w2];exact d2⟩]
 ·refine rq λn hn=>rq λo hof=>?_;have hdn:=U5 hn;obtain⟨t,ht,hd,et⟩:=vF hn;have hall:h.all dG=true:=by unfold aD at hok;simp only[dh]at hok;exact hok.1.2
  have yZ:iY o=true:=by
   rw[et]at hof;unfold mH Cy at hof;rw[List.mem_filterMap]at hof;obtain⟨j,_,hj⟩:=hof;split at hj
   ·exact gD (kT.1 hall t (aM ht)) (aM hj)
   ·cases hj
  have hk:=jE yZ;have hk3:o.key.toNat<3:=by omega
  have hkc:((o.key.toNat:Nat):Int)=o.key:=by omega
  unfold Eg jS;congr 1
  ·unfold tQ j6;by_cases hc:0<=aI h o.key o.value/\isDone h (aI h o.key o.value)=true/\aI h o.key o.value≠n
   ·rw[aj hc,aj ⟨hc.1,by omega,hc.2.2,hc.2.1,hdn⟩]
   ·rw[au hc,au (λhx=>hc ⟨hx.1,hx.2.2.2.1,hx.2.2.1⟩)]
  ·unfold l6 overOf nu
   cases hb:l7 (os.getD o.key.toNat []) o.value with
   | none=>simp
   | some b=>
     by_cases hlt:b<(os.getD o.key.toNat []).length
     ·have m1:=CX ho hk3 hlt;rw[hkc]at m1;obtain⟨n1,_,_,_,_,w1,d1,p1⟩:=qE hok (by omega) m1;have g1:(os.getD o.key.toNat []).getD b 0=(os.getD o.key.toNat [])[b]:=by rw[List.getD,dJ hlt];rfl
      have g2:((os.getD o.key.toNat [])[b]?).getD (-1)=(os.getD o.key.toNat [])[b]:=by rw[dJ hlt];rfl
      simp only[hlt,if_true,g1,g2];unfold j6;rw[w1];by_cases hne:(n1:Int)≠n
      ·rw[aj ⟨by omega,hne⟩,aj ⟨by omega,by omega,λe=>hne e.symm,hdn,d1⟩]
      ·rw[au (λhx=>hne hx.2),au (λhx=>hne (λe=>hx.2.2.1 e.symm))]
     ·have g2:(os.getD o.key.toNat [])[b]? =none:=agI (by omega);simp only[hlt,g2];simp
section
open Go.RowKit
end
section
section
variable{W:Nat->Nat}
inductive Path (W:Nat->Nat):Nat->Nat->Prop
 | edge {a b:Nat}:(W a).testBit b=true->Path W a b
 | step {a b c:Nat}:Path W a b->(W b).testBit c=true->Path W a c
theorem Path.trans{a b c:Nat}(h:Path W a b)(k:Path W b c):Path W a c:=by
 induction k with
 | edge e=>exact h.step e
 | step _ e ih=>exact ih.step e
def war(W:Nat->Nat):Nat->Nat->Nat
 | 0,x=>W x
 | k+1,x=>if (war W k x).testBit k=true then war W k x ||| war W k k else war W k x
theorem ME{k x y:Nat}:(war W (k+1) x).testBit y=true↔(war W k x).testBit y=true∨((war W k x).testBit k=true/\(war W k k).testBit y=true):=by
 rw[war];split
 ·rename_i h;rw[Nat.testBit_or,agF];simp[h]
 ·rename_i h;simp[h]
theorem UR{k x y:Nat}(h:(war W k x).testBit y=true):Path W x y:=by
 induction k generalizing x y with
 | zero=>exact .edge h
 | succ k ih=>
   rcases ME.1 h with h|⟨h1,h2⟩
   ·exact ih h
   ·exact(ih h1).trans (ih h2)
theorem Qb{k x y:Nat}(h:(W x).testBit y=true):(war W k x).testBit y=true:=by
 induction k with
 | zero=>exact h
 | succ k ih=>exact ME.2 (.inl ih)
theorem VG{k:Nat}:∀{x y z:Nat},z<k->(war W k x).testBit z=true->(war W k z).testBit y=true->(war W k x).testBit y=true:=by
 induction k with
 | zero=>intro x y z hz;omega
 | succ k ih=>
   intro x y z hz h1 h2;rw[ME]at h1 h2 ⊢;by_cases e:z=k
   ·subst e;have h1':(war W z x).testBit z=true:=h1.elim id And.left;have h2':(war W z z).testBit y=true:=h2.elim id And.right;exact .inr ⟨h1',h2'⟩
   ·have hz':z<k:=by omega
    rcases h1 with h1|⟨h1,h1'⟩<;>rcases h2 with h2|⟨h2,h2'⟩
    ·exact .inl (ih hz' h1 h2)
    ·exact .inr ⟨ih hz' h1 h2,h2'⟩
    ·exact .inr ⟨h1,ih hz' h1' h2⟩
    ·exact .inr ⟨h1,h2'⟩
theorem NY{N a b:Nat}(hW:∀x y,(W x).testBit y=true->y<N):(war W N a).testBit b=true↔Path W a b:=by
 refine⟨UR,λh=>?_⟩
 induction h with
 | edge e=>exact Qb e
 | @step b c hp e ih=>
   refine VG (z:=b) ?_ ih (Qb e)
   cases hp with
   | edge e'=>exact hW _ _ e'
   | step _ e'=>exact hW _ _ e'
end
end
section
def Near(es:List Edge)(t:Int):Nat->Int->Prop
 | 0,x=>x=t
 | n+1,x=>Near es t n x∨∃e∈es,e.fH=x/\Near es t n e.to
theorem Near.up{es:List Edge}{t x:Int}{n m:Nat}(h:Near es t n x)(hm:n<=m):Near es t m x:=by
 induction m with
 | zero=>obtain rfl:n=0:=by omega
         exact h
 | succ m ih=>
   by_cases e:n=m+1
   ·subst e;exact h
   ·exact .inl (ih (by omega))
structure wV (es:List Edge) (t:Int) (many s:Nat) (f:List Int):Prop where
 len:f.length=many
 neg:∀(x:Nat) d,f[x]? =some d->d=-1∨0<=d
 sound:∀(x:Nat) d,f[x]? =some d->0<=d->d<=(s:Int)/\Near es t d.toNat x
 all:∀n,n<=s->∀x:Nat,x<many->Near es t n x->∃d,f[x]? =some d/\0<=d/\d<=(n:Int)
structure zR (es:List Edge) (t:Int) (many s j:Nat) (f:List Int):Prop where
 len:f.length=many
 neg:∀(x:Nat) d,f[x]? =some d->d=-1∨0<=d
 sound:∀(x:Nat) d,f[x]? =some d->0<=d->d<=(s:Int)+1/\Near es t d.toNat x
 all:∀n,n<=s->∀x:Nat,x<many->Near es t n x->∃d,f[x]? =some d/\0<=d/\d<=(n:Int)
 new:∀(i:Nat) e,i<j->es[i]? =some e->Near es t s e.to->∃d,f[e.fH.toNat]? =some d/\0<=d
theorem wV.start{es:List Edge}{many t:Nat}(ht:t<many):wV es (t:Int) many 0 ((List.replicate many (-1)).set t 0) where
 len:=by simp
 neg x d hx:=by
  rw[iO]at hx;split at hx
  ·split at hx
   ·cases hx;exact .inr (Int.le_refl _)
   ·cases hx
  ·exact .inl (List.eq_of_mem_replicate (aM hx))
 sound x d hx h0:=by
  rw[iO]at hx;split at hx
  ·rename_i e;split at hx
   ·cases hx;exact⟨Int.le_refl _,by subst e;rfl⟩
   ·cases hx
  ·have:=List.eq_of_mem_replicate (aM hx);omega
 all n hn x hx h:=by
  obtain rfl:n=0:=by omega
  have:x=t:=by have h:(x:Int)=t:=h;omega
  subst this;exact⟨0,by simp[hx],Int.le_refl _,Int.le_refl _⟩
theorem wV.round{es:List Edge}{t:Int}{many s:Nat}{f:List Int}(h:wV es t many s f):zR es t many s 0 f:=
 ⟨h.len,h.neg,λx d hx h0=>⟨by have:=(h.sound x d hx h0).1;omega,(h.sound x d hx h0).2⟩,h.all,λi e hi=>absurd hi (gu i)⟩
section
variable{es:List Edge}{t:Int}{many s j:Nat}{f:List Int}{e:Edge}{df dt:Int}
theorem zR.set(h:zR es t many s j f)(he:es[j]? =some e)(hf0:0<=e.fH)(ht0:0<=e.to)(hdf:f[e.fH.toNat]? =some df)(hdt:f[e.to.toNat]? =some dt)(h1:dt=s)(h2:df<0):zR es t many s (j+1) (f.set e.fH.toNat ((s:Int)+1)) where
 len:=by rw[iE];exact h.len
 neg x d hx:=by
  rw[iO]at hx;split at hx
  ·split at hx
   ·cases hx;exact .inr (by omega)
   ·cases hx
  ·exact h.neg x d hx
 sound x d hx h0:=by
  rw[iO]at hx;split at hx
  ·rename_i ex;split at hx
   ·cases hx;refine⟨Int.le_refl _,?_⟩;have hn:=(h.sound _ _ hdt (by omega)).2;rw[h1]at hn;rw[show ((s:Int)+1).toNat=s+1 by omega];refine .inr ⟨e,aM he,by omega,?_⟩;rw[show ((s:Int)).toNat=s by omega,show ((e.to.toNat:Nat):Int)=e.to by omega]at hn;exact hn
   ·cases hx
  ·exact h.sound x d hx h0
 all n hn x hx hN:=by
  obtain⟨d,hd,h0,h3⟩:=h.all n hn x hx hN;refine⟨d,?_,h0,h3⟩;rw[iO];split
  ·rename_i ex;rw[ex,hd]at hdf;cases hdf;omega
  ·exact hd
 new i e' hi he' hN:=by
  have hlt:e.fH.toNat<f.length:=(bG.1 hdf).1;by_cases ex:e.fH.toNat=e'.fH.toNat
  ·exact⟨(s:Int)+1,by rw[<-ex];simp[hlt],by omega⟩
  ·have hij:i<j:=by
    rcases eP i j with h'|h'
    ·exact h'
    ·exfalso;obtain rfl:i=j:=by omega
     rw[he]at he';cases he';exact ex rfl
   obtain⟨d,hd,h0⟩:=h.new i e' hij he' hN;exact⟨d,by rw[iO,au ex];exact hd,h0⟩
theorem zR.keep(h:zR es t many s j f)(he:es[j]? =some e)(hf0:0<=e.fH)(ht0:0<=e.to)(ht1:e.to<many)(hdf:f[e.fH.toNat]? =some df)(hdt:f[e.to.toNat]? =some dt)(h1:dt≠s∨0<=df):zR es t many s (j+1) f where
 len:=h.len
 neg:=h.neg
 sound:=h.sound
 all:=h.all
 new i e' hi he' hN:=by
  rcases eP i j with h'|h'
  ·exact h.new i e' h' he' hN
  ·obtain rfl:i=j:=by omega
   rw[he]at he';cases he';rcases (show df<0∨0<=df by omega) with hneg|hpos
   ·have hdt':dt≠s:=by rcases h1 with h1|h1<;>omega
    obtain⟨d,hd,h0,h3⟩:=h.all s (av _) e.to.toNat (by omega) (by rw[show ((e.to.toNat:Nat):Int)=e.to by omega];exact hN);rw[hdt]at hd;cases hd;have hlt:dt.toNat<s:=by omega
    have hn:=(h.sound _ _ hdt h0).2;rw[show ((e.to.toNat:Nat):Int)=e.to by omega]at hn;have hfl:e.fH.toNat<many:=by rw[<-h.len];exact(bG.1 hdf).1
    obtain⟨d2,hd2,h02,_⟩:=h.all (dt.toNat+1) hlt e.fH.toNat hfl (.inr ⟨e,aM he,by omega,hn⟩);rw[hdf]at hd2;cases hd2;exact⟨df,hdf,h02⟩
   ·exact⟨df,hdf,hpos⟩
theorem zR.done(h:zR es t many s es.length f)(hf0:∀e∈es,0<=e.fH):wV es t many (s+1) f where
 len:=h.len
 neg:=h.neg
 sound x d hx h0:=by obtain⟨a,b⟩:=h.sound x d hx h0;exact⟨by omega,b⟩
 all n hn x hx hN:=by
  by_cases e:n<=s
  ·exact h.all n e x hx hN
  ·obtain rfl:n=s+1:=by omega
   rcases hN with hN|⟨e,he,hf,hN⟩
   ·obtain⟨d,hd,h0,h3⟩:=h.all s (av _) x hx hN;exact⟨d,hd,h0,by omega⟩
   ·obtain⟨i,hi,rfl⟩:=jq he;obtain⟨d,hd,h0⟩:=h.new i _ hi (dJ hi) hN;rw[show (es[i]).fH.toNat=x by omega]at hd;exact⟨d,hd,h0,by have:=(h.sound x d hd h0).1;omega⟩
end
open Classical in
noncomputable def H7 (es:List Edge) (t:Int) (many n:Nat):Nat:=((List.range many).filter λx:Nat=>decide (Near es t n (x:Int))).length
theorem Xe(es:List Edge)(t:Int)(many n:Nat):H7 es t many n<=many:=by unfold H7;refine aX (mO _ _) (by simp)
theorem O9{α:Type}(l:List α)(p q:α->Bool)(hpq:∀x,p x=true->q x=true)(x:α)(hx:x∈l)(hp:p x=false)(hq:q x=true):(l.filter p).length<(l.filter q).length:=by
 induction l with
 | nil=>cases hx
 | cons y l ih=>
   have hle:(l.filter p).length<=(l.filter q).length:=by rw[<-List.countP_eq_length_filter,<-List.countP_eq_length_filter];exact List.countP_mono_left λx _ h=>hpq x h
   simp only[sN];rcases mM.1 hx with rfl|hx
   ·rw[au (by simp[hp]),aj hq,eO];omega
   ·have:=ih hx
    by_cases hy:p y=true
    ·rw[aj hy,aj (hpq y hy),eO,eO];omega
    ·rw[au hy];split
     ·rw[eO];omega
     ·exact this
theorem Near.stop{es:List Edge}{t:Int}{n:Nat}(h:∀x,Near es t (n+1) x->Near es t n x):∀m x,Near es t m x->Near es t n x:=by
 intro m
 induction m with
 | zero=>intro x hx;exact hx.up (aT _)
 | succ m ih=>
   intro x hx;rcases hx with hx|⟨e,he,hf,hx⟩
   ·exact ih x hx
   ·exact h x (.inr ⟨e,he,hf,ih _ hx⟩)
theorem Qs{es:List Edge}{t many:Nat}(ht:t<many)(hes:∀e∈es,0<=e.fH/\e.fH<many){m:Nat}{x:Int}(h:Near es (t:Int) m x):Near es (t:Int) many x:=by
 have key:∀n,(∃k,k<=n/\∀x,Near es (t:Int) (k+1) x->Near es (t:Int) k x)∨n+1<=H7 es (t:Int) many n:=by
  intro n
  induction n with
  | zero=>
    right;unfold H7;have hmem:t∈(List.range many).filter λx:Nat=>@decide (Near es (t:Int) 0 (x:Int)) (Classical.propDecidable _):=by rw[nT];exact⟨by simpa using ht,by simp[Near]⟩
    exact sF hmem
  | succ n ih=>
    rcases ih with ⟨k,hk,h⟩|ih
    ·exact .inl ⟨k,by omega,h⟩
    ·by_cases hst:∀x,Near es (t:Int) (n+1) x->Near es (t:Int) n x
     ·exact .inl ⟨n,by omega,hst⟩
     ·right;simp only[Classical.not_forall]at hst;obtain⟨x,hx,hn⟩:=hst;have hx0:0<=x/\x<many:=by
       rcases hx with hx|⟨e,he,hf,_⟩
       ·exact absurd hx hn
       ·rw[<-hf];exact hes e he
      have hlt:H7 es (t:Int) many n<H7 es (t:Int) many (n+1):=by
       unfold H7;refine O9 _ _ _ (λy hy=>?_) x.toNat (by simp;omega) ?_ ?_
       ·have:Near es (t:Int) n (y:Int):=by simpa using hy
        simpa using Near.up this (iD n)
       ·have:¬Near es (t:Int) n ((x.toNat:Nat):Int):=by rw[show ((x.toNat:Nat):Int)=x by omega];exact hn
        simpa using this
       ·have:Near es (t:Int) (n+1) ((x.toNat:Nat):Int):=by rw[show ((x.toNat:Nat):Int)=x by omega];exact hx
        simpa using this
      omega
 rcases key many with ⟨k,hk,hst⟩|hbig
 ·exact(Near.stop hst m x h).up hk
 ·have:=Xe es (t:Int) many many
  omega
theorem wV.final{es:List Edge}{t many:Nat}{f:List Int}(h:wV es (t:Int) many many f)(ht:t<many)(hes:∀e∈es,0<=e.fH/\e.fH<many){x:Nat}{d:Int}(hd:f[x]? =some d):0<=d↔∃n,Near es (t:Int) n x:=by
 constructor
 ·intro h0;exact⟨_,(h.sound x d hd h0).2⟩
 ·rintro⟨n,hn⟩;have hx:x<many:=by rw[<-h.len];exact(bG.1 hd).1
  obtain⟨d',hd',h0,_⟩:=h.all many (av _) x hx (Qs ht hes hn);rw[hd]at hd';cases hd';exact h0
def rowsOf(es:List Edge)(x:Nat):Nat:=es.foldl (λr e=>if e.fH=(x:Int) then r ||| 2 ^ e.to.toNat else r) 0
theorem Pm(es:List Edge)(x y r:Nat):(es.foldl (λr e=>if e.fH=(x:Int) then r ||| 2 ^ e.to.toNat else r) r).testBit y=true↔r.testBit y=true∨∃e∈es,e.fH=(x:Int)/\e.to.toNat=y:=by
 induction es generalizing r with
 | nil=>simp
 | cons e es ih=>
   rw[uz,ih];by_cases h:e.fH=(x:Int)
   ·rw[aj h,Nat.testBit_or,agF,Nat.testBit_two_pow];constructor
    ·rintro ((h1|h1)|⟨e',he',h1⟩)
     ·exact .inl h1
     ·exact .inr ⟨e,by simp,h,by simpa using h1⟩
     ·exact .inr ⟨e',by simp[he'],h1⟩
    ·rintro (h1|⟨e',he',h1,h2⟩)
     ·exact .inl (.inl h1)
     ·rcases mM.1 he' with rfl|he'
      ·exact .inl (.inr (by simpa using h2))
      ·exact .inr ⟨e',he',h1,h2⟩
   ·rw[au h];constructor
    ·rintro (h1|⟨e',he',h1⟩)
     ·exact .inl h1
     ·exact .inr ⟨e',by simp[he'],h1⟩
    ·rintro (h1|⟨e',he',h1,h2⟩)
     ·exact .inl h1
     ·rcases mM.1 he' with rfl|he'
      ·exact absurd h1 h
      ·exact .inr ⟨e',he',h1,h2⟩
theorem nP{es:List Edge}{x y:Nat}:(rowsOf es x).testBit y=true↔∃e∈es,e.fH=(x:Int)/\e.to.toNat=y:=by unfold rowsOf;rw[Pm];simp
theorem Ur{es:List Edge}{t x:Int}{n:Nat}{e:Edge}(h:Near es e.fH n x)(he:e∈es)(ht:e.to=t):Near es t (n+1) x:=by
 induction n generalizing x with
 | zero=>exact .inr ⟨e,he,h.symm,ht⟩
 | succ n ih=>
   rcases h with h|⟨e',he',hf,h⟩
   ·exact .inl (ih h)
   ·exact .inr ⟨e',he',hf,ih h⟩
theorem Lj{es:List Edge}(hes:∀e∈es,0<=e.fH/\0<=e.to){s t:Nat}:Path (rowsOf es) s t↔∃e∈es,e.fH=(s:Int)/\∃n,Near es (t:Int) n e.to:=by
 constructor
 ·intro h
  induction h with
  | edge h=>
    obtain⟨e,he,h1,h2⟩:=nP.1 h;exact⟨e,he,h1,0,by have:=hes e he;show e.to = _;omega⟩
  | @step b c hp h ih=>
    obtain⟨e,he,h1,h2⟩:=nP.1 h;obtain⟨e0,he0,hf0,n,hn⟩:=ih;exact⟨e0,he0,hf0,n+1,Ur (e:=e) (by rw[h1];exact hn) he (by have:=hes e he;omega)⟩
 ·rintro⟨e,he,hf,n,hn⟩;have key:∀n (x:Int) (a:Nat),(Path (rowsOf es) a x.toNat)->0<=x->Near es (t:Int) n x->Path (rowsOf es) a t:=by
   intro n
   induction n with
   | zero=>
     intro x a hp h0 hx;have hx:x=(t:Int):=hx;rw[show t=x.toNat by omega];exact hp
   | succ n ih=>
     intro x a hp h0 hx;rcases hx with hx|⟨e',he',hf',hx⟩
     ·exact ih x a hp h0 hx
     ·refine ih e'.to a (hp.step (nP.2 ⟨e',he',by omega,rfl⟩)) (hes e' he').2 hx
  exact key n e.to s (.edge (nP.2 ⟨e,he,hf,rfl⟩)) (hes e he).2 hn
end
def edgeOk(many:Nat)(e:Edge):Prop:=(0<=e.fH/\e.fH<many)/\(0<=e.to/\e.to<many)/\e.fH≠e.to/\1<=e.kind/\e.kind<=4
theorem Fv{many:Nat}{B:Nat}(e:Edge)(W:World)(hm:many<=6)(hB:W.cell? ⟨B,0,none⟩=some (.int .i64 (many:Int)))(he:edgeOk many e) :
 Calls Tryz.prog 261 #[.agg #[.int .i64 e.fH,.int .i64 e.to,.int .i64 e.kind],.pointer (some ⟨B,0,none⟩)] W λr w'=>r=.returned (.bool false)/\Ext W w':=by
 obtain⟨h1,h2,h3,h4⟩:=he;have b1:lH e.fH 0 ((many:Int)-1)=true:=cK.2 (by omega);have b2:lH e.to 0 ((many:Int)-1)=true:=cK.2 (by omega);have b3:(e.fH==e.to)=false:=fU.2 h3;have b4:lH e.kind 1 4=true:=cK.2 h4;have hE:Ext W (W.alloc (.cells #[.int .i64 e.fH,.int .i64 e.to,.int .i64 e.kind] 200)):=(af _).alloc _;have cB:=hE.cell hB;have hw:IntKind.i64.wrap ((many:Int)-1)=(many:Int)-1:=dL _ (by omega);have HE:=aa hE;clear h1 h2 h3 h4 hE;go_enter Tryz.func261,Tryz.ntmps261;go_wp2_with (first|(go_at_call 106;refine(eZ _ _ _ _).mono ?_;rw[b1];rintro e w' ⟨rfl,rfl⟩)|(go_at_call 106;refine(eZ _ _ _ _).mono ?_;rw[b2];rintro e w' ⟨rfl,rfl⟩)|(go_at_call 106;refine(eZ _ _ _ _).mono ?_;rw[b4];rintro e w' ⟨rfl,rfl⟩))
 go_returns;exact⟨rfl,HE.out⟩
theorem II(args:Array Value)(W:World):(callFunc 261 args).run Tryz.prog W=.ok (.enter 261 args) W:=by kernel_rfl
theorem Fu{v:Value}{es:List Edge}(many:Nat)(w:World)(hm:many<=6)(h:aL 3 aZ w v es)(hl:es.length<=144)(hok:∀e∈es,edgeOk many e) :
 Calls Tryz.prog 237 #[.int .i64 (many:Int),v] w λr w'=>r=.returned (.bool true)/\Ext w w':=by
 obtain⟨A,c,rfl,_⟩:=id h;have b1:lH (many:Int) 0 6=true:=cK.2 (by omega);have hE:Ext w (w.alloc (.cells #[.int .i64 (many:Int)] 3)):=(af _).alloc _;have cB:(w.alloc (.cells #[.int .i64 (many:Int)] 3)).cell? ⟨w.heap.size,0,none⟩=some (.int .i64 (many:Int)):=aF rfl;have hcon:=xV (w.alloc (.cells #[.int .i64 (many:Int)] 3)) 261 #[.pointer (some ⟨w.heap.size,0,none⟩)] (λ_=>false) (h.ext hE) (by omega) II (λx hx W hW=>Fv x W hm (hW.cell cB) (hok x hx));rw[show (es.any λ_=>false)=false by simp]at hcon;have HC:=aa hcon;have HE:=aa hE;have hlt:¬(144<(es.length:Int)):=by omega
 clear h hok hcon hE;go_enter Tryz.func237,Tryz.ntmps237;go_wp2_with (first|(go_at_call 106;refine(eZ _ _ _ _).mono ?_;rw[b1];rintro e w' ⟨rfl,rfl⟩)|(go_at_call 260;refine HC.out.mono ?_;rintro e w' ⟨rfl,bb⟩;have B9:=aa (HE.out.trans bb)))
 go_returns;exact⟨rfl,B9.out⟩
theorem KF{h:List aG}{n:Int}(hn:0<=n)(hd:isDone h n=true):n<h.length:=by
 unfold isDone at hd
 cases ht:h[n.toNat]? with
 | none=>rw[ht]at hd;simp at hd
 | some t=>have:=(bG.1 ht).1;omega
theorem Df{h:List aG}{f t k:Int}(hk:1<=k/\k<=4){e:Edge}(he:e∈j6 h f t k):edgeOk h.length e:=by
 unfold j6 at he;split at he;case isFalse=>cases he
 rename_i hc;simp at he;subst he;exact⟨⟨hc.1,KF hc.1 hc.2.2.2.1⟩,⟨hc.2.1,KF hc.2.1 hc.2.2.2.2⟩,hc.2.2.1,hk⟩
theorem xD{h:List aG}{os:List (List Int)}{e:Edge}(he:e∈dN h os):edgeOk h.length e:=by
 unfold dN at he;rcases iR.1 he with h1|h1
 ·obtain⟨key,_,h2⟩:=List.mem_flatMap.1 h1;unfold chainTo at h2;obtain⟨i,_,h3⟩:=List.mem_flatMap.1 h2;exact Df (by omega) h3
 ·obtain⟨n,_,h2⟩:=List.mem_flatMap.1 h1;obtain⟨o,_,h3⟩:=List.mem_flatMap.1 h2;unfold jS at h3;rcases iR.1 h3 with h4|h4
  ·exact Df (by omega) h4
  ·unfold overOf at h4;split at h4
   ·cases h4
   ·split at h4
    ·exact Df (by omega) h4
    ·cases h4
theorem VP{h:List aG}{os:List (List Int)}(hok:aD h=true)(h6:∀k:Nat,(os.getD k []).length<=6):(dN h os).length<=90:=by
 rw[raw_eq,dw];have h1:=rD (h:=h) h6 3;have h2:=yG (h:=h) (os:=os) (L:=6) (λn=>by
  unfold opsOf
  cases hn:h[n]? with
  | none=>simp
  | some t=>have:=dF (dH hok (aM hn));simpa using this) (aN h).length
 have h3:=lK h;have h4:=aR hok;omega
theorem Xw{h:List aG}{os:List (List Int)}{ds:List Edge}(hok:aD h=true)(ho:lu h os)(hs:Cb (dN h os) ds):ds.length<=144/\∀e∈ds,edgeOk h.length e:=by
 have h6:∀k:Nat,(os.getD k []).length<=6:=λk=>by
  cases hk:os[k]? with
  | none=>simp[List.getD,hk]
  | some o=>simp only[List.getD,hk,Option.getD_some];rw[(ho.2 k o hk).length_eq];have:=je h (k:Int);have:=aR hok;omega
 have:=VP (h:=h) (os:=os) hok h6
 exact⟨aX hs.2 (by omega),λe he=>xD ((hs.1 e).1 he)⟩
def Words(w:World)(g N:Nat)(f:Nat->Nat):Prop:=ny w g N/\∀o,o<N->w.cell? ⟨g,o,none⟩=some (.int .u64 (f o:Int))
theorem Words.ext{w w':World}{g N:Nat}{f:Nat->Nat}(h:Words w g N f)(hb:Ext w w'):Words w' g N f:=⟨h.1.ext hb,λo ho=>hb.cell (h.2 o ho)⟩
theorem Words.set{w:World}{g N:Nat}{f f':Nat->Nat}{j:Nat}(h:Words w g N f)(hj:j<N)(hf:∀o,o≠j->f' o=f o):Words (w.setCell ⟨g,j,none⟩ (.int .u64 (f' j:Int))) g N f':=
 ⟨h.1.set _ _,λo ho=>by
  by_cases e:o=j
  ·subst e;exact fC h.1 hj _
  ·rw[aC (by intro e';injection e' with _ e' _;omega),hf o e];exact h.2 o ho⟩
theorem Words.congr{w:World}{g N:Nat}{f f':Nat->Nat}(h:Words w g N f)(e:∀o,o<N->f' o=f o):Words w g N f':=⟨h.1,λo ho=>by rw[e o ho];exact h.2 o ho⟩
def Bg(f:Nat->Nat):Value:=.agg #[.int .u64 (f 0:Int),.int .u64 (f 1:Int),.int .u64 (f 2:Int),.int .u64 (f 3:Int),.int .u64 (f 4:Int),.int .u64 (f 5:Int)]
theorem uN(w:World)(f:Nat->Nat)(T:TypeId):Words (w.alloc (.cells #[.int .u64 (f 0:Int),.int .u64 (f 1:Int),.int .u64 (f 2:Int),.int .u64 (f 3:Int),.int .u64 (f 4:Int),.int .u64 (f 5:Int)] T)) w.heap.size 6 f:=by
 refine⟨ny.made w #[.int .u64 (f 0:Int),.int .u64 (f 1:Int),.int .u64 (f 2:Int),.int .u64 (f 3:Int),.int .u64 (f 4:Int),.int .u64 (f 5:Int)] T,λo ho=>?_⟩
 match o,ho with
 | 0,_=>exact(cell_of_row _ _ _ _ T (0,0) (dP w _)).trans rfl
 | 1,_=>exact(cell_of_row _ _ _ _ T (0,0) (dP w _)).trans rfl
 | 2,_=>exact(cell_of_row _ _ _ _ T (0,0) (dP w _)).trans rfl
 | 3,_=>exact(cell_of_row _ _ _ _ T (0,0) (dP w _)).trans rfl
 | 4,_=>exact(cell_of_row _ _ _ _ T (0,0) (dP w _)).trans rfl
 | 5,_=>exact(cell_of_row _ _ _ _ T (0,0) (dP w _)).trans rfl
theorem QL{f:Nat->Nat}(hf:∀o,f o<64)(k x:Nat):war f k x<64:=by
 induction k generalizing x with
 | zero=>exact hf x
 | succ k ih=>
   rw[war];split
   ·exact Nat.or_lt_two_pow (n:=6) (ih x) (ih k)
   ·exact ih x
theorem X7(f:Nat->Nat)(k:Nat):war f (k+1) k=war f k k:=by
 rw[war];split
 ·simp
 ·rfl
def zg(f:Nat->Nat)(k i x:Nat):Nat:=if x<i then war f (k+1) x else war f k x
theorem ab8(f:Nat->Nat)(k i:Nat):zg f k i k=war f k k:=by
 unfold zg;split
 ·exact X7 f k
 ·rfl
theorem Ze(f:Nat->Nat)(k i:Nat):zg f k i i=war f k i:=by unfold zg;rw[au (by omega)]
theorem UM(f:Nat->Nat)(k i:Nat):zg f k (i+1) i=if (war f k i).testBit k=true then war f k i ||| war f k k else war f k i:=by unfold zg;rw[aj (by omega),war]
theorem Jm(f:Nat->Nat)(k i x:Nat)(h:x≠i):zg f k (i+1) x=zg f k i x:=by
 unfold zg;by_cases h1:x<i
 ·rw[aj h1,aj (by omega)]
 ·rw[au h1,au (by omega)]
theorem Td(f:Nat->Nat)(i j:Nat)(w:World)(hi:i<6)(hj:j<6)(hf:∀o,f o<64) :
 Calls Tryz.prog 241 #[Bg f,.int .i64 (i:Int),.int .i64 (j:Int)] w λe w'=>e=.returned (.bool ((f i).testBit j))/\Ext w w':=by
 have hW:=(uN w f 241).2 i hi;have i0:(0:Int)<=(i:Int):=by omega
 have i1:(i:Int)<6:=by omega
 have hfi:=hf i;have hbit:=LZ (f i) j (by omega);obtain⟨t,ht⟩:∃t,(f i).testBit j=t:=⟨_,rfl⟩;rw[ht]at hbit ⊢;clear ht;obtain⟨n,hn⟩:∃n,f i=n:=⟨_,rfl⟩;rw[hn]at hbit hW;have adM:n<64:=by omega
 clear hn hfi hf;unfold Bg
 cases t with
 | true=>
   rw[aj rfl]at hbit;go_enter Tryz.func241,Tryz.ntmps241;go_wp2;go_returns;exact⟨rfl,(af _).alloc _⟩
 | false=>
   rw[au (by decide)]at hbit;go_enter Tryz.func241,Tryz.ntmps241;go_wp2;go_returns;exact⟨rfl,(af _).alloc _⟩
theorem KN(f:Nat->Nat)(w:World)(hf:∀o,f o<64) :
 Calls Tryz.prog 240 #[Bg f] w λe w'=>e=.returned (Bg (war f 6))/\Ext w w':=by
 have HF:=aa (λk x=>QL hf k x);have hz:=(uN w f 241).ext ((af (w.alloc (.cells #[.int .u64 (f 0:Int),.int .u64 (f 1:Int),.int .u64 (f 2:Int),.int .u64 (f 3:Int),.int .u64 (f 4:Int),.int .u64 (f 5:Int)] 241))).alloc (.cells #[.int .u64 0,.int .u64 0,.int .u64 0,.int .u64 0,.int .u64 0,.int .u64 0] 241));have HZ:=aa hz;have hb2:=ny.made (w.alloc (.cells #[.int .u64 (f 0:Int),.int .u64 (f 1:Int),.int .u64 (f 2:Int),.int .u64 (f 3:Int),.int .u64 (f 4:Int),.int .u64 (f 5:Int)] 241)) #[.int .u64 0,.int .u64 0,.int .u64 0,.int .u64 0,.int .u64 0,.int .u64 0] 241;rw[show (w.alloc (.cells #[.int .u64 (f 0:Int),.int .u64 (f 1:Int),.int .u64 (f 2:Int),.int .u64 (f 3:Int),.int .u64 (f 4:Int),.int .u64 (f 5:Int)] 241)).heap.size=w.heap.size+1 from by simp]at hb2;have HB2:=aa hb2;clear hz hb2 hf;unfold Bg;go_enter Tryz.func240,Tryz.ntmps240;go_wp2;go_loopw [5] (λi wr=>Ext w wr/\∃k:Nat,k<=6/\i=.int .i64 k/\Hid (ny wr (w.heap.size+1) 6/\Words wr w.heap.size 6 (war f k))) (λi _=>6-(intOf i).toNat)
 case atStart=>exact⟨((af _).alloc _).alloc _,0,by omega,rfl,HB2.out,HZ.out⟩
 case round=>
  clear HZ HB2;obtain⟨hb,k,hk,rfl,HW⟩:=hrel;by_cases hlt:k<6
  ·have hkd:decide ((k:Int)<6)=true:=by simp;omega
   have k0:(0:Int)<=(k:Int):=by omega
   have k1:(k:Int)<6:=by omega
   go_wp2;go_loopw [8] (λi wr=>Ext w wr/\∃q:Nat,q<=6/\i=.int .i64 q/\Hid (ny wr (w.heap.size+1) 6/\Words wr w.heap.size 6 (zg f k q))) (λi _=>6-(intOf i).toNat)
   case atStart=>exact⟨hb,0,by omega,rfl,HW.out.1,HW.out.2.congr λo _=>by unfold zg;rw[au (by omega)]⟩
   case round=>
    clear HW hb;obtain⟨hb,q,hq,rfl,HI⟩:=hrel;by_cases hq6:q<6
    ·have q0:(0:Int)<=(q:Int):=by omega
     have q1:(q:Int)<6:=by omega
     have hqd:decide ((q:Int)<6)=true:=by simp;omega
     have cq:=HI.out.2.2 q hq6;rw[Ze]at cq;have ck:=HI.out.2.2 k hlt;rw[ab8]at ck;have HN:=aa (UM f k q);have adM:=HF.out k q;have ac9:=HF.out k k;obtain⟨n,hn⟩:∃n,war f k q=n:=⟨_,rfl⟩;obtain⟨m,hm⟩:∃m,war f k k=m:=⟨_,rfl⟩;have HN':=HN.out;rw[hn]at cq adM;rw[hm]at ck ac9;rw[hn,hm]at HN';have jC:=aa HN';have hbit:=LZ n k (by omega);clear HN HN' hn hm;by_cases ht:n.testBit k=true
     ·rw[aj ht]at hbit;have hv:Hid (zg f k (q+1) q=n ||| m):=by show _ = _;rw[jC.out,aj ht]
      have hor:=u64_or n m (by omega) (by omega);have hfr:=HI.out.2.1.free q;have u0:({ wr with drawn:=wr.drawn+1 }:World).cell? ⟨w.heap.size,q,none⟩=some (.int .u64 (n:Int)):=cq;have u1:({ wr with drawn:=wr.drawn+1 }:World).cell? ⟨w.heap.size,k,none⟩=some (.int .u64 (m:Int)):=ck;clear ht;go_wp2;go_still_tail 7,(by kernel_rfl)
      change wpList _ _ _ _ _ wr.drew;clear u0 u1;go_wp2;have X:=(af wr).drew;have hW:=(HI.out.2.ext X).set (j:=q) (f':=zg f k (q+1)) hq6 (λo ho=>Jm f k q o ho);rw[hv.out]at hW;have Ku:=aa hW;clear hW;go_roundw;case rel=>exact⟨(hb.trans X).setCell (av _) _,q+1,by omega,by go_num,(HI.out.1.ext X).set _ _,Ku.out⟩
      case measure=>simp[intOf];omega
     ·rw[au ht]at hbit;have hv:Hid (zg f k (q+1) q=n):=by show _ = _;rw[jC.out,au ht]
      have HC:Hid (Words wr w.heap.size 6 (zg f k (q+1))):=⟨HI.out.2.1,λo ho=>by
       by_cases e:o=q
       ·subst e;rw[hv.out];exact cq
       ·rw[Jm f k q o e];exact HI.out.2.2 o ho⟩
      clear ht;go_wp2;go_roundw;case rel=>exact⟨hb,q+1,by omega,by go_num,HI.out.1,HC.out⟩
      case measure=>simp[intOf];omega
    ·obtain rfl:q=6:=by omega
     go_wp2;go_roundw;case rel=>exact⟨hb,k+1,by omega,by go_num,HI.out.1,HI.out.2.congr λo ho=>by unfold zg;rw[aj (by omega)]⟩
     case measure=>simp[intOf];omega
  ·obtain rfl:k=6:=by omega
   have hA:=aa HW.out.1;have w0:=HW.out.2.2 0 (by omega);have w1:=HW.out.2.2 1 (by omega);have w2:=HW.out.2.2 2 (by omega);have w3:=HW.out.2.2 3 (by omega);have w4:=HW.out.2.2 4 (by omega);have w5:=HW.out.2.2 5 (by omega);obtain⟨g,hg⟩:∃g,war f 6=g:=⟨_,rfl⟩;have HGE:=aa hg;rw[hg]at w0 w1 w2 w3 w4 w5;clear hg;obtain⟨y0,z0⟩:=hA.out.cell (j:=0) (by omega);obtain⟨y1,z1⟩:=hA.out.cell (j:=1) (by omega);obtain⟨y2,z2⟩:=hA.out.cell (j:=2) (by omega);obtain⟨y3,z3⟩:=hA.out.cell (j:=3) (by omega);obtain⟨y4,z4⟩:=hA.out.cell (j:=4) (by omega);obtain⟨y5,z5⟩:=hA.out.cell (j:=5) (by omega);have s0:=fC hA.out (j:=0) (by omega) (.int .u64 (g 0:Nat));have hA1:=aa (hA.out.set ⟨w.heap.size+1,0,none⟩ (.int .u64 (g 0:Nat)));have s1:=fC hA1.out (j:=1) (by omega) (.int .u64 (g 1:Nat));have hA2:=aa (hA1.out.set ⟨w.heap.size+1,1,none⟩ (.int .u64 (g 1:Nat)));have s2:=fC hA2.out (j:=2) (by omega) (.int .u64 (g 2:Nat));have hA3:=aa (hA2.out.set ⟨w.heap.size+1,2,none⟩ (.int .u64 (g 2:Nat)));have s3:=fC hA3.out (j:=3) (by omega) (.int .u64 (g 3:Nat));have hA4:=aa (hA3.out.set ⟨w.heap.size+1,3,none⟩ (.int .u64 (g 3:Nat)));have s4:=fC hA4.out (j:=4) (by omega) (.int .u64 (g 4:Nat));have hA5:=aa (hA4.out.set ⟨w.heap.size+1,4,none⟩ (.int .u64 (g 4:Nat)));have s5:=fC hA5.out (j:=5) (by omega) (.int .u64 (g 5:Nat));have f0:=hA.out.free 0;have f1:=hA.out.free 1;have f2:=hA.out.free 2;have f3:=hA.out.free 3;have f4:=hA.out.free 4;have f5:=hA.out.free 5;go_wp2;refine bodyPost_ret (v:=Bg g) (by simp[results,Tryz.results240,go_sem,s0,s1,s2,s3,s4,s5,Bg]) rfl ?_;exact⟨by rw[HGE.out];rfl,(((((hb.setCell (iD _) _).setCell (iD _) _).setCell (iD _) _).setCell (iD _) _).setCell (iD _) _).setCell (iD _) _⟩
theorem Sg(f:Nat->Nat)(w:World)(hf:∀o,f o<64) :
 Calls Tryz.prog 239 #[Bg f] w λe w'=>e=.returned (.bool ((List.range 6).any λi=>(war f 6 i).testBit i))/\Ext w w':=by
 have HF:=aa (λk x=>QL hf k x);have HF0:=aa hf;obtain⟨R,hR⟩:∃R,((List.range 6).any λi=>(war f 6 i).testBit i)=R:=⟨_,rfl⟩;rw[hR];have HR:=aa hR;clear hR hf;unfold Bg;go_enter Tryz.func239,Tryz.ntmps239;go_wp2_with fail
 refine(KN f _ HF0.out).mono ?_
 rintro e w1 ⟨rfl,b1⟩;have HG:=aa (λx=>HF.out 6 x);obtain⟨g,hg⟩:∃g,war f 6=g:=⟨_,rfl⟩;have hR:=HR.out;have hG:=HG.out;rw[hg]at hR hG ⊢;have HR2:=aa hR;have HG2:=aa hG;clear hg HR HG hR hG HF HF0;unfold Bg;have HZ:=aa (uN w1 g 241);have hb:=((af w).alloc (.cells #[.int .u64 (f 0:Int),.int .u64 (f 1:Int),.int .u64 (f 2:Int),.int .u64 (f 3:Int),.int .u64 (f 4:Int),.int .u64 (f 5:Int)] 241)).trans b1;clear b1;go_wp2;go_loopw [7] (λi wr=>Ext w wr/\∃k:Nat,k<=6/\i=.int .i64 k/\Hid (Words wr w1.heap.size 6 g)/\Hid (∀i,i<k->(g i).testBit i=false)) (λi _=>6-(intOf i).toNat)
 case atStart=>exact⟨hb.alloc _,0,by omega,rfl,HZ.out,λ_ h=>absurd h (gu _)⟩
 case round=>
  clear HZ hb;obtain⟨hb,k,hk,rfl,HW,HK⟩:=hrel;by_cases hlt:k<6
  ·have hkd:decide ((k:Int)<6)=true:=by simp;omega
   have c0:=HW.out.2 0 (by omega);have c1:=HW.out.2 1 (by omega);have c2:=HW.out.2 2 (by omega);have c3:=HW.out.2 3 (by omega);have c4:=HW.out.2 4 (by omega);have c5:=HW.out.2 5 (by omega);obtain⟨t,ht⟩:∃t,(g k).testBit k=t:=⟨_,rfl⟩;have HT:=aa ht;clear ht;go_wp2_with fail
   refine(Td g k k _ hlt hlt HG2.out).mono ?_
   rw[HT.out];rintro e w2 ⟨rfl,b2⟩
   cases t with
   | true=>
     have hf:Hid (true=R):=by show _ = _;rw[<-HR2.out];symm;rw[jF];exact⟨k,by simpa using hlt,HT.out⟩
     go_wp2;go_returns;exact⟨aS hf.out,hb.trans b2⟩
   | false=>
     have HW2:=aa (HW.out.ext b2);go_wp2;go_roundw;case rel=>exact⟨hb.trans b2,k+1,by omega,by go_num,HW2.out,λi hi=>if e:i=k then e▸HT.out else HK.out i (by omega)⟩
     case measure=>simp[intOf];omega
  ·obtain rfl:k=6:=by omega
   have hf:Hid (false=R):=by
    show _ = _;rw[<-HR2.out];symm;rw[List.any_eq_false];intro o ho;rw[HK.out o (by simpa using ho)]
    decide
   go_wp2;go_returns;exact⟨aS hf.out,hb⟩
theorem VT(xs:List Int)(v:Int):decide (0<=idxOf xs v)=xs.contains v:=by
 unfold idxOf
 cases hf:xs.findIdx? (·==v) with
 | none=>
   rw[List.findIdx?_eq_none_iff]at hf;simp;intro h
   have:=hf v h
   simp at this
 | some i=>
   have:=List.findIdx?_eq_some_iff_getElem.1 hf
   obtain⟨hi,hx,_⟩:=this;simp at hx;simp;rw[<-hx];exact List.getElem_mem hi
theorem uP{u:Value}{xs:List Int}(v:Int)(w:World)(h:oZ encI w u xs)(hlen:xs.length<=2097152) :
 Calls Tryz.prog 262 #[u,.int .i64 v] w λe w'=>e=.returned (.bool (xs.contains v))/\Ext w w':=by
 have HM:=aa (VT xs v);have HI:=aa (uk v w h hlen);obtain⟨A,c,rfl,_⟩:=id h;obtain⟨z,hz⟩:∃z,idxOf xs v=z:=⟨_,rfl⟩;rw[hz]at HM HI;clear h hz;go_enter Tryz.func262,Tryz.ntmps262;go_wp2_with fail
 refine HI.out.mono ?_;rintro e w1 ⟨rfl,b1⟩;go_wp2;go_returns;exact⟨aS HM.out,b1⟩
def fB(es:List Edge)(ks:List Int):List Edge:=es.filter λe=>ks.contains e.kind
theorem Px(l:List Edge)(e:Edge)(x:Nat):rowsOf (l++[e]) x=if e.fH=(x:Int) then rowsOf l x ||| 2 ^ e.to.toNat else rowsOf l x:=by unfold rowsOf;rw[nL];rfl
theorem MP{es:List Edge}{ks:List Int}{k:Nat}{e:Edge}(he:es[k]? =some e):fB (es.take (k+1)) ks=fB (es.take k) ks++if ks.contains e.kind=true then [e] else []:=by unfold fB;rw[ak he,rF];congr 1;rw[sN];simp only[List.filter_nil]
theorem Lb{es:List Edge}(h:∀e∈es,edgeOk 6 e)(x:Nat):rowsOf es x<64:=by
 unfold rowsOf
 have:∀(l:List Edge) (r:Nat),(∀e∈l,edgeOk 6 e)->r<64->l.foldl (λr e=>if e.fH=(x:Int) then r ||| 2 ^ e.to.toNat else r) r<64:=by
  intro l
  induction l with
  | nil=>intro r _ hr;exact hr
  | cons e l ih=>
    intro r hl hr;rw[uz];refine ih _ (λe' h'=>hl e' (List.mem_cons_of_mem _ h')) ?_;split
    ·have he:=hl e (List.mem_cons_self);exact Nat.or_lt_two_pow (n:=6) hr (Nat.pow_lt_pow_right (by omega) (by have:=he.2.1;omega))
    ·exact hr
 exact this es 0 h (by omega)
def Dl(es:List Edge):Bool:=(List.range 6).any λi=>(war (rowsOf es) 6 i).testBit i
def nW(ds:List Edge)(e:Edge):Bool:=e.kind==3&&(war (rowsOf (fB ds [1,2])) 6 e.to.toNat).testBit e.fH.toNat
def fP(ds:List Edge)(kind:Int):Bool:=
 if kind=1 then Dl (fB ds [1]) else if kind=2 then Dl (fB ds [1,2]) else if kind=3 then ds.any (nW ds) else if kind=4 then Dl (fB ds [1,2,3]) else false
theorem D8{es es':List Edge}(h:∀x,x∈es↔x∈es'):rowsOf es=rowsOf es':=by funext x;apply Nat.eq_of_testBit_eq;intro y;rw[kQ,nP,nP];simp[h]
theorem ry{es es':List Edge}(h:∀x,x∈es↔x∈es')(ks:List Int):∀x,x∈fB es ks↔x∈fB es' ks:=λx=>by unfold fB;simp[nT,h]
theorem Jk{es es':List Edge}(h:∀x,x∈es↔x∈es'):Dl es=Dl es':=by unfold Dl;rw[D8 h]
theorem MJ{es es':List Edge}(h:∀x,x∈es↔x∈es')(k:Int):fP es k=fP es' k:=by
 unfold fP;rw[Jk (ry h [1]),Jk (ry h [1,2]),Jk (ry h [1,2,3])]
 have:es.any (nW es)=es'.any (nW es'):=by unfold nW;rw[D8 (ry h [1,2]),kQ,jF,jF];simp only[h]
 rw[this]
def oL(ds:List Edge)(l:Nat):Bool:=(List.range l).any λk=>fP ds ((k:Int)+1)
def gP(h:List aG)(ds:List Edge)(l:Nat):Bool:=!oL ds l&&(decide (l<2) || jc h)
def levelFrom(h:List aG)(ds:List Edge):Nat->Nat
 | 0=>0
 | l+1=>if gP h ds (l+1) then l+1 else levelFrom h ds l
def kZ(h:List aG)(ds:List Edge):Nat:=levelFrom h ds 4
theorem xC(ds:List Edge)(l:Nat):oL ds (l+1)=(oL ds l || fP ds ((l:Int)+1)):=by unfold oL;rw[vU,List.any_append];simp
theorem Lv{ds:List Edge}{k l:Nat}(hk:k<=l)(h:oL ds k=true):oL ds l=true:=by unfold oL at h ⊢;rw[jF]at h ⊢;obtain⟨x,hx,hy⟩:=h;exact⟨x,by rw[Q6]at hx ⊢;omega,hy⟩
theorem Cx(h:List aG)(ds:List Edge):gP h ds 0=true:=by simp[gP,oL]
theorem zW{h:List aG}{ds:List Edge}{l:Nat}(ha:gP h ds l=true):levelFrom h ds l=l:=by
 cases l with
 | zero=>rfl
 | succ l=>rw[levelFrom,aj ha]
theorem yt{h:List aG}{ds:List Edge}{l:Nat}(ha:gP h ds (l+1)=false):levelFrom h ds (l+1)=levelFrom h ds l:=by rw[levelFrom,ha,au (by decide)]
theorem Cg(h:List aG)(ds:List Edge):∀l,levelFrom h ds l<=l
 | 0=>av _
 | l+1=>by
   have:=Cg h ds l
   rw[levelFrom]
   split<;>omega
theorem CL{h:List aG}{es es':List Edge}(he:∀x,x∈es↔x∈es')(l:Nat):gP h es l=gP h es' l:=by unfold gP oL;simp only[MJ he]
theorem Pp{h:List aG}{es es':List Edge}(he:∀x,x∈es↔x∈es'):kZ h es=kZ h es':=by simp only[kZ,levelFrom,CL he]
theorem yN(h:List aG)(ds:List Edge):kZ h ds<=4:=Cg h ds 4
def mJ(h:List aG)(l:List (List (List Int)))(m:Nat):Int:=(l.take m).foldl (λb os=>max b (kZ h (dN h os):Int)) (-1)
def tH(h:List aG):Int:=mJ h (gJ h) (gJ h).length
theorem Ej{h:List aG}{l:List (List (List Int))}{m:Nat}{os:List (List Int)}(ho:l[m]? =some os):mJ h l (m+1)=max (mJ h l m) (kZ h (dN h os):Int):=by unfold mJ;rw[ak ho,nL];rfl
theorem KM(h:List aG)(l:List (List (List Int)))(m:Nat):-1<=mJ h l m/\mJ h l m<=4:=by
 unfold mJ
 have:∀(l:List (List (List Int))) (b:Int),-1<=b/\b<=4->-1<=l.foldl (λb os=>max b (kZ h (dN h os):Int)) b/\l.foldl (λb os=>max b (kZ h (dN h os):Int)) b<=4:=by
  intro l
  induction l with
  | nil=>intro b hb;exact hb
  | cons os l ih=>
    intro b hb;rw[uz]
    have:=yN h (dN h os)
    exact ih _ ⟨by omega,by omega⟩
 exact this _ _ ⟨by omega,by omega⟩
theorem JD{many:Nat}(hm:many<=6){e:Edge}(h:edgeOk many e):edgeOk 6 e:=⟨⟨h.1.1,by have:=h.1.2;omega⟩,⟨h.2.1.1,by have:=h.2.1.2;omega⟩,h.2.2⟩
def iV(es:List Edge)(k:Int):List Edge:=es.filter λe=>decide (e.kind<=k)
theorem QH{es:List Edge}{k:Int}{j:Nat}{e:Edge}(he:es[j]? =some e):iV (es.take (j+1)) k=iV (es.take j) k++if decide (e.kind<=k)=true then [e] else []:=by unfold iV;rw[ak he,rF];congr 1;rw[sN];simp only[List.filter_nil]
theorem xE{es:List Edge}{many:Nat}{k:Int}(h:∀e∈es,edgeOk many e):∀e∈iV es k,edgeOk many e:=λe he=>h e (nT.1 he).1
theorem vS{es:List Edge}{many:Nat}(h:∀e∈es,edgeOk many e):iV es 1=fB es [1]/\iV es 2=fB es [1,2]/\iV es 3=fB es [1,2,3]:=by
 unfold iV fB;refine⟨List.filter_congr λe he=>?_,List.filter_congr λe he=>?_,List.filter_congr λe he=>?_⟩ <;>
 ·have:=(h e he).2.2.2
  rw[kQ];simp;omega
theorem TZ{es:List Edge}{many:Nat}(hm:many<=6)(h:∀e∈es,edgeOk many e):∀x y,(rowsOf es x).testBit y=true->y<6:=λx y hb=>by
 obtain⟨e,he,_,rfl⟩:=nP.1 hb
 have:=(h e he).2.1
 omega
theorem aaj{es:List Edge}{many:Nat}(hm:many<=6)(h:∀e∈es,edgeOk many e):Dl es=true↔∃s:Nat,s<many/\∃e∈es,e.fH=(s:Int)/\∃n,Near es (s:Int) n e.to:=by
 unfold Dl;rw[jF];have hp:∀s:Nat,(war (rowsOf es) 6 s).testBit s=true↔∃e∈es,e.fH=(s:Int)/\∃n,Near es (s:Int) n e.to:=λs=>by rw[NY (TZ hm h),Lj (λe he=>⟨(h e he).1.1,(h e he).2.1.1⟩)]
 constructor
 ·rintro⟨s,hs,hb⟩;have hb:=(hp s).1 hb;refine⟨s,?_,hb⟩;obtain⟨e,he,hf,_⟩:=hb
  have:=(h e he).1.2
  omega
 ·rintro⟨s,hs,hb⟩;exact⟨s,by simp;omega,(hp s).2 hb⟩
theorem Yu{es fl:List Edge}{many:Nat}(hm:many<=6)(hfl:∀e∈fl,edgeOk many e){e:Edge}(he:edgeOk many e) :
 (war (rowsOf fl) 6 e.to.toNat).testBit e.fH.toNat=true↔∃n,Near fl e.fH n e.to:=by
 have e1:((e.fH.toNat:Nat):Int)=e.fH:=by have:=he.1.1;omega
 have e2:((e.to.toNat:Nat):Int)=e.to:=by have:=he.2.1.1;omega
 rw[NY (TZ hm hfl),Lj (λx hx=>⟨(hfl x hx).1.1,(hfl x hx).2.1.1⟩),e1,e2];constructor
 ·rintro⟨x,hx,hf,n,hn⟩;exact⟨n+1,.inr ⟨x,hx,hf,hn⟩⟩
 ·rintro⟨n,hn⟩
  induction n with
  | zero=>exact absurd (show e.to=e.fH from hn).symm he.2.2.1
  | succ n ih=>
    rcases hn with hn|⟨x,hx,hf,hn⟩
    ·exact ih hn
    ·exact⟨x,hx,hf,n,hn⟩
def zT:List Edge:=(List.range 6).flatMap λ(a:Nat)=>(List.range 6).flatMap λ(b:Nat)=>(List.range 4).map λ(k:Nat)=>⟨(a:Int),(b:Int),(k:Int)+1⟩
def Cj(es:List Edge)(e:Edge):Bool:=es.any λx=>x.fH==e.fH&&x.to==e.to&&x.kind==e.kind
def uu(es:List Edge)(m:Nat):List Edge:=(zT.take m).filter (Cj es)
def KL(es:List Edge):List Edge:=zT.filter (Cj es)
theorem UO:zT.length=144:=by decide +kernel
theorem NU{a b k:Nat}(ha:a<6)(hb:b<6)(hk:k<4):zT[24*a+4*b+k]? =some ⟨(a:Int),(b:Int),(k:Int)+1⟩:=by
 have:∀a∈List.range 6,∀b∈List.range 6,∀k∈List.range 4,(zT[24*a+4*b+k]?).map (λe=>(e.fH,e.to,e.kind))=some ((a:Int),(b:Int),(k:Int)+1):=by decide +kernel
 have h:=this a (Q6.2 ha) b (Q6.2 hb) k (Q6.2 hk)
 cases he:zT[24*a+4*b+k]? with
 | none=>rw[he]at h;cases h
 | some e=>
   rw[he]at h;simp only[Option.map_some,Option.some.injEq,Prod.mk.injEq]at h;rw[Edge.ext' (x:=e) (y:=⟨(a:Int),(b:Int),(k:Int)+1⟩) h.1 h.2.1 h.2.2]
theorem Pn{es:List Edge}{m:Nat}{e:Edge}(he:zT[m]? =some e):uu es (m+1)=uu es m++if Cj es e=true then [e] else []:=by unfold uu;rw[ak he,rF];congr 1;rw[sN];simp only[List.filter_nil]
theorem IK(es:List Edge):uu es 144=KL es:=by unfold uu KL;rw[jX (by rw[UO];omega)]
theorem G5(es:List Edge)(m:Nat):(uu es m).length<=m:=by unfold uu;have h1:=mO (Cj es) (zT.take m);have h2:=List.length_take_le m zT;omega
theorem OW{es:List Edge}{e:Edge}:Cj es e=true↔e∈es:=by
 unfold Cj;rw[jF];constructor
 ·rintro⟨x,hx,h⟩;simp only[dh,beq_iff_eq]at h;rw[<-Edge.ext' h.1.1 h.1.2 h.2];exact hx
 ·intro h;exact⟨e,h,by simp⟩
theorem Vs{e:Edge}(h:edgeOk 6 e):e∈zT:=by
 obtain⟨⟨f0,f1⟩,⟨t0,t1⟩,_,k0,k1⟩:=h
 have:=NU (a:=e.fH.toNat) (b:=e.to.toNat) (k:=(e.kind-1).toNat) (by omega) (by omega) (by omega)
 have e':e=⟨(e.fH.toNat:Int),(e.to.toNat:Int),((e.kind-1).toNat:Int)+1⟩:=Edge.ext' (by simp;omega) (by simp;omega) (by simp;omega);rw[e'];exact aM this
theorem Uk{es:List Edge}(h:∀e∈es,edgeOk 6 e):∀x,x∈KL es↔x∈es:=λx=>by unfold KL;rw[nT,OW];exact⟨λhx=>hx.2,λhx=>⟨Vs (h x hx),hx⟩⟩
def JY(xs:List Int)(x:Int):Nat:=(xs.filter (·==x)).length
theorem VM{xs:List Int}{j:Nat}{y x:Int}(hy:xs[j]? =some y):JY (xs.take (j+1)) x=JY (xs.take j) x+if y==x then 1 else 0:=by unfold JY;rw[ak hy,rF,dw];congr 1;cases h:(y==x)<;>simp[sN,h]
theorem Re(xs:List Int)(x:Int):JY xs x=xs.count x:=by unfold JY;rw[List.count_eq_length_filter]
theorem Y8(xs:List Int)(x:Int):JY xs x<=xs.length:=mO _ _
theorem V4{a b:List Int}(hp:a.Perm b)(hn:b.Nodup){x:Int}(hx:x∈b):JY a x=1:=by rw[Re,hp.count_eq];have h1:=List.nodup_iff_count.1 hn x;have h2:=List.count_pos_iff.2 hx;omega
theorem PM{h:List aG}(hok:aD h=true){n:Nat}{t:aG}(ht:h[n]? =some t)(o:aV):zC h n o=(oH o&&(o.value != 0&&aI h o.key o.value==(n:Int))):=by
 unfold zC;congr 1;rw[dV ht,kQ,jF];constructor
 ·rintro⟨w,hw,h1⟩;simp only[dh,beq_iff_eq]at h1;obtain⟨h1,h2,h3⟩:=h1;have hpos:=AJ (gD (dH hok (aM ht)) hw) h1
  have:=qz hok ht hw h1
  rw[dh,bne_iff_ne,beq_iff_eq,<-h2,<-h3];exact⟨by omega,this⟩
 ·intro h1;rw[dh,bne_iff_ne,beq_iff_eq]at h1;obtain⟨t',ht',l,hl,hw,hk,hv⟩:=zu h1.2;rw[ht]at ht';cases ht';exact⟨l,hl,by simp[hw,hk,hv]⟩
def qi(h:List aG)(n k:Nat):List aG:=((h.take k).eraseIdx n).map (tT h n)
theorem Rp(h:List aG)(n:Nat):qi h n h.length=om h n:=by unfold qi om;rw[bM]
theorem P5{h:List aG}{n:Nat}(hn:n<h.length):qi h n (n+1)=qi h n n:=by obtain⟨t,ht⟩:=ah hn;unfold qi;rw[ak ht,List.eraseIdx_append_of_length_le (by rw[eY];omega),List.eraseIdx_of_length_le (l:=h.take n) (by rw[eY];omega)];rw[show n-(h.take n).length=0 by rw[eY];omega];simp
theorem Qn{h:List aG}{n k:Nat}{t:aG}(ht:h[k]? =some t)(hne:k≠n):qi h n (k+1)=qi h n k++[tT h n t]:=by
 have hk:=(bG.1 ht).1;have hl:(h.take k).length=k:=by rw[eY];omega
 unfold qi;rw[ak ht];rcases Nat.lt_or_gt_of_ne hne with h1|h1
 ·rw[List.eraseIdx_append_of_length_le (by omega),List.eraseIdx_of_length_le (l:=h.take k) (by omega),List.eraseIdx_of_length_le (l:=[t]) (by simp;omega)];simp
 ·rw[List.eraseIdx_append_of_lt_length (by omega)];simp
theorem Rk(h:List aG)(n k:Nat):(qi h n k).length<=k:=by
 unfold qi;rw[dX,agE]
 split<;>(rw[eY];omega)
def nQ(h:List aG)(n:Nat)(ops:List aV)(j:Nat):List aV:=(ops.take j).filter λo=>!zC h n o
theorem Ov{h:List aG}{n j:Nat}{ops:List aV}{o:aV}(ho:ops[j]? =some o):nQ h n ops (j+1)=nQ h n ops j++if zC h n o=true then [] else [o]:=by unfold nQ;rw[ak ho,rF];congr 1;rw[sN];cases zC h n o<;>simp
theorem Rl(h:List aG)(n:Nat)(ops:List aV)(j:Nat):(nQ h n ops j).length<=j:=by
 unfold nQ
 have:=mO (λo=>!zC h n o) (ops.take j)
 rw[eY]at this;omega
theorem RN(h:List aG)(n:Nat)(t:aG):(⟨t.az,nQ h n t.ops t.ops.length,t.done⟩:aG)=tT h n t:=by unfold nQ tT;rw[bM]
theorem vL{w:World}{B:Nat}{a b c:Value}{T:TypeId}(hg:w.heap[B]? =some (.cells #[a,b,c] T (0,0))):w.cell? ⟨B,0,none⟩=some a/\w.cell? ⟨B,1,none⟩=some b/\w.cell? ⟨B,2,none⟩=some c/\∀j,w.frozen? ⟨B,j,none⟩=false:=
 ⟨by simp[World.cell?,hg],by simp[World.cell?,hg],by simp[World.cell?,hg],λj=>by simp[World.frozen?,hg]⟩
theorem O5{w:World}{B:Nat}{a b c:Value}{T:TypeId}(hg:w.heap[B]? =some (.cells #[a,b,c] T (0,0)))(u:Value):(w.setCell ⟨B,1,none⟩ u).heap[B]? =some (.cells #[a,u,c] T (0,0)):=by simp[World.setCell,lW,hg]
theorem xh{w w':World}(h:Ext w w'){k:Nat}{o:Obj}(hg:w.heap[k]? =some o):w'.heap[k]? =some o:=(Below.block h k (fF.1 hg).1).trans hg
theorem LY{v:Value}{h:List aG}(n:Nat)(w:World)(H:iM w v h)(hok:aD h=true)(hn:n<h.length) :
 Calls Tryz.prog 29 #[v,.int .i64 (n:Int)] w λe w'=>∃v' rs,e=.returned (.tuple #[v',.bool true])/\yB w' v' rs (om h n)/\yX w.heap.size w' v' rs/\Ext w w':=by
 obtain⟨A,c,rfl⟩:=H.slice;have fu:=aa hok;have hlen:=aR hok;obtain⟨tn,htn⟩:=ah hn;have HGW:=aa (λo=>PM hok htn o);have Pj:=aa (pz w H (by omega) (aJ hok));have hw0:IntKind.i64.wrap ((h.length:Int)-1)=(h.length:Int)-1:=dL _ (by omega);have b0:lH (n:Int) 0 ((h.length:Int)-1)=true:=cK.2 (by omega);clear H hok htn;go_enter Tryz.func29,Tryz.ntmps29;go_wp2_with fail
 refine Pj.out.mono ?_;rintro e w1 ⟨v1,rs1,rfl,Wh,-,b1⟩;have hH1:iM w1 v1 h:=⟨rs1,Wh⟩;obtain⟨A1,c1,rfl⟩:=hH1.slice;have HH:=aa hH1;have HV:=aa (λW (b:Ext w1 W)=>bJ W (hH1.ext b) (by omega) (aJ fu.out));rw[fu.out]at HV;have HB1:=aa b1;clear Wh hH1 b1;go_wp2_with (first|(go_at_call 10;refine(HV.out _ ((af _).alloc _)).mono ?_;rintro e w2 ⟨rfl,b2⟩)|(go_at_call 68;refine(fQ _ _ _ _).mono ?_;rw[b0];rintro e w' ⟨rfl,rfl⟩))
 have zh:Hid (oV 48 67 w1.heap.size w2 (.slice (some ⟨w1.heap.size,0,none⟩) 0 0) [] (qi h n 0)):=oV.ext (by simpa[qi] using oV.nil w1) b2;have HB2:Hid (Ext w1 w2):=((af w1).alloc _).trans b2;clear b2;go_loopw [6,7] (λo i wr=>Ext w1 wr/\∃k:Nat,k<=h.length/\i=.int .i64 (k:Int)/\Hid (∃rs,oV 48 67 w1.heap.size wr o rs (qi h n k))) (λ_ i _=>h.length-(intOf i).toNat)
 case atStart=>exact⟨HB2.out,0,aT _,rfl,[],zh.out⟩
 case round=>
  obtain⟨hb,k,hk,rfl,HI⟩:=hrel;by_cases hlt:k<h.length
  ·by_cases hkn:k=n
   ·subst hkn;have HS:=aa (P5 hn);have hq:((k:Int)==(k:Int))=true:=by simp
    go_wp2;go_roundw;case rel=>exact⟨hb,k+1,by omega,by go_num,by rw[HS.out];exact HI.out⟩
    case measure=>simp[intOf];omega
   ·have hq:((k:Int)==(n:Int))=false:=by rw[fU];omega
    obtain⟨b,off,rfl,hbl,hc⟩:=(HH.out.ext hb).head (by omega);obtain⟨t,ht⟩:=ah hlt;obtain⟨ov,c0,c1',c2,hs⟩:=hc k t ht;obtain⟨A4,c4,rfl,hs4⟩:=id hs;have htk:=dH fu.out (aM ht);have hol:=dF htk;have jC:=aa (Qn (n:=n) ht hkn);have HT:=aa ht;have R8:=aa htk;have HC1:=aa c1';have K6:=aa hs4;obtain⟨rs,hB⟩:=HI.out;have HB:=aa hB;have hrl:rs.length<=k:=by rw[hB.1];exact Rk h n k
    have Zy:=aa (HH.out.ext hb);have Db:=aa hb;have i1:(k:Int)<(h.length:Int):=by omega
    have i2:(0:Int)<=(k:Int):=by omega
    have Xu:b<wr.heap.size:=hbl;obtain⟨Ao,no,co,rfl⟩:∃A n c,u6=Value.slice A n c:=by obtain⟨A,c,e,_⟩:=hB.2.1.cell.1;exact⟨_,_,_,e⟩
    clear hc ht hs hs4 htk hkn HI hB;go_wp2;go_region_held3 (λW=>W.cell? ⟨b,off+k*3,none⟩=some (.int .i64 t.az)/\W.cell? ⟨b,off+k*3+2,none⟩=some (.bool t.done)) (go_keep) (fail)
    have hg0:(wr.alloc (.cells #[.int .i64 t.az,.slice none 0 0,.bool t.done] 48)).drew.heap[wr.heap.size]? =some (.cells #[.int .i64 t.az,.slice none 0 0,.bool t.done] 48 (0,0)):=dP wr _;have hx0:Ext wr (wr.alloc (.cells #[.int .i64 t.az,.slice none 0 0,.bool t.done] 48)).drew:=((af wr).alloc _).drew;generalize hwd:(wr.alloc (.cells #[.int .i64 t.az,.slice none 0 0,.bool t.done] 48)).drew=wd at hg0 hx0 ⊢;clear hwd c0 c2;have Wj:=aa (aB hg0 hx0);obtain⟨wo,rfl⟩:∃wo:World,wo=wr:=⟨_,rfl⟩;obtain⟨B,hBe⟩:∃B,wo.heap.size=B:=⟨_,rfl⟩;rw[hBe]at Wj;have HBE:=aa hBe;rw[hBe];clear hg0 hx0 hBe;go_wp2;go_loopw [9] (λi wr=>Ext wo wr/\∃j:Nat,j<=t.ops.length/\i=.int .i64 (j:Int)/\Hid (∃ov,wr.heap[B]? =some (.cells #[.int .i64 t.az,ov,.bool t.done] 48 (0,0))/\Row 67 3 encOpr (B+1) wr ov (nQ h n t.ops j))) (λi _=>t.ops.length-(intOf i).toNat)
    case atStart=>exact⟨Wj.out.2,0,aT _,rfl,_,Wj.out.1,Row.nil⟩
    case round=>
     obtain⟨hv,j,hj,rfl,HJ⟩:=hrel;have d1:=hv.cell HC1.out;obtain⟨ov,hg,hrow⟩:=HJ.out;obtain⟨A5,n5,c5,rfl⟩:∃A n c,ov=Value.slice A n c:=by obtain⟨A,c,e,_⟩:=hrow.cell.1;exact⟨_,_,_,e⟩
     have hBlt:B<wr.heap.size:=(fF.1 hg).1;by_cases hjt:j<t.ops.length
     ·obtain⟨b4,abd,rfl,abB,hc4⟩:=K6.out (by omega);obtain⟨o,ho⟩:=ah hjt;have e0:=hv.cell (hc4 j o ho 0 (by omega));have e1:=hv.cell (hc4 j o ho 1 (by omega));have e2:=hv.cell (hc4 j o ho 2 (by omega));simp only[encOpr,fE]at e0 e1 e2;have yZ:=gD R8.out (aM ho);have NL:=aa (Ov (h:=h) (n:=n) ho);have hgo:=HGW.out o;have hkl:=Rl h n t.ops j;have HW:=aa (λW (bb:Ext wo W)=>iH o.key o.value W (Zy.out.ext bb) (by omega) (aJ fu.out));obtain⟨z,hz⟩:∃z,aI h o.key o.value=z:=⟨_,rfl⟩;rw[hz]at hgo HW;obtain⟨kd,ky,vl⟩:=o;simp only at e0 e1 e2 hgo HW;have X:=(af wr).alloc (.cells #[.int .i64 kd,.int .i64 ky,.int .i64 vl] 67);have HX:=aa X;have hg1:=xh X hg;have Jf:=aa (aB hg1 (Row.ext hrow X));by_cases wO:zC h n ⟨kd,ky,vl⟩=true
      ·have hkeep:Hid (nQ h n t.ops (j+1)=nQ h n t.ops j):=by show _ = _;rw[NL.out,aj wO,jh]
       have hx:kd=1/\vl≠0/\z=(n:Int):=by
        rw[hgo]at wO
        simpa[oH] using wO
       obtain⟨rfl,hv0,rfl⟩:=hx;have q2:(vl==0)=false:=by simp[hv0]
       clear hc4 ho yZ wO hgo hv0 hz X hg1 hg hrow HJ;go_wp2_with (go_at_call 69;refine(HW.out _ (hv.trans HX.out)).mono ?_;rintro e w8 ⟨rfl,rfl⟩)
       go_roundw;case rel=>exact⟨hv.trans HX.out,j+1,by omega,by go_num,_,Jf.out.1,by rw[hkeep.out];exact Jf.out.2⟩
       case measure=>simp[intOf];omega
      ·have hkeep:Hid (nQ h n t.ops (j+1)=nQ h n t.ops j++[⟨kd,ky,vl⟩]):=by show _ = _;rw[NL.out,au wO]
       have hx:kd≠1∨(kd=1/\vl=0)∨(kd=1/\vl≠0/\z≠(n:Int)):=by
        rw[hgo]at wO;simp[oH]at wO;by_cases h1:kd=1
        ·by_cases h2:vl=0
         ·exact .inr (.inl ⟨h1,h2⟩)
         ·exact .inr (.inr ⟨h1,h2,wO h1 h2⟩)
        ·exact .inl h1
       obtain⟨cur,kJ⟩:∃cur,cur=nQ h n t.ops j:=⟨_,rfl⟩;rw[<-kJ]at hkl hrow hkeep Jf;obtain⟨v',w4,hrun,hP⟩:=yj (w:=wr.alloc (.cells #[.int .i64 kd,.int .i64 ky,.int .i64 vl] 67)) (wr.heap.size+1) (by simp) hrow X ⟨kd,ky,vl⟩ (by omega) (by omega);have hne:(Value.slice A5 n5 c5).ownBlock≠some B:=λe=>by have:=hrow.block B e;omega
       have hg4:w4.heap[B]? =some (.cells #[.int .i64 t.az,.slice A5 n5 c5,.bool t.done] 48 (0,0)):=(hP.2.2.1 B hBlt hne).trans hg;obtain⟨g0,g1,g2,gf⟩:=vL hg1;obtain⟨_,g41,_,gf4⟩:=vL hg4;have gf1:=gf4 1;have jR:Hid (Ext wo (w4.setCell ⟨B,1,none⟩ v')/\∃ov,(w4.setCell ⟨B,1,none⟩ v').heap[B]? =some (.cells #[.int .i64 t.az,ov,.bool t.done] 48 (0,0))/\Row 67 3 encOpr (B+1) (w4.setCell ⟨B,1,none⟩ v') ov (nQ h n t.ops (j+1))):=
        ⟨(hP.2.1 wo hv (by rw[HBE.out];omega)).setCell (p:=⟨B,1,none⟩) (by rw[HBE.out];exact av _) _,v',O5 hg4 v',by rw[hkeep.out];exact hP.1.Dw (a:=⟨B,1,none⟩) (qx _) v'⟩
       obtain⟨A7,n7,c7,rfl⟩:∃A n c,v'=Value.slice A n c:=by obtain⟨A,c,e,_⟩:=hP.1.cell.1;exact⟨_,_,_,e⟩
       have bH:=aa hrun;have hb0:(A5=none/\n5=0)∨True:=.inr trivial;clear hc4 ho yZ wO hgo hz X hg1 hg hrow HJ kJ hrun hP hne hg4 gf gf4 hb0;rcases hx with h1|⟨h1,h2⟩|⟨h1,h2,h3⟩
       ·have q1:(kd != 1)=true:=by simp[h1]
        clear h1;go_wp2_with (at_builtin;refine wpList_append_run rfl rfl rfl rfl bH.out ?_)
        go_roundw;case rel=>exact⟨jR.out.1,j+1,by omega,by go_num,jR.out.2⟩
        case measure=>simp[intOf];omega
       ·subst h1 h2;go_wp2_with (at_builtin;refine wpList_append_run rfl rfl rfl rfl bH.out ?_)
        go_roundw;case rel=>exact⟨jR.out.1,j+1,by omega,by go_num,jR.out.2⟩
        case measure=>simp[intOf];omega
       ·subst h1;have q2:(vl==0)=false:=by simp[h2]
        have q3:(z != (n:Int))=true:=by simp[h3]
        clear h2 h3;go_wp2_with (first|(go_at_call 69;refine(HW.out _ (hv.trans HX.out)).mono ?_;rintro e w8 ⟨rfl,rfl⟩)|(at_builtin;refine wpList_append_run rfl rfl rfl rfl bH.out ?_))
        go_roundw;case rel=>exact⟨jR.out.1,j+1,by omega,by go_num,jR.out.2⟩
        case measure=>simp[intOf];omega
     ·obtain rfl:j=t.ops.length:=by omega
      obtain⟨g0,g1,g2,gf⟩:=vL hg;have HKA:=aa (RN h n t);obtain⟨v',w6,hrun,hB2,hE2⟩:=uF (t:=⟨t.az,nQ h n t.ops t.ops.length,t.done⟩) wr.heap.size rfl HB.out hv hrow.cell.1 (hrow.cell.2.mono (by rw[HBE.out];omega)) hrow.Gl hrow.cap Db.out.size (by omega);rw[HKA.out]at hB2;have bH:=aa hrun;have aeE:=aa hB2;have HE2:=aa (hE2 w1 Db.out (av _));clear hg hrow HJ hrun hB2 hE2 gf;go_wp2_with (at_builtin;refine wpList_append_run rfl rfl rfl rfl bH.out ?_)
      go_roundw;case rel=>exact⟨HE2.out,k+1,by omega,by go_num,_,by rw[jC.out];exact aeE.out⟩
      case measure=>simp[intOf];omega
  ·obtain rfl:k=h.length:=by omega
   obtain⟨rs,hB⟩:=HI.out;rw[Rp]at hB;obtain⟨d1,d2⟩:=hB.done (by decide);have HD:=aa (aB d1 (d2.mono HB1.out.size));obtain⟨A7,n7,c7,rfl⟩:∃A n c,u6=Value.slice A n c:=by obtain⟨A,c,e,_⟩:=hB.2.1.cell.1;exact⟨_,_,_,e⟩
   clear hB HI d1 d2;go_wp2;go_returns;exact⟨_,rs,rfl,HD.out.1,HD.out.2,HB1.out.trans hb⟩
theorem Dj{v:Value}{h:List aG}(n:Nat)(w:World)(H:iM w v h)(hok:aD h=true)(hn:¬n<h.length) :
 Calls Tryz.prog 29 #[v,.int .i64 (n:Int)] w λe w'=>∃A n c,e=.returned (.tuple #[.slice A n c,.bool false])/\Ext w w':=by
 obtain⟨A,c,rfl⟩:=H.slice;have hlen:=aR hok;have Pj:=aa (pz w H (by omega) (aJ hok));have fu:=aa hok;have hw0:IntKind.i64.wrap ((h.length:Int)-1)=(h.length:Int)-1:=dL _ (by omega);have b0:lH (n:Int) 0 ((h.length:Int)-1)=false:=Vq.2 (by omega);clear H hok;go_enter Tryz.func29,Tryz.ntmps29;go_wp2_with fail
 refine Pj.out.mono ?_;rintro e w1 ⟨v1,rs1,rfl,Wh,-,b1⟩;have hH1:iM w1 v1 h:=⟨rs1,Wh⟩;obtain⟨A1,c1,rfl⟩:=hH1.slice;have HV:=aa (λW (b:Ext w1 W)=>bJ W (hH1.ext b) (by omega) (aJ fu.out));rw[fu.out]at HV;have HB1:=aa b1;clear Wh hH1 b1;go_wp2_with (first|(go_at_call 10;refine(HV.out _ ((af _).alloc _)).mono ?_;rintro e w2 ⟨rfl,b2⟩)|(go_at_call 68;refine(fQ _ _ _ _).mono ?_;rw[b0];rintro e w' ⟨rfl,rfl⟩))
 go_returns;exact⟨_,_,_,rfl,(HB1.out.alloc _).trans b2⟩
theorem qZ{v u:Value}{es:List Edge}{ks:List Int}(w:World)(h:aL 3 aZ w v es)(hk:oZ encI w u ks)(hl:es.length<=144)(hkl:ks.length<=2097152)(hok:∀e∈es,edgeOk 6 e) :
 Calls Tryz.prog 238 #[v,u] w λe w'=>e=.returned (Bg (rowsOf (fB es ks)))/\Ext w w':=by
 have HO:=aa hok;have HK:=aa hk;obtain⟨A,c,rfl,hc0⟩:=id h;have HC:=aa hc0;obtain⟨B,d,rfl,_⟩:=id hk;have HL:=aa hkl;clear h hk hok hc0 hkl;have hz:Words ((w.alloc (.cells #[.int .u64 0,.int .u64 0,.int .u64 0,.int .u64 0,.int .u64 0,.int .u64 0] 241)).alloc (.cells #[.int .u64 0,.int .u64 0,.int .u64 0,.int .u64 0,.int .u64 0,.int .u64 0] 241)) (w.heap.size+1) 6 (rowsOf (fB (es.take 0) ks)):=by have hb:=uN (w.alloc (.cells #[.int .u64 0,.int .u64 0,.int .u64 0,.int .u64 0,.int .u64 0,.int .u64 0] 241)) (λ_=>0) 241;rw[show (w.alloc (.cells #[.int .u64 0,.int .u64 0,.int .u64 0,.int .u64 0,.int .u64 0,.int .u64 0] 241)).heap.size=w.heap.size+1 from by simp]at hb;exact hb.congr λ_ _=>rfl
 have HZ:=aa hz;have hb2:ny ((w.alloc (.cells #[.int .u64 0,.int .u64 0,.int .u64 0,.int .u64 0,.int .u64 0,.int .u64 0] 241)).alloc (.cells #[.int .u64 0,.int .u64 0,.int .u64 0,.int .u64 0,.int .u64 0,.int .u64 0] 241)) w.heap.size 6:=(ny.made w #[.int .u64 0,.int .u64 0,.int .u64 0,.int .u64 0,.int .u64 0,.int .u64 0] 241).ext ((af _).alloc _);have HB2:=aa hb2;clear hz hb2;go_enter Tryz.func238,Tryz.ntmps238;go_wp2;go_loopw [10] (λi wr=>Ext w wr/\∃k:Nat,k<=es.length/\i=.int .i64 k/\Hid (ny wr w.heap.size 6/\Words wr (w.heap.size+1) 6 (rowsOf (fB (es.take k) ks)))) (λi _=>es.length-(intOf i).toNat)
 case atStart=>exact⟨((af _).alloc _).alloc _,0,aT _,rfl,HB2.out,HZ.out⟩
 case round=>
  clear HZ HB2;obtain⟨hb,k,hk,rfl,HW⟩:=hrel;by_cases hlt:k<es.length
  ·obtain⟨b,off,rfl,hbl,hcell⟩:=HC.out (by omega);obtain⟨x,hx⟩:=ah hlt;have c0:=hb.cell (hcell k x hx 0 (by omega));have c1:=hb.cell (hcell k x hx 1 (by omega));have c2:=hb.cell (hcell k x hx 2 (by omega));simp only[aZ,fE]at c0 c1 c2;have HN:=aa (MP (ks:=ks) hx);have hxo:=HO.out x (aM hx);have Xa:=aa (Lb (es:=fB (es.take k) ks) (λe he=>HO.out e (oI (nT.1 he).1)));obtain⟨xf,xt,xk⟩:=x;obtain⟨⟨xf0,xf6⟩,⟨xt0,xt6⟩,_,_,_⟩:=hxo;simp only at xf0 xf6 xt0 xt6;obtain⟨q,rfl⟩:=dZ xf0;obtain⟨wo,rfl⟩:∃wo:World,wo=wr:=⟨_,rfl⟩;have HX:=aa ((af wo).alloc (.cells #[.int .i64 (q:Int),.int .i64 xt,.int .i64 xk] 200));have HSZ:=aa hb.size;have HW1:=aa HW.out.2.1.lt;clear hcell hx
   cases hcon:ks.contains xk with
   | true=>
     have HT:Hid (∀y,rowsOf (fB (es.take (k+1)) ks) y=if (q:Int)=(y:Int) then rowsOf (fB (es.take k) ks) y ||| 2 ^ xt.toNat else rowsOf (fB (es.take k) ks) y):=λy=>by rw[HN.out,aj hcon,Px]
     clear HN;obtain⟨m,hm⟩:∃m,rowsOf (fB (es.take k) ks) q=m:=⟨_,rfl⟩;have ac9:m<64:=by rw[<-hm];exact Xa.out q
     have hor:=Tv m xt.toNat (by omega) (by omega);have HM:=aa hm;have QB:=aa hcon;clear hm hcon;go_wp2_with (go_at_call 262;refine(uP xk _ (HK.out.ext (hb.trans HX.out)) HL.out).mono ?_;rw[QB.out];rintro e w4 ⟨rfl,b4⟩;have JO:=aa (HX.out.trans b4);have v0:=b4.cell (p:=⟨wo.heap.size,0,none⟩) (v:=.int .i64 (q:Int)) (by go_cell);have v1:=b4.cell (p:=⟨wo.heap.size,1,none⟩) (v:=.int .i64 xt) (by go_cell);have v2:=JO.out.cell (HW.out.2.2 q (by omega));rw[HM.out]at v2;have v3:=(HW.out.2.1.ext JO.out).free q;clear b4)
     have HG:=aa (aB v0 v1);clear c0 c1 c2;have u0:({ w4 with drawn:=w4.drawn+1 }:World).cell? ⟨wo.heap.size,0,none⟩=some (.int .i64 (q:Int)):=v0;have u1:({ w4 with drawn:=w4.drawn+1 }:World).cell? ⟨wo.heap.size,1,none⟩=some (.int .i64 xt):=v1;have u2:({ w4 with drawn:=w4.drawn+1 }:World).cell? ⟨w.heap.size+1,q,none⟩=some (.int .u64 (m:Int)):=v2;have hqi:(q:Int)<6:=by omega
     have hq0:(0:Int)<=(q:Int):=by omega
     go_still_tail 8,(by kernel_rfl)
     change wpList _ _ _ _ _ w4.drew;clear u0 u1 u2;go_wp2;have X:=JO.out.drew;have hW:=(HW.out.2.ext X).set (j:=q) (f':=rowsOf (fB (es.take (k+1)) ks)) (by omega) (λo ho=>by rw[HT.out o,au (by omega)]);rw[HT.out q,aj rfl,HM.out]at hW;have Ku:=aa hW;clear hW;go_roundw;case rel=>exact⟨(hb.trans X).setCell (by simp) _,k+1,by omega,by go_num,(HW.out.1.ext X).set _ _,Ku.out⟩
     case measure=>simp[intOf];omega
   | false=>
     have HT:Hid (fB (es.take (k+1)) ks=fB (es.take k) ks):=by show _ = _;rw[HN.out,hcon];simp
     have QB:=aa hcon;clear HN hcon;go_wp2_with (go_at_call 262;refine(uP xk _ (HK.out.ext (hb.trans HX.out)) HL.out).mono ?_;rw[QB.out];rintro e w4 ⟨rfl,b4⟩)
     go_roundw;case rel=>exact⟨hb.trans (HX.out.trans b4),k+1,by omega,by go_num,HW.out.1.ext (HX.out.trans b4),by rw[HT.out];exact HW.out.2.ext (HX.out.trans b4)⟩
     case measure=>simp[intOf];omega
  ·obtain rfl:k=es.length:=by omega
   have hA:=aa HW.out.1;have hWW:=HW.out.2;rw[bM]at hWW;have w0:=hWW.2 0 (by omega);have w1:=hWW.2 1 (by omega);have w2:=hWW.2 2 (by omega);have w3:=hWW.2 3 (by omega);have w4:=hWW.2 4 (by omega);have w5:=hWW.2 5 (by omega);obtain⟨g,hg⟩:∃g,rowsOf (fB es ks)=g:=⟨_,rfl⟩;rw[hg]at w0 w1 w2 w3 w4 w5;have HGE:=aa hg;clear hg hWW;obtain⟨y0,z0⟩:=hA.out.cell (j:=0) (by omega);obtain⟨y1,z1⟩:=hA.out.cell (j:=1) (by omega);obtain⟨y2,z2⟩:=hA.out.cell (j:=2) (by omega);obtain⟨y3,z3⟩:=hA.out.cell (j:=3) (by omega);obtain⟨y4,z4⟩:=hA.out.cell (j:=4) (by omega);obtain⟨y5,z5⟩:=hA.out.cell (j:=5) (by omega);have s0:=fC hA.out (j:=0) (by omega) (.int .u64 (g 0:Nat));have hA1:=aa (hA.out.set ⟨w.heap.size,0,none⟩ (.int .u64 (g 0:Nat)));have s1:=fC hA1.out (j:=1) (by omega) (.int .u64 (g 1:Nat));have hA2:=aa (hA1.out.set ⟨w.heap.size,1,none⟩ (.int .u64 (g 1:Nat)));have s2:=fC hA2.out (j:=2) (by omega) (.int .u64 (g 2:Nat));have hA3:=aa (hA2.out.set ⟨w.heap.size,2,none⟩ (.int .u64 (g 2:Nat)));have s3:=fC hA3.out (j:=3) (by omega) (.int .u64 (g 3:Nat));have hA4:=aa (hA3.out.set ⟨w.heap.size,3,none⟩ (.int .u64 (g 3:Nat)));have s4:=fC hA4.out (j:=4) (by omega) (.int .u64 (g 4:Nat));have hA5:=aa (hA4.out.set ⟨w.heap.size,4,none⟩ (.int .u64 (g 4:Nat)));have s5:=fC hA5.out (j:=5) (by omega) (.int .u64 (g 5:Nat));have f0:=hA.out.free 0;have f1:=hA.out.free 1;have f2:=hA.out.free 2;have f3:=hA.out.free 3;have f4:=hA.out.free 4;have f5:=hA.out.free 5;go_wp2;refine bodyPost_ret (v:=Bg g) (by simp[results,Tryz.results238,go_sem,s0,s1,s2,s3,s4,s5,Bg]) rfl ?_;exact⟨by rw[HGE.out],(((((hb.setCell (av _) _).setCell (av _) _).setCell (av _) _).setCell (av _) _).setCell (av _) _).setCell (av _) _⟩
theorem M0(w:World)(T:TypeId)(xs:List Int)(c:Nat):oZ encI (w.alloc (.cells (xs.map encI).toArray T)) (.slice (some ⟨w.heap.size,0,none⟩) xs.length c) xs:=
 ⟨_,_,rfl,λ_=>⟨w.heap.size,0,rfl,by simp,λi x hx=>by rw[ig];exact aF (by simp[hx])⟩⟩
theorem AU(es:List Edge)(w:World)(hf:∀o,rowsOf es o<64) :
 Calls Tryz.prog 239 #[Bg (rowsOf es)] w λe w'=>e=.returned (.bool (Dl es))/\Ext w w':=Sg (rowsOf es) w hf
theorem Fj{v:Value}{es:List Edge}(many:Nat)(kind:Int)(w:World)(hm:many<=6)(h:aL 3 aZ w v es)(hl:es.length<=144)(hok:∀e∈es,edgeOk many e) :
 Calls Tryz.prog 209 #[.int .i64 (many:Int),v,.int .i64 kind] w λe w'=>e=.returned (.bool (fP es kind))/\Ext w w':=by
 have H6:=aa (λe he=>JD hm (hok e he));have Ws:=aa (λks x=>Lb (es:=fB es ks) (λe he=>H6.out e (nT.1 he).1) x);have HV:=aa (Fu many w hm h hl hok);have HS:=aa h;obtain⟨A,c,rfl,hc0⟩:=id h;have HC:=aa hc0;have HLn:=aa hl;clear h hok hc0;by_cases k1:kind=1
 ·subst k1;have hf:Hid (fP es 1=Dl (fB es [1])):=by show _ = _;simp[fP]
  rw[hf.out];clear hl;go_enter Tryz.func209,Tryz.ntmps209
  go_wp2_with (first
   | (go_at_call 237;refine HV.out.mono ?_;rintro e w1 ⟨rfl,b1⟩)
   | (go_at_call 238;refine(qZ _ (HS.out.ext (b1.alloc _)) (M0 w1 _ [1] 1) HLn.out (by decide) H6.out).mono ?_;rintro e w2 ⟨rfl,b2⟩)
   | (go_at_call 239;refine(AU _ _ (Ws.out [1])).mono ?_;rintro e w3 ⟨rfl,b3⟩))
  go_returns;exact⟨rfl,(b1.alloc _).trans (b2.trans b3)⟩
 by_cases k2:kind=2
 ·subst k2;have hf:Hid (fP es 2=Dl (fB es [1,2])):=by show _ = _;simp[fP]
  rw[hf.out];clear hl k1;go_enter Tryz.func209,Tryz.ntmps209
  go_wp2_with (first
   | (go_at_call 237;refine HV.out.mono ?_;rintro e w1 ⟨rfl,b1⟩)
   | (go_at_call 238;refine(qZ _ (HS.out.ext (b1.alloc _)) (M0 w1 _ [1,2] 2) HLn.out (by decide) H6.out).mono ?_;rintro e w2 ⟨rfl,b2⟩)
   | (go_at_call 239;refine(AU _ _ (Ws.out [1,2])).mono ?_;rintro e w3 ⟨rfl,b3⟩))
  go_returns;exact⟨rfl,(b1.alloc _).trans (b2.trans b3)⟩
 by_cases k4:kind=4
 ·subst k4;have hf:Hid (fP es 4=Dl (fB es [1,2,3])):=by show _ = _;simp[fP]
  rw[hf.out];clear hl k1 k2;go_enter Tryz.func209,Tryz.ntmps209
  go_wp2_with (first
   | (go_at_call 237;refine HV.out.mono ?_;rintro e w1 ⟨rfl,b1⟩)
   | (go_at_call 238;refine(qZ _ (HS.out.ext (b1.alloc _)) (M0 w1 _ [1,2,3] 3) HLn.out (by decide) H6.out).mono ?_;rintro e w2 ⟨rfl,b2⟩)
   | (go_at_call 239;refine(AU _ _ (Ws.out [1,2,3])).mono ?_;rintro e w3 ⟨rfl,b3⟩))
  go_returns;exact⟨rfl,(b1.alloc _).trans (b2.trans b3)⟩
 by_cases k3:kind=3
 ·subst k3;have hf:Hid (fP es 3=es.any (nW es)):=by show _ = _;simp[fP]
  rw[hf.out];obtain⟨R,hR⟩:∃R,es.any (nW es)=R:=⟨_,rfl⟩;have HR:=aa hR;rw[hR];clear k1 k2 k4 hR hf;go_enter Tryz.func209,Tryz.ntmps209;go_wp2_with fail
  refine HV.out.mono ?_;rintro e w1 ⟨rfl,b1⟩;go_wp2_with fail
  refine(qZ _ (HS.out.ext (b1.alloc _)) (M0 w1 _ [1,2] 2) HLn.out (by decide) H6.out).mono ?_
  rintro e w2 ⟨rfl,b2⟩;go_wp2_with fail
  refine(KN _ _ (Ws.out [1,2])).mono ?_
  rintro e w3 ⟨rfl,b3⟩;have hG:=QL (Ws.out [1,2]) 6;have sZ:Hid (∀x,nW es x=(x.kind==3&&(war (rowsOf (fB es [1,2])) 6 x.to.toNat).testBit x.fH.toNat)):=λx=>rfl;obtain⟨g,hg⟩:∃g,war (rowsOf (fB es [1,2])) 6=g:=⟨_,rfl⟩;have hOV:=sZ.out;rw[hg]at hG hOV ⊢;have HG:=aa hG;have HOW:=aa hOV;clear hg hG hOV sZ;unfold Bg;have HZ:=aa (uN w3 g 241);have hb:=(b1.alloc (.cells #[.int .i64 1,.int .i64 2] 3)).trans (b2.trans b3);clear b1 b2 b3;go_wp2;go_loopw [35] (λi wr=>Ext w wr/\∃k:Nat,k<=es.length/\i=.int .i64 k/\Hid (Words wr w3.heap.size 6 g)/\Hid (∀(i:Nat) x,i<k->es[i]? =some x->nW es x=false)) (λi _=>es.length-(intOf i).toNat)
  case atStart=>exact⟨hb.alloc _,0,aT _,rfl,HZ.out,λ_ _ h=>absurd h (gu _)⟩
  case round=>
   clear HZ hb;obtain⟨hb,k,hk,rfl,HW,HK⟩:=hrel;by_cases hlt:k<es.length
   ·obtain⟨b,off,rfl,hbl,hcell⟩:=HC.out (by omega);obtain⟨x,hx⟩:=ah hlt;have c0:=hb.cell (hcell k x hx 0 (by omega));have c1:=hb.cell (hcell k x hx 1 (by omega));have c2:=hb.cell (hcell k x hx 2 (by omega));simp only[aZ,fE]at c0 c1 c2;have hxo:=H6.out x (aM hx);have Hx:=aa hx;obtain⟨xf,xt,xk⟩:=x;obtain⟨⟨xf0,xf6⟩,⟨xt0,xt6⟩,_,_,_⟩:=hxo;simp only at xf0 xf6 xt0 xt6;obtain⟨p,rfl⟩:=dZ xf0;obtain⟨q,rfl⟩:=dZ xt0;obtain⟨wo,rfl⟩:∃wo:World,wo=wr:=⟨_,rfl⟩;have HX:=aa ((af wo).alloc (.cells #[.int .i64 (p:Int),.int .i64 (q:Int),.int .i64 xk] 200));clear hcell hx;by_cases h3:xk=3
    ·subst h3;have d0:=HX.out.cell (HW.out.2 0 (by omega));have d1:=HX.out.cell (HW.out.2 1 (by omega));have d2:=HX.out.cell (HW.out.2 2 (by omega));have d3:=HX.out.cell (HW.out.2 3 (by omega));have d4:=HX.out.cell (HW.out.2 4 (by omega));have d5:=HX.out.cell (HW.out.2 5 (by omega));obtain⟨t,ht⟩:∃t,(g q).testBit p=t:=⟨_,rfl⟩;have HT:=aa ht;clear ht;go_wp2_with fail
     refine(Td g q p _ (by omega) (by omega) HG.out).mono ?_
     rw[HT.out];rintro e w4 ⟨rfl,b4⟩
     cases t with
     | true=>
       have hfin:Hid (true=R):=by show _ = _;rw[<-HR.out];symm;rw[jF];exact⟨_,aM Hx.out,by rw[HOW.out];simp[HT.out]⟩
       go_wp2;go_returns;exact⟨aS hfin.out,hb.trans (HX.out.trans b4)⟩
     | false=>
       clear d0 d1 d2 d3 d4 d5;go_wp2;go_roundw;case rel=>exact⟨hb.trans (HX.out.trans b4),k+1,by omega,by go_num,HW.out.ext (HX.out.trans b4),λi y hi hy=>by
        by_cases e:i=k
        ·subst e;rw[Hx.out]at hy;cases hy;rw[HOW.out];simp[HT.out]
        ·exact HK.out i y (by omega) hy⟩
       case measure=>simp[intOf];omega
    ·have hd:(xk==3)=false:=by simpa using h3
     go_wp2;go_roundw;case rel=>exact⟨hb.alloc _,k+1,by omega,by go_num,HW.out.ext HX.out,λi y hi hy=>by
      by_cases e:i=k
      ·subst e;rw[Hx.out]at hy;cases hy;rw[HOW.out];simp[hd]
      ·exact HK.out i y (by omega) hy⟩
     case measure=>simp[intOf];omega
   ·obtain rfl:k=es.length:=by omega
    have hfin:Hid (false=R):=by
     show _ = _;rw[<-HR.out];symm;rw[List.any_eq_false];intro x hx;obtain⟨i,hi,rfl⟩:=jq hx;rw[HK.out i _ hi (dJ hi)]
     decide
    go_wp2;go_returns;exact⟨aS hfin.out,hb⟩
 ·have hf:Hid (fP es kind=false):=by show _ = _;simp[fP,k1,k2,k3,k4]
  rw[hf.out];have e1:(kind==1)=false:=by simpa using k1
  have e2:(kind==2)=false:=by simpa using k2
  have e3:(kind==3)=false:=by simpa using k3
  have e4:(kind==4)=false:=by simpa using k4
  clear hl;go_enter Tryz.func209,Tryz.ntmps209;go_wp2_with (go_at_call 237;refine HV.out.mono ?_;rintro e w1 ⟨rfl,b1⟩)
  go_returns;exact⟨rfl,b1⟩
