/- Lemmas. -/
import Derived.Test.YtomkjlklninhpaaGreatDoorKAR
import Derived.Test.YtomkjlklninhpaaGreatDoorKAX
set_option maxHeartbeats 16000000
set_option maxRecDepth 8000
set_option linter.all false
namespace Go.Proofs.YtomkjlklninhpaaGreatDoor
open Go.RowKit
theorem nY{h:List aA}(hok:aC h=true){k:Nat}{t:aA}(ht:h[k]? =some t){o:aQ}(ho:o∈t.ops)(hw:iN o=true):aB h o.key o.value=k:=by obtain⟨j,hj,rfl⟩:=List.getElem_of_mem ho;obtain⟨l,e⟩:=BS ht (List.getElem?_eq_getElem hj) hw;have hnd:=Kz hok;rw[e,List.map_append,List.nodup_append]at hnd;have hn:lookW (dB h k t.ops j) ((t.ops[j]).key,(t.ops[j]).value)=none:=tH.2 fun hm=>hnd.2.2 _ hm _ (by simp) rfl;unfold aB;rw[e,tJ,hn];simp[lookW]
theorem xI{h:List aA}{k:Nat}{key value:Int}(hw:aB h key value=k):∃t,h[k]? =some t/\∃o∈t.ops,iN o=true/\o.key=key/\o.value=value:=by
 unfold aB at hw
 cases hl:lookW (Bo h) (key,value) with
 | none=>rw[hl]at hw;simp at hw
 | some n=>
   rw[hl]at hw;simp at hw
   have:n=k:=by omega
   subst this;have hm:((key,value),n)∈Bo h:=by unfold lookW at hl;rw[Option.map_eq_some_iff]at hl;obtain⟨p,hp,rfl⟩:=hl;have h1:=List.find?_some hp;have h2:=List.mem_of_find?_eq_some hp;obtain⟨q,n⟩:=p;simp at h1;subst h1;exact h2
   obtain⟨t,ht,o,ho,hw,e⟩:=Ry hm;injection e with e1 e2;exact⟨t,ht,o,ho,hw,e1,e2⟩
theorem PZ{h:List aA}(hok:aC h=true){k:Nat}{t:aA}(ht:h[k]? =some t){i m:Nat}{p l:aQ}(hp:t.ops[i]? =some p)(hl:t.ops[m]? =some l)(him:i<m)(hwp:iN p=true)(hwl:iN l=true)(hk:p.key=l.key)(hv:p.value=l.value):False:=by
 have hnt:jh h=true:=by simp only[aC,Bool.and_eq_true]at hok;exact hok.2
 have hmem:(l.key,l.value)∈(dB h k t.ops m).map (·.1):=by unfold dB;rw[List.map_append,List.mem_append];right;unfold fH;rw[List.map_map,List.mem_map];refine⟨p,List.mem_filter.2 ⟨?_,hwp⟩,by simp[hk,hv]⟩;exact List.mem_of_getElem? (i:=i) (by rw[List.getElem?_take,if_pos him];exact hp)
 cases hlk:lookW (dB h k t.ops m) (l.key,l.value) with
 | none=>exact tH.1 hlk hmem
 | some n=>
   have:=xR ht hl hwl hlk
   rw[hnt]at this;cases this
def oG(h:List aA)(k:Nat)(xs:List aQ):Bool:=xs.any fun o=>decide (0<o.value)&&aB h o.key o.value==(k:Int)
theorem QY{h:List aA}(hok:aC h=true){k:Nat}{t:aA}(ht:h[k]? =some t)(hown:yx t.ops=false):rz t.ops=oG h k (kS t.ops):=by
 have hto:=bY hok (List.mem_of_getElem? ht);have abf:∀i,i<t.ops.length->wF t.ops i=false:=fun i hi=>by unfold yx xA at hown;rw[List.any_eq_false]at hown;simpa using hown i (by simpa using hi)
 rw[Bool.eq_iff_iff];unfold rz oG;rw[List.any_eq_true,List.any_eq_true];constructor
 ·rintro⟨i,hi,h1⟩;obtain⟨o,ho⟩:=af (show i<t.ops.length by simpa using hi);rw[ho]at h1;simp only[Bool.and_eq_true,List.any_eq_true,decide_eq_true_eq]at h1;obtain⟨hr,l,hl,hlk,ZJ,VO⟩:=h1;obtain⟨d,hd,rfl⟩:=List.getElem_of_mem hl;have hl2:t.ops[i+1+d]? =some (t.ops.drop (i+1))[d]:=by rw[<-List.getElem?_drop,List.getElem?_eq_getElem hd]
  generalize (t.ops.drop (i+1))[d]=l at *;have hwl:iN l=true:=by simp[iN,hlk]
  have key:∀(i:Nat),∀o,t.ops[i]? =some o->mM o=true->∀m:Nat,i<m->t.ops[m]? =some l->l.key=o.key->l.value=o.value->∃f∈kS t.ops,f.key=o.key/\f.value=o.value:=by
   intro i
   induction i using Nat.strongRecOn with
   | _ i ih=>
     intro o ho hr m him hlm hk hv
     cases hb:before (t.ops.take i) o.key with
     | none=>exact⟨o,Ex.2 ⟨i,ho,by simp[IC,ho,hr,hb]⟩,rfl,rfl⟩
     | some v=>
       have hno:=abf i (List.getElem?_eq_some_iff.1 ho).1;have hv2:v=o.value:=by unfold wF at hno;rw[ho]at hno;simp only[hb,hr,Bool.true_and,bne_eq_false_iff_eq]at hno;exact hno
       obtain⟨p,hp,hpk,hpv⟩:=wu hb;obtain⟨i',hi',rfl⟩:=List.getElem_of_mem hp;have hi2:i'<i:=by rw[List.length_take]at hi';omega
       have hp2:t.ops[i']? =some (t.ops.take i)[i']:=by rw[List.getElem_take,List.getElem?_eq_getElem]
       generalize (t.ops.take i)[i']=p at *;have hpo:=eT hto (List.mem_of_getElem? hp2);rcases nL hpo with hkind|hkind
       ·obtain⟨f,hf,h1,h2⟩:=ih i' hi2 p hp2 (by simp[mM,hkind]) m (by omega) hlm (by rw[hk,hpk]) (by rw[hv,hpv,hv2]);exact⟨f,hf,by rw[h1,hpk],by rw[h2,hpv,hv2]⟩
       ·exact(PZ hok ht hp2 hlm (by omega) (by simp[iN,hkind]) hwl (by rw[hpk,hk]) (by rw[hpv,hv2,hv])).elim
  obtain⟨f,hf,h1,h2⟩:=key i o ho hr (i+1+d) (by omega) hl2 ZJ VO;refine⟨f,hf,?_⟩;have hm:l∈t.ops:=List.mem_of_getElem? hl2;have hpos:=yG (eT hto hm) hwl;have hwr:=nY hok ht hm hwl;rw[Bool.and_eq_true,decide_eq_true_eq,beq_iff_eq];exact⟨by rw[h2,<-VO];exact hpos,by rw[h1,h2,<-ZJ,<-VO];exact hwr⟩
 ·rintro⟨f,hf,h1⟩;rw[Bool.and_eq_true,decide_eq_true_eq,beq_iff_eq]at h1;obtain⟨j,hj,hfa⟩:=Ex.1 hf;have hjl:=(List.getElem?_eq_some_iff.1 hj).1;unfold IC at hfa;rw[hj]at hfa;simp only[Bool.and_eq_true,Option.isNone_iff_eq_none]at hfa;obtain⟨t',ht',l,hl,hwl,hlk,hlv⟩:=xI h1.2;rw[ht]at ht';cases ht';obtain⟨m,hm,rfl⟩:=List.getElem_of_mem hl;have hjm:j<m:=by
   rcases Nat.lt_trichotomy j m with h'|h'|h'
   ·exact h'
   ·subst h';rw[List.getElem?_eq_getElem hm]at hj;cases hj
    have:=Tc hfa.1
    rw[show (t.ops[j].kind==2)=true from hwl]at this;cases this
   ·exact absurd hlk (CS hfa.2 (List.mem_of_getElem? (i:=m) (by rw[List.getElem?_take,if_pos h',List.getElem?_eq_getElem hm])))
  refine⟨j,by simpa using hjl,?_⟩;rw[hj];simp only[Bool.and_eq_true,List.any_eq_true,decide_eq_true_eq];refine⟨hfa.1,t.ops[m],?_,by simpa[iN] using hwl,hlk,hlv⟩;refine List.mem_of_getElem? (i:=m-(j+1)) ?_;rw[List.getElem?_drop,show j+1+(m-(j+1))=m by omega,List.getElem?_eq_getElem hm]
def qV(h:List aA)(k:Nat):Bool:=(List.range k).any fun n=>gP h n&&oG h n (kS (opsOf h n))
theorem Me(h:List aA)(k:Nat):qV h (k+1)=(qV h k || (gP h k&&oG h k (kS (opsOf h k)))):=by unfold qV;rw[List.range_succ,List.any_append];simp
theorem DT{h:List aA}(hok:aC h=true)(hb:∀k:Nat,1<=k->k<=4->fQ h (k:Int)=false):gG h = !qV h h.length:=by
 have b1:fQ h 1=false:=hb 1 (by omega) (by omega);have b2:fQ h 2=false:=hb 2 (by omega) (by omega);have b3:fQ h 3=false:=hb 3 (by omega) (by omega);have b4:fQ h 4=false:=hb 4 (by omega) (by omega);have key:((List.range h.length).any fun n=>gP h n&&rz (opsOf h n))=qV h h.length:=by
  unfold qV;rw[Bool.eq_iff_iff,List.any_eq_true,List.any_eq_true];have hsame:∀n∈List.range h.length,(gP h n&&rz (opsOf h n))=(gP h n&&oG h n (kS (opsOf h n))):=fun n hn=>by
   cases hd:gP h n with
   | false=>rfl
   | true=>
     obtain⟨t,ht⟩:=af (show n<h.length by simpa using hn);have hown:yx t.ops=false:=by
      unfold fQ at b4;rw[List.any_eq_false]at b4
      have:=b4 n hn
      rw[hd,lY,if_pos rfl,dw ht,Bool.true_and]at this;simpa using this
     rw[dw ht,QY hok ht hown]
  constructor
  ·rintro⟨n,hn,h1⟩;exact⟨n,hn,by rw[<-hsame n hn];exact h1⟩
  ·rintro⟨n,hn,h1⟩;exact⟨n,hn,by rw[hsame n hn];exact h1⟩
 unfold gG;rw[hok,b1,b2,b3,b4,key];simp
theorem DK{v:Value}{h:List aA}(w:World)(H:gL w v h)(hok:aC h=true) :
 Calls Tryz.prog 113 #[v] w fun e w'=>e=.returned (.bool (gG h))/\Ext w w':=by
 obtain⟨A,c,rfl⟩:=H.slice;have HH:=aa H;have dO:=aa hok;have hlen:=aM hok;clear H hok;go_enter Tryz.func113,Tryz.ntmps113;go_wp2;go_loopw [3] (fun i wr=>Ext w wr/\∃k:Nat,1<=k/\k<=5/\i=.int .i64 k/\Hid (∀j:Nat,1<=j->j<k->fQ h (j:Int)=false)) (fun i _=>5-(intOf i).toNat)
 case atStart=>exact⟨Ext.refl _,1,Nat.le_refl _,by omega,rfl,fun j h1 h2=>by omega⟩
 case round=>
  obtain⟨hb,k,hk1,hk5,rfl,HI⟩:=hrel;by_cases hlt:k<=4
  ·go_wp2_with fail
   refine(IY (k:Int) _ (HH.out.ext hb) dO.out (by omega)).mono ?_
   rintro e w2 ⟨A2,n,c2,rfl,hn,hn2,b2⟩
   cases hba:fQ h (k:Int) with
   | true=>
     have hr:=aa (vI hk1 hlt hba);rw[hba]at hn;have hn0:0<n:=by simpa using hn
     clear hba hn;go_wp2;go_returns;exact⟨aN hr.out.symm,hb.trans b2⟩
   | false=>
     rw[hba]at hn;have hn0:n=0:=by simpa using hn
     subst hn0;have HBA:=aa hba;clear hba hn;go_wp2;go_roundw;case rel=>exact⟨hb.trans b2,k+1,by omega,by omega,by go_num,fun j h1 h2=>by
      rcases Nat.lt_or_ge j k with h'|h'
      ·exact HI.out j h1 h'
      ·obtain rfl:j=k:=by omega
       exact HBA.out⟩
     case measure=>simp[intOf];omega
  ·obtain rfl:k=5:=by omega
   have hend:=aa (DT dO.out (fun j h1 h2=>HI.out j h1 (by omega)));have HB0:=aa hb;clear hb HI;rw[show ((5:Nat):Int)=5 from rfl];go_wp2;go_loopw [4] (fun i wr=>Ext w wr/\∃k:Nat,k<=h.length/\i=.int .i64 k/\Hid (qV h k=false)) (fun i _=>h.length-(intOf i).toNat)
   case atStart=>exact⟨HB0.out,0,Nat.zero_le _,rfl,rfl⟩
   case round=>
    obtain⟨hb,k,hk,rfl,HI⟩:=hrel;by_cases hlt:k<h.length
    ·obtain⟨b,off,rfl,hbl,hc⟩:=HH.out.head (by omega);obtain⟨t,ht⟩:=af hlt;obtain⟨ov,c0,c1,c2,hs⟩:=hc k t ht;have CC:=aa (And.intro c0 (And.intro c1 c2));replace c0:=hb.cell c0;replace c1:=hb.cell c1;replace c2:=hb.cell c2;have hto:=bY dO.out (List.mem_of_getElem? ht);have Uf:=aa hto;have HS:=aa hs;have hdo:Hid (gP h k=t.done):=by show _ = _;simp[gP,ht]
     have hnx:=Me h k;rw[dw ht]at hnx;have iA:=aa hnx;have hfl:(kS t.ops).length<=6:=by have h1:=zu t.ops t.ops.length;have h2:=bU hto;show (zF t.ops t.ops.length).length<=6;omega
     clear ht hc hs hto hnx;go_wp2_with fail
     refine(uG t _ _ (HS.out.ext hb) Uf.out).mono ?_
     rintro e w2 ⟨v2,rfl,r2,b2⟩;obtain⟨A2,c2',rfl,_⟩:=id r2.cell.1;have HR2:=aa r2.cell.1;have HB2:=aa (hb.trans b2);clear r2 b2 hb c0 c1 c2;go_wp2;go_loopw [6] (fun i wr=>Ext w2 wr/\∃j:Nat,j<=(kS t.ops).length/\i=.int .i64 j/\Hid ((t.done&&oG h k ((kS t.ops).take j))=false)) (fun i _=>(kS t.ops).length-(intOf i).toNat)
     case atStart=>exact⟨Ext.refl _,0,Nat.zero_le _,rfl,by show _ = _;simp[oG]⟩
     case round=>
      obtain⟨hb3,j,hj,rfl,HJ⟩:=hrel;by_cases hjt:j<(kS t.ops).length
      ·obtain⟨A3,c3,hA3,hcc⟩:=HR2.out.ext hb3;injection hA3 with e1 e2 e3;subst e1 e3;obtain⟨b',off',rfl,pg,hcc⟩:=hcc (by omega);obtain⟨o,ho⟩:=af hjt;have hbb:=HB2.out.trans hb3;have d1:∀e,(over wr e).cell? ⟨b',off'+j*3+1,none⟩=some (.int .i64 o.key):=aG (hcc j o ho 1 (by omega));have d2:∀e,(over wr e).cell? ⟨b',off'+j*3+2,none⟩=some (.int .i64 o.value):=aG (hcc j o ho 2 (by omega));have d3:∀e,(over wr e).cell? ⟨b,off+k*3+2,none⟩=some (.bool t.done):=aG (hbb.cell CC.out.2.2);obtain⟨z,hz⟩:∃z,aB h o.key o.value=z:=⟨_,rfl⟩;have hW:Hid (∀e,Calls Tryz.prog 49 #[.slice (some ⟨b,off,none⟩) h.length c,.int .i64 o.key,.int .i64 o.value] (over wr e) fun x w'=>x=.returned (.int .i64 z)/\over wr e=w'):=fun e=>by rw[<-hz];exact fV o.key o.value _ ((HH.out.ext hbb).ext (vN _ _)) (by omega) (aD dO.out)
       have htk:Hid (∀r,(decide (0<o.value)&&z==(k:Int))=r->oG h k ((kS t.ops).take (j+1))=(oG h k ((kS t.ops).take j) || r)):=fun r hr=>by rw[<-hr,<-hz];unfold oG;rw[ah ho,List.any_append];simp
       have hyes:Hid ((t.done&&oG h k ((kS t.ops).take (j+1)))=true->gG h=false):=fun hy=>by
        rw[Bool.and_eq_true]at hy;have h1:qV h (k+1)=true:=by
         rw[iA.out,hdo.out,hy.1]
         have:oG h k (kS t.ops)=true:=by have h2:=hy.2;unfold oG at h2 ⊢;rw[List.any_eq_true]at h2 ⊢;obtain⟨x,hx,h3⟩:=h2;exact⟨x,List.mem_of_mem_take hx,h3⟩
         rw[this];simp
        have h2:qV h h.length=true:=by unfold qV at h1 ⊢;rw[List.any_eq_true]at h1 ⊢;obtain⟨x,hx,h3⟩:=h1;exact⟨x,by simp at *;omega,h3⟩
        rw[hend.out,h2];rfl
       have BU:=aa hbb;clear hcc ho e2 hz hbb
       cases hd:t.done with
       | false=>
         rw[hd]at d3;go_wp2;refine aO (by kernel_rfl) (by kernel_rfl) ?_;repeat (go_big_quiet_step ((go_at_call 49;exact nD (hW.out _))))
         refine wpQuiet_nil ?_;intro w4 hb4;go_wp2;go_roundw;case rel=>exact⟨hb3.trans hb4,j+1,by omega,by go_num,rfl⟩
         case measure=>simp[intOf];omega
       | true=>
         rw[hd]at d3
         cases hv:decide (0<o.value) with
         | false=>
           have hn:Hid (oG h k ((kS t.ops).take (j+1))=oG h k ((kS t.ops).take j)):=by show _ = _;rw[htk.out false (by rw[hv];rfl),Bool.or_false]
           go_wp2;refine aO (by kernel_rfl) (by kernel_rfl) ?_;repeat (go_big_quiet_step ((go_at_call 49;exact nD (hW.out _))))
           refine wpQuiet_nil ?_;intro w4 hb4;go_wp2;go_roundw;case rel=>exact⟨hb3.trans hb4,j+1,by omega,by go_num,by
            have:=HJ.out
            rw[hd]at this;show _ = _;rw[hn.out];exact this⟩
           case measure=>simp[intOf];omega
         | true=>
           cases oN:(z==(k:Int)) with
           | false=>
             have hn:Hid (oG h k ((kS t.ops).take (j+1))=oG h k ((kS t.ops).take j)):=by show _ = _;rw[htk.out false (by rw[hv,oN];rfl),Bool.or_false]
             go_wp2;refine aO (by kernel_rfl) (by kernel_rfl) ?_;repeat (go_big_quiet_step ((go_at_call 49;exact nD (hW.out _))))
             refine wpQuiet_nil ?_;intro w4 hb4;go_wp2;go_roundw;case rel=>exact⟨hb3.trans hb4,j+1,by omega,by go_num,by
              have:=HJ.out
              rw[hd]at this;show _ = _;rw[hn.out];exact this⟩
             case measure=>simp[intOf];omega
           | true=>
             have hf:=aa (hyes.out (by rw[hd,htk.out true (by rw[hv,oN];rfl)];simp));go_wp2;refine aO (by kernel_rfl) (by kernel_rfl) ?_;repeat (go_big_quiet_step ((go_at_call 49;exact nD (hW.out _))))
             refine wpQuiet_nil ?_;intro w4 hb4;go_wp2;go_returns;exact⟨aN hf.out.symm,BU.out.trans hb4⟩
      ·obtain rfl:j=(kS t.ops).length:=by omega
       go_wp2;go_roundw;case rel=>exact⟨HB2.out.trans hb3,k+1,by omega,by go_num,by
        show _ = _
        have:=HJ.out
        rw[List.take_length]at this;rw[iA.out,HI.out,hdo.out,this];rfl⟩
       case measure=>simp[intOf];omega
    ·obtain rfl:k=h.length:=by omega
     go_wp2_with fail
     refine(bu _ (HH.out.ext hb) (by omega) (aD dO.out)).mono ?_
     rw[dO.out];rintro e w2 ⟨rfl,b2⟩;go_wp2;go_returns;exact⟨aN (by rw[hend.out,HI.out];rfl),hb.trans b2⟩
theorem Q4(ops:List aQ){key:Int}(hk:key=0∨key=1∨key=2):nC ops key=((fB ops key).map (·.value)).toList:=by
 unfold nC bD;rw[List.filterMap_filterMap];have e:∀k:Int,(fB ops k).bind (fun o=>if o.key=key then some o.value else none)=if k=key then (fB ops k).map (·.value) else none:=fun k=>by
  cases h:fB ops k with
  | none=>simp
  | some o=>simp[Ce h]
 simp only[e];rcases hk with rfl|rfl|rfl<;>simp only[List.filterMap_cons,List.filterMap_nil]<;>simp<;>split<;>rename_i h<;>simp[h]
theorem xU(h:List aA){key:Int}(hk:key=0∨key=1∨key=2):aP h key=(aH h).filterMap fun n=>(fB (opsOf h n) key).map (·.value):=by
 unfold aP
 induction aH h with
 | nil=>rfl
 | cons n l ih=>
   rw[List.flatMap_cons,ih,List.filterMap_cons,Q4 _ hk];cases (fB (opsOf h n) key).map (·.value)<;>rfl
theorem XD{h:List aA}{key v:Int}(hk:key=0∨key=1∨key=2)(hv:v∈aP h key):∃n o,n∈aH h/\fB (opsOf h n) key=some o/\o.value=v:=by rw[xU h hk,List.mem_filterMap]at hv;obtain⟨n,hn,hv⟩:=hv;rw[Option.map_eq_some_iff]at hv;obtain⟨o,ho,hv⟩:=hv;exact⟨n,o,hn,ho,hv⟩
theorem sP{h:List aA}{n:Nat}(hn:n∈aH h):∃t,h[n]? =some t/\t.done=true/\opsOf h n=t.ops:=by unfold aH at hn;rw[List.mem_filter]at hn;obtain⟨h1,h2⟩:=hn;obtain⟨t,ht⟩:∃t,h[n]? =some t:=⟨_,List.getElem?_eq_getElem (by simpa using h1)⟩;rw[ht]at h2;exact⟨t,ht,by simpa using h2,by simp[opsOf,ht]⟩
theorem oH{h:List aA}(hok:aC h=true){key v:Int}(hk:key=0∨key=1∨key=2)(hv:v∈aP h key):∃n o,n∈aH h/\fB (opsOf h n) key=some o/\o.value=v/\aB h key v=(n:Int)/\isDone h (n:Int)=true/\0<v:=by
 obtain⟨n,o,hn,ho,rfl⟩:=XD hk hv;obtain⟨t,ht,hd,e⟩:=sP hn;have ho2:=ho;rw[e]at ho;obtain⟨h1,h2,rfl⟩:=j3 ho;refine⟨n,o,hn,ho2,rfl,nY hok ht h1 h2,by simp[isDone,ht,hd],?_⟩;have hall:h.all bX=true:=by unfold aC at hok;simp only[Bool.and_eq_true]at hok;exact hok.1.2
 exact yG (eT (List.all_eq_true.1 hall t (List.mem_of_getElem? ht)) h1) h2
theorem WY{h:List aA}(hok:aC h=true){key v v':Int}(hk:key=0∨key=1∨key=2)(hv:v∈aP h key)(hv':v'∈aP h key)(e:aB h key v=aB h key v'):v=v':=by
 obtain⟨n,o,_,ho,rfl,hw,_⟩:=oH hok hk hv;obtain⟨n',o',_,ho',rfl,hw',_⟩:=oH hok hk hv';rw[hw,hw']at e;obtain rfl:n=n':=by omega
 rw[ho]at ho';injection ho' with ho';rw[ho']
theorem FM{h:List aA}(hok:aC h=true){key:Int}(hk:key=0∨key=1∨key=2):(aP h key).Nodup:=by
 rw[xU h hk];unfold List.Nodup;rw[List.pairwise_filterMap];have hn:=xK h
 have:=List.Pairwise.and_mem.1 hn
 refine this.imp (fun {a b} hab v hv v' hv' e=>?_);subst e;obtain⟨ha,hb,hne⟩:=hab;have hw:∀n,n∈aH h->(fB (opsOf h n) key).map (·.value)=some v->aB h key v=(n:Int):=fun n hn hv=>by rw[Option.map_eq_some_iff]at hv;obtain⟨o,ho,rfl⟩:=hv;obtain⟨t,ht,_,e⟩:=sP hn;rw[e]at ho;obtain⟨h1,h2,rfl⟩:=j3 ho;exact nY hok ht h1 h2
 have h1:=hw a ha hv;have h2:=hw b hb hv';rw[h1]at h2;exact hne (by omega)
def lF(order:List Int)(v:Int):Int:=match kE order v with
 | none=>-1
 | some b=>(order[b]?).getD (-1)
def nT(h:List aA)(key:Int)(order:List Int)(m:Nat):List Edge:=(List.range m).map fun i=>⟨aB h key (order.getD i 0),aB h key (order.getD (i+1) 0),1⟩
def qK(h:List aA)(n:Nat)(o:aQ):List Edge:=if 0<=aB h o.key o.value/\isDone h (aB h o.key o.value)=true/\aB h o.key o.value≠n then [⟨aB h o.key o.value,n,2⟩] else []
def kD(h:List aA)(os:List (List Int))(n:Nat)(o:aQ):List Edge:=if 0<=lF (os.getD o.key.toNat []) o.value/\aB h o.key (lF (os.getD o.key.toNat []) o.value)≠n then [⟨n,aB h o.key (lF (os.getD o.key.toNat []) o.value),3⟩] else []
def Dj(h:List aA)(os:List (List Int))(n:Nat)(o:aQ):List Edge:=qK h n o++kD h os n o
def Px(h:List aA)(os:List (List Int)):List Edge:=
 ((List.range 3).flatMap fun(key:Nat)=>nT h (key:Int) (os.getD key []) ((os.getD key []).length-1))++(aH h).flatMap fun n=>(kS (opsOf h n)).flatMap (Dj h os n)
theorem pF{α β:Type}{l:List α}{f g:α->List β}(h:∀x∈l,f x=g x):l.flatMap f=l.flatMap g:=by
 induction l with
 | nil=>rfl
 | cons x l ih=>rw[List.flatMap_cons,List.flatMap_cons,h x (by simp),ih (fun y hy=>h y (by simp[hy]))]
theorem BG{h:List aA}{os:List (List Int)}(ho:jQ h os){k i:Nat}(hk:k<3)(hi:i<(os.getD k []).length):(os.getD k [])[i]∈aP h (k:Int):=by
 have hk':k<os.length:=by rw[ho.1];exact hk
 have e:os.getD k []=os[k]:=by simp[List.getD,List.getElem?_eq_getElem hk']
 have hm:(os.getD k [])[i]∈os.getD k []:=List.getElem_mem _;have key:∀l:List Int,l=os[k]->∀x∈l,x∈aP h (k:Int):=fun l el x hx=>by
  subst el
  exact(ho.2 k _ (List.getElem?_eq_getElem hk')).mem_iff.1 hx
 exact key _ e _ hm
theorem NJ{h:List aA}{os:List (List Int)}(hok:aC h=true)(ho:jQ h os){k:Nat}(hk:k<3):(os.getD k []).Nodup:=by
 have hk':k<os.length:=by rw[ho.1];exact hk
 rw[show os.getD k []=os[k] by simp[List.getD,List.getElem?_eq_getElem hk']]
 exact(ho.2 k _ (List.getElem?_eq_getElem hk')).nodup_iff.2 (FM hok (by omega))
theorem TJ{h:List aA}{n:Nat}(hn:n∈aH h):isDone h (n:Int)=true:=by obtain⟨t,ht,hd,_⟩:=sP hn;simp[isDone,ht,hd]
theorem X6{h:List aA}{os:List (List Int)}(hok:aC h=true)(ho:jQ h os):Px h os=bZ h os:=by
 unfold Px bZ;congr 1
 ·refine pF fun k hk=>?_;have hk3:k<3:=by simpa using hk
  unfold nT chainTo
  rw[show ∀(l:List Nat) (f:Nat->Edge),l.map f=l.flatMap fun i=>[f i] from fun l f=>by induction l with
   | nil=>rfl
   | cons x l ih=>rw[List.map_cons,List.flatMap_cons,ih];rfl]
  refine pF fun i hi=>?_;have hi':i+1<(os.getD k []).length:=by have:=List.mem_range.1 hi;omega
  have m1:=BG ho hk3 (show i<(os.getD k []).length by omega);have m2:=BG ho hk3 hi';have g1:(os.getD k []).getD i 0=(os.getD k [])[i]:=by simp[List.getD,List.getElem?_eq_getElem (show i<(os[k]?.getD []).length by simpa[List.getD] using (show i<(os.getD k []).length by omega))]
  have g2:(os.getD k []).getD (i+1) 0=(os.getD k [])[i+1]:=by simp[List.getD,List.getElem?_eq_getElem (show i+1<(os[k]?.getD []).length by simpa[List.getD] using hi')]
  rw[g1,g2];have hk0:(k:Int)=0∨(k:Int)=1∨(k:Int)=2:=by omega
  obtain⟨n1,_,_,_,_,w1,d1,_⟩:=oH hok hk0 m1;obtain⟨n2,_,_,_,_,w2,d2,_⟩:=oH hok hk0 m2;unfold jd;have hne:aB h (k:Int) (os.getD k [])[i]≠aB h (k:Int) (os.getD k [])[i+1]:=fun e=>by
   have e':=WY hok hk0 m1 m2 e
   have:=(List.getElem_inj (h₀:=show i<(os.getD k []).length by omega) (h₁:=hi') (NJ hok ho hk3)).1 e'
   omega
  rw[if_pos ⟨by omega,by omega,hne,by rw[w1];exact d1,by rw[w2];exact d2⟩]
 ·refine pF fun n hn=>pF fun o hof=>?_;have hdn:=TJ hn;obtain⟨t,ht,hd,et⟩:=sP hn;have hall:h.all bX=true:=by unfold aC at hok;simp only[Bool.and_eq_true]at hok;exact hok.1.2
  have xx:gH o=true:=by
   rw[et]at hof;unfold kS zF at hof;rw[List.mem_filterMap]at hof;obtain⟨j,_,hj⟩:=hof;split at hj
   ·exact eT (List.all_eq_true.1 hall t (List.mem_of_getElem? ht)) (List.mem_of_getElem? hj)
   ·cases hj
  have hk:=iB xx;have hk3:o.key.toNat<3:=by omega
  have hkc:((o.key.toNat:Nat):Int)=o.key:=by omega
  unfold Dj iO;congr 1
  ·unfold qK jd;by_cases hc:0<=aB h o.key o.value/\isDone h (aB h o.key o.value)=true/\aB h o.key o.value≠n
   ·rw[if_pos hc,if_pos ⟨hc.1,by omega,hc.2.2,hc.2.1,hdn⟩]
   ·rw[if_neg hc,if_neg (fun hx=>hc ⟨hx.1,hx.2.2.2.1,hx.2.2.1⟩)]
  ·unfold kD lZ lF
   cases hb:kE (os.getD o.key.toNat []) o.value with
   | none=>simp
   | some b=>
     by_cases hlt:b<(os.getD o.key.toNat []).length
     ·have m1:=BG ho hk3 hlt;rw[hkc]at m1;obtain⟨n1,_,_,_,_,w1,d1,p1⟩:=oH hok (by omega) m1;have g1:(os.getD o.key.toNat []).getD b 0=(os.getD o.key.toNat [])[b]:=by rw[List.getD,List.getElem?_eq_getElem hlt];rfl
      have g2:((os.getD o.key.toNat [])[b]?).getD (-1)=(os.getD o.key.toNat [])[b]:=by rw[List.getElem?_eq_getElem hlt];rfl
      simp only[hlt,if_true,g1,g2];unfold jd;rw[w1];by_cases hne:(n1:Int)≠n
      ·rw[if_pos ⟨by omega,hne⟩,if_pos ⟨by omega,by omega,fun e=>hne e.symm,hdn,d1⟩]
      ·rw[if_neg (fun hx=>hne hx.2),if_neg (fun hx=>hne (fun e=>hx.2.2.1 e.symm))]
     ·have g2:(os.getD o.key.toNat [])[b]? =none:=List.getElem?_eq_none (by omega);simp only[hlt,g2];simp
section
open Go.RowKit
end
section
section
variable{W:Nat->Nat}
inductive Path (W:Nat->Nat):Nat->Nat->Prop
 | edge {a b:Nat}:(W a).testBit b=true->Path W a b
 | step {a b c:Nat}:Path W a b->(W b).testBit c=true->Path W a c
theorem Path.trans{a b c:Nat}(h:Path W a b)(k:Path W b c):Path W a c:=by
 induction k with
 | edge e=>exact h.step e
 | step _ e ih=>exact ih.step e
def qy(W:Nat->Nat):Nat->Nat->Nat
 | 0,x=>W x
 | k+1,x=>if (qy W k x).testBit k=true then qy W k x ||| qy W k k else qy W k x
theorem KZ{k x y:Nat}:(qy W (k+1) x).testBit y=true↔(qy W k x).testBit y=true∨((qy W k x).testBit k=true/\(qy W k k).testBit y=true):=by
 rw[qy];split
 ·rename_i h;rw[Nat.testBit_or,Bool.or_eq_true];simp[h]
 ·rename_i h;simp[h]
theorem Tf{k x y:Nat}(h:(qy W k x).testBit y=true):Path W x y:=by
 induction k generalizing x y with
 | zero=>exact .edge h
 | succ k ih=>
   rcases KZ.1 h with h|⟨h1,h2⟩
   ·exact ih h
   ·exact(ih h1).trans (ih h2)
theorem Oo{k x y:Nat}(h:(W x).testBit y=true):(qy W k x).testBit y=true:=by
 induction k with
 | zero=>exact h
 | succ k ih=>exact KZ.2 (.inl ih)
theorem Sr{k:Nat}:∀{x y z:Nat},z<k->(qy W k x).testBit z=true->(qy W k z).testBit y=true->(qy W k x).testBit y=true:=by
 induction k with
 | zero=>intro x y z hz;omega
 | succ k ih=>
   intro x y z hz h1 h2;rw[KZ]at h1 h2 ⊢;by_cases e:z=k
   ·subst e;have h1':(qy W z x).testBit z=true:=h1.elim id And.left;have h2':(qy W z z).testBit y=true:=h2.elim id And.right;exact .inr ⟨h1',h2'⟩
   ·have hz':z<k:=by omega
    rcases h1 with h1|⟨h1,h1'⟩<;>rcases h2 with h2|⟨h2,h2'⟩
    ·exact .inl (ih hz' h1 h2)
    ·exact .inr ⟨ih hz' h1 h2,h2'⟩
    ·exact .inr ⟨h1,ih hz' h1' h2⟩
    ·exact .inr ⟨h1,h2'⟩
theorem Oh{N a b:Nat}(hW:∀x y,(W x).testBit y=true->y<N):(qy W N a).testBit b=true↔Path W a b:=by
 refine⟨Tf,fun h=>?_⟩
 induction h with
 | edge e=>exact Oo e
 | @step b c hp e ih=>
   refine Sr (z:=b) ?_ ih (Oo e)
   cases hp with
   | edge e'=>exact hW _ _ e'
   | step _ e'=>exact hW _ _ e'
end
end
section
def jm(es:List Edge)(t:Int):Nat->Int->Prop
 | 0,x=>x=t
 | n+1,x=>jm es t n x∨∃e∈es,e.dV=x/\jm es t n e.to
theorem jm.up{es:List Edge}{t x:Int}{n m:Nat}(h:jm es t n x)(hm:n<=m):jm es t m x:=by
 induction m with
 | zero=>obtain rfl:n=0:=by omega
         exact h
 | succ m ih=>
   by_cases e:n=m+1
   ·subst e;exact h
   ·exact .inl (ih (by omega))
structure uC (es:List Edge) (t:Int) (many s:Nat) (f:List Int):Prop where
 len:f.length=many
 neg:∀(x:Nat) d,f[x]? =some d->d=-1∨0<=d
 sound:∀(x:Nat) d,f[x]? =some d->0<=d->d<=(s:Int)/\jm es t d.toNat x
 all:∀n,n<=s->∀x:Nat,x<many->jm es t n x->∃d,f[x]? =some d/\0<=d/\d<=(n:Int)
structure xQ (es:List Edge) (t:Int) (many s j:Nat) (f:List Int):Prop where
 len:f.length=many
 neg:∀(x:Nat) d,f[x]? =some d->d=-1∨0<=d
 sound:∀(x:Nat) d,f[x]? =some d->0<=d->d<=(s:Int)+1/\jm es t d.toNat x
 all:∀n,n<=s->∀x:Nat,x<many->jm es t n x->∃d,f[x]? =some d/\0<=d/\d<=(n:Int)
 new:∀(i:Nat) e,i<j->es[i]? =some e->jm es t s e.to->∃d,f[e.dV.toNat]? =some d/\0<=d
theorem uC.start{es:List Edge}{many t:Nat}(ht:t<many):uC es (t:Int) many 0 ((List.replicate many (-1)).set t 0) where
 len:=by simp
 neg x d hx:=by
  rw[List.getElem?_set]at hx;split at hx
  ·split at hx
   ·cases hx;exact .inr (Int.le_refl _)
   ·cases hx
  ·exact .inl (List.eq_of_mem_replicate (List.mem_of_getElem? hx))
 sound x d hx h0:=by
  rw[List.getElem?_set]at hx;split at hx
  ·rename_i e;split at hx
   ·cases hx;exact⟨Int.le_refl _,by subst e;rfl⟩
   ·cases hx
  ·have:=List.eq_of_mem_replicate (List.mem_of_getElem? hx);omega
 all n hn x hx h:=by
  obtain rfl:n=0:=by omega
  have:x=t:=by have h:(x:Int)=t:=h;omega
  subst this;exact⟨0,by simp[hx],Int.le_refl _,Int.le_refl _⟩
theorem uC.round{es:List Edge}{t:Int}{many s:Nat}{f:List Int}(h:uC es t many s f):xQ es t many s 0 f:=
 ⟨h.len,h.neg,fun x d hx h0=>⟨by have:=(h.sound x d hx h0).1;omega,(h.sound x d hx h0).2⟩,h.all,fun i e hi=>absurd hi (Nat.not_lt_zero i)⟩
section
variable{es:List Edge}{t:Int}{many s j:Nat}{f:List Int}{e:Edge}{df dt:Int}
theorem xQ.set(h:xQ es t many s j f)(he:es[j]? =some e)(hf0:0<=e.dV)(ht0:0<=e.to)(hdf:f[e.dV.toNat]? =some df)(hdt:f[e.to.toNat]? =some dt)(h1:dt=s)(h2:df<0):xQ es t many s (j+1) (f.set e.dV.toNat ((s:Int)+1)) where
 len:=by rw[List.length_set];exact h.len
 neg x d hx:=by
  rw[List.getElem?_set]at hx;split at hx
  ·split at hx
   ·cases hx;exact .inr (by omega)
   ·cases hx
  ·exact h.neg x d hx
 sound x d hx h0:=by
  rw[List.getElem?_set]at hx;split at hx
  ·rename_i ex;split at hx
   ·cases hx;refine⟨Int.le_refl _,?_⟩;have hn:=(h.sound _ _ hdt (by omega)).2;rw[h1]at hn;rw[show ((s:Int)+1).toNat=s+1 by omega];refine .inr ⟨e,List.mem_of_getElem? he,by omega,?_⟩;rw[show ((s:Int)).toNat=s by omega,show ((e.to.toNat:Nat):Int)=e.to by omega]at hn;exact hn
   ·cases hx
  ·exact h.sound x d hx h0
 all n hn x hx hN:=by
  obtain⟨d,hd,h0,h3⟩:=h.all n hn x hx hN;refine⟨d,?_,h0,h3⟩;rw[List.getElem?_set];split
  ·rename_i ex;rw[ex,hd]at hdf;cases hdf;omega
  ·exact hd
 new i e' hi he' hN:=by
  have hlt:e.dV.toNat<f.length:=(List.getElem?_eq_some_iff.1 hdf).1;by_cases ex:e.dV.toNat=e'.dV.toNat
  ·exact⟨(s:Int)+1,by rw[<-ex];simp[hlt],by omega⟩
  ·have hij:i<j:=by
    rcases Nat.lt_or_ge i j with h'|h'
    ·exact h'
    ·exfalso;obtain rfl:i=j:=by omega
     rw[he]at he';cases he';exact ex rfl
   obtain⟨d,hd,h0⟩:=h.new i e' hij he' hN;exact⟨d,by rw[List.getElem?_set,if_neg ex];exact hd,h0⟩
theorem xQ.keep(h:xQ es t many s j f)(he:es[j]? =some e)(hf0:0<=e.dV)(ht0:0<=e.to)(ht1:e.to<many)(hdf:f[e.dV.toNat]? =some df)(hdt:f[e.to.toNat]? =some dt)(h1:dt≠s∨0<=df):xQ es t many s (j+1) f where
 len:=h.len
 neg:=h.neg
 sound:=h.sound
 all:=h.all
 new i e' hi he' hN:=by
  rcases Nat.lt_or_ge i j with h'|h'
  ·exact h.new i e' h' he' hN
  ·obtain rfl:i=j:=by omega
   rw[he]at he';cases he';rcases (show df<0∨0<=df by omega) with hneg|hpos
   ·have hdt':dt≠s:=by rcases h1 with h1|h1<;>omega
    obtain⟨d,hd,h0,h3⟩:=h.all s (Nat.le_refl _) e.to.toNat (by omega) (by rw[show ((e.to.toNat:Nat):Int)=e.to by omega];exact hN);rw[hdt]at hd;cases hd;have hlt:dt.toNat<s:=by omega
    have hn:=(h.sound _ _ hdt h0).2;rw[show ((e.to.toNat:Nat):Int)=e.to by omega]at hn;have hfl:e.dV.toNat<many:=by rw[<-h.len];exact(List.getElem?_eq_some_iff.1 hdf).1
    obtain⟨d2,hd2,h02,_⟩:=h.all (dt.toNat+1) hlt e.dV.toNat hfl (.inr ⟨e,List.mem_of_getElem? he,by omega,hn⟩);rw[hdf]at hd2;cases hd2;exact⟨df,hdf,h02⟩
   ·exact⟨df,hdf,hpos⟩
theorem xQ.done(h:xQ es t many s es.length f)(hf0:∀e∈es,0<=e.dV):uC es t many (s+1) f where
 len:=h.len
 neg:=h.neg
 sound x d hx h0:=by obtain⟨a,b⟩:=h.sound x d hx h0;exact⟨by omega,b⟩
 all n hn x hx hN:=by
  by_cases e:n<=s
  ·exact h.all n e x hx hN
  ·obtain rfl:n=s+1:=by omega
   rcases hN with hN|⟨e,he,hf,hN⟩
   ·obtain⟨d,hd,h0,h3⟩:=h.all s (Nat.le_refl _) x hx hN;exact⟨d,hd,h0,by omega⟩
   ·obtain⟨i,hi,rfl⟩:=List.getElem_of_mem he;obtain⟨d,hd,h0⟩:=h.new i _ hi (List.getElem?_eq_getElem hi) hN;rw[show (es[i]).dV.toNat=x by omega]at hd;exact⟨d,hd,h0,by have:=(h.sound x d hd h0).1;omega⟩
end
open Classical in
noncomputable def FH (es:List Edge) (t:Int) (many n:Nat):Nat:=((List.range many).filter fun x:Nat=>decide (jm es t n (x:Int))).length
theorem Vu(es:List Edge)(t:Int)(many n:Nat):FH es t many n<=many:=by unfold FH;refine Nat.le_trans (List.length_filter_le _ _) (by simp)
theorem OA{α:Type}(l:List α)(p q:α->Bool)(hpq:∀x,p x=true->q x=true)(x:α)(hx:x∈l)(hp:p x=false)(hq:q x=true):(l.filter p).length<(l.filter q).length:=by
 induction l with
 | nil=>cases hx
 | cons y l ih=>
   have hle:(l.filter p).length<=(l.filter q).length:=by rw[<-List.countP_eq_length_filter,<-List.countP_eq_length_filter];exact List.countP_mono_left fun x _ h=>hpq x h
   simp only[List.filter_cons];rcases List.mem_cons.1 hx with rfl|hx
   ·rw[if_neg (by simp[hp]),if_pos hq,List.length_cons];omega
   ·have:=ih hx
    by_cases hy:p y=true
    ·rw[if_pos hy,if_pos (hpq y hy),List.length_cons,List.length_cons];omega
    ·rw[if_neg hy];split
     ·rw[List.length_cons];omega
     ·exact this
theorem jm.stop{es:List Edge}{t:Int}{n:Nat}(h:∀x,jm es t (n+1) x->jm es t n x):∀m x,jm es t m x->jm es t n x:=by
 intro m
 induction m with
 | zero=>intro x hx;exact hx.up (Nat.zero_le _)
 | succ m ih=>
   intro x hx;rcases hx with hx|⟨e,he,hf,hx⟩
   ·exact ih x hx
   ·exact h x (.inr ⟨e,he,hf,ih _ hx⟩)
theorem OE{es:List Edge}{t many:Nat}(ht:t<many)(hes:∀e∈es,0<=e.dV/\e.dV<many){m:Nat}{x:Int}(h:jm es (t:Int) m x):jm es (t:Int) many x:=by
 have key:∀n,(∃k,k<=n/\∀x,jm es (t:Int) (k+1) x->jm es (t:Int) k x)∨n+1<=FH es (t:Int) many n:=by
  intro n
  induction n with
  | zero=>
    right;unfold FH;have hmem:t∈(List.range many).filter fun x:Nat=>@decide (jm es (t:Int) 0 (x:Int)) (Classical.propDecidable _):=by rw[List.mem_filter];exact⟨by simpa using ht,by simp[jm]⟩
    exact List.length_pos_of_mem hmem
  | succ n ih=>
    rcases ih with ⟨k,hk,h⟩|ih
    ·exact .inl ⟨k,by omega,h⟩
    ·by_cases hst:∀x,jm es (t:Int) (n+1) x->jm es (t:Int) n x
     ·exact .inl ⟨n,by omega,hst⟩
     ·right;simp only[Classical.not_forall]at hst;obtain⟨x,hx,hn⟩:=hst;have hx0:0<=x/\x<many:=by
       rcases hx with hx|⟨e,he,hf,_⟩
       ·exact absurd hx hn
       ·rw[<-hf];exact hes e he
      have hlt:FH es (t:Int) many n<FH es (t:Int) many (n+1):=by
       unfold FH;refine OA _ _ _ (fun y hy=>?_) x.toNat (by simp;omega) ?_ ?_
       ·have:jm es (t:Int) n (y:Int):=by simpa using hy
        simpa using jm.up this (Nat.le_succ n)
       ·have:¬jm es (t:Int) n ((x.toNat:Nat):Int):=by rw[show ((x.toNat:Nat):Int)=x by omega];exact hn
        simpa using this
       ·have:jm es (t:Int) (n+1) ((x.toNat:Nat):Int):=by rw[show ((x.toNat:Nat):Int)=x by omega];exact hx
        simpa using this
      omega
 rcases key many with ⟨k,hk,hst⟩|hbig
 ·exact(jm.stop hst m x h).up hk
 ·have:=Vu es (t:Int) many many
  omega
theorem uC.final{es:List Edge}{t many:Nat}{f:List Int}(h:uC es (t:Int) many many f)(ht:t<many)(hes:∀e∈es,0<=e.dV/\e.dV<many){x:Nat}{d:Int}(hd:f[x]? =some d):0<=d↔∃n,jm es (t:Int) n x:=by
 constructor
 ·intro h0;exact⟨_,(h.sound x d hd h0).2⟩
 ·rintro⟨n,hn⟩;have hx:x<many:=by rw[<-h.len];exact(List.getElem?_eq_some_iff.1 hd).1
  obtain⟨d',hd',h0,_⟩:=h.all many (Nat.le_refl _) x hx (OE ht hes hn);rw[hd]at hd';cases hd';exact h0
def rowsOf(es:List Edge)(x:Nat):Nat:=es.foldl (fun r e=>if e.dV=(x:Int) then r ||| 2 ^ e.to.toNat else r) 0
theorem NS(es:List Edge)(x y r:Nat):(es.foldl (fun r e=>if e.dV=(x:Int) then r ||| 2 ^ e.to.toNat else r) r).testBit y=true↔r.testBit y=true∨∃e∈es,e.dV=(x:Int)/\e.to.toNat=y:=by
 induction es generalizing r with
 | nil=>simp
 | cons e es ih=>
   rw[List.foldl_cons,ih];by_cases h:e.dV=(x:Int)
   ·rw[if_pos h,Nat.testBit_or,Bool.or_eq_true,Nat.testBit_two_pow];constructor
    ·rintro ((h1|h1)|⟨e',he',h1⟩)
     ·exact .inl h1
     ·exact .inr ⟨e,by simp,h,by simpa using h1⟩
     ·exact .inr ⟨e',by simp[he'],h1⟩
    ·rintro (h1|⟨e',he',h1,h2⟩)
     ·exact .inl (.inl h1)
     ·rcases List.mem_cons.1 he' with rfl|he'
      ·exact .inl (.inr (by simpa using h2))
      ·exact .inr ⟨e',he',h1,h2⟩
   ·rw[if_neg h];constructor
    ·rintro (h1|⟨e',he',h1⟩)
     ·exact .inl h1
     ·exact .inr ⟨e',by simp[he'],h1⟩
    ·rintro (h1|⟨e',he',h1,h2⟩)
     ·exact .inl h1
     ·rcases List.mem_cons.1 he' with rfl|he'
      ·exact absurd h1 h
      ·exact .inr ⟨e',he',h1,h2⟩
theorem l7{es:List Edge}{x y:Nat}:(rowsOf es x).testBit y=true↔∃e∈es,e.dV=(x:Int)/\e.to.toNat=y:=by unfold rowsOf;rw[NS];simp
theorem Uc{es:List Edge}{t x:Int}{n:Nat}{e:Edge}(h:jm es e.dV n x)(he:e∈es)(ht:e.to=t):jm es t (n+1) x:=by
 induction n generalizing x with
 | zero=>exact .inr ⟨e,he,h.symm,ht⟩
 | succ n ih=>
   rcases h with h|⟨e',he',hf,h⟩
   ·exact .inl (ih h)
   ·exact .inr ⟨e',he',hf,ih h⟩
theorem Jv{es:List Edge}(hes:∀e∈es,0<=e.dV/\0<=e.to){s t:Nat}:Path (rowsOf es) s t↔∃e∈es,e.dV=(s:Int)/\∃n,jm es (t:Int) n e.to:=by
 constructor
 ·intro h
  induction h with
  | edge h=>
    obtain⟨e,he,h1,h2⟩:=l7.1 h;exact⟨e,he,h1,0,by have:=hes e he;show e.to = _;omega⟩
  | @step b c hp h ih=>
    obtain⟨e,he,h1,h2⟩:=l7.1 h;obtain⟨e0,he0,hf0,n,hn⟩:=ih;exact⟨e0,he0,hf0,n+1,Uc (e:=e) (by rw[h1];exact hn) he (by have:=hes e he;omega)⟩
 ·rintro⟨e,he,hf,n,hn⟩;have key:∀n (x:Int) (a:Nat),(Path (rowsOf es) a x.toNat)->0<=x->jm es (t:Int) n x->Path (rowsOf es) a t:=by
   intro n
   induction n with
   | zero=>
     intro x a hp h0 hx;have hx:x=(t:Int):=hx;rw[show t=x.toNat by omega];exact hp
   | succ n ih=>
     intro x a hp h0 hx;rcases hx with hx|⟨e',he',hf',hx⟩
     ·exact ih x a hp h0 hx
     ·refine ih e'.to a (hp.step (l7.2 ⟨e',he',by omega,rfl⟩)) (hes e' he').2 hx
  exact key n e.to s (.edge (l7.2 ⟨e,he,hf,rfl⟩)) (hes e he).2 hn
end
def edgeOk(many:Nat)(e:Edge):Prop:=(0<=e.dV/\e.dV<many)/\(0<=e.to/\e.to<many)/\e.dV≠e.to/\1<=e.kind/\e.kind<=4
theorem Eo{many:Nat}{B:Nat}(e:Edge)(W:World)(hm:many<=6)(hB:W.cell? ⟨B,0,none⟩=some (.int .i64 (many:Int)))(he:edgeOk many e) :
 Calls Tryz.prog 259 #[.agg #[.int .i64 e.dV,.int .i64 e.to,.int .i64 e.kind],.pointer (some ⟨B,0,none⟩)] W fun r w'=>r=.returned (.bool false)/\Ext W w':=by
 obtain⟨h1,h2,h3,h4⟩:=he;have b1:jR e.dV 0 ((many:Int)-1)=true:=bL.2 (by omega);have b2:jR e.to 0 ((many:Int)-1)=true:=bL.2 (by omega);have b3:(e.dV==e.to)=false:=beq_eq_false_iff_ne.2 h3;have b4:jR e.kind 1 4=true:=bL.2 h4;have hE:Ext W (W.alloc (.cells #[.int .i64 e.dV,.int .i64 e.to,.int .i64 e.kind] 177)):=(Ext.refl _).alloc _;have cB:=hE.cell hB;have hw:IntKind.i64.wrap ((many:Int)-1)=(many:Int)-1:=IntWalk.i64_in _ (by omega);have HE:=aa hE;clear h1 h2 h3 h4 hE;go_enter Tryz.func259,Tryz.ntmps259;go_wp2_with (first|(go_at_call 105;refine(dN _ _ _ _).mono ?_;rw[b1];rintro e w' ⟨rfl,rfl⟩)|(go_at_call 105;refine(dN _ _ _ _).mono ?_;rw[b2];rintro e w' ⟨rfl,rfl⟩)|(go_at_call 105;refine(dN _ _ _ _).mono ?_;rw[b4];rintro e w' ⟨rfl,rfl⟩))
 go_returns;exact⟨rfl,HE.out⟩
theorem FQ(args:Array Value)(W:World):(callFunc 259 args).run Tryz.prog W=.ok (.enter 259 args) W:=by kernel_rfl
theorem DF{v:Value}{es:List Edge}(many:Nat)(w:World)(hm:many<=6)(h:aF 3 aR w v es)(hl:es.length<=144)(hok:∀e∈es,edgeOk many e) :
 Calls Tryz.prog 231 #[.int .i64 (many:Int),v] w fun r w'=>r=.returned (.bool true)/\Ext w w':=by
 obtain⟨A,c,rfl,_⟩:=id h;have b1:jR (many:Int) 0 6=true:=bL.2 (by omega);have hE:Ext w (w.alloc (.cells #[.int .i64 (many:Int)] 3)):=(Ext.refl _).alloc _;have cB:(w.alloc (.cells #[.int .i64 (many:Int)] 3)).cell? ⟨w.heap.size,0,none⟩=some (.int .i64 (many:Int)):=av rfl;have hcon:=uZ (w.alloc (.cells #[.int .i64 (many:Int)] 3)) 259 #[.pointer (some ⟨w.heap.size,0,none⟩)] (fun _=>false) (h.ext hE) (by omega) FQ (fun x hx W hW=>Eo x W hm (hW.cell cB) (hok x hx));rw[show (es.any fun _=>false)=false by simp]at hcon;have HC:=aa hcon;have HE:=aa hE;have hlt:¬(144<(es.length:Int)):=by omega
 clear h hok hcon hE;go_enter Tryz.func231,Tryz.ntmps231;go_wp2_with (first|(go_at_call 105;refine(dN _ _ _ _).mono ?_;rw[b1];rintro e w' ⟨rfl,rfl⟩)|(go_at_call 258;refine HC.out.mono ?_;rintro e w' ⟨rfl,bb⟩;have B9:=aa (HE.out.trans bb)))
 go_returns;exact⟨rfl,B9.out⟩
theorem Jn{h:List aA}{n:Int}(hn:0<=n)(hd:isDone h n=true):n<h.length:=by
 unfold isDone at hd
 cases ht:h[n.toNat]? with
 | none=>rw[ht]at hd;simp at hd
 | some t=>have:=(List.getElem?_eq_some_iff.1 ht).1;omega
theorem BX{h:List aA}{f t k:Int}(hk:1<=k/\k<=4){e:Edge}(he:e∈jd h f t k):edgeOk h.length e:=by
 unfold jd at he;split at he;case isFalse=>cases he
 rename_i hc;simp at he;subst he;exact⟨⟨hc.1,Jn hc.1 hc.2.2.2.1⟩,⟨hc.2.1,Jn hc.2.1 hc.2.2.2.2⟩,hc.2.2.1,hk⟩
theorem vG{h:List aA}{os:List (List Int)}{e:Edge}(he:e∈bZ h os):edgeOk h.length e:=by
 unfold bZ at he;rcases List.mem_append.1 he with h1|h1
 ·obtain⟨key,_,h2⟩:=List.mem_flatMap.1 h1;unfold chainTo at h2;obtain⟨i,_,h3⟩:=List.mem_flatMap.1 h2;exact BX (by omega) h3
 ·obtain⟨n,_,h2⟩:=List.mem_flatMap.1 h1;obtain⟨o,_,h3⟩:=List.mem_flatMap.1 h2;unfold iO at h3;rcases List.mem_append.1 h3 with h4|h4
  ·exact BX (by omega) h4
  ·unfold lZ at h4;split at h4
   ·cases h4
   ·split at h4
    ·exact BX (by omega) h4
    ·cases h4
theorem Us{h:List aA}{os:List (List Int)}(hok:aC h=true)(h6:∀k:Nat,(os.getD k []).length<=6):(bZ h os).length<=90:=by
 rw[raw_eq,List.length_append];have h1:=o9 (h:=h) h6 3;have h2:=vZ (h:=h) (os:=os) (L:=6) (fun n=>by
  unfold opsOf
  cases hn:h[n]? with
  | none=>simp
  | some t=>have:=bU (bY hok (List.mem_of_getElem? hn));simpa using this) (aH h).length
 have h3:=jU h;have h4:=aM hok;omega
theorem WK{h:List aA}{os:List (List Int)}{ds:List Edge}(hok:aC h=true)(ho:jQ h os)(hs:zK (bZ h os) ds):ds.length<=144/\∀e∈ds,edgeOk h.length e:=by
 have h6:∀k:Nat,(os.getD k []).length<=6:=fun k=>by
  cases hk:os[k]? with
  | none=>simp[List.getD,hk]
  | some o=>simp only[List.getD,hk,Option.getD_some];rw[(ho.2 k o hk).length_eq];have:=gJ h (k:Int);have:=aM hok;omega
 have:=Us (h:=h) (os:=os) hok h6
 exact⟨Nat.le_trans hs.2 (by omega),fun e he=>vG ((hs.1 e).1 he)⟩
def Words(w:World)(g N:Nat)(f:Nat->Nat):Prop:=lG w g N/\∀o,o<N->w.cell? ⟨g,o,none⟩=some (.int .u64 (f o:Int))
theorem Words.ext{w w':World}{g N:Nat}{f:Nat->Nat}(h:Words w g N f)(hb:Ext w w'):Words w' g N f:=⟨h.1.ext hb,fun o ho=>hb.cell (h.2 o ho)⟩
theorem Words.set{w:World}{g N:Nat}{f f':Nat->Nat}{j:Nat}(h:Words w g N f)(hj:j<N)(hf:∀o,o≠j->f' o=f o):Words (w.setCell ⟨g,j,none⟩ (.int .u64 (f' j:Int))) g N f':=
 ⟨h.1.set _ _,fun o ho=>by
  by_cases e:o=j
  ·subst e;exact dG h.1 hj _
  ·rw[au (by intro e';injection e' with _ e' _;omega),hf o e];exact h.2 o ho⟩
theorem Words.congr{w:World}{g N:Nat}{f f':Nat->Nat}(h:Words w g N f)(e:∀o,o<N->f' o=f o):Words w g N f':=⟨h.1,fun o ho=>by rw[e o ho];exact h.2 o ho⟩
def yu(f:Nat->Nat):Value:=.agg #[.int .u64 (f 0:Int),.int .u64 (f 1:Int),.int .u64 (f 2:Int),.int .u64 (f 3:Int),.int .u64 (f 4:Int),.int .u64 (f 5:Int)]
theorem sD(w:World)(f:Nat->Nat)(T:TypeId):Words (w.alloc (.cells #[.int .u64 (f 0:Int),.int .u64 (f 1:Int),.int .u64 (f 2:Int),.int .u64 (f 3:Int),.int .u64 (f 4:Int),.int .u64 (f 5:Int)] T)) w.heap.size 6 f:=by
 refine⟨lG.made w #[.int .u64 (f 0:Int),.int .u64 (f 1:Int),.int .u64 (f 2:Int),.int .u64 (f 3:Int),.int .u64 (f 4:Int),.int .u64 (f 5:Int)] T,fun o ho=>?_⟩
 match o,ho with
 | 0,_=>exact(cell_of_row _ _ _ _ T (0,0) (heap_alloc_new w _)).trans rfl
 | 1,_=>exact(cell_of_row _ _ _ _ T (0,0) (heap_alloc_new w _)).trans rfl
 | 2,_=>exact(cell_of_row _ _ _ _ T (0,0) (heap_alloc_new w _)).trans rfl
 | 3,_=>exact(cell_of_row _ _ _ _ T (0,0) (heap_alloc_new w _)).trans rfl
 | 4,_=>exact(cell_of_row _ _ _ _ T (0,0) (heap_alloc_new w _)).trans rfl
 | 5,_=>exact(cell_of_row _ _ _ _ T (0,0) (heap_alloc_new w _)).trans rfl
theorem O7{f:Nat->Nat}(hf:∀o,f o<64)(k x:Nat):qy f k x<64:=by
 induction k generalizing x with
 | zero=>exact hf x
 | succ k ih=>
   rw[qy];split
   ·exact Nat.or_lt_two_pow (n:=6) (ih x) (ih k)
   ·exact ih x
theorem U4(f:Nat->Nat)(k:Nat):qy f (k+1) k=qy f k k:=by
 rw[qy];split
 ·simp
 ·rfl
def xq(f:Nat->Nat)(k i x:Nat):Nat:=if x<i then qy f (k+1) x else qy f k x
theorem aaV(f:Nat->Nat)(k i:Nat):xq f k i k=qy f k k:=by
 unfold xq;split
 ·exact U4 f k
 ·rfl
theorem Yi(f:Nat->Nat)(k i:Nat):xq f k i i=qy f k i:=by unfold xq;rw[if_neg (by omega)]
theorem Ue(f:Nat->Nat)(k i:Nat):xq f k (i+1) i=if (qy f k i).testBit k=true then qy f k i ||| qy f k k else qy f k i:=by unfold xq;rw[if_pos (by omega),qy]
theorem GK(f:Nat->Nat)(k i x:Nat)(h:x≠i):xq f k (i+1) x=xq f k i x:=by
 unfold xq;by_cases h1:x<i
 ·rw[if_pos h1,if_pos (by omega)]
 ·rw[if_neg h1,if_neg (by omega)]
theorem Sb(f:Nat->Nat)(i j:Nat)(w:World)(hi:i<6)(hj:j<6)(hf:∀o,f o<64) :
 Calls Tryz.prog 235 #[yu f,.int .i64 (i:Int),.int .i64 (j:Int)] w fun e w'=>e=.returned (.bool ((f i).testBit j))/\Ext w w':=by
 have hW:=(sD w f 237).2 i hi;have i0:(0:Int)<=(i:Int):=by omega
 have i1:(i:Int)<6:=by omega
 have hfi:=hf i;have hbit:=LM (f i) j (by omega);obtain⟨t,ht⟩:∃t,(f i).testBit j=t:=⟨_,rfl⟩;rw[ht]at hbit ⊢;clear ht;obtain⟨n,hn⟩:∃n,f i=n:=⟨_,rfl⟩;rw[hn]at hbit hW;have acN:n<64:=by omega
 clear hn hfi hf;unfold yu
 cases t with
 | true=>
   rw[if_pos rfl]at hbit;go_enter Tryz.func235,Tryz.ntmps235;go_wp2;go_returns;exact⟨rfl,(Ext.refl _).alloc _⟩
 | false=>
   rw[if_neg (by decide)]at hbit;go_enter Tryz.func235,Tryz.ntmps235;go_wp2;go_returns;exact⟨rfl,(Ext.refl _).alloc _⟩
theorem Jr(f:Nat->Nat)(w:World)(hf:∀o,f o<64) :
 Calls Tryz.prog 234 #[yu f] w fun e w'=>e=.returned (yu (qy f 6))/\Ext w w':=by
 have HF:=aa (fun k x=>O7 hf k x);have hz:=(sD w f 237).ext ((Ext.refl (w.alloc (.cells #[.int .u64 (f 0:Int),.int .u64 (f 1:Int),.int .u64 (f 2:Int),.int .u64 (f 3:Int),.int .u64 (f 4:Int),.int .u64 (f 5:Int)] 237))).alloc (.cells #[.int .u64 0,.int .u64 0,.int .u64 0,.int .u64 0,.int .u64 0,.int .u64 0] 237));have HZ:=aa hz;have hb2:=lG.made (w.alloc (.cells #[.int .u64 (f 0:Int),.int .u64 (f 1:Int),.int .u64 (f 2:Int),.int .u64 (f 3:Int),.int .u64 (f 4:Int),.int .u64 (f 5:Int)] 237)) #[.int .u64 0,.int .u64 0,.int .u64 0,.int .u64 0,.int .u64 0,.int .u64 0] 237;rw[show (w.alloc (.cells #[.int .u64 (f 0:Int),.int .u64 (f 1:Int),.int .u64 (f 2:Int),.int .u64 (f 3:Int),.int .u64 (f 4:Int),.int .u64 (f 5:Int)] 237)).heap.size=w.heap.size+1 from by simp]at hb2;have HB2:=aa hb2;clear hz hb2 hf;unfold yu;go_enter Tryz.func234,Tryz.ntmps234;go_wp2;go_loopw [5] (fun i wr=>Ext w wr/\∃k:Nat,k<=6/\i=.int .i64 k/\Hid (lG wr (w.heap.size+1) 6/\Words wr w.heap.size 6 (qy f k))) (fun i _=>6-(intOf i).toNat)
 case atStart=>exact⟨((Ext.refl _).alloc _).alloc _,0,by omega,rfl,HB2.out,HZ.out⟩
 case round=>
  clear HZ HB2;obtain⟨hb,k,hk,rfl,HW⟩:=hrel;by_cases hlt:k<6
  ·have hkd:decide ((k:Int)<6)=true:=by simp;omega
   have k0:(0:Int)<=(k:Int):=by omega
   have k1:(k:Int)<6:=by omega
   go_wp2;go_loopw [8] (fun i wr=>Ext w wr/\∃q:Nat,q<=6/\i=.int .i64 q/\Hid (lG wr (w.heap.size+1) 6/\Words wr w.heap.size 6 (xq f k q))) (fun i _=>6-(intOf i).toNat)
   case atStart=>exact⟨hb,0,by omega,rfl,HW.out.1,HW.out.2.congr fun o _=>by unfold xq;rw[if_neg (by omega)]⟩
   case round=>
    clear HW hb;obtain⟨hb,q,hq,rfl,HI⟩:=hrel;by_cases hq6:q<6
    ·have q0:(0:Int)<=(q:Int):=by omega
     have q1:(q:Int)<6:=by omega
     have hqd:decide ((q:Int)<6)=true:=by simp;omega
     have cq:=HI.out.2.2 q hq6;rw[Yi]at cq;have ck:=HI.out.2.2 k hlt;rw[aaV]at ck;have HN:=aa (Ue f k q);have acN:=HF.out k q;have adu:=HF.out k k;obtain⟨n,hn⟩:∃n,qy f k q=n:=⟨_,rfl⟩;obtain⟨m,hm⟩:∃m,qy f k k=m:=⟨_,rfl⟩;have HN':=HN.out;rw[hn]at cq acN;rw[hm]at ck adu;rw[hn,hm]at HN';have iA:=aa HN';have hbit:=LM n k (by omega);clear HN HN' hn hm;by_cases ht:n.testBit k=true
     ·rw[if_pos ht]at hbit;have hv:Hid (xq f k (q+1) q=n ||| m):=by show _ = _;rw[iA.out,if_pos ht]
      have hor:=u64_or n m (by omega) (by omega);have hfr:=HI.out.2.1.free q;have u0:({ wr with drawn:=wr.drawn+1 }:World).cell? ⟨w.heap.size,q,none⟩=some (.int .u64 (n:Int)):=cq;have u1:({ wr with drawn:=wr.drawn+1 }:World).cell? ⟨w.heap.size,k,none⟩=some (.int .u64 (m:Int)):=ck;clear ht;go_wp2;go_still_tail 7,(by kernel_rfl)
      change wpList _ _ _ _ _ wr.drew;clear u0 u1;go_wp2;have X:=(Ext.refl wr).drew;have hW:=(HI.out.2.ext X).set (j:=q) (f':=xq f k (q+1)) hq6 (fun o ho=>GK f k q o ho);rw[hv.out]at hW;have IG:=aa hW;clear hW;go_roundw;case rel=>exact⟨(hb.trans X).setCell (Nat.le_refl _) _,q+1,by omega,by go_num,(HI.out.1.ext X).set _ _,IG.out⟩
      case measure=>simp[intOf];omega
     ·rw[if_neg ht]at hbit;have hv:Hid (xq f k (q+1) q=n):=by show _ = _;rw[iA.out,if_neg ht]
      have HC:Hid (Words wr w.heap.size 6 (xq f k (q+1))):=⟨HI.out.2.1,fun o ho=>by
       by_cases e:o=q
       ·subst e;rw[hv.out];exact cq
       ·rw[GK f k q o e];exact HI.out.2.2 o ho⟩
      clear ht;go_wp2;go_roundw;case rel=>exact⟨hb,q+1,by omega,by go_num,HI.out.1,HC.out⟩
      case measure=>simp[intOf];omega
    ·obtain rfl:q=6:=by omega
     go_wp2;go_roundw;case rel=>exact⟨hb,k+1,by omega,by go_num,HI.out.1,HI.out.2.congr fun o ho=>by unfold xq;rw[if_pos (by omega)]⟩
     case measure=>simp[intOf];omega
  ·obtain rfl:k=6:=by omega
   have hA:=aa HW.out.1;have w0:=HW.out.2.2 0 (by omega);have w1:=HW.out.2.2 1 (by omega);have w2:=HW.out.2.2 2 (by omega);have w3:=HW.out.2.2 3 (by omega);have w4:=HW.out.2.2 4 (by omega);have w5:=HW.out.2.2 5 (by omega);obtain⟨g,hg⟩:∃g,qy f 6=g:=⟨_,rfl⟩;have HGE:=aa hg;rw[hg]at w0 w1 w2 w3 w4 w5;clear hg;obtain⟨y0,z0⟩:=hA.out.cell (j:=0) (by omega);obtain⟨y1,z1⟩:=hA.out.cell (j:=1) (by omega);obtain⟨y2,z2⟩:=hA.out.cell (j:=2) (by omega);obtain⟨y3,z3⟩:=hA.out.cell (j:=3) (by omega);obtain⟨y4,z4⟩:=hA.out.cell (j:=4) (by omega);obtain⟨y5,z5⟩:=hA.out.cell (j:=5) (by omega);have s0:=dG hA.out (j:=0) (by omega) (.int .u64 (g 0:Nat));have hA1:=aa (hA.out.set ⟨w.heap.size+1,0,none⟩ (.int .u64 (g 0:Nat)));have s1:=dG hA1.out (j:=1) (by omega) (.int .u64 (g 1:Nat));have hA2:=aa (hA1.out.set ⟨w.heap.size+1,1,none⟩ (.int .u64 (g 1:Nat)));have s2:=dG hA2.out (j:=2) (by omega) (.int .u64 (g 2:Nat));have hA3:=aa (hA2.out.set ⟨w.heap.size+1,2,none⟩ (.int .u64 (g 2:Nat)));have s3:=dG hA3.out (j:=3) (by omega) (.int .u64 (g 3:Nat));have hA4:=aa (hA3.out.set ⟨w.heap.size+1,3,none⟩ (.int .u64 (g 3:Nat)));have s4:=dG hA4.out (j:=4) (by omega) (.int .u64 (g 4:Nat));have hA5:=aa (hA4.out.set ⟨w.heap.size+1,4,none⟩ (.int .u64 (g 4:Nat)));have s5:=dG hA5.out (j:=5) (by omega) (.int .u64 (g 5:Nat));have f0:=hA.out.free 0;have f1:=hA.out.free 1;have f2:=hA.out.free 2;have f3:=hA.out.free 3;have f4:=hA.out.free 4;have f5:=hA.out.free 5;go_wp2;refine bodyPost_ret (v:=yu g) (by simp[results,Tryz.results234,go_sem,s0,s1,s2,s3,s4,s5,yu]) rfl ?_;exact⟨by rw[HGE.out];rfl,(((((hb.setCell (Nat.le_succ _) _).setCell (Nat.le_succ _) _).setCell (Nat.le_succ _) _).setCell (Nat.le_succ _) _).setCell (Nat.le_succ _) _).setCell (Nat.le_succ _) _⟩
theorem PX(f:Nat->Nat)(w:World)(hf:∀o,f o<64) :
 Calls Tryz.prog 233 #[yu f] w fun e w'=>e=.returned (.bool ((List.range 6).any fun i=>(qy f 6 i).testBit i))/\Ext w w':=by
 have HF:=aa (fun k x=>O7 hf k x);have HF0:=aa hf;obtain⟨R,hR⟩:∃R,((List.range 6).any fun i=>(qy f 6 i).testBit i)=R:=⟨_,rfl⟩;rw[hR];have HR:=aa hR;clear hR hf;unfold yu;go_enter Tryz.func233,Tryz.ntmps233;go_wp2_with fail
 refine(Jr f _ HF0.out).mono ?_
 rintro e w1 ⟨rfl,b1⟩;have HG:=aa (fun x=>HF.out 6 x);obtain⟨g,hg⟩:∃g,qy f 6=g:=⟨_,rfl⟩;have hR:=HR.out;have hG:=HG.out;rw[hg]at hR hG ⊢;have HR2:=aa hR;have HG2:=aa hG;clear hg HR HG hR hG HF HF0;unfold yu;have HZ:=aa (sD w1 g 237);have hb:=((Ext.refl w).alloc (.cells #[.int .u64 (f 0:Int),.int .u64 (f 1:Int),.int .u64 (f 2:Int),.int .u64 (f 3:Int),.int .u64 (f 4:Int),.int .u64 (f 5:Int)] 237)).trans b1;clear b1;go_wp2;go_loopw [7] (fun i wr=>Ext w wr/\∃k:Nat,k<=6/\i=.int .i64 k/\Hid (Words wr w1.heap.size 6 g)/\Hid (∀i,i<k->(g i).testBit i=false)) (fun i _=>6-(intOf i).toNat)
 case atStart=>exact⟨hb.alloc _,0,by omega,rfl,HZ.out,fun _ h=>absurd h (Nat.not_lt_zero _)⟩
 case round=>
  clear HZ hb;obtain⟨hb,k,hk,rfl,HW,HK⟩:=hrel;by_cases hlt:k<6
  ·have hkd:decide ((k:Int)<6)=true:=by simp;omega
   have c0:=HW.out.2 0 (by omega);have c1:=HW.out.2 1 (by omega);have c2:=HW.out.2 2 (by omega);have c3:=HW.out.2 3 (by omega);have c4:=HW.out.2 4 (by omega);have c5:=HW.out.2 5 (by omega);obtain⟨t,ht⟩:∃t,(g k).testBit k=t:=⟨_,rfl⟩;have HT:=aa ht;clear ht;go_wp2_with fail
   refine(Sb g k k _ hlt hlt HG2.out).mono ?_
   rw[HT.out];rintro e w2 ⟨rfl,b2⟩
   cases t with
   | true=>
     have hf:Hid (true=R):=by show _ = _;rw[<-HR2.out];symm;rw[List.any_eq_true];exact⟨k,by simpa using hlt,HT.out⟩
     go_wp2;go_returns;exact⟨aN hf.out,hb.trans b2⟩
   | false=>
     have HW2:=aa (HW.out.ext b2);go_wp2;go_roundw;case rel=>exact⟨hb.trans b2,k+1,by omega,by go_num,HW2.out,fun i hi=>if e:i=k then e▸HT.out else HK.out i (by omega)⟩
     case measure=>simp[intOf];omega
  ·obtain rfl:k=6:=by omega
   have hf:Hid (false=R):=by
    show _ = _;rw[<-HR2.out];symm;rw[List.any_eq_false];intro o ho;rw[HK.out o (by simpa using ho)]
    decide
   go_wp2;go_returns;exact⟨aN hf.out,hb⟩
theorem Sn(xs:List Int)(v:Int):decide (0<=idxOf xs v)=xs.contains v:=by
 unfold idxOf
 cases hf:xs.findIdx? (·==v) with
 | none=>
   rw[List.findIdx?_eq_none_iff]at hf;simp;intro h
   have:=hf v h
   simp at this
 | some i=>
   have:=List.findIdx?_eq_some_iff_getElem.1 hf
   obtain⟨hi,hx,_⟩:=this;simp at hx;simp;rw[<-hx];exact List.getElem_mem hi
theorem rX{u:Value}{xs:List Int}(v:Int)(w:World)(h:rM encI w u xs)(hlen:xs.length<=2097152) :
 Calls Tryz.prog 260 #[u,.int .i64 v] w fun e w'=>e=.returned (.bool (xs.contains v))/\Ext w w':=by
 have HM:=aa (Sn xs v);have HI:=aa (qY v w h hlen);obtain⟨A,c,rfl,_⟩:=id h;obtain⟨z,hz⟩:∃z,idxOf xs v=z:=⟨_,rfl⟩;rw[hz]at HM HI;clear h hz;go_enter Tryz.func260,Tryz.ntmps260;go_wp2_with fail
 refine HI.out.mono ?_;rintro e w1 ⟨rfl,b1⟩;go_wp2;go_returns;exact⟨aN HM.out,b1⟩
def dP(es:List Edge)(ks:List Int):List Edge:=es.filter fun e=>ks.contains e.kind
theorem N7(l:List Edge)(e:Edge)(x:Nat):rowsOf (l++[e]) x=if e.dV=(x:Int) then rowsOf l x ||| 2 ^ e.to.toNat else rowsOf l x:=by unfold rowsOf;rw[List.foldl_append];rfl
theorem Kw{es:List Edge}{ks:List Int}{k:Nat}{e:Edge}(he:es[k]? =some e):dP (es.take (k+1)) ks=dP (es.take k) ks++if ks.contains e.kind=true then [e] else []:=by unfold dP;rw[ah he,List.filter_append];congr 1;rw[List.filter_cons];simp only[List.filter_nil]
theorem JF{es:List Edge}(h:∀e∈es,edgeOk 6 e)(x:Nat):rowsOf es x<64:=by
 unfold rowsOf
 have:∀(l:List Edge) (r:Nat),(∀e∈l,edgeOk 6 e)->r<64->l.foldl (fun r e=>if e.dV=(x:Int) then r ||| 2 ^ e.to.toNat else r) r<64:=by
  intro l
  induction l with
  | nil=>intro r _ hr;exact hr
  | cons e l ih=>
    intro r hl hr;rw[List.foldl_cons];refine ih _ (fun e' h'=>hl e' (List.mem_cons_of_mem _ h')) ?_;split
    ·have he:=hl e (List.mem_cons_self);exact Nat.or_lt_two_pow (n:=6) hr (Nat.pow_lt_pow_right (by omega) (by have:=he.2.1;omega))
    ·exact hr
 exact this es 0 h (by omega)
def Bz(es:List Edge):Bool:=(List.range 6).any fun i=>(qy (rowsOf es) 6 i).testBit i
def lW(ds:List Edge)(e:Edge):Bool:=e.kind==3&&(qy (rowsOf (dP ds [1,2])) 6 e.to.toNat).testBit e.dV.toNat
def dX(ds:List Edge)(kind:Int):Bool:=
 if kind=1 then Bz (dP ds [1]) else if kind=2 then Bz (dP ds [1,2]) else if kind=3 then ds.any (lW ds) else if kind=4 then Bz (dP ds [1,2,3]) else false
theorem Cv{es es':List Edge}(h:∀x,x∈es↔x∈es'):rowsOf es=rowsOf es':=by funext x;apply Nat.eq_of_testBit_eq;intro y;rw[Bool.eq_iff_iff,l7,l7];simp[h]
theorem pG{es es':List Edge}(h:∀x,x∈es↔x∈es')(ks:List Int):∀x,x∈dP es ks↔x∈dP es' ks:=fun x=>by unfold dP;simp[List.mem_filter,h]
theorem FT{es es':List Edge}(h:∀x,x∈es↔x∈es'):Bz es=Bz es':=by unfold Bz;rw[Cv h]
theorem Kb{es es':List Edge}(h:∀x,x∈es↔x∈es')(k:Int):dX es k=dX es' k:=by
 unfold dX;rw[FT (pG h [1]),FT (pG h [1,2]),FT (pG h [1,2,3])]
 have:es.any (lW es)=es'.any (lW es'):=by unfold lW;rw[Cv (pG h [1,2]),Bool.eq_iff_iff,List.any_eq_true,List.any_eq_true];simp only[h]
 rw[this]
def mO(ds:List Edge)(l:Nat):Bool:=(List.range l).any fun k=>dX ds ((k:Int)+1)
def fA(h:List aA)(ds:List Edge)(l:Nat):Bool:=!mO ds l&&(decide (l<2) || gG h)
def fI(h:List aA)(ds:List Edge):Nat->Nat
 | 0=>0
 | l+1=>if fA h ds (l+1) then l+1 else fI h ds l
def jP(h:List aA)(ds:List Edge):Nat:=fI h ds 4
theorem wH(ds:List Edge)(l:Nat):mO ds (l+1)=(mO ds l || dX ds ((l:Int)+1)):=by unfold mO;rw[List.range_succ,List.any_append];simp
theorem Jo{ds:List Edge}{k l:Nat}(hk:k<=l)(h:mO ds k=true):mO ds l=true:=by unfold mO at h ⊢;rw[List.any_eq_true]at h ⊢;obtain⟨x,hx,hy⟩:=h;exact⟨x,by rw[List.mem_range]at hx ⊢;omega,hy⟩
theorem zP(h:List aA)(ds:List Edge):fA h ds 0=true:=by simp[fA,mO]
theorem xS{h:List aA}{ds:List Edge}{l:Nat}(ha:fA h ds l=true):fI h ds l=l:=by
 cases l with
 | zero=>rfl
 | succ l=>rw[fI,if_pos ha]
theorem vO{h:List aA}{ds:List Edge}{l:Nat}(ha:fA h ds (l+1)=false):fI h ds (l+1)=fI h ds l:=by rw[fI,ha,if_neg (by decide)]
theorem y7(h:List aA)(ds:List Edge):∀l,fI h ds l<=l
 | 0=>Nat.le_refl _
 | l+1=>by
   have:=y7 h ds l
   rw[fI]
   split<;>omega
theorem y9{h:List aA}{es es':List Edge}(he:∀x,x∈es↔x∈es')(l:Nat):fA h es l=fA h es' l:=by unfold fA mO;simp only[Kb he]
theorem NF{h:List aA}{es es':List Edge}(he:∀x,x∈es↔x∈es'):jP h es=jP h es':=by simp only[jP,fI,y9 he]
theorem wN(h:List aA)(ds:List Edge):jP h ds<=4:=y7 h ds 4
def kV(h:List aA)(l:List (List (List Int)))(m:Nat):Int:=(l.take m).foldl (fun b os=>max b (jP h (bZ h os):Int)) (-1)
def qP(h:List aA):Int:=kV h (eZ h) (eZ h).length
theorem CO{h:List aA}{l:List (List (List Int))}{m:Nat}{os:List (List Int)}(ho:l[m]? =some os):kV h l (m+1)=max (kV h l m) (jP h (bZ h os):Int):=by unfold kV;rw[ah ho,List.foldl_append];rfl
theorem Jt(h:List aA)(l:List (List (List Int)))(m:Nat):-1<=kV h l m/\kV h l m<=4:=by
 unfold kV
 have:∀(l:List (List (List Int))) (b:Int),-1<=b/\b<=4->-1<=l.foldl (fun b os=>max b (jP h (bZ h os):Int)) b/\l.foldl (fun b os=>max b (jP h (bZ h os):Int)) b<=4:=by
  intro l
  induction l with
  | nil=>intro b hb;exact hb
  | cons os l ih=>
    intro b hb;rw[List.foldl_cons]
    have:=wN h (bZ h os)
    exact ih _ ⟨by omega,by omega⟩
 exact this _ _ ⟨by omega,by omega⟩
theorem EW{many:Nat}(hm:many<=6){e:Edge}(h:edgeOk many e):edgeOk 6 e:=⟨⟨h.1.1,by have:=h.1.2;omega⟩,⟨h.2.1.1,by have:=h.2.1.2;omega⟩,h.2.2⟩
def gD(es:List Edge)(k:Int):List Edge:=es.filter fun e=>decide (e.kind<=k)
theorem PM{es:List Edge}{k:Int}{j:Nat}{e:Edge}(he:es[j]? =some e):gD (es.take (j+1)) k=gD (es.take j) k++if decide (e.kind<=k)=true then [e] else []:=by unfold gD;rw[ah he,List.filter_append];congr 1;rw[List.filter_cons];simp only[List.filter_nil]
theorem vP{es:List Edge}{many:Nat}{k:Int}(h:∀e∈es,edgeOk many e):∀e∈gD es k,edgeOk many e:=fun e he=>h e (List.mem_filter.1 he).1
theorem uh{es:List Edge}{many:Nat}(h:∀e∈es,edgeOk many e):gD es 1=dP es [1]/\gD es 2=dP es [1,2]/\gD es 3=dP es [1,2,3]:=by
 unfold gD dP;refine⟨List.filter_congr fun e he=>?_,List.filter_congr fun e he=>?_,List.filter_congr fun e he=>?_⟩ <;>
 ·have:=(h e he).2.2.2
  rw[Bool.eq_iff_iff];simp;omega
theorem RX{es:List Edge}{many:Nat}(hm:many<=6)(h:∀e∈es,edgeOk many e):∀x y,(rowsOf es x).testBit y=true->y<6:=fun x y hb=>by
 obtain⟨e,he,_,rfl⟩:=l7.1 hb
 have:=(h e he).2.1
 omega
theorem Yv{es:List Edge}{many:Nat}(hm:many<=6)(h:∀e∈es,edgeOk many e):Bz es=true↔∃s:Nat,s<many/\∃e∈es,e.dV=(s:Int)/\∃n,jm es (s:Int) n e.to:=by
 unfold Bz;rw[List.any_eq_true];have hp:∀s:Nat,(qy (rowsOf es) 6 s).testBit s=true↔∃e∈es,e.dV=(s:Int)/\∃n,jm es (s:Int) n e.to:=fun s=>by rw[Oh (RX hm h),Jv (fun e he=>⟨(h e he).1.1,(h e he).2.1.1⟩)]
 constructor
 ·rintro⟨s,hs,hb⟩;have hb:=(hp s).1 hb;refine⟨s,?_,hb⟩;obtain⟨e,he,hf,_⟩:=hb
  have:=(h e he).1.2
  omega
 ·rintro⟨s,hs,hb⟩;exact⟨s,by simp;omega,(hp s).2 hb⟩
theorem Wl{es fl:List Edge}{many:Nat}(hm:many<=6)(hfl:∀e∈fl,edgeOk many e){e:Edge}(he:edgeOk many e) :
 (qy (rowsOf fl) 6 e.to.toNat).testBit e.dV.toNat=true↔∃n,jm fl e.dV n e.to:=by
 have e1:((e.dV.toNat:Nat):Int)=e.dV:=by have:=he.1.1;omega
 have e2:((e.to.toNat:Nat):Int)=e.to:=by have:=he.2.1.1;omega
 rw[Oh (RX hm hfl),Jv (fun x hx=>⟨(hfl x hx).1.1,(hfl x hx).2.1.1⟩),e1,e2];constructor
 ·rintro⟨x,hx,hf,n,hn⟩;exact⟨n+1,.inr ⟨x,hx,hf,hn⟩⟩
 ·rintro⟨n,hn⟩
  induction n with
  | zero=>exact absurd (show e.to=e.dV from hn).symm he.2.2.1
  | succ n ih=>
    rcases hn with hn|⟨x,hx,hf,hn⟩
    ·exact ih hn
    ·exact⟨x,hx,hf,n,hn⟩
def xL:List Edge:=(List.range 6).flatMap fun(a:Nat)=>(List.range 6).flatMap fun(b:Nat)=>(List.range 4).map fun(k:Nat)=>⟨(a:Int),(b:Int),(k:Int)+1⟩
def AQ(es:List Edge)(e:Edge):Bool:=es.any fun x=>x.dV==e.dV&&x.to==e.to&&x.kind==e.kind
def rq(es:List Edge)(m:Nat):List Edge:=(xL.take m).filter (AQ es)
def JI(es:List Edge):List Edge:=xL.filter (AQ es)
theorem Sd:xL.length=144:=by decide +kernel
theorem OX{a b k:Nat}(ha:a<6)(hb:b<6)(hk:k<4):xL[24*a+4*b+k]? =some ⟨(a:Int),(b:Int),(k:Int)+1⟩:=by
 have:∀a∈List.range 6,∀b∈List.range 6,∀k∈List.range 4,(xL[24*a+4*b+k]?).map (fun e=>(e.dV,e.to,e.kind))=some ((a:Int),(b:Int),(k:Int)+1):=by decide +kernel
 have h:=this a (List.mem_range.2 ha) b (List.mem_range.2 hb) k (List.mem_range.2 hk)
 cases he:xL[24*a+4*b+k]? with
 | none=>rw[he]at h;cases h
 | some e=>
   rw[he]at h;simp only[Option.map_some,Option.some.injEq,Prod.mk.injEq]at h;rw[Edge.ext' (x:=e) (y:=⟨(a:Int),(b:Int),(k:Int)+1⟩) h.1 h.2.1 h.2.2]
theorem OH{es:List Edge}{m:Nat}{e:Edge}(he:xL[m]? =some e):rq es (m+1)=rq es m++if AQ es e=true then [e] else []:=by unfold rq;rw[ah he,List.filter_append];congr 1;rw[List.filter_cons];simp only[List.filter_nil]
theorem GA(es:List Edge):rq es 144=JI es:=by unfold rq JI;rw[List.take_of_length_le (by rw[Sd];omega)]
theorem FR(es:List Edge)(m:Nat):(rq es m).length<=m:=by unfold rq;have h1:=List.length_filter_le (AQ es) (xL.take m);have h2:=List.length_take_le m xL;omega
theorem OW{es:List Edge}{e:Edge}:AQ es e=true↔e∈es:=by
 unfold AQ;rw[List.any_eq_true];constructor
 ·rintro⟨x,hx,h⟩;simp only[Bool.and_eq_true,beq_iff_eq]at h;rw[<-Edge.ext' h.1.1 h.1.2 h.2];exact hx
 ·intro h;exact⟨e,h,by simp⟩
theorem TT{e:Edge}(h:edgeOk 6 e):e∈xL:=by
 obtain⟨⟨f0,f1⟩,⟨t0,t1⟩,_,k0,k1⟩:=h
 have:=OX (a:=e.dV.toNat) (b:=e.to.toNat) (k:=(e.kind-1).toNat) (by omega) (by omega) (by omega)
 have e':e=⟨(e.dV.toNat:Int),(e.to.toNat:Int),((e.kind-1).toNat:Int)+1⟩:=Edge.ext' (by simp;omega) (by simp;omega) (by simp;omega);rw[e'];exact List.mem_of_getElem? this
theorem Tg{es:List Edge}(h:∀e∈es,edgeOk 6 e):∀x,x∈JI es↔x∈es:=fun x=>by unfold JI;rw[List.mem_filter,OW];exact⟨fun hx=>hx.2,fun hx=>⟨TT (h x hx),hx⟩⟩
def Io(xs:List Int)(x:Int):Nat:=(xs.filter (·==x)).length
theorem TA{xs:List Int}{j:Nat}{y x:Int}(hy:xs[j]? =some y):Io (xs.take (j+1)) x=Io (xs.take j) x+if y==x then 1 else 0:=by unfold Io;rw[ah hy,List.filter_append,List.length_append];congr 1;cases h:(y==x)<;>simp[List.filter_cons,h]
theorem Qy(xs:List Int)(x:Int):Io xs x=xs.count x:=by unfold Io;rw[List.count_eq_length_filter]
theorem XK(xs:List Int)(x:Int):Io xs x<=xs.length:=List.length_filter_le _ _
theorem Tu{a b:List Int}(hp:a.Perm b)(hn:b.Nodup){x:Int}(hx:x∈b):Io a x=1:=by rw[Qy,hp.count_eq];have h1:=List.nodup_iff_count.1 hn x;have h2:=List.count_pos_iff.2 hx;omega
theorem MI{h:List aA}(hok:aC h=true){n:Nat}{t:aA}(ht:h[n]? =some t)(o:aQ):xP h n o=(mM o&&(o.value != 0&&aB h o.key o.value==(n:Int))):=by
 unfold xP;congr 1;rw[dw ht,Bool.eq_iff_iff,List.any_eq_true];constructor
 ·rintro⟨w,hw,h1⟩;simp only[Bool.and_eq_true,beq_iff_eq]at h1;obtain⟨h1,h2,h3⟩:=h1;have hpos:=yG (eT (bY hok (List.mem_of_getElem? ht)) hw) h1
  have:=nY hok ht hw h1
  rw[Bool.and_eq_true,bne_iff_ne,beq_iff_eq,<-h2,<-h3];exact⟨by omega,this⟩
 ·intro h1;rw[Bool.and_eq_true,bne_iff_ne,beq_iff_eq]at h1;obtain⟨t',ht',l,hl,hw,hk,hv⟩:=xI h1.2;rw[ht]at ht';cases ht';exact⟨l,hl,by simp[hw,hk,hv]⟩
def nG(h:List aA)(n k:Nat):List aA:=((h.take k).eraseIdx n).map (qR h n)
theorem Qi(h:List aA)(n:Nat):nG h n h.length=mg h n:=by unfold nG mg;rw[List.take_length]
theorem MG{h:List aA}{n:Nat}(hn:n<h.length):nG h n (n+1)=nG h n n:=by obtain⟨t,ht⟩:=af hn;unfold nG;rw[ah ht,List.eraseIdx_append_of_length_le (by rw[List.length_take];omega),List.eraseIdx_of_length_le (l:=h.take n) (by rw[List.length_take];omega)];rw[show n-(h.take n).length=0 by rw[List.length_take];omega];simp
theorem NG{h:List aA}{n k:Nat}{t:aA}(ht:h[k]? =some t)(hne:k≠n):nG h n (k+1)=nG h n k++[qR h n t]:=by
 have hk:=(List.getElem?_eq_some_iff.1 ht).1;have hl:(h.take k).length=k:=by rw[List.length_take];omega
 unfold nG;rw[ah ht];rcases Nat.lt_or_gt_of_ne hne with h1|h1
 ·rw[List.eraseIdx_append_of_length_le (by omega),List.eraseIdx_of_length_le (l:=h.take k) (by omega),List.eraseIdx_of_length_le (l:=[t]) (by simp;omega)];simp
 ·rw[List.eraseIdx_append_of_lt_length (by omega)];simp
theorem Qb(h:List aA)(n k:Nat):(nG h n k).length<=k:=by
 unfold nG;rw[List.length_map,List.length_eraseIdx]
 split<;>(rw[List.length_take];omega)
def lX(h:List aA)(n:Nat)(ops:List aQ)(j:Nat):List aQ:=(ops.take j).filter fun o=>!xP h n o
theorem M8{h:List aA}{n j:Nat}{ops:List aQ}{o:aQ}(ho:ops[j]? =some o):lX h n ops (j+1)=lX h n ops j++if xP h n o=true then [] else [o]:=by unfold lX;rw[ah ho,List.filter_append];congr 1;rw[List.filter_cons];cases xP h n o<;>simp
theorem QS(h:List aA)(n:Nat)(ops:List aQ)(j:Nat):(lX h n ops j).length<=j:=by
 unfold lX
 have:=List.length_filter_le (fun o=>!xP h n o) (ops.take j)
 rw[List.length_take]at this;omega
theorem Qf(h:List aA)(n:Nat)(t:aA):(⟨t.az,lX h n t.ops t.ops.length,t.done⟩:aA)=qR h n t:=by unfold lX qR;rw[List.take_length]
theorem sO{w:World}{B:Nat}{a b c:Value}{T:TypeId}(hg:w.heap[B]? =some (.cells #[a,b,c] T (0,0))):w.cell? ⟨B,0,none⟩=some a/\w.cell? ⟨B,1,none⟩=some b/\w.cell? ⟨B,2,none⟩=some c/\∀j,w.frozen? ⟨B,j,none⟩=false:=
 ⟨by simp[World.cell?,hg],by simp[World.cell?,hg],by simp[World.cell?,hg],fun j=>by simp[World.frozen?,hg]⟩
theorem Oy{w:World}{B:Nat}{a b c:Value}{T:TypeId}(hg:w.heap[B]? =some (.cells #[a,b,c] T (0,0)))(u:Value):(w.setCell ⟨B,1,none⟩ u).heap[B]? =some (.cells #[a,u,c] T (0,0)):=by simp[World.setCell,Array.getElem?_modify,hg]
theorem uW{w w':World}(h:Ext w w'){k:Nat}{o:Obj}(hg:w.heap[k]? =some o):w'.heap[k]? =some o:=(Below.block h k (Array.getElem?_eq_some_iff.1 hg).1).trans hg
theorem LH{v:Value}{h:List aA}(n:Nat)(w:World)(H:gL w v h)(hok:aC h=true)(hn:n<h.length) :
 Calls Tryz.prog 25 #[v,.int .i64 (n:Int)] w fun e w'=>∃v' rs,e=.returned (.tuple #[v',.bool true])/\jI w' v' rs (mg h n)/\iZ w.heap.size w' v' rs/\Ext w w':=by
 obtain⟨A,c,rfl⟩:=H.slice;have dO:=aa hok;have hlen:=aM hok;obtain⟨tn,htn⟩:=af hn;have HGW:=aa (fun o=>MI hok htn o);have OC:=aa (nQ w H (by omega) (aD hok));have hw0:IntKind.i64.wrap ((h.length:Int)-1)=(h.length:Int)-1:=IntWalk.i64_in _ (by omega);have b0:jR (n:Int) 0 ((h.length:Int)-1)=true:=bL.2 (by omega);clear H hok htn;go_enter Tryz.func25,Tryz.ntmps25;go_wp2_with fail
 refine OC.out.mono ?_;rintro e w1 ⟨v1,rs1,rfl,UL,-,b1⟩;have hH1:gL w1 v1 h:=⟨rs1,UL⟩;obtain⟨A1,c1,rfl⟩:=hH1.slice;have HH:=aa hH1;have HV:=aa (fun W (b:Ext w1 W)=>bu W (hH1.ext b) (by omega) (aD dO.out));rw[dO.out]at HV;have HB1:=aa b1;clear UL hH1 b1;go_wp2_with (first|(go_at_call 20;refine(HV.out _ ((Ext.refl _).alloc _)).mono ?_;rintro e w2 ⟨rfl,b2⟩)|(go_at_call 48;refine(dY _ _ _ _).mono ?_;rw[b0];rintro e w' ⟨rfl,rfl⟩))
 have xw:Hid (mW 48 71 w1.heap.size w2 (.slice (some ⟨w1.heap.size,0,none⟩) 0 0) [] (nG h n 0)):=mW.ext (by simpa[nG] using mW.nil w1) b2;have HB2:Hid (Ext w1 w2):=((Ext.refl w1).alloc _).trans b2;clear b2;go_loopw [6,7] (fun o i wr=>Ext w1 wr/\∃k:Nat,k<=h.length/\i=.int .i64 (k:Int)/\Hid (∃rs,mW 48 71 w1.heap.size wr o rs (nG h n k))) (fun _ i _=>h.length-(intOf i).toNat)
 case atStart=>exact⟨HB2.out,0,Nat.zero_le _,rfl,[],xw.out⟩
 case round=>
  obtain⟨hb,k,hk,rfl,HI⟩:=hrel;by_cases hlt:k<h.length
  ·by_cases hkn:k=n
   ·subst hkn;have HS:=aa (MG hn);have hq:((k:Int)==(k:Int))=true:=by simp
    go_wp2;go_roundw;case rel=>exact⟨hb,k+1,by omega,by go_num,by rw[HS.out];exact HI.out⟩
    case measure=>simp[intOf];omega
   ·have hq:((k:Int)==(n:Int))=false:=by rw[beq_eq_false_iff_ne];omega
    obtain⟨b,off,rfl,hbl,hc⟩:=(HH.out.ext hb).head (by omega);obtain⟨t,ht⟩:=af hlt;obtain⟨ov,c0,c1',c2,hs⟩:=hc k t ht;obtain⟨A4,c4,rfl,hs4⟩:=id hs;have htk:=bY dO.out (List.mem_of_getElem? ht);have hol:=bU htk;have iA:=aa (NG (n:=n) ht hkn);have HT:=aa ht;have O8:=aa htk;have Xe:=aa c1';have Ay:=aa hs4;obtain⟨rs,hB⟩:=HI.out;have HB:=aa hB;have hrl:rs.length<=k:=by rw[hB.1];exact Qb h n k
    have HHH:=aa (HH.out.ext hb);have BU:=aa hb;have i1:(k:Int)<(h.length:Int):=by omega
    have i2:(0:Int)<=(k:Int):=by omega
    have WZ:b<wr.heap.size:=hbl;obtain⟨Ao,no,co,rfl⟩:∃A n c,u6=Value.slice A n c:=by obtain⟨A,c,e,_⟩:=hB.2.1.cell.1;exact⟨_,_,_,e⟩
    clear hc ht hs hs4 htk hkn HI hB;go_wp2;go_region_held3 (fun W=>W.cell? ⟨b,off+k*3,none⟩=some (.int .i64 t.az)/\W.cell? ⟨b,off+k*3+2,none⟩=some (.bool t.done)) (go_keep) (fail)
    have hg0:(wr.alloc (.cells #[.int .i64 t.az,.slice none 0 0,.bool t.done] 48)).drew.heap[wr.heap.size]? =some (.cells #[.int .i64 t.az,.slice none 0 0,.bool t.done] 48 (0,0)):=heap_alloc_new wr _;have hx0:Ext wr (wr.alloc (.cells #[.int .i64 t.az,.slice none 0 0,.bool t.done] 48)).drew:=((Ext.refl wr).alloc _).drew;generalize hwd:(wr.alloc (.cells #[.int .i64 t.az,.slice none 0 0,.bool t.done] 48)).drew=wd at hg0 hx0 ⊢;clear hwd c0 c2;have UN:=aa (And.intro hg0 hx0);obtain⟨wo,rfl⟩:∃wo:World,wo=wr:=⟨_,rfl⟩;obtain⟨B,hBe⟩:∃B,wo.heap.size=B:=⟨_,rfl⟩;rw[hBe]at UN;have XY:=aa hBe;rw[hBe];clear hg0 hx0 hBe;go_wp2;go_loopw [9] (fun i wr=>Ext wo wr/\∃j:Nat,j<=t.ops.length/\i=.int .i64 (j:Int)/\Hid (∃ov,wr.heap[B]? =some (.cells #[.int .i64 t.az,ov,.bool t.done] 48 (0,0))/\Row 71 3 aj (B+1) wr ov (lX h n t.ops j))) (fun i _=>t.ops.length-(intOf i).toNat)
    case atStart=>exact⟨UN.out.2,0,Nat.zero_le _,rfl,_,UN.out.1,Row.nil⟩
    case round=>
     obtain⟨hv,j,hj,rfl,HJ⟩:=hrel;have d1:=hv.cell Xe.out;obtain⟨ov,hg,hrow⟩:=HJ.out;obtain⟨A5,n5,c5,rfl⟩:∃A n c,ov=Value.slice A n c:=by obtain⟨A,c,e,_⟩:=hrow.cell.1;exact⟨_,_,_,e⟩
     have hBlt:B<wr.heap.size:=(Array.getElem?_eq_some_iff.1 hg).1;by_cases hjt:j<t.ops.length
     ·obtain⟨b4,aa3,rfl,aaF,hc4⟩:=Ay.out (by omega);obtain⟨o,ho⟩:=af hjt;have e0:=hv.cell (hc4 j o ho 0 (by omega));have e1:=hv.cell (hc4 j o ho 1 (by omega));have e2:=hv.cell (hc4 j o ho 2 (by omega));simp only[aj,Nat.add_zero]at e0 e1 e2;have xx:=eT O8.out (List.mem_of_getElem? ho);have LX:=aa (M8 (h:=h) (n:=n) ho);have hgo:=HGW.out o;have hkl:=QS h n t.ops j;have HW:=aa (fun W (bb:Ext wo W)=>fV o.key o.value W (HHH.out.ext bb) (by omega) (aD dO.out));obtain⟨z,hz⟩:∃z,aB h o.key o.value=z:=⟨_,rfl⟩;rw[hz]at hgo HW;obtain⟨kd,ky,vl⟩:=o;simp only at e0 e1 e2 hgo HW;have X:=(Ext.refl wr).alloc (.cells #[.int .i64 kd,.int .i64 ky,.int .i64 vl] 71);have HX:=aa X;have hg1:=uW X hg;have Fp:=aa (And.intro hg1 (Row.ext hrow X));by_cases uK:xP h n ⟨kd,ky,vl⟩=true
      ·have hkeep:Hid (lX h n t.ops (j+1)=lX h n t.ops j):=by show _ = _;rw[LX.out,if_pos uK,List.append_nil]
       have hx:kd=1/\vl≠0/\z=(n:Int):=by
        rw[hgo]at uK
        simpa[mM] using uK
       obtain⟨rfl,hv0,rfl⟩:=hx;have q2:(vl==0)=false:=by simp[hv0]
       clear hc4 ho xx uK hgo hv0 hz X hg1 hg hrow HJ;go_wp2_with (go_at_call 49;refine(HW.out _ (hv.trans HX.out)).mono ?_;rintro e w8 ⟨rfl,rfl⟩)
       go_roundw;case rel=>exact⟨hv.trans HX.out,j+1,by omega,by go_num,_,Fp.out.1,by rw[hkeep.out];exact Fp.out.2⟩
       case measure=>simp[intOf];omega
      ·have hkeep:Hid (lX h n t.ops (j+1)=lX h n t.ops j++[⟨kd,ky,vl⟩]):=by show _ = _;rw[LX.out,if_neg uK]
       have hx:kd≠1∨(kd=1/\vl=0)∨(kd=1/\vl≠0/\z≠(n:Int)):=by
        rw[hgo]at uK;simp[mM]at uK;by_cases h1:kd=1
        ·by_cases h2:vl=0
         ·exact .inr (.inl ⟨h1,h2⟩)
         ·exact .inr (.inr ⟨h1,h2,uK h1 h2⟩)
        ·exact .inl h1
       obtain⟨cur,jo⟩:∃cur,cur=lX h n t.ops j:=⟨_,rfl⟩;rw[<-jo]at hkl hrow hkeep Fp;obtain⟨v',w4,hrun,hP⟩:=uR (w:=wr.alloc (.cells #[.int .i64 kd,.int .i64 ky,.int .i64 vl] 71)) (wr.heap.size+1) (by simp) hrow X ⟨kd,ky,vl⟩ (by omega) (by omega);have hne:(Value.slice A5 n5 c5).ownBlock≠some B:=fun e=>by have:=hrow.block B e;omega
       have hg4:w4.heap[B]? =some (.cells #[.int .i64 t.az,.slice A5 n5 c5,.bool t.done] 48 (0,0)):=(hP.2.2.1 B hBlt hne).trans hg;obtain⟨g0,g1,g2,gf⟩:=sO hg1;obtain⟨_,g41,_,gf4⟩:=sO hg4;have gf1:=gf4 1;have jl:Hid (Ext wo (w4.setCell ⟨B,1,none⟩ v')/\∃ov,(w4.setCell ⟨B,1,none⟩ v').heap[B]? =some (.cells #[.int .i64 t.az,ov,.bool t.done] 48 (0,0))/\Row 71 3 aj (B+1) (w4.setCell ⟨B,1,none⟩ v') ov (lX h n t.ops (j+1))):=
        ⟨(hP.2.1 wo hv (by rw[XY.out];omega)).setCell (p:=⟨B,1,none⟩) (by rw[XY.out];exact Nat.le_refl _) _,v',Oy hg4 v',by rw[hkeep.out];exact hP.1.Cg (a:=⟨B,1,none⟩) (Nat.lt_succ_self _) v'⟩
       obtain⟨A7,n7,c7,rfl⟩:∃A n c,v'=Value.slice A n c:=by obtain⟨A,c,e,_⟩:=hP.1.cell.1;exact⟨_,_,_,e⟩
       have aU:=aa hrun;have hb0:(A5=none/\n5=0)∨True:=.inr trivial;clear hc4 ho xx uK hgo hz X hg1 hg hrow HJ jo hrun hP hne hg4 gf gf4 hb0;rcases hx with h1|⟨h1,h2⟩|⟨h1,h2,h3⟩
       ·have q1:(kd != 1)=true:=by simp[h1]
        clear h1;go_wp2_with (at_builtin;refine wpList_append_run rfl rfl rfl rfl aU.out ?_)
        go_roundw;case rel=>exact⟨jl.out.1,j+1,by omega,by go_num,jl.out.2⟩
        case measure=>simp[intOf];omega
       ·subst h1 h2;go_wp2_with (at_builtin;refine wpList_append_run rfl rfl rfl rfl aU.out ?_)
        go_roundw;case rel=>exact⟨jl.out.1,j+1,by omega,by go_num,jl.out.2⟩
        case measure=>simp[intOf];omega
       ·subst h1;have q2:(vl==0)=false:=by simp[h2]
        have q3:(z != (n:Int))=true:=by simp[h3]
        clear h2 h3;go_wp2_with (first|(go_at_call 49;refine(HW.out _ (hv.trans HX.out)).mono ?_;rintro e w8 ⟨rfl,rfl⟩)|(at_builtin;refine wpList_append_run rfl rfl rfl rfl aU.out ?_))
        go_roundw;case rel=>exact⟨jl.out.1,j+1,by omega,by go_num,jl.out.2⟩
        case measure=>simp[intOf];omega
     ·obtain rfl:j=t.ops.length:=by omega
      obtain⟨g0,g1,g2,gf⟩:=sO hg;have HKA:=aa (Qf h n t);obtain⟨v',w6,hrun,hB2,hE2⟩:=rF (t:=⟨t.az,lX h n t.ops t.ops.length,t.done⟩) wr.heap.size rfl HB.out hv hrow.cell.1 (hrow.cell.2.mono (by rw[XY.out];omega)) hrow.KQ hrow.cap BU.out.size (by omega);rw[HKA.out]at hB2;have aU:=aa hrun;have aaE:=aa hB2;have HE2:=aa (hE2 w1 BU.out (Nat.le_refl _));clear hg hrow HJ hrun hB2 hE2 gf;go_wp2_with (at_builtin;refine wpList_append_run rfl rfl rfl rfl aU.out ?_)
      go_roundw;case rel=>exact⟨HE2.out,k+1,by omega,by go_num,_,by rw[iA.out];exact aaE.out⟩
      case measure=>simp[intOf];omega
  ·obtain rfl:k=h.length:=by omega
   obtain⟨rs,hB⟩:=HI.out;rw[Qi]at hB;obtain⟨d1,d2⟩:=hB.done (by decide);have HD:=aa (And.intro d1 (d2.mono HB1.out.size));obtain⟨A7,n7,c7,rfl⟩:∃A n c,u6=Value.slice A n c:=by obtain⟨A,c,e,_⟩:=hB.2.1.cell.1;exact⟨_,_,_,e⟩
   clear hB HI d1 d2;go_wp2;go_returns;exact⟨_,rs,rfl,HD.out.1,HD.out.2,HB1.out.trans hb⟩
theorem Bt{v:Value}{h:List aA}(n:Nat)(w:World)(H:gL w v h)(hok:aC h=true)(hn:¬n<h.length) :
 Calls Tryz.prog 25 #[v,.int .i64 (n:Int)] w fun e w'=>∃A n c,e=.returned (.tuple #[.slice A n c,.bool false])/\Ext w w':=by
 obtain⟨A,c,rfl⟩:=H.slice;have hlen:=aM hok;have OC:=aa (nQ w H (by omega) (aD hok));have dO:=aa hok;have hw0:IntKind.i64.wrap ((h.length:Int)-1)=(h.length:Int)-1:=IntWalk.i64_in _ (by omega);have b0:jR (n:Int) 0 ((h.length:Int)-1)=false:=Sq.2 (by omega);clear H hok;go_enter Tryz.func25,Tryz.ntmps25;go_wp2_with fail
 refine OC.out.mono ?_;rintro e w1 ⟨v1,rs1,rfl,UL,-,b1⟩;have hH1:gL w1 v1 h:=⟨rs1,UL⟩;obtain⟨A1,c1,rfl⟩:=hH1.slice;have HV:=aa (fun W (b:Ext w1 W)=>bu W (hH1.ext b) (by omega) (aD dO.out));rw[dO.out]at HV;have HB1:=aa b1;clear UL hH1 b1;go_wp2_with (first|(go_at_call 20;refine(HV.out _ ((Ext.refl _).alloc _)).mono ?_;rintro e w2 ⟨rfl,b2⟩)|(go_at_call 48;refine(dY _ _ _ _).mono ?_;rw[b0];rintro e w' ⟨rfl,rfl⟩))
 go_returns;exact⟨_,_,_,rfl,(HB1.out.alloc _).trans b2⟩
def Ya(n:Nat):List UInt8:=match n with
 | 0=>[110,111,110,101]
 | 1=>[119,114,105,116,101,115]
 | 2=>[102,108,111,119,115]
 | 3=>[115,105,110,103,108,101,115]
 | _=>[97,108,108]
def Df:List UInt8:=[110,111]
def Nl:List UInt8:=[111,107]
def qg:List UInt8:=[119,104,97,116]
def Fu:List UInt8:=[101,109,112,116,121]
def Uu(l:List UInt8):List UInt8:=if l=[] then Fu else l
def numsL(xs:List Int):List UInt8:=joinL [32] (xs.map fun x=>bK x.toNat)
theorem pI{v u:Value}{es:List Edge}{ks:List Int}(w:World)(h:aF 3 aR w v es)(hk:rM encI w u ks)(hl:es.length<=144)(hkl:ks.length<=2097152)(hok:∀e∈es,edgeOk 6 e) :
 Calls Tryz.prog 232 #[v,u] w fun e w'=>e=.returned (yu (rowsOf (dP es ks)))/\Ext w w':=by
 have HO:=aa hok;have HK:=aa hk;obtain⟨A,c,rfl,hc0⟩:=id h;have HC:=aa hc0;obtain⟨B,d,rfl,_⟩:=id hk;have HL:=aa hkl;clear h hk hok hc0 hkl;have hz:Words ((w.alloc (.cells #[.int .u64 0,.int .u64 0,.int .u64 0,.int .u64 0,.int .u64 0,.int .u64 0] 237)).alloc (.cells #[.int .u64 0,.int .u64 0,.int .u64 0,.int .u64 0,.int .u64 0,.int .u64 0] 237)) (w.heap.size+1) 6 (rowsOf (dP (es.take 0) ks)):=by have hb:=sD (w.alloc (.cells #[.int .u64 0,.int .u64 0,.int .u64 0,.int .u64 0,.int .u64 0,.int .u64 0] 237)) (fun _=>0) 237;rw[show (w.alloc (.cells #[.int .u64 0,.int .u64 0,.int .u64 0,.int .u64 0,.int .u64 0,.int .u64 0] 237)).heap.size=w.heap.size+1 from by simp]at hb;exact hb.congr fun _ _=>rfl
 have HZ:=aa hz;have hb2:lG ((w.alloc (.cells #[.int .u64 0,.int .u64 0,.int .u64 0,.int .u64 0,.int .u64 0,.int .u64 0] 237)).alloc (.cells #[.int .u64 0,.int .u64 0,.int .u64 0,.int .u64 0,.int .u64 0,.int .u64 0] 237)) w.heap.size 6:=(lG.made w #[.int .u64 0,.int .u64 0,.int .u64 0,.int .u64 0,.int .u64 0,.int .u64 0] 237).ext ((Ext.refl _).alloc _);have HB2:=aa hb2;clear hz hb2;go_enter Tryz.func232,Tryz.ntmps232;go_wp2;go_loopw [10] (fun i wr=>Ext w wr/\∃k:Nat,k<=es.length/\i=.int .i64 k/\Hid (lG wr w.heap.size 6/\Words wr (w.heap.size+1) 6 (rowsOf (dP (es.take k) ks)))) (fun i _=>es.length-(intOf i).toNat)
 case atStart=>exact⟨((Ext.refl _).alloc _).alloc _,0,Nat.zero_le _,rfl,HB2.out,HZ.out⟩
 case round=>
  clear HZ HB2;obtain⟨hb,k,hk,rfl,HW⟩:=hrel;by_cases hlt:k<es.length
  ·obtain⟨b,off,rfl,hbl,hcell⟩:=HC.out (by omega);obtain⟨x,hx⟩:=af hlt;have c0:=hb.cell (hcell k x hx 0 (by omega));have c1:=hb.cell (hcell k x hx 1 (by omega));have c2:=hb.cell (hcell k x hx 2 (by omega));simp only[aR,Nat.add_zero]at c0 c1 c2;have HN:=aa (Kw (ks:=ks) hx);have hxo:=HO.out x (List.mem_of_getElem? hx);have Vq:=aa (JF (es:=dP (es.take k) ks) (fun e he=>HO.out e (List.mem_of_mem_take (List.mem_filter.1 he).1)));obtain⟨xf,xt,xk⟩:=x;obtain⟨⟨xf0,xf6⟩,⟨xt0,xt6⟩,_,_,_⟩:=hxo;simp only at xf0 xf6 xt0 xt6;obtain⟨q,rfl⟩:=Int.eq_ofNat_of_zero_le xf0;obtain⟨wo,rfl⟩:∃wo:World,wo=wr:=⟨_,rfl⟩;have HX:=aa ((Ext.refl wo).alloc (.cells #[.int .i64 (q:Int),.int .i64 xt,.int .i64 xk] 177));have HSZ:=aa hb.size;have HW1:=aa HW.out.2.1.lt;clear hcell hx
   cases hcon:ks.contains xk with
   | true=>
     have HT:Hid (∀y,rowsOf (dP (es.take (k+1)) ks) y=if (q:Int)=(y:Int) then rowsOf (dP (es.take k) ks) y ||| 2 ^ xt.toNat else rowsOf (dP (es.take k) ks) y):=fun y=>by rw[HN.out,if_pos hcon,N7]
     clear HN;obtain⟨m,hm⟩:∃m,rowsOf (dP (es.take k) ks) q=m:=⟨_,rfl⟩;have adu:m<64:=by rw[<-hm];exact Vq.out q
     have hor:=Ra m xt.toNat (by omega) (by omega);have HM:=aa hm;have O5:=aa hcon;clear hm hcon;go_wp2_with (go_at_call 260;refine(rX xk _ (HK.out.ext (hb.trans HX.out)) HL.out).mono ?_;rw[O5.out];rintro e w4 ⟨rfl,b4⟩;have Bb:=aa (HX.out.trans b4);have v0:=b4.cell (p:=⟨wo.heap.size,0,none⟩) (v:=.int .i64 (q:Int)) (by go_cell);have v1:=b4.cell (p:=⟨wo.heap.size,1,none⟩) (v:=.int .i64 xt) (by go_cell);have v2:=Bb.out.cell (HW.out.2.2 q (by omega));rw[HM.out]at v2;have v3:=(HW.out.2.1.ext Bb.out).free q;clear b4)
     have HG:=aa (And.intro v0 v1);clear c0 c1 c2;have u0:({ w4 with drawn:=w4.drawn+1 }:World).cell? ⟨wo.heap.size,0,none⟩=some (.int .i64 (q:Int)):=v0;have u1:({ w4 with drawn:=w4.drawn+1 }:World).cell? ⟨wo.heap.size,1,none⟩=some (.int .i64 xt):=v1;have u2:({ w4 with drawn:=w4.drawn+1 }:World).cell? ⟨w.heap.size+1,q,none⟩=some (.int .u64 (m:Int)):=v2;have hqi:(q:Int)<6:=by omega
     have hq0:(0:Int)<=(q:Int):=by omega
     go_still_tail 8,(by kernel_rfl)
     change wpList _ _ _ _ _ w4.drew;clear u0 u1 u2;go_wp2;have X:=Bb.out.drew;have hW:=(HW.out.2.ext X).set (j:=q) (f':=rowsOf (dP (es.take (k+1)) ks)) (by omega) (fun o ho=>by rw[HT.out o,if_neg (by omega)]);rw[HT.out q,if_pos rfl,HM.out]at hW;have IG:=aa hW;clear hW;go_roundw;case rel=>exact⟨(hb.trans X).setCell (by simp) _,k+1,by omega,by go_num,(HW.out.1.ext X).set _ _,IG.out⟩
     case measure=>simp[intOf];omega
   | false=>
     have HT:Hid (dP (es.take (k+1)) ks=dP (es.take k) ks):=by show _ = _;rw[HN.out,hcon];simp
     have O5:=aa hcon;clear HN hcon;go_wp2_with (go_at_call 260;refine(rX xk _ (HK.out.ext (hb.trans HX.out)) HL.out).mono ?_;rw[O5.out];rintro e w4 ⟨rfl,b4⟩)
     go_roundw;case rel=>exact⟨hb.trans (HX.out.trans b4),k+1,by omega,by go_num,HW.out.1.ext (HX.out.trans b4),by rw[HT.out];exact HW.out.2.ext (HX.out.trans b4)⟩
     case measure=>simp[intOf];omega
  ·obtain rfl:k=es.length:=by omega
   have hA:=aa HW.out.1;have hWW:=HW.out.2;rw[List.take_length]at hWW;have w0:=hWW.2 0 (by omega);have w1:=hWW.2 1 (by omega);have w2:=hWW.2 2 (by omega);have w3:=hWW.2 3 (by omega);have w4:=hWW.2 4 (by omega);have w5:=hWW.2 5 (by omega);obtain⟨g,hg⟩:∃g,rowsOf (dP es ks)=g:=⟨_,rfl⟩;rw[hg]at w0 w1 w2 w3 w4 w5;have HGE:=aa hg;clear hg hWW;obtain⟨y0,z0⟩:=hA.out.cell (j:=0) (by omega);obtain⟨y1,z1⟩:=hA.out.cell (j:=1) (by omega);obtain⟨y2,z2⟩:=hA.out.cell (j:=2) (by omega);obtain⟨y3,z3⟩:=hA.out.cell (j:=3) (by omega);obtain⟨y4,z4⟩:=hA.out.cell (j:=4) (by omega);obtain⟨y5,z5⟩:=hA.out.cell (j:=5) (by omega);have s0:=dG hA.out (j:=0) (by omega) (.int .u64 (g 0:Nat));have hA1:=aa (hA.out.set ⟨w.heap.size,0,none⟩ (.int .u64 (g 0:Nat)));have s1:=dG hA1.out (j:=1) (by omega) (.int .u64 (g 1:Nat));have hA2:=aa (hA1.out.set ⟨w.heap.size,1,none⟩ (.int .u64 (g 1:Nat)));have s2:=dG hA2.out (j:=2) (by omega) (.int .u64 (g 2:Nat));have hA3:=aa (hA2.out.set ⟨w.heap.size,2,none⟩ (.int .u64 (g 2:Nat)));have s3:=dG hA3.out (j:=3) (by omega) (.int .u64 (g 3:Nat));have hA4:=aa (hA3.out.set ⟨w.heap.size,3,none⟩ (.int .u64 (g 3:Nat)));have s4:=dG hA4.out (j:=4) (by omega) (.int .u64 (g 4:Nat));have hA5:=aa (hA4.out.set ⟨w.heap.size,4,none⟩ (.int .u64 (g 4:Nat)));have s5:=dG hA5.out (j:=5) (by omega) (.int .u64 (g 5:Nat));have f0:=hA.out.free 0;have f1:=hA.out.free 1;have f2:=hA.out.free 2;have f3:=hA.out.free 3;have f4:=hA.out.free 4;have f5:=hA.out.free 5;go_wp2;refine bodyPost_ret (v:=yu g) (by simp[results,Tryz.results232,go_sem,s0,s1,s2,s3,s4,s5,yu]) rfl ?_;exact⟨by rw[HGE.out],(((((hb.setCell (Nat.le_refl _) _).setCell (Nat.le_refl _) _).setCell (Nat.le_refl _) _).setCell (Nat.le_refl _) _).setCell (Nat.le_refl _) _).setCell (Nat.le_refl _) _⟩
theorem KJ(w:World)(T:TypeId)(xs:List Int)(c:Nat):rM encI (w.alloc (.cells (xs.map encI).toArray T)) (.slice (some ⟨w.heap.size,0,none⟩) xs.length c) xs:=
 ⟨_,_,rfl,fun _=>⟨w.heap.size,0,rfl,by simp,fun i x hx=>by rw[Nat.zero_add];exact av (by simp[hx])⟩⟩
theorem yC(es:List Edge)(w:World)(hf:∀o,rowsOf es o<64) :
 Calls Tryz.prog 233 #[yu (rowsOf es)] w fun e w'=>e=.returned (.bool (Bz es))/\Ext w w':=PX (rowsOf es) w hf
theorem DZ{v:Value}{es:List Edge}(many:Nat)(kind:Int)(w:World)(hm:many<=6)(h:aF 3 aR w v es)(hl:es.length<=144)(hok:∀e∈es,edgeOk many e) :
 Calls Tryz.prog 202 #[.int .i64 (many:Int),v,.int .i64 kind] w fun e w'=>e=.returned (.bool (dX es kind))/\Ext w w':=by
 have H6:=aa (fun e he=>EW hm (hok e he));have UK:=aa (fun ks x=>JF (es:=dP es ks) (fun e he=>H6.out e (List.mem_filter.1 he).1) x);have HV:=aa (DF many w hm h hl hok);have HS:=aa h;obtain⟨A,c,rfl,hc0⟩:=id h;have HC:=aa hc0;have HLn:=aa hl;clear h hok hc0;by_cases k1:kind=1
 ·subst k1;have hf:Hid (dX es 1=Bz (dP es [1])):=by show _ = _;simp[dX]
  rw[hf.out];clear hl;go_enter Tryz.func202,Tryz.ntmps202
  go_wp2_with (first
   | (go_at_call 231;refine HV.out.mono ?_;rintro e w1 ⟨rfl,b1⟩)
   | (go_at_call 232;refine(pI _ (HS.out.ext (b1.alloc _)) (KJ w1 _ [1] 1) HLn.out (by decide) H6.out).mono ?_;rintro e w2 ⟨rfl,b2⟩)
   | (go_at_call 233;refine(yC _ _ (UK.out [1])).mono ?_;rintro e w3 ⟨rfl,b3⟩))
  go_returns;exact⟨rfl,(b1.alloc _).trans (b2.trans b3)⟩
 by_cases k2:kind=2
 ·subst k2;have hf:Hid (dX es 2=Bz (dP es [1,2])):=by show _ = _;simp[dX]
  rw[hf.out];clear hl k1;go_enter Tryz.func202,Tryz.ntmps202
  go_wp2_with (first
   | (go_at_call 231;refine HV.out.mono ?_;rintro e w1 ⟨rfl,b1⟩)
   | (go_at_call 232;refine(pI _ (HS.out.ext (b1.alloc _)) (KJ w1 _ [1,2] 2) HLn.out (by decide) H6.out).mono ?_;rintro e w2 ⟨rfl,b2⟩)
   | (go_at_call 233;refine(yC _ _ (UK.out [1,2])).mono ?_;rintro e w3 ⟨rfl,b3⟩))
  go_returns;exact⟨rfl,(b1.alloc _).trans (b2.trans b3)⟩
 by_cases k4:kind=4
 ·subst k4;have hf:Hid (dX es 4=Bz (dP es [1,2,3])):=by show _ = _;simp[dX]
  rw[hf.out];clear hl k1 k2;go_enter Tryz.func202,Tryz.ntmps202
  go_wp2_with (first
   | (go_at_call 231;refine HV.out.mono ?_;rintro e w1 ⟨rfl,b1⟩)
   | (go_at_call 232;refine(pI _ (HS.out.ext (b1.alloc _)) (KJ w1 _ [1,2,3] 3) HLn.out (by decide) H6.out).mono ?_;rintro e w2 ⟨rfl,b2⟩)
   | (go_at_call 233;refine(yC _ _ (UK.out [1,2,3])).mono ?_;rintro e w3 ⟨rfl,b3⟩))
  go_returns;exact⟨rfl,(b1.alloc _).trans (b2.trans b3)⟩
 by_cases k3:kind=3
 ·subst k3;have hf:Hid (dX es 3=es.any (lW es)):=by show _ = _;simp[dX]
  rw[hf.out];obtain⟨R,hR⟩:∃R,es.any (lW es)=R:=⟨_,rfl⟩;have HR:=aa hR;rw[hR];clear k1 k2 k4 hR hf;go_enter Tryz.func202,Tryz.ntmps202;go_wp2_with fail
  refine HV.out.mono ?_;rintro e w1 ⟨rfl,b1⟩;go_wp2_with fail
  refine(pI _ (HS.out.ext (b1.alloc _)) (KJ w1 _ [1,2] 2) HLn.out (by decide) H6.out).mono ?_
  rintro e w2 ⟨rfl,b2⟩;go_wp2_with fail
  refine(Jr _ _ (UK.out [1,2])).mono ?_
  rintro e w3 ⟨rfl,b3⟩;have hG:=O7 (UK.out [1,2]) 6;have qz:Hid (∀x,lW es x=(x.kind==3&&(qy (rowsOf (dP es [1,2])) 6 x.to.toNat).testBit x.dV.toNat)):=fun x=>rfl;obtain⟨g,hg⟩:∃g,qy (rowsOf (dP es [1,2])) 6=g:=⟨_,rfl⟩;have hOV:=qz.out;rw[hg]at hG hOV ⊢;have HG:=aa hG;have HOW:=aa hOV;clear hg hG hOV qz;unfold yu;have HZ:=aa (sD w3 g 237);have hb:=(b1.alloc (.cells #[.int .i64 1,.int .i64 2] 3)).trans (b2.trans b3);clear b1 b2 b3;go_wp2;go_loopw [35] (fun i wr=>Ext w wr/\∃k:Nat,k<=es.length/\i=.int .i64 k/\Hid (Words wr w3.heap.size 6 g)/\Hid (∀(i:Nat) x,i<k->es[i]? =some x->lW es x=false)) (fun i _=>es.length-(intOf i).toNat)
  case atStart=>exact⟨hb.alloc _,0,Nat.zero_le _,rfl,HZ.out,fun _ _ h=>absurd h (Nat.not_lt_zero _)⟩
  case round=>
   clear HZ hb;obtain⟨hb,k,hk,rfl,HW,HK⟩:=hrel;by_cases hlt:k<es.length
   ·obtain⟨b,off,rfl,hbl,hcell⟩:=HC.out (by omega);obtain⟨x,hx⟩:=af hlt;have c0:=hb.cell (hcell k x hx 0 (by omega));have c1:=hb.cell (hcell k x hx 1 (by omega));have c2:=hb.cell (hcell k x hx 2 (by omega));simp only[aR,Nat.add_zero]at c0 c1 c2;have hxo:=H6.out x (List.mem_of_getElem? hx);have Hx:=aa hx;obtain⟨xf,xt,xk⟩:=x;obtain⟨⟨xf0,xf6⟩,⟨xt0,xt6⟩,_,_,_⟩:=hxo;simp only at xf0 xf6 xt0 xt6;obtain⟨p,rfl⟩:=Int.eq_ofNat_of_zero_le xf0;obtain⟨q,rfl⟩:=Int.eq_ofNat_of_zero_le xt0;obtain⟨wo,rfl⟩:∃wo:World,wo=wr:=⟨_,rfl⟩;have HX:=aa ((Ext.refl wo).alloc (.cells #[.int .i64 (p:Int),.int .i64 (q:Int),.int .i64 xk] 177));clear hcell hx;by_cases h3:xk=3
    ·subst h3;have d0:=HX.out.cell (HW.out.2 0 (by omega));have d1:=HX.out.cell (HW.out.2 1 (by omega));have d2:=HX.out.cell (HW.out.2 2 (by omega));have d3:=HX.out.cell (HW.out.2 3 (by omega));have d4:=HX.out.cell (HW.out.2 4 (by omega));have d5:=HX.out.cell (HW.out.2 5 (by omega));obtain⟨t,ht⟩:∃t,(g q).testBit p=t:=⟨_,rfl⟩;have HT:=aa ht;clear ht;go_wp2_with fail
     refine(Sb g q p _ (by omega) (by omega) HG.out).mono ?_
     rw[HT.out];rintro e w4 ⟨rfl,b4⟩
     cases t with
     | true=>
       have hfin:Hid (true=R):=by show _ = _;rw[<-HR.out];symm;rw[List.any_eq_true];exact⟨_,List.mem_of_getElem? Hx.out,by rw[HOW.out];simp[HT.out]⟩
       go_wp2;go_returns;exact⟨aN hfin.out,hb.trans (HX.out.trans b4)⟩
     | false=>
       clear d0 d1 d2 d3 d4 d5;go_wp2;go_roundw;case rel=>exact⟨hb.trans (HX.out.trans b4),k+1,by omega,by go_num,HW.out.ext (HX.out.trans b4),fun i y hi hy=>by
        by_cases e:i=k
        ·subst e;rw[Hx.out]at hy;cases hy;rw[HOW.out];simp[HT.out]
        ·exact HK.out i y (by omega) hy⟩
       case measure=>simp[intOf];omega
    ·have hd:(xk==3)=false:=by simpa using h3
     go_wp2;go_roundw;case rel=>exact⟨hb.alloc _,k+1,by omega,by go_num,HW.out.ext HX.out,fun i y hi hy=>by
      by_cases e:i=k
      ·subst e;rw[Hx.out]at hy;cases hy;rw[HOW.out];simp[hd]
      ·exact HK.out i y (by omega) hy⟩
     case measure=>simp[intOf];omega
   ·obtain rfl:k=es.length:=by omega
    have hfin:Hid (false=R):=by
     show _ = _;rw[<-HR.out];symm;rw[List.any_eq_false];intro x hx;obtain⟨i,hi,rfl⟩:=List.getElem_of_mem hx;rw[HK.out i _ hi (List.getElem?_eq_getElem hi)]
     decide
    go_wp2;go_returns;exact⟨aN hfin.out,hb⟩
 ·have hf:Hid (dX es kind=false):=by show _ = _;simp[dX,k1,k2,k3,k4]
  rw[hf.out];have e1:(kind==1)=false:=by simpa using k1
  have e2:(kind==2)=false:=by simpa using k2
  have e3:(kind==3)=false:=by simpa using k3
  have e4:(kind==4)=false:=by simpa using k4
  clear hl;go_enter Tryz.func202,Tryz.ntmps202;go_wp2_with (go_at_call 231;refine HV.out.mono ?_;rintro e w1 ⟨rfl,b1⟩)
  go_returns;exact⟨rfl,b1⟩
def nR(h:List aA):List UInt8:=if qP h<0 then Df else Ya (qP h).toNat
def qG(h:List aA):List UInt8:=match dW h with
 | none=>Df
 | some ns=>Uu (numsL (ns.map fun(n:Nat)=>(n:Int)))
def wK(h:List aA):List UInt8:=Uu (wm h)
theorem TQ(h:List aA)(l:List (List (List Int))):∀m,-1<=kV h l m/\kV h l m<=4:=fun m=>by
 unfold kV;generalize l.take m=l;have key:∀(l:List (List (List Int))) (b:Int),-1<=b/\b<=4->-1<=l.foldl (fun b os=>max b (jP h (bZ h os):Int)) b/\l.foldl (fun b os=>max b (jP h (bZ h os):Int)) b<=4:=by
  intro l
  induction l with
  | nil=>intro b hb;exact hb
  | cons x l ih=>
    intro b hb;rw[List.foldl_cons];refine ih _ ?_
    have:=wN h (bZ h x)
    omega
 exact key l (-1) (by omega)
theorem M6(h:List aA):-1<=qP h/\qP h<=4:=TQ h _ _
theorem Rj(h:List aA)(all:List Nat):∀(f:Nat) (s:iV) (order r:List Nat),Np h all f s order=some r->r.length=order.length+f/\∀x∈r,x∈order∨x∈all
 | 0,s,order,r,e=>by cases e;exact⟨rfl,fun x hx=>.inl hx⟩
 | f+1,s,order,r,e=>by
   rw[Np]at e;obtain⟨n,hn,e⟩:=List.exists_of_findSome?_eq_some e;split at e
   ·cases e
   ·obtain⟨s',_,e⟩:=Option.bind_eq_some_iff.1 e;obtain⟨h1,h2⟩:=Rj h all f s' _ r e;refine⟨by rw[h1,List.length_append];simp;omega,fun x hx=>?_⟩;rcases h2 x hx with h3|h3
    ·rcases List.mem_append.1 h3 with h4|h4
     ·exact .inl h4
     ·simp at h4;subst h4;exact .inr hn
    ·exact .inr h3
theorem vQ{h:List aA}{r:List Nat}(e:dW h=some r):r.length<=h.length/\∀x∈r,x<h.length:=by
 obtain⟨h1,h2⟩:=Rj h _ _ _ _ _ e;refine⟨?_,fun x hx=>?_⟩
 ·rw[h1]
  have:(aH h).length<=(List.range h.length).length:=List.length_filter_le _ _
  simpa using this
 ·rcases h2 x hx with h3|h3
  ·cases h3
  ·have:=(List.mem_filter.1 h3).1
   simpa using this
def oJ:List UInt8:=[108,101,118,101,108]
def lQ:List UInt8:=[115,101,114,105,97,108]
def uF:List UInt8:=[116,101,120,116]
def Lp:List UInt8:=[112,117,116]
def LQ:List UInt8:=[114,117,110]
def zV:List UInt8:=[100,114,111,112]
noncomputable def Bc (h:List aA) (r:List UInt8):List aA × List UInt8:=match dh r with
 | some t=>if aC (h++[t])=true then (h++[t],Nl) else (h,Df)
 | none=>(h,Df)
noncomputable def Fb (h:List aA) (r:List UInt8):List aA × List UInt8:=match aV r with
 | some p=>(AY p,Nl)
 | none=>(h,Df)
def EJ(h:List aA)(n:Nat):List aA × List UInt8:=if n<h.length then (mg h n,Nl) else (h,Df)
noncomputable def fZ (h:List aA) (s:List UInt8):List aA × List UInt8:=
 if s=oJ then (h,nR h) else if s=lQ then (h,qG h) else if s=uF then (h,wK h)
 else if dR s=Lp/\dJ s≠[] then Bc h (dJ s)
 else if dR s=LQ/\dJ s≠[] then Fb h (dJ s)
 else if dR s=zV then match dD (dJ s) with
  | some n=>EJ h n
  | none=>(h,qg)
 else (h,qg)
theorem Od{s:List UInt8}:(s=oJ->dR s=oJ)/\(s=lQ->dR s=lQ)/\(s=uF->dR s=uF):=by refine⟨?_,?_,?_⟩<;>(rintro rfl;decide)
theorem KE{s:List UInt8}(h:dR s=Lp∨dR s=LQ∨dR s=zV):s≠oJ/\s≠lQ/\s≠uF:=by
 obtain⟨h1,h2,h3⟩:=Od (s:=s);refine⟨fun e=>?_,fun e=>?_,fun e=>?_⟩
 ·rw[h1 e]at h;revert h;decide
 ·rw[h2 e]at h;revert h;decide
 ·rw[h3 e]at h;revert h;decide
theorem Jh{h:List aA}{s:List UInt8}(hw:dR s=Lp)(hr:dJ s≠[]):fZ h s=Bc h (dJ s):=by obtain⟨h1,h2,h3⟩:=KE (.inl hw);rw[fZ,if_neg h1,if_neg h2,if_neg h3,if_pos ⟨hw,hr⟩]
theorem JQ{h:List aA}{s:List UInt8}(hw:dR s=LQ)(hr:dJ s≠[]):fZ h s=Fb h (dJ s):=by obtain⟨h1,h2,h3⟩:=KE (.inr (.inl hw));rw[fZ,if_neg h1,if_neg h2,if_neg h3,if_neg (fun e=>by rw[hw]at e;exact absurd e.1 (by decide)),if_pos ⟨hw,hr⟩]
theorem Gr{h:List aA}{s:List UInt8}{n:Nat}(hw:dR s=zV)(hr:dD (dJ s)=some n):fZ h s=EJ h n:=by obtain⟨h1,h2,h3⟩:=KE (.inr (.inr hw));rw[fZ,if_neg h1,if_neg h2,if_neg h3,if_neg (fun e=>by rw[hw]at e;exact absurd e.1 (by decide)),if_neg (fun e=>by rw[hw]at e;exact absurd e.1 (by decide)),if_pos hw,hr]
theorem Dq(h:List aA):fZ h oJ=(h,nR h):=if_pos rfl
theorem AU(h:List aA):fZ h lQ=(h,qG h):=by rw[fZ,if_neg (by decide),if_pos rfl]
theorem G5(h:List aA):fZ h uF=(h,wK h):=by rw[fZ,if_neg (by decide),if_neg (by decide),if_pos rfl]
theorem uy{h:List aA}{s:List UInt8}(h1:s≠oJ)(h2:s≠lQ)(h3:s≠uF)(h4:¬(dR s=Lp/\dJ s≠[]))(h5:¬(dR s=LQ/\dJ s≠[]))(h6:dR s=zV->dD (dJ s)=none):fZ h s=(h,qg):=by
 rw[fZ,if_neg h1,if_neg h2,if_neg h3,if_neg h4,if_neg h5];split
 ·rename_i hw;rw[h6 hw]
 ·rfl
theorem YU{h:List aA}(hok:aC h=true)(r:List UInt8):aC (Bc h r).1=true:=by
 unfold Bc;split
 ·split
  ·rename_i h';exact h'
  ·exact hok
 ·exact hok
theorem XV{h:List aA}(hok:aC h=true)(r:List UInt8):aC (Fb h r).1=true:=by
 unfold Fb;split
 ·rename_i p e;exact Ey (jB.1 e).1
 ·exact hok
theorem Vo{h:List aA}(hok:aC h=true)(n:Nat):aC (EJ h n).1=true:=by
 unfold EJ;split
 ·exact EX hok n
 ·exact hok
theorem Fw{h:List aA}(hok:aC h=true)(s:List UInt8):aC (fZ h s).1=true:=by
 unfold fZ
 repeat' split
 all_goals first
  | exact hok
  | exact YU hok _
  | exact XV hok _
  | exact Vo hok _
