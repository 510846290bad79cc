/- Lemmas. -/
import Derived.Test.YtcdopfdgknglfaaGreatDoorCAQ
set_option maxHeartbeats 16000000
set_option maxRecDepth 8000
set_option linter.all false
namespace Go.Proofs.YtcdopfdgknglfaaGreatDoor
open Go.RowKit
theorem CO(d:Nat)(hd:d<10)(x:Int)(hx:x=48+(d:Int))(w:World):(convert 22 9 (.slice (some ⟨w.heap.size,0,none⟩) 1 1)).run Tryz.prog (w.alloc (.cells #[.int .u8 x] 5))=.ok (.string (tx [mW d])) (w.alloc (.cells #[.int .u8 x] 5)):=
 run_convert_bytes_back _ _ _ 5 _ 1 [mW d] Tryz.underlying22 Tryz.underlying5 Tryz.underlying9 (λj hj=>by
  obtain rfl:j=0:=by simpa using hj
  simp only[List.getElem_cons_zero,mH hd];have e:((48+d:Nat):Int)=x:=by omega
  rw[e];exact az rfl)
theorem mJ(x:Int)(w:World)(h0:0<=x)(h1:x<100) :
 Calls Tryz.prog 53 #[.int .i64 x] w λe w'=>e=.returned (.string (tx (dh x.toNat)))/\Ext w w':=by
 obtain⟨n,rfl⟩:=iH h0;rw[oN];have hd1:=CO (n%10) (by omega) (48+(n:Int)%10) (by omega);have hd2:=CO (n/10) (by omega) (48+(n:Int)/10%10) (by omega);have a1:=dI [mW (n/10)] [mW (n%10)] (by simp);have HN:Hid (dh n=if n<10 then [mW n] else [mW (n/10),mW (n%10)]):=rfl;go_enter Tryz.func53,Tryz.ntmps53;go_wp2;go_loopw [0,3] (λa o wr=>Ext w wr/\∃(m:Nat) (l:List UInt8),a=.int .i64 (m:Int)/\o=.string (tx l)/\Hid ((m=n/\l=[mW (n%10)])∨(10<=n/\m=n/10/\l=dh n))) (λa _ _=>(intOf a).toNat)
 case atStart=>exact⟨(af _).alloc _,n,_,rfl,rfl,.inl ⟨rfl,rfl⟩⟩
 case round=>
  obtain⟨hb,m,l,rfl,rfl,HC⟩:=hrel;rcases HC.out with ⟨rfl,rfl⟩|⟨h10,rfl,rfl⟩
  ·by_cases h9:9<m
   ·go_wp2;go_roundw;case rel=>exact⟨(hb.alloc _),m/10,_,by go_num,rfl,.inr ⟨by omega,rfl,by rw[HN.out,ak (by omega)]⟩⟩
    case measure=>simp[intOf];omega
   ·go_wp2;go_returns;exact⟨by rw[HN.out,ah (by omega),xZ (by omega)];rfl,hb⟩
  ·go_wp2;go_returns;exact⟨rfl,hb⟩
theorem I4{l:List (List UInt8)}{k:Nat}{x:List UInt8}(hx:l[k]? =some x)(sep:List UInt8):joinL sep (l.take (k+1))=(if 0<k then joinL sep (l.take k)++sep else joinL sep (l.take k))++x:=by
 by_cases hk:0<k
 ·rw[ah hk,AU hk hx]
 ·obtain rfl:k=0:=by omega
  rw[ak (by omega),wM hx];rfl
theorem AJ(sep:List UInt8)(M:Nat){ws:List (List UInt8)}(h:∀w∈ws,w.length<=M)(k:Nat):(joinL sep (ws.take k)).length<=ws.length*(M+sep.length):=
 aR (mY sep M _ (λw hw=>h w (uA hw))) (Nat.mul_le_mul_right _ (by rw[ig];omega))
