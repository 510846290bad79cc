/- Lemmas. -/
import Derived.Test.YtcdopfdgknglfaaGreatDoorCBA
set_option maxHeartbeats 16000000
set_option maxRecDepth 8000
set_option linter.all false
namespace Go.Proofs.YtcdopfdgknglfaaGreatDoor
open Go.RowKit
theorem Row.keep{α:Type}{e:TypeId}{m:Nat}{enc:α->Nat->Value}{base:Nat}{w w':World}{v:Value}{xs:List α}{row:Option Nat}(h:Row e m enc base w v xs)(hg:w.grownBy w' row)(hr:∀k,v.ownBlock=some k->row≠some k):Row e m enc base w' v xs:=by
 refine World.ownsRow.kept h hg ?_
 cases hv:v.ownBlock with
 | none=>exact .inl rfl
 | some k=>exact .inr (λe=>hr k hv e.symm)
theorem eT.lit{base n c:Nat}(w:World)(cs:Array Value)(xs:List aJ)(hcs:cs.toList=xs.flatMap (aG 3 encOpr))(hn:w.heap.size=n)(hb:base<=n)(hc:xs.length<=c/\c<=9223372036854775807):eT base (w.alloc (.cells cs 67)) (.slice (some ⟨n,0,Option.none⟩) xs.length c) xs:=by
 subst hn;refine⟨aI.lit w cs _ c xs hcs,jP hc.1 hc.2,λa m d e hm=>?_,λa m d e hm=>?_⟩
 ·injection e with e _ _;injection e with e;subst e;exact⟨hb,by simp,λi=>by simp only[World.frozen?,dx];simp⟩
 ·injection e with e _ _;injection e with e;subst e;exact⟨cs,_,dx w _⟩
