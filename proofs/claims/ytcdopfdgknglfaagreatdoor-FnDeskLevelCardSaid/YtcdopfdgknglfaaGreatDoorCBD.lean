/- Lemmas. -/
import Derived.Test.YtcdopfdgknglfaaGreatDoorCAV
import Derived.Test.YtcdopfdgknglfaaGreatDoorCBC
set_option maxHeartbeats 16000000
set_option maxRecDepth 8000
set_option linter.all false
namespace Go.Proofs.YtcdopfdgknglfaaGreatDoor
open Go.RowKit
theorem Lp{p:List dZ}(hp:bJ p=true):(dR p).length<=88:=by
 have hl:p.length<=4:=jB hp
 have:=AJ [59,32] 20 (ws:=p.map bZ) (λx hx=>by
  obtain⟨d,hd,rfl⟩:=dX.1 hx
  have:=lJ (cZ hp hd) (d.steps.length+1)
  rw[jV]at this;exact this) p.length
 rw[dF,jZ (by rw[dF];exact ay _)]at this;simp only[eF,jK]at this;show (joinL [59,32] (p.map bZ)).length<=88;omega
