/- Lemmas. -/
import Derived.Test.YtcdopfdgknglfaaGreatDoorCAI
set_option maxHeartbeats 16000000
set_option maxRecDepth 8000
set_option linter.all false
namespace Go.Proofs.YtcdopfdgknglfaaGreatDoor
open Go.RowKit
section
open Go.RowKit
end
theorem DD(a b:List ((Int × Int) × Nat))(q:Int × Int):lookW (a++b) q=(lookW a q).or (lookW b q):=by unfold lookW;rw[List.find?_append];cases a.find? (λp=>p.1==q)<;>simp
