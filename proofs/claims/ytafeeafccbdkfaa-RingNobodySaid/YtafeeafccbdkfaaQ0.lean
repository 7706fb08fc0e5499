/- Words on rings, whatever they hold. -/
import Derived.Test.YtafeeafccbdkfaaProg
import Derived.Test.YtafeeafccbdkfaaB2
import Derived.Test.YtafeeafccbdkfaaM
namespace Go.Proofs.Ytafeeafccbdkfaa
open Go.RowKit

/-- What a call on a ring may turn. -/
def Tch (p : Nat) (A : Option Addr) (k : Nat) : Prop := k = p ∨ inA A k
/-- Where the row lies that a call leaves. -/
def Frs (w : World) (A A' : Option Addr) : Prop := ∀ k, inA A' k → inA A k ∨ w.heap.size ≤ k

end Go.Proofs.Ytafeeafccbdkfaa
