/- The walk. -/
import Derived.Test.YtlncfkgodioocaaSo4
import Derived.Test.YtlncfkgodioocaaKN
import Derived.Test.YtlncfkgodioocaaProg
import Derived.KernelRfl
set_option linter.all false
set_option maxHeartbeats 2000000
namespace Go.Proofs
open Go Go.AM
attribute [local irreducible] Run Ends
theorem symsSorts_ok (l : List (List Bs)) (hl : wordsC l) : @FOk ⟨False⟩ Try.prog 10 [.v (.words l)] [] (.B true) [] := lSorts_any fok14 l hl

end Go.Proofs
