/- A closed fact of the loaded program. Nothing here is a statement on the program. -/
import Derived.Test.YtfphpafkhljncaaGreatRows
import Derived.KernelRfl
import Derived.ProofKit
import Derived.JoinedOf
namespace Go.Proofs.YtfphpafkhljncaaGreat
open Go
theorem fct_enter : Tryz.pinned.checked.prog.mayEnter = true := by kernel_rfl
end Go.Proofs.YtfphpafkhljncaaGreat
