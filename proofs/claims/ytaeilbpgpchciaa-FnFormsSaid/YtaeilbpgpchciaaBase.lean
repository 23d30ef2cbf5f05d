/- Contracts of the statements' own helpers: copies of the arguments, comparisons, sizes. -/
import Derived.Test.YtaeilbpgpchciaaProg
import Derived.Test.YtaeilbpgpchciaaMem
import Derived.Outline
import Derived.KernelRfl
namespace Go.Proofs.Ytaeilbpgpchciaa
open Go.RowKit
set_option linter.unusedVariables false

theorem infoInt64 : (Try.prog.info? 2).map (fun i => (i.zero, i.size, i.bytes)) = some (some (.int .i64 0), 1, 8) := by kernel_rfl

end Go.Proofs.Ytaeilbpgpchciaa
