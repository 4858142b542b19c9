import Derived.Test.YtmdijgmnopidpaaDoorShaGP
import Derived.Test.YtmdijgmnopidpaaDoorShaD
set_option linter.unusedVariables false
set_option linter.unusedSimpArgs false
namespace Go.Proofs.YtmdijgmnopidpaaDoor
open Go.Ch
theorem consts_are : (prN 310).map (fracF true) = consts := by decide +kernel
theorem begins_are : (prN 18).map (fracF false) = begin8.list := by decide +kernel
end Go.Proofs.YtmdijgmnopidpaaDoor
