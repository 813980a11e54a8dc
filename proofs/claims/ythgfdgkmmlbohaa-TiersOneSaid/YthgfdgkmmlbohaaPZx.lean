-- Written by wip/print2.sh of this repo (a patched copy of the kit's print, with contracts proved by hand).
import Derived.Test.YthgfdgkmmlbohaaPZx0
import Derived.Test.YthgfdgkmmlbohaaPZx1
import Derived.Test.YthgfdgkmmlbohaaPZx2
import Derived.Test.YthgfdgkmmlbohaaPZx3
import Derived.Test.YthgfdgkmmlbohaaPZx4
namespace Go.Proofs.Ythgfdgkmmlbohaa.PZ
open Go.RowKit Go.Proofs.YthgfdgkmmlbohaaW.PrintWords Go.Proofs.YthgfdgkmmlbohaaW.PrintLast Go.Proofs.YthgfdgkmmlbohaaW.PrintMore
attribute [local go_sem] max2_int min2_int max_two min_two max_three min_three max_four min_four   -- for this text's walks alone
set_option linter.unusedVariables false
set_option linter.unusedSimpArgs false

end Go.Proofs.Ythgfdgkmmlbohaa.PZ
