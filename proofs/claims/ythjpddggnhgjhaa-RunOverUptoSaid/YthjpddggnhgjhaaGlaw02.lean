/- PRINTED by wip/tools/shallow.py: functions of the program as readable words, and that each is what its text says. -/
import Derived.Test.YthjpddggnhgjhaaGn
set_option linter.unusedVariables false
set_option linter.unusedSimpArgs false
namespace Go.Proofs.Ythjpddggnhgjhaa.Ah
open Go Go.Proofs.Try
noncomputable section



end
end Go.Proofs.Ythjpddggnhgjhaa.Ah
