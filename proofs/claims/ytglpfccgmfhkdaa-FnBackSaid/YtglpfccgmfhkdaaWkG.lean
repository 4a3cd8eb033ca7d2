/- Walks and summaries of functions, printed by a program of mine (tools/mk.py), with the proofs of what they owe. -/

import Derived.Test.YtglpfccgmfhkdaaProg
import Derived.Test.YtglpfccgmfhkdaaSpG
import Derived.Test.YtglpfccgmfhkdaaWkA
set_option linter.unusedVariables false
set_option maxRecDepth 100000
set_option maxHeartbeats 4000000
set_option linter.unusedSimpArgs false
namespace Go.Proofs.Ytglpfccgmfhkdaa.Fw
open Go
attribute [local irreducible] evS evSD WpS Weak Oper.looksAt
end Go.Proofs.Ytglpfccgmfhkdaa.Fw
