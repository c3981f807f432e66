/- Texts that belong together. -/
import Derived.Test.YtcneanpkpmfaiaaGreatQ1
import Derived.Test.YtcneanpkpmfaiaaGreatR9
set_option linter.unusedSimpArgs false
set_option linter.unusedVariables false
set_option maxRecDepth 100000
