/- Texts that belong together. -/
import Derived.Test.YtcneanpkpmfaiaaGreatY3
set_option linter.unusedSimpArgs false
set_option linter.unusedVariables false
set_option maxRecDepth 100000
