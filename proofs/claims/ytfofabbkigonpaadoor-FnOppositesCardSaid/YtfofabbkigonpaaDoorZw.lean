/- Texts that belong together. -/
import Derived.Deep.SlicePairs
import Derived.Test.YtfofabbkigonpaaDoorZh
import Derived.Test.YtfofabbkigonpaaDoorZj
import Derived.Test.YtfofabbkigonpaaDoorZp
set_option linter.unusedSimpArgs false
set_option linter.unusedVariables false
set_option maxRecDepth 100000
