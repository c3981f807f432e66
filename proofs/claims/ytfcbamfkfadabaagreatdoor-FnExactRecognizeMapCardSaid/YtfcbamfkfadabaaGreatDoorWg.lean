/- Texts that belong together. -/
import Derived.Test.YtfcbamfkfadabaaGreatDoorZe
set_option linter.unusedSimpArgs false
set_option linter.unusedVariables false
