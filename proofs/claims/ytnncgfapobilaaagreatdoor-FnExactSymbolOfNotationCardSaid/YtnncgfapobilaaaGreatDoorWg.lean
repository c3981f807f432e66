/- Texts that belong together. -/
import Derived.Test.YtnncgfapobilaaaGreatDoorZe
set_option linter.unusedSimpArgs false
set_option linter.unusedVariables false
