/- Texts that belong together. -/
import Derived.Test.YtfofabbkigonpaaDoorX6
import Derived.Test.YtfofabbkigonpaaDoorX7
