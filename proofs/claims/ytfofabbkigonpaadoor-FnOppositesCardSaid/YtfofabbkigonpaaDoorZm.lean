/- Texts that belong together. -/
import Derived.Test.YtfofabbkigonpaaDoorZl
