/- Texts that belong together. -/
import Derived.KernelRfl
