/- All that is printed for this seat. -/
import Derived.Test.YtkaeboabpahemaaDoorGr3
import Derived.Test.YtkaeboabpahemaaDoorVtRule
