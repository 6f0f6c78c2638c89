/- All that is printed for this seat. -/
import Derived.Test.YtkaeboabpahemaaDoorGs3
import Derived.Test.YtkaeboabpahemaaDoorVtRule
