/- All that is printed for this seat. -/
import Derived.Test.YteilidpbnndnpaaDoorSr2
import Derived.Test.YteilidpbnndnpaaDoorVtRule
