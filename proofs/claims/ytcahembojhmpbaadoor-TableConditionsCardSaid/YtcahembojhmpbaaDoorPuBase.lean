/- All that is printed for this seat. -/
import Derived.Test.YtcahembojhmpbaaDoorKm4
import Derived.Test.YtcahembojhmpbaaDoorVtRule
