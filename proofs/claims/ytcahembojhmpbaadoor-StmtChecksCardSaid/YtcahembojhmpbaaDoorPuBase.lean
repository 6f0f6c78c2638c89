/- All that is printed for this seat. -/
import Derived.Test.YtcahembojhmpbaaDoorKs5
import Derived.Test.YtcahembojhmpbaaDoorVtRule
