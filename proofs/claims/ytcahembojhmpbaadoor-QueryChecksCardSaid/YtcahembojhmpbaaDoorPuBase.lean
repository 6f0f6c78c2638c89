/- All that is printed for this seat. -/
import Derived.Test.YtcahembojhmpbaaDoorKq5
import Derived.Test.YtcahembojhmpbaaDoorVtRule
