/- All that is printed for this seat. -/
import Derived.Test.YtglgdaeimfdpfaaTo1
import Derived.Test.YtglgdaeimfdpfaaVtRule
