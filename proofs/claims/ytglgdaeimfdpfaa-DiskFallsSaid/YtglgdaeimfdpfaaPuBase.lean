/- All that is printed for this seat. -/
import Derived.Test.YtglgdaeimfdpfaaDf4
import Derived.Test.YtglgdaeimfdpfaaVtRule
