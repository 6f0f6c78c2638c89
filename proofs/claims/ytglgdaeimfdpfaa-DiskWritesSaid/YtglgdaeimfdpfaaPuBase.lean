/- All that is printed for this seat. -/
import Derived.Test.YtglgdaeimfdpfaaDw0
import Derived.Test.YtglgdaeimfdpfaaVtRule
