/- All that is printed for this seat. -/
import Derived.Test.YtglgdaeimfdpfaaDs0
import Derived.Test.YtglgdaeimfdpfaaVtRule
