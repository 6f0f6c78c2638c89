/- All that is printed for this seat. -/
import Derived.Test.YtglgdaeimfdpfaaGd1
import Derived.Test.YtglgdaeimfdpfaaVtRule
