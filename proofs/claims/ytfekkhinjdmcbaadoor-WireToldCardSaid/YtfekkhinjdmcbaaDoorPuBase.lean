/- All that is printed for this seat. -/
import Derived.Test.YtfekkhinjdmcbaaDoorWt3
import Derived.Test.YtfekkhinjdmcbaaDoorVtRule
