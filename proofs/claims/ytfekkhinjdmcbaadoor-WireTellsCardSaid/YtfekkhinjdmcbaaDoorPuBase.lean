/- All that is printed for this seat. -/
import Derived.Test.YtfekkhinjdmcbaaDoorEn3
import Derived.Test.YtfekkhinjdmcbaaDoorVtRule
