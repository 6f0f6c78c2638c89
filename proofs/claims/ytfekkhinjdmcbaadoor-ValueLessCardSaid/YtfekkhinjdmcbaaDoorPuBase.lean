/- All that is printed for this seat. -/
import Derived.Test.YtfekkhinjdmcbaaDoorGv2
import Derived.Test.YtfekkhinjdmcbaaDoorVtRule
