/- All that is printed for this seat. -/
import Derived.Test.YtfekkhinjdmcbaaDoorCd2
import Derived.Test.YtfekkhinjdmcbaaDoorVtRule
