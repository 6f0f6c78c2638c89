/- All that is printed for this seat. -/
import Derived.Test.YtfekkhinjdmcbaaDoorGa2
import Derived.Test.YtfekkhinjdmcbaaDoorVtRule
