/- All that is printed for this seat. -/
import Derived.Test.YtpgimlllchibnaaDoorGd5
import Derived.Test.YtpgimlllchibnaaDoorVtRule
