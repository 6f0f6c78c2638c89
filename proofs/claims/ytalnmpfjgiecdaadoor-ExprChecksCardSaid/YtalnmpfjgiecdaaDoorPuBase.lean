/- All that is printed for this seat. -/
import Derived.Test.YtalnmpfjgiecdaaDoorGe2
import Derived.Test.YtalnmpfjgiecdaaDoorVtRule
