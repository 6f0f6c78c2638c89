/- All that is printed for this seat. -/
import Derived.Test.YtalnmpfjgiecdaaDoorGw4
import Derived.Test.YtalnmpfjgiecdaaDoorVtRule
