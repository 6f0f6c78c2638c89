/- All that is printed for this seat. -/
import Derived.Test.YtalnmpfjgiecdaaDoorGi4
import Derived.Test.YtalnmpfjgiecdaaDoorVtRule
