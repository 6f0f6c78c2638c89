/- All that is printed for this seat. -/
import Derived.Test.YtalnmpfjgiecdaaDoorGt3
import Derived.Test.YtalnmpfjgiecdaaDoorVtRule
