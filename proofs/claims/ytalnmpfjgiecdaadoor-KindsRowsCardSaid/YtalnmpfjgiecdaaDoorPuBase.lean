/- All that is printed for this seat. -/
import Derived.Test.YtalnmpfjgiecdaaDoorGl3
import Derived.Test.YtalnmpfjgiecdaaDoorVtRule
