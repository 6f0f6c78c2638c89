/- All that is printed for this seat. -/
import Derived.Test.YthnkbagmaljjjaaDoorEv3
import Derived.Test.YthnkbagmaljjjaaDoorVtHeap
