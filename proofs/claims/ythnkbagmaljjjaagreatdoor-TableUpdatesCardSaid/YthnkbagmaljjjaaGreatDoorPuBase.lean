/- All that is printed for this seat. -/
import Derived.Test.YthnkbagmaljjjaaGreatDoorTu4
import Derived.Test.YthnkbagmaljjjaaGreatDoorVtHeap
