/- All that is printed for this seat. -/
import Derived.Test.YthnkbagmaljjjaaGreatDoorTu5
import Derived.Test.YthnkbagmaljjjaaGreatDoorVtClo
