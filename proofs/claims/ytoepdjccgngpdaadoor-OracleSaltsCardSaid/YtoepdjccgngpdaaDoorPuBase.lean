/- All that is printed for this seat. -/
import Derived.Test.YtoepdjccgngpdaaDoorGs8
import Derived.Test.YtoepdjccgngpdaaDoorVtRule
