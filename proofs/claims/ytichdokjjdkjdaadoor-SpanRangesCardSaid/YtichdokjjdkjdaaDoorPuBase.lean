/- All that is printed for this seat. -/
import Derived.Test.YtichdokjjdkjdaaDoorSp3
import Derived.Test.YtichdokjjdkjdaaDoorVtRule
