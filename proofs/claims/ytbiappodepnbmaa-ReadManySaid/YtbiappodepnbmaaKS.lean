/- The functions of the program, each in its shallow form. -/
import Derived.Test.YtbiappodepnbmaaKS1
import Derived.Test.YtbiappodepnbmaaKS2
