/- The functions of the program, each in its shallow form. -/
import Derived.Test.YtcdbamkjlghckaaKS1
import Derived.Test.YtcdbamkjlghckaaKS2
