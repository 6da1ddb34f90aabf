/- The functions of the program, each in its shallow form. -/
import Derived.Test.YtlmafbdhhneokaaGreatKS1
import Derived.Test.YtlmafbdhhneokaaGreatKS2
import Derived.Test.YtlmafbdhhneokaaGreatKS3
