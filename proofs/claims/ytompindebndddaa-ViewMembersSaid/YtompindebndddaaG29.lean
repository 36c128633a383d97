/- The code of some functions, node by node, for simp. Written by a program (mkcode.py). No condition. -/
import Derived.Test.YtompindebndddaaG26
import Derived.Test.YtompindebndddaaG22
import Derived.KernelRfl
import Derived.Test.YtompindebndddaaG25
import Derived.Test.YtompindebndddaaG15
