/- Walks: lists compared; elements deleted Written out by fill2.py. No condition. -/
import Derived.Test.YtompindebndddaaZE8
import Derived.Test.YtompindebndddaaG32
import Derived.Test.YtompindebndddaaZK6
