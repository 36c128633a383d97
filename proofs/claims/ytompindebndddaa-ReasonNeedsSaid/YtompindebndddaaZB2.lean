/- Walks: what is gone through, on; lists of one's own. Written out by fill2.py. No condition. -/
import Derived.Test.YtompindebndddaaG20
