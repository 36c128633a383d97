/- Walks: what is gone through, on; clauses. Written out by fill2.py. No condition. -/
import Derived.Test.YtompindebndddaaZB3
