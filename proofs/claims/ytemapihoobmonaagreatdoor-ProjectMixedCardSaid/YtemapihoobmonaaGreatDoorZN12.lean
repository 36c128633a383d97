/- Walks: an atom read, by the document. Written out by fill2.py. No condition. -/
import Derived.Test.YtemapihoobmonaaGreatDoorG33
import Derived.Test.YtemapihoobmonaaGreatDoorG36
