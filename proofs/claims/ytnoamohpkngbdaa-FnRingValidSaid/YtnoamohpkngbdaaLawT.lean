/-
  Gathers: what the laws over a drawn ring stand on.
-/
import Derived.Test.YtnoamohpkngbdaaDraw9
import Derived.Test.YtnoamohpkngbdaaISafe
import Derived.Test.YtnoamohpkngbdaaHas
