/- What the reference's tell leaves, as plain data; events of its rows. -/
import Derived.Test.YtbaknecnkipooaaM34
import Derived.Test.YtbaknecnkipooaaM35

