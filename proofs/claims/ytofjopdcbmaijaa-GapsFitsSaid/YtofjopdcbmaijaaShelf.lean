/- This seat's walks use none of the library's laid contracts; the modules that its texts lean on. -/
import Derived.Ground.Names2Prog
import Derived.Shelf.Slices.CompactI
import Derived.Shelf.Slices.Cells
import Derived.Shelf.Slices.In.SortNone
import Derived.Test.YtofjopdcbmaijaaProg
