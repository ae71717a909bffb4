/- Texts joined for one claim: Shelf. -/
import Derived.Test.YtpgfkjcekhifiaaProg
import Derived.Shelf.Lay
import Derived.Shelf.LaySoft

/- Contracts of the functions of the library that this program calls, laid at its dump (written by the kit's tools lay-shelf and lay-plain). -/
namespace Go.Proofs
open Go.Shelf
shelf_tried
end Go.Proofs
