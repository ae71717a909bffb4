/- Texts joined for one claim: SortI. -/
import Derived.Test.YtpgfkjcekhifiaaGreatQ47bb03e535
import Derived.Test.YtpgfkjcekhifiaaGreatQ22cca73baf
import Derived.Sort.OwnSortedInts
import Derived.Lib.SlicesCompact


