/- Texts joined for one claim: GrpW. -/
import Derived.Test.YtpgfkjcekhifiaaGreatQ85d3a9a442
import Derived.Test.YtpgfkjcekhifiaaGreatQ53ae14c1bb
import Derived.Test.YtpgfkjcekhifiaaGreatQ49d4809e82


