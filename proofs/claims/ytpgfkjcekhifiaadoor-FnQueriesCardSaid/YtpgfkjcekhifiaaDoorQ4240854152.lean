/- Texts joined for one claim: GrpW. -/
import Derived.Test.YtpgfkjcekhifiaaDoorQ60a5e7e0ea
import Derived.Test.YtpgfkjcekhifiaaDoorQ37916211e5
import Derived.Test.YtpgfkjcekhifiaaDoorQe474a92ab8

/- Contracts of GroupCounts, as the law's walk takes them. -/
namespace Go.Proofs.YtpgfkjcekhifiaaDoor
open Go.RowKit
set_option linter.unusedVariables false

end Go.Proofs.YtpgfkjcekhifiaaDoor
