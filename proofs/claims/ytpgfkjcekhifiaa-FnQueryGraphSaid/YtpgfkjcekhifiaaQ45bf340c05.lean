/- Texts joined for one claim: GrpW. -/
import Derived.Test.YtpgfkjcekhifiaaQ5ea3a3801b
import Derived.Test.YtpgfkjcekhifiaaQ72d596885d
import Derived.Test.YtpgfkjcekhifiaaQ0f6c7a541b

/- Contracts of GroupCounts, as the law's walk takes them. -/
namespace Go.Proofs.Ytpgfkjcekhifiaa
open Go.RowKit
set_option linter.unusedVariables false

end Go.Proofs.Ytpgfkjcekhifiaa
