/- The reader: Blob's closure where there is not enough. -/
import Derived.Test.YtjjccjannandlaaReadB
set_option linter.unusedVariables false
set_option linter.unusedSimpArgs false
namespace Go.Proofs.Ytjjccjannandlaa
open Go.RowKit Go.BigFrame

end Go.Proofs.Ytjjccjannandlaa
