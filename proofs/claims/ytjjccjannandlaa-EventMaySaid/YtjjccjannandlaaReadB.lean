/- The reader: Blob's closure where it halts. -/
import Derived.Test.YtjjccjannandlaaReadA
set_option linter.unusedVariables false
set_option linter.unusedSimpArgs false
namespace Go.Proofs.Ytjjccjannandlaa
open Go.RowKit Go.BigFrame

end Go.Proofs.Ytjjccjannandlaa
