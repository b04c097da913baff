/- The reader: Blob. -/
import Derived.Test.YtjjccjannandlaaRead9
import Derived.Test.YtjjccjannandlaaKitE
set_option linter.unusedVariables false
set_option linter.unusedSimpArgs false
namespace Go.Proofs.Ytjjccjannandlaa
open Go.RowKit Go.BigFrame

/-- What a reading's closure leaves that wrote a row of its own. -/
def WroteB (p q2 B : Nat) (xs ys : List Int) (S : Value) (a : Int) (w1 w' : World) : Prop := ∃ w2 v, But p w1 w2 ∧ w' = w2.setCell ⟨q2, 0, none⟩ v ∧ Rd w' p xs S a 0 ∧ w'.cell? ⟨q2, 0, none⟩ = some v ∧ w'.frozen? ⟨q2, 0, none⟩ = false ∧ OwnBytes w2 B v ys

end Go.Proofs.Ytjjccjannandlaa
