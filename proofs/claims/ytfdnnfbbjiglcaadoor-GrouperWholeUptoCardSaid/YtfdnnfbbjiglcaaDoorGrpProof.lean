/- GrouperSays and GrouperWhole, each proved in its own text: taken together here. -/
import Derived.Test.YtfdnnfbbjiglcaaDoorGrp19
namespace Go.Proofs.YtfdnnfbbjiglcaaDoor.grpTwo
open Go
theorem both : Rows.GrouperSaysUptoCardSaid ∧ Rows.GrouperWholeUptoCardSaid := ⟨grouperSaysUpto.proved, grouperWholeUpto.proved⟩
end Go.Proofs.YtfdnnfbbjiglcaaDoor.grpTwo
