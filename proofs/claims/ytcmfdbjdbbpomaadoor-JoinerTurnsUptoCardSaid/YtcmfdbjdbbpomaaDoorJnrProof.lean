/- JoinerSays and JoinerTurns, each proved in its own text: taken together here. -/
import Derived.Test.YtcmfdbjdbbpomaaDoorJnr20
namespace Go.Proofs.YtcmfdbjdbbpomaaDoor.jnrTwo
open Go
theorem both : Rows.JoinerSaysUptoCardSaid ∧ Rows.JoinerTurnsUptoCardSaid := ⟨joinerSaysUpto.proved, joinerTurnsUpto.proved⟩
end Go.Proofs.YtcmfdbjdbbpomaaDoor.jnrTwo
