/- tabellionlaw21.ConjWhole, ConjMoves and ConjEqual return true, for arguments of bulk at most 1048576, and leave all memory as it was. -/
import Derived.Test.YtjmpnpkcgkhagaaGreatCtr27
namespace Go.Proofs.YtjmpnpkcgkhagaaGreat
#print axioms conjWholeUpto.proved
#print axioms conjMovesUpto.proved
#print axioms conjEqualUpto.proved
end Go.Proofs.YtjmpnpkcgkhagaaGreat
