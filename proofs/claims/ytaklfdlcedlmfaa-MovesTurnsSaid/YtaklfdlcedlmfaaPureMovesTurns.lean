/- MovesTurns: the plain law, under the row's name. -/
import Derived.Test.YtaklfdlcedlmfaaPureTurns
namespace Go.Proofs.Ytaklfdlcedlmfaa.Pure
open Go.Proofs.Ytaklfdlcedlmfaa.XM
theorem MovesTurns : mandrellaw20_MovesTurns.Pure := movesTurns_pure
end Go.Proofs.Ytaklfdlcedlmfaa.Pure
