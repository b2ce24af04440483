/- log.Fights: two commits fight. -/
import Derived.Test.YtcpnnffnkegamaaGreatDoorLZ10
namespace Go.Proofs.YtcpnnffnkegamaaGreatDoor
set_option linter.unusedSimpArgs false
set_option linter.unusedVariables false
open Go.RowKit
set_option linter.all false
end Go.Proofs.YtcpnnffnkegamaaGreatDoor
