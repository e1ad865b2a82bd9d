/- Walks: Same. -/
import Derived.Test.YtalhmpggpjbeaaaGreatDoorJ2
import Derived.Test.YtalhmpggpjbeaaaGreatDoorJ5
namespace Go.Proofs.YtalhmpggpjbeaaaGreatDoor
open Go.RowKit Go.Deep

end Go.Proofs.YtalhmpggpjbeaaaGreatDoor
