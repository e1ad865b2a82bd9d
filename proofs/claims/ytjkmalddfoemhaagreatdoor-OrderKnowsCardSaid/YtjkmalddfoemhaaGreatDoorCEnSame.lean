/- Walks: Same. -/
import Derived.Test.YtjkmalddfoemhaaGreatDoorJ2
import Derived.Test.YtjkmalddfoemhaaGreatDoorJ5
namespace Go.Proofs.YtjkmalddfoemhaaGreatDoor
open Go.RowKit Go.Deep

end Go.Proofs.YtjkmalddfoemhaaGreatDoor
