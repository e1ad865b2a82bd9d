/- Walks: the entries that no other one knows (Heads). -/
import Derived.Test.YtjkmalddfoemhaaGreatDoorJ11
import Derived.Test.YtjkmalddfoemhaaGreatDoorJ4
import Derived.Test.YtjkmalddfoemhaaGreatDoorJ10
namespace Go.Proofs.YtjkmalddfoemhaaGreatDoor
open Go.RowKit Go.Deep

end Go.Proofs.YtjkmalddfoemhaaGreatDoor
