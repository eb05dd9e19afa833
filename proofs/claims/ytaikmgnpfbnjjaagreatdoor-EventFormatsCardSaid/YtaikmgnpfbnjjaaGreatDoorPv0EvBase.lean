/- What Event takes of the texts of the lexer, the catalog, the roster, the checksums and the setup. -/
import Derived.Test.YtaikmgnpfbnjjaaGreatDoorPv06
import Derived.Test.YtaikmgnpfbnjjaaGreatDoorPv04
import Derived.Test.YtaikmgnpfbnjjaaGreatDoorPv08
import Derived.Test.YtaikmgnpfbnjjaaGreatDoorPv11
import Derived.Test.YtaikmgnpfbnjjaaGreatDoorPv12
import Derived.Test.YtaikmgnpfbnjjaaGreatDoorPv10
import Derived.Test.YtaikmgnpfbnjjaaGreatDoorPv13
import Derived.Test.YtaikmgnpfbnjjaaGreatDoorPv14
import Derived.Test.YtaikmgnpfbnjjaaGreatDoorPv17
namespace Go.Proofs.YtaikmgnpfbnjjaaGreatDoor
end Go.Proofs.YtaikmgnpfbnjjaaGreatDoor
