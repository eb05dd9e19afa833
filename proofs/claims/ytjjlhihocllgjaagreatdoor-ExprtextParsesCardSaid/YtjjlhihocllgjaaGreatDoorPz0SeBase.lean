/- What Setup and Exprtext take of the lexer's, the catalog's and the roster's texts. -/
import Derived.Test.YtjjlhihocllgjaaGreatDoorPz07
import Derived.Test.YtjjlhihocllgjaaGreatDoorPz04
import Derived.Test.YtjjlhihocllgjaaGreatDoorPz08
import Derived.Test.YtjjlhihocllgjaaGreatDoorPz12
import Derived.Test.YtjjlhihocllgjaaGreatDoorPz13
import Derived.Test.YtjjlhihocllgjaaGreatDoorPz11
namespace Go.Proofs.YtjjlhihocllgjaaGreatDoor
end Go.Proofs.YtjjlhihocllgjaaGreatDoor
