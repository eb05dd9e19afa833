/- What Setup and Exprtext take of the lexer's, the catalog's and the roster's texts. -/
import Derived.Test.YtjjlhihocllgjaaDoorPe06
import Derived.Test.YtjjlhihocllgjaaDoorPe03
import Derived.Test.YtjjlhihocllgjaaDoorPe07
import Derived.Test.YtjjlhihocllgjaaDoorPe10
import Derived.Test.YtjjlhihocllgjaaDoorPe09
namespace Go.Proofs.YtjjlhihocllgjaaDoor
end Go.Proofs.YtjjlhihocllgjaaDoor
