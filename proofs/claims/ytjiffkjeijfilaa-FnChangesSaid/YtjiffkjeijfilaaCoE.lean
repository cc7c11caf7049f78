/- Printed by a program of ours: the functions' abstract code and facts on their types. -/
import Derived.Test.YtjiffkjeijfilaaCoC
set_option maxRecDepth 8000
namespace Go.Proofs.Ytjiffkjeijfilaa
open Go Go.RowKit

end Go.Proofs.Ytjiffkjeijfilaa

