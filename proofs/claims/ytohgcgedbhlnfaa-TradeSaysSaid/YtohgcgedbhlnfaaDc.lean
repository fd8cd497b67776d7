/- The closures of the reference's rounds, in whatever world holds what they captured. -/
import Derived.Test.YtohgcgedbhlnfaaDl
import Derived.Test.YtohgcgedbhlnfaaTa
import Derived.Test.YtohgcgedbhlnfaaLb
import Derived.Test.YtohgcgedbhlnfaaLc
import Derived.Lib.SliceRun
namespace Go.Proofs.Ytohgcgedbhlnfaa
open Go Go.Proofs Go.Shelf Go.RowKit Go.Lib Go.Sort
set_option linter.all false
end Go.Proofs.Ytohgcgedbhlnfaa
