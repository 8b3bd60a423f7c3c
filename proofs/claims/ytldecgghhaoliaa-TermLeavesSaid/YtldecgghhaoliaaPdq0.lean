/-
  Pdq0: the kit's contract of the library's sort, laid at this program.
-/
import Derived.Test.YtldecgghhaoliaaTy
import Derived.Shelf.SlGeneric
import Derived.Shelf.SlLaysF
import Derived.Ground.SlsfProg
namespace Go.Proofs.Ytldecgghhaoliaa
open Go.Shelf Go.Proofs
shelf_lay_g SlLaysF.n6 Slsf 6 at Try 70 as Try.pdqS
end Go.Proofs.Ytldecgghhaoliaa
