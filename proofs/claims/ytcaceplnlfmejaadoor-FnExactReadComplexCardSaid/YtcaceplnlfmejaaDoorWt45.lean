/- What the row of ReadComplex asks, joined. -/
import Derived.Test.YtcaceplnlfmejaaDoorWt44
import Derived.Test.YtcaceplnlfmejaaDoorWt31
import Derived.Test.YtcaceplnlfmejaaDoorWt24
namespace Go.Proofs.YtcaceplnlfmejaaDoor
theorem joined45 : True := trivial
end Go.Proofs.YtcaceplnlfmejaaDoor
