/- What the row of ReadNumbers asks, joined. -/
import Derived.Test.YtcaceplnlfmejaaDoorWt38
import Derived.Test.YtcaceplnlfmejaaDoorWt31
import Derived.Test.YtcaceplnlfmejaaDoorWt24
namespace Go.Proofs.YtcaceplnlfmejaaDoor
theorem joined39 : True := trivial
end Go.Proofs.YtcaceplnlfmejaaDoor
