/- FirstFound: both walks. -/
import Derived.Test.YtchkflpdnmhboaaFfS
import Derived.Test.YtchkflpdnmhboaaFfI
namespace Go.Proofs.Ytchkflpdnmhboaa
end Go.Proofs.Ytchkflpdnmhboaa
