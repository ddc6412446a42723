/- FirstFound: both walks. -/
import Derived.Test.YtbgkeecndagkgaaFfS
import Derived.Test.YtbgkeecndagkgaaFfI
namespace Go.Proofs.Ytbgkeecndagkgaa
end Go.Proofs.Ytbgkeecndagkgaa
