/- Layer drain in plain terms: stops. -/
import Derived.Test.YtbhgpnbfdjoglaaGreatB7
section
namespace Go.Proofs.YtbhgpnbfdjoglaaGreat
open Go.RowKit
end Go.Proofs.YtbhgpnbfdjoglaaGreat
end
