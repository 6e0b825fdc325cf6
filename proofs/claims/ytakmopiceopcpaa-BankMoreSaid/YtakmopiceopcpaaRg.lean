/- Loops over functions that change what they lean on. -/
import Derived.Test.YtakmopiceopcpaaRange
section
namespace Go.Proofs.Ytakmopiceopcpaa
open Go.RowKit
section
variable {P : Program} {n N : Nat} {w0 : World} {Q : Post} {e : Env} {ds : List Deferred} {L : Hp}
end
end Go.Proofs.Ytakmopiceopcpaa
end
