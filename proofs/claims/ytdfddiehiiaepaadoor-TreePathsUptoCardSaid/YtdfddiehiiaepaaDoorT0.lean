-- The values' types are those of the printed text P0.
import Derived.Test.YtdfddiehiiaepaaDoorP0
namespace Go.Proofs.YtdfddiehiiaepaaDoor.T
end Go.Proofs.YtdfddiehiiaepaaDoor.T
