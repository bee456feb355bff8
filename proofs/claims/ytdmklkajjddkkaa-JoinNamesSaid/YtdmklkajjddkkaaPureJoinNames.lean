/- JoinNames, as a statement over numbers and lists: true. -/
import Derived.Test.YtdmklkajjddkkaaJoinPl4
namespace Go.Proofs.Ytdmklkajjddkkaa.Pure
open Go.RowKit Go.Proofs.Ytdmklkajjddkkaa.X
theorem JoinNames : fescuelaw21_JoinNames.Pure := Pl.joinNames_law
end Go.Proofs.Ytdmklkajjddkkaa.Pure
