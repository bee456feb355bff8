/- JoinCounts, as a statement over numbers and lists: true. -/
import Derived.Test.YtdmklkajjddkkaaJoinPl3
namespace Go.Proofs.Ytdmklkajjddkkaa.Pure
open Go.RowKit Go.Proofs.Ytdmklkajjddkkaa.X
theorem JoinCounts : fescuelaw21_JoinCounts.Pure := Pl.joinCounts_law
end Go.Proofs.Ytdmklkajjddkkaa.Pure
