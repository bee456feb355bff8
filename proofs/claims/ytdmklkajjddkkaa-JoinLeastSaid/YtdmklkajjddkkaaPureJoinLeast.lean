/- JoinLeast, as a statement over numbers and lists: true. -/
import Derived.Test.YtdmklkajjddkkaaJoinPl3
namespace Go.Proofs.Ytdmklkajjddkkaa.Pure
open Go.RowKit Go.Proofs.Ytdmklkajjddkkaa.X
theorem JoinLeast : fescuelaw21_JoinLeast.Pure := Pl.joinLeast_law
end Go.Proofs.Ytdmklkajjddkkaa.Pure
