/- JoinTells, as a statement over numbers and lists: true. -/
import Derived.Test.YtdmklkajjddkkaaJoinPl3
namespace Go.Proofs.Ytdmklkajjddkkaa.Pure
open Go.RowKit Go.Proofs.Ytdmklkajjddkkaa.X
theorem JoinTells : fescuelaw21_JoinTells.Pure := Pl.joinTells_law
end Go.Proofs.Ytdmklkajjddkkaa.Pure
