/- JoinNew, as a statement over numbers and lists: true. -/
import Derived.Test.YtdmklkajjddkkaaJoinPl3
namespace Go.Proofs.Ytdmklkajjddkkaa.Pure
open Go.RowKit Go.Proofs.Ytdmklkajjddkkaa.X
theorem JoinNew : fescuelaw21_JoinNew.Pure := Pl.joinNew_law
end Go.Proofs.Ytdmklkajjddkkaa.Pure
