import Derived.Test.YtolikaginhjbhaaDoorM
import Derived.Test.YtolikaginhjbhaaDoorHo
/- The reference's may: the walk. -/
namespace Go.Proofs.YtolikaginhjbhaaDoor
open Go.RowKit Go.Pen
attribute [local go_sem ↓] Go.wp_at_zero Go.wp_at_succ
attribute [local go_sem] Oper.semAt_some

end Go.Proofs.YtolikaginhjbhaaDoor
