/- The printings: pauses, places. -/
import Derived.Test.YtegmlgikdniohaaPrT
set_option maxRecDepth 8000
set_option linter.unusedSimpArgs false
set_option linter.unusedVariables false
namespace Go.Proofs.Ytegmlgikdniohaa
open Go Go.RowKit



def q_lp : Con := fun args H K => match args with
  | [ps_v] => ePr.rd H (fun ps => K (.tup [.c (.int .i64 ((lpRes ps).1)), .c (.int .i64 ((lpRes ps).2.1)), .c (.bool ((lpRes ps).2.2))]) H) ps_v
  | _ => False
@[simp ↓] theorem q_lp_eq (ps_v : AV) (H : AHeap) (K : AV → AHeap → Prop) : q_lp [ps_v] H K = (ePr.rd H (fun ps => K (.tup [.c (.int .i64 ((lpRes ps).1)), .c (.int .i64 ((lpRes ps).2.1)), .c (.bool ((lpRes ps).2.2))]) H) ps_v) := rfl

end Go.Proofs.Ytegmlgikdniohaa
