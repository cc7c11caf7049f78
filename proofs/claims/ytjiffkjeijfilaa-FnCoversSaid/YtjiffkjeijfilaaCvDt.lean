/- The draws of the covers: what the laws draw. -/
import Derived.Test.YtjiffkjeijfilaaCvDs
set_option maxRecDepth 8000
set_option linter.unusedSimpArgs false
set_option linter.unusedVariables false
namespace Go.Proofs.Ytjiffkjeijfilaa
open Go Go.RowKit

set_option maxHeartbeats 2000000

def q_DIe : Con := fun args H K => match args with
  | [code_v] => eU.rd H (fun code => code.length ≤ 65536 ∧ Stop (∀ (ps : List Ra) (x : Cv), ps.length ≤ 40 → K (.tup [.c (.sl (H.n) (0) (ps.length)), .agg (eCv.cells x)]) (H.push (rowK eRa 122 ps))) ()) code_v
  | _ => False
@[simp ↓] theorem q_DIe_eq (code_v : AV) (H : AHeap) (K : AV → AHeap → Prop) : q_DIe [code_v] H K = (eU.rd H (fun code => code.length ≤ 65536 ∧ Stop (∀ (ps : List Ra) (x : Cv), ps.length ≤ 40 → K (.tup [.c (.sl (H.n) (0) (ps.length)), .agg (eCv.cells x)]) (H.push (rowK eRa 122 ps))) ()) code_v) := rfl

def q_DMc : Con := fun args H K => match args with
  | [code_v] => eU.rd H (fun code => code.length ≤ 65536 ∧ Stop (∀ (ps : List Ra) (x : Cv) (ch : Int), ps.length ≤ 40 → K (.tup [.c (.sl (H.n) (0) (ps.length)), .agg (eCv.cells x), .c (.int .i64 (ch))]) (H.push (rowK eRa 122 ps))) ()) code_v
  | _ => False
@[simp ↓] theorem q_DMc_eq (code_v : AV) (H : AHeap) (K : AV → AHeap → Prop) : q_DMc [code_v] H K = (eU.rd H (fun code => code.length ≤ 65536 ∧ Stop (∀ (ps : List Ra) (x : Cv) (ch : Int), ps.length ≤ 40 → K (.tup [.c (.sl (H.n) (0) (ps.length)), .agg (eCv.cells x), .c (.int .i64 (ch))]) (H.push (rowK eRa 122 ps))) ()) code_v) := rfl

def q_DCt : Con := fun args H K => match args with
  | [code_v] => eU.rd H (fun code => code.length ≤ 65536 ∧ Stop (∀ n : Int, K (.c (.int .i64 (n))) H) ()) code_v
  | _ => False
@[simp ↓] theorem q_DCt_eq (code_v : AV) (H : AHeap) (K : AV → AHeap → Prop) : q_DCt [code_v] H K = (eU.rd H (fun code => code.length ≤ 65536 ∧ Stop (∀ n : Int, K (.c (.int .i64 (n))) H) ()) code_v) := rfl

def q_DCo : Con := fun args H K => match args with
  | [code_v] => eU.rd H (fun code => code.length ≤ 65536 ∧ Stop (∀ x y : Cv, K (.tup [.agg (eCv.cells x), .agg (eCv.cells y)]) H) ()) code_v
  | _ => False
@[simp ↓] theorem q_DCo_eq (code_v : AV) (H : AHeap) (K : AV → AHeap → Prop) : q_DCo [code_v] H K = (eU.rd H (fun code => code.length ≤ 65536 ∧ Stop (∀ x y : Cv, K (.tup [.agg (eCv.cells x), .agg (eCv.cells y)]) H) ()) code_v) := rfl

end Go.Proofs.Ytjiffkjeijfilaa
