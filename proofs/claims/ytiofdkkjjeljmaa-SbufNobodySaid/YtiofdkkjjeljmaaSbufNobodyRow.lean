/- SbufNobody, for the row. -/
import Derived.Test.YtiofdkkjjeljmaaSbufNobody
namespace Go.Proofs.Ytiofdkkjjeljmaa.Sbuf
set_option linter.unusedVariables false
theorem nobody_row (k a v : Int) (w : World) (wk : (Lit.int .i64 k).wf = true) (wa : (Lit.int .i64 a).wf = true) (wv : (Lit.int .i64 v).wf = true) : Calls Try.prog 11 #[.agg #[.int .i64 k, .int .i64 a, .int .i64 v]] w fun e w' => e = .returned (.bool true) ∧ Up w w' := nobody_walk k a v w
end Go.Proofs.Ytiofdkkjjeljmaa.Sbuf
