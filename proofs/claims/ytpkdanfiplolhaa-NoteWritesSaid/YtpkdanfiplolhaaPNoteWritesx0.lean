/- Written by gprint.py, a program of this session: each Go function that is named below returns what the Lean function of its name says; the conditions stand in each theorem. -/
import Derived.Test.YtpkdanfiplolhaaProg
import Derived.Below
import Derived.Deep.Draws
import Derived.Deep.AppendLies
import Derived.Maps.AppendAt
import Derived.OwnWalk
import Derived.Laws.BytesArg
import Derived.Laws.MakeOwn
import Derived.Laws.OwnMore
import Derived.Deep.OwnRows
import Derived.Tactics
import Derived.Lib.ConvBytes
import Derived.Laws.Slices
import Derived.WalkKit
import Derived.KernelRfl
import Derived.RowKit3
import Derived.Deep.LoopGhost
import Derived.Deep.QuietTactic
import Derived.BigQuiet
import Derived.WideLaws
import Derived.Deep.DeepCutAuto
import Derived.Deep.CutBlock
import Derived.Deep.RegionHeld3
import Derived.Laws.Rows
import Derived.Lib.AppendStr
import Derived.ArgAppend
import Derived.Laws.IdiomCopy
import Derived.OrdersHeld
import Derived.Laws.BitsLemmas
import Derived.RowKit
import Derived.Test.YtpkdanfiplolhaaGivenHead
import Derived.Test.YtpkdanfiplolhaaGivenClone
import Derived.Test.YtpkdanfiplolhaaWWords
import Derived.Test.YtpkdanfiplolhaaWLast
import Derived.Test.YtpkdanfiplolhaaWTab
import Derived.Test.YtpkdanfiplolhaaWFour
import Derived.Test.YtpkdanfiplolhaaWQPut
import Derived.Test.YtpkdanfiplolhaaWApart
import Derived.Test.YtpkdanfiplolhaaWArr
import Derived.Test.YtpkdanfiplolhaaWZeros
import Derived.Test.YtpkdanfiplolhaaWFoot
import Derived.Test.YtpkdanfiplolhaaWKept
import Derived.Test.YtpkdanfiplolhaaWShare
import Derived.Test.YtpkdanfiplolhaaWN
import Derived.Test.YtpkdanfiplolhaaWFootNe
import Derived.Test.YtpkdanfiplolhaaWAt
import Derived.Test.YtpkdanfiplolhaaWEqStruct
import Derived.Test.YtpkdanfiplolhaaWRepsOne
import Derived.Test.YtpkdanfiplolhaaWInv
import Derived.Test.YtpkdanfiplolhaaWInvWords
import Derived.Test.YtpkdanfiplolhaaWGuard
import Derived.Test.YtpkdanfiplolhaaWNEv
import Derived.Test.YtpkdanfiplolhaaWMore
namespace Go.Proofs.Ytpkdanfiplolhaa.PNoteWrites
open Go.RowKit Go.Proofs.Ytpkdanfiplolhaa.Given Go.Proofs.YtpkdanfiplolhaaW.PrintWords Go.Proofs.YtpkdanfiplolhaaW.PrintLast Go.Proofs.YtpkdanfiplolhaaW.PrintMore
attribute [local go_sem] max2_int min2_int max_two min_two max_three min_three max_four min_four   -- for this text's walks alone
set_option linter.unusedVariables false
set_option linter.unusedSimpArgs false



def errW : Option Int → Value
  | none => .nilIface
  | some c => .iface 0 (.int .i64 c)
theorem errW_none : errW none = .nilIface := rfl
theorem errW_some (c : Int) : errW (some c) = .iface 0 (.int .i64 c) := rfl

theorem info3 : (Try.prog.info? 3).map (fun i => (i.zero, i.size, i.bytes)) = some (some (.int .i64 0), 1, 8) := by kernel_rfl
-- the values' own types

end Go.Proofs.Ytpkdanfiplolhaa.PNoteWrites
