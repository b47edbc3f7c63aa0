-- PRINTED BY print.sh 35421559b90ae4d0a3588c463048766b98c2df88dd9212a6774a882060cdf62d: not written by this session
import Derived.Test.YtiofdkkjjeljmaaProg
import Derived.Below
import Derived.Deep.Draws
import Derived.Deep.AppendLies
import Derived.Maps.AppendAt
import Derived.OwnWalk
import Derived.Laws.BytesArg
import Derived.Laws.MakeOwn
import Derived.Laws.OwnMore
import Derived.Deep.OwnRows
import Derived.Tactics
import Derived.Lib.ConvBytes
import Derived.Laws.Slices
import Derived.WalkKit
import Derived.KernelRfl
import Derived.RowKit3
import Derived.Deep.LoopGhost
import Derived.Deep.QuietTactic
import Derived.BigQuiet
import Derived.WideLaws
import Derived.Deep.DeepCutAuto
import Derived.Deep.CutBlock
import Derived.Deep.RegionHeld3
import Derived.Laws.Rows
import Derived.Lib.AppendStr
import Derived.ArgAppend
import Derived.Laws.IdiomCopy
import Derived.OrdersHeld
import Derived.Laws.BitsLemmas
import Derived.RowKit
import Derived.Test.YtiofdkkjjeljmaaWWords
import Derived.Test.YtiofdkkjjeljmaaWLast
import Derived.Test.YtiofdkkjjeljmaaWTab
import Derived.Test.YtiofdkkjjeljmaaWFour
import Derived.Test.YtiofdkkjjeljmaaWQPut
import Derived.Test.YtiofdkkjjeljmaaWApart
import Derived.Test.YtiofdkkjjeljmaaWArr
import Derived.Test.YtiofdkkjjeljmaaWZeros
import Derived.Test.YtiofdkkjjeljmaaWFoot
import Derived.Test.YtiofdkkjjeljmaaWKept
import Derived.Test.YtiofdkkjjeljmaaWShare
import Derived.Test.YtiofdkkjjeljmaaWN
import Derived.Test.YtiofdkkjjeljmaaWFootNe
import Derived.Test.YtiofdkkjjeljmaaWAt
import Derived.Test.YtiofdkkjjeljmaaWEqStruct
import Derived.Test.YtiofdkkjjeljmaaWRepsOne
import Derived.Test.YtiofdkkjjeljmaaWInv
import Derived.Test.YtiofdkkjjeljmaaWInvWords
import Derived.Test.YtiofdkkjjeljmaaWGuard
import Derived.Test.YtiofdkkjjeljmaaWNEv
import Derived.Test.YtiofdkkjjeljmaaWMore
namespace Go.Proofs.Ytiofdkkjjeljmaa.PSramPlays
open Go.RowKit Go.Proofs.YtiofdkkjjeljmaaW.PrintWords Go.Proofs.YtiofdkkjjeljmaaW.PrintLast Go.Proofs.YtiofdkkjjeljmaaW.PrintMore
attribute [local go_sem] max2_int min2_int max_two min_two max_three min_three max_four min_four   -- for this text's walks alone
set_option linter.unusedVariables false
set_option linter.unusedSimpArgs false



def errW : Option Int → Value
  | none => .nilIface
  | some c => .iface 0 (.int .i64 c)
theorem errW_none : errW none = .nilIface := rfl
theorem errW_some (c : Int) : errW (some c) = .iface 0 (.int .i64 c) := rfl

theorem info3 : (Try.prog.info? 3).map (fun i => (i.zero, i.size, i.bytes)) = some (some (.int .i64 0), 1, 8) := by kernel_rfl
-- the values' own types

end Go.Proofs.Ytiofdkkjjeljmaa.PSramPlays
