/- Written by gprint.py, a program of this session: each Go function that is named below returns what the Lean function of its name says; the conditions stand in each theorem. -/
import Derived.Test.YtpkdanfiplolhaaDoorProg
import Derived.Below
import Derived.Deep.Draws
import Derived.Deep.AppendLies
import Derived.Maps.AppendAt
import Derived.OwnWalk
import Derived.Laws.BytesArg
import Derived.Laws.MakeOwn
import Derived.Laws.OwnMore
import Derived.Deep.OwnRows
import Derived.Tactics
import Derived.Lib.ConvBytes
import Derived.Laws.Slices
import Derived.WalkKit
import Derived.KernelRfl
import Derived.RowKit3
import Derived.Deep.LoopGhost
import Derived.Deep.QuietTactic
import Derived.BigQuiet
import Derived.WideLaws
import Derived.Deep.DeepCutAuto
import Derived.Deep.CutBlock
import Derived.Deep.RegionHeld3
import Derived.Laws.Rows
import Derived.Lib.AppendStr
import Derived.ArgAppend
import Derived.Laws.IdiomCopy
import Derived.OrdersHeld
import Derived.Laws.BitsLemmas
import Derived.RowKit
import Derived.Test.YtpkdanfiplolhaaDoorGivenHex
import Derived.Test.YtpkdanfiplolhaaDoorGivenLog
import Derived.Test.YtpkdanfiplolhaaDoorWWords
import Derived.Test.YtpkdanfiplolhaaDoorWLast
import Derived.Test.YtpkdanfiplolhaaDoorWTab
import Derived.Test.YtpkdanfiplolhaaDoorWFour
import Derived.Test.YtpkdanfiplolhaaDoorWQPut
import Derived.Test.YtpkdanfiplolhaaDoorWApart
import Derived.Test.YtpkdanfiplolhaaDoorWArr
import Derived.Test.YtpkdanfiplolhaaDoorWZeros
import Derived.Test.YtpkdanfiplolhaaDoorWFoot
import Derived.Test.YtpkdanfiplolhaaDoorWKept
import Derived.Test.YtpkdanfiplolhaaDoorWShare
import Derived.Test.YtpkdanfiplolhaaDoorWN
import Derived.Test.YtpkdanfiplolhaaDoorWFootNe
import Derived.Test.YtpkdanfiplolhaaDoorWAt
import Derived.Test.YtpkdanfiplolhaaDoorWEqStruct
import Derived.Test.YtpkdanfiplolhaaDoorWRepsOne
import Derived.Test.YtpkdanfiplolhaaDoorWInv
import Derived.Test.YtpkdanfiplolhaaDoorWInvWords
import Derived.Test.YtpkdanfiplolhaaDoorWGuard
import Derived.Test.YtpkdanfiplolhaaDoorWNEv
import Derived.Test.YtpkdanfiplolhaaDoorWMore
namespace Go.Proofs.YtpkdanfiplolhaaDoor.PWrapRuns
open Go.RowKit Go.Proofs.YtpkdanfiplolhaaDoor.Given Go.Proofs.YtpkdanfiplolhaaDoorW.PrintWords Go.Proofs.YtpkdanfiplolhaaDoorW.PrintLast Go.Proofs.YtpkdanfiplolhaaDoorW.PrintMore
attribute [local go_sem] max2_int min2_int max_two min_two max_three min_three max_four min_four   -- for this text's walks alone
set_option linter.unusedVariables false
set_option linter.unusedSimpArgs false



def errW : Option Int → Value
  | none => .nilIface
  | some c => .iface 0 (.int .i64 c)
theorem errW_none : errW none = .nilIface := rfl
theorem errW_some (c : Int) : errW (some c) = .iface 0 (.int .i64 c) := rfl

-- the values' own types

end Go.Proofs.YtpkdanfiplolhaaDoor.PWrapRuns
