/- Written by gprint.py, a program of this session: each Go function that is named below returns what the Lean function of its name says; the conditions stand in each theorem. -/
import Derived.Test.YtpkdanfiplolhaaPNoteReadsx0
import Derived.Test.YtpkdanfiplolhaaPNoteReadsx1
import Derived.Test.YtpkdanfiplolhaaPNoteReadsx2
import Derived.Test.YtpkdanfiplolhaaPNoteReadsx3
import Derived.Test.YtpkdanfiplolhaaPNoteReadsx4
import Derived.Test.YtpkdanfiplolhaaPNoteReadsx5
import Derived.Test.YtpkdanfiplolhaaPNoteReadsx6
import Derived.Test.YtpkdanfiplolhaaPNoteReadsx7
namespace Go.Proofs.Ytpkdanfiplolhaa.PNoteReads
open Go.RowKit Go.Proofs.Ytpkdanfiplolhaa.Given Go.Proofs.YtpkdanfiplolhaaW.PrintWords Go.Proofs.YtpkdanfiplolhaaW.PrintLast Go.Proofs.YtpkdanfiplolhaaW.PrintMore
attribute [local go_sem] max2_int min2_int max_two min_two max_three min_three max_four min_four   -- for this text's walks alone
set_option linter.unusedVariables false
set_option linter.unusedSimpArgs false

end Go.Proofs.Ytpkdanfiplolhaa.PNoteReads
