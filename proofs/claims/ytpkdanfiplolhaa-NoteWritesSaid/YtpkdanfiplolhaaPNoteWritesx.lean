/- Written by gprint.py, a program of this session: each Go function that is named below returns what the Lean function of its name says; the conditions stand in each theorem. -/
import Derived.Test.YtpkdanfiplolhaaPNoteWritesx0
import Derived.Test.YtpkdanfiplolhaaPNoteWritesx1
import Derived.Test.YtpkdanfiplolhaaPNoteWritesx2
import Derived.Test.YtpkdanfiplolhaaPNoteWritesx3
import Derived.Test.YtpkdanfiplolhaaPNoteWritesx4
import Derived.Test.YtpkdanfiplolhaaPNoteWritesx5
import Derived.Test.YtpkdanfiplolhaaPNoteWritesx6
namespace Go.Proofs.Ytpkdanfiplolhaa.PNoteWrites
open Go.RowKit Go.Proofs.Ytpkdanfiplolhaa.Given Go.Proofs.YtpkdanfiplolhaaW.PrintWords Go.Proofs.YtpkdanfiplolhaaW.PrintLast Go.Proofs.YtpkdanfiplolhaaW.PrintMore
attribute [local go_sem] max2_int min2_int max_two min_two max_three min_three max_four min_four   -- for this text's walks alone
set_option linter.unusedVariables false
set_option linter.unusedSimpArgs false

end Go.Proofs.Ytpkdanfiplolhaa.PNoteWrites
