/- EndsPlay, for every input. -/
import Derived.Test.YtdhgmnnkbjhpaaaEplay
import Derived.Test.YtdhgmnnkbjhpaaaEpops
namespace Go.Proofs.Ytdhgmnnkbjhpaaa.Epp
open Go.RowKit Go.Proofs.Ytdhgmnnkbjhpaaa.PEndsPlay Go.Proofs.YtdhgmnnkbjhpaaaW.PrintWords
theorem play_row (A : Option Addr) (c : Nat) (l : List S32) (addr : Int) (w : World) (hr : Kd.C k32 w A l.length l) (hc : l.length ≤ c) (hm : c ≤ maxLen) (hg : ∀ x ∈ l, Good32 x) (wa : (Lit.int .i64 addr).wf = true) :
    Calls Try.prog 10 #[.slice A l.length c, .int .i64 addr] w fun x w' => x = .returned (.bool true) ∧ Up w w' :=
  play_walk A c l addr w hr hc hm (fun x hx => ⟨(hg x hx).addr, (hg x hx).dst⟩) wa
end Go.Proofs.Ytdhgmnnkbjhpaaa.Epp
