/- NamesPlay, for every input. -/
import Derived.Test.YtdhgmnnkbjhpaaaNplay
import Derived.Test.YtdhgmnnkbjhpaaaNopen
namespace Go.Proofs.Ytdhgmnnkbjhpaaa.Ntab
open Go.RowKit Go.Proofs.Ytdhgmnnkbjhpaaa.PNamesPlay Go.Proofs.YtdhgmnnkbjhpaaaW.PrintWords
theorem play_row (A : Option Addr) (c : Nat) (l : List S58) (name : ByteArray) (core : Int) (w : World) (hr : Kd.C k58 w A l.length l) (hc : l.length ≤ c) (hm : c ≤ maxLen) (hg : ∀ x ∈ l, Good58 x) (hn : name.size ≤ maxLen) (_ : (Lit.int .i64 core).wf = true) :
    Calls Try.prog 7 #[.slice A l.length c, .string name, .int .i64 core] w fun e w' => e = .returned (.bool true) ∧ Up w w' :=
  play_walk A c l name core w hr hc hm (fun x hx => (hg x hx).addr) hn
end Go.Proofs.Ytdhgmnnkbjhpaaa.Ntab
