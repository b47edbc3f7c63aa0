/- NamesFirst, for every input. -/
import Derived.Test.YtdhgmnnkbjhpaaaNfirst
import Derived.Test.YtdhgmnnkbjhpaaaNopen
namespace Go.Proofs.Ytdhgmnnkbjhpaaa.Ntab
open Go.RowKit Go.Proofs.Ytdhgmnnkbjhpaaa.PNamesPlay Go.Proofs.YtdhgmnnkbjhpaaaW.PrintWords
theorem first_row (A : Option Addr) (c : Nat) (l : List S58) (name : ByteArray) (w : World) (hr : Kd.C k58 w A l.length l) (hc : l.length ≤ c) (hm : c ≤ maxLen) (hg : ∀ x ∈ l, Good58 x) (hn : name.size ≤ maxLen) :
    Calls Try.prog 8 #[.slice A l.length c, .string name] w fun e w' => e = .returned (.bool true) ∧ Up w w' :=
  first_walk A c l name w hr hc hm (fun x hx => (hg x hx).addr) hn
end Go.Proofs.Ytdhgmnnkbjhpaaa.Ntab
