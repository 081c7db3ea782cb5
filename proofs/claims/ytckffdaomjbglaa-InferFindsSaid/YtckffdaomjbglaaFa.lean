/-
  Layer 7: the walks of form, Form, worth, Worth.
-/
import Derived.Test.YtckffdaomjbglaaFp
import Derived.Deep.QuietTactic
import Derived.BigQuiet
namespace Go.Proofs.Ytckffdaomjbglaa
open Go.RowKit


end Go.Proofs.Ytckffdaomjbglaa
