/-
  The walk of the reader of drawn bytes: what is known before segments are drawn.
-/
import Derived.Test.YtjbilidfnfnpfaaD9
import Derived.Test.YtjbilidfnfnpfaaW6
namespace Go.Proofs.Ytjbilidfnfnpfaa.R
open Go
set_option linter.unusedVariables false
def envD10a : Env := (envD9.add 127 (.pure pre2p resLess)).add 95 (.pure pre1s resSegOk)
theorem envD10a_ok : EnvOK Try.prog envD10a := Env.add_ok (Env.add_ok envD9_ok okLess.sp) okSegOkS.sp
end Go.Proofs.Ytjbilidfnfnpfaa.R
