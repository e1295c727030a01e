/- My texts for this claim, in one file: part 21. -/
import Derived.Test.YtbfgadekkemlcaaGreatDoorV20
set_option linter.unusedVariables false
namespace Go.Kx
open Go
noncomputable def kC (P:Program) (cl:Cl) (nu:Nu) (an:Ann) (c:Code) (K:Ko):Ko:=kthen K fun fr h=>cutE an nu c (evT P cl an nu c K) fr h
noncomputable def lC (P:Program) (cl:Cl) (nu:Nu) (an:Ann) (kp:List Nat) (c:Code) (K:Ko):Fr→H→Res Value:=lpS kp (fun K' fr h=>evT P cl an nu c K' fr h) K
noncomputable def kL (P:Program) (cl:Cl) (nu:Nu) (an:Ann) (i:Nat) (kp:List Nat) (c:Code) (K:Ko):Ko:=kthen K fun fr h=>nu i (lC P cl nu an kp c K) (erase kp fr) h
noncomputable def runX (P:Program) (cl:Cl) (nu:Nu) (an:Ann) (fn:Func) (args:List Value) (h:H):Res Value:=evT P cl an nu (bodyOf fn) (kfn P fn.results.toList) (argF 0 args) h
def panV (v:Value) (h:H):Res Value:=match some v with|some (.iface t v)=>.pan (.iface t v) h|_=>.bad
theorem lpN {P:Program} {cl:Cl} {an:Ann} {i:Nat} {kp:List Nat} {c:Code} {K:Ko} {fr:Fr} {h:H} {r:Res Value} (e:evT P cl an nu0 c (kL P cl nu0 an i kp c K) fr h=r):nu0 i (lC P cl nu0 an kp c K) fr h=r:=
 (lpS_next i kp c K fr h).trans e
end Go.Kx
