/- My texts for this claim, in one file: part 27. -/
import Derived.OpenShut
import Derived.Deep.Strs
import Derived.Deep.Slices
import Derived.Test.YtbfgadekkemlcaaGreatDoorV26
set_option linter.unusedVariables false
namespace Go.Kx
open Go Go.ChangeShapes Go.WideShapes Go.ChangeAt Go.RowKit
set_option maxRecDepth 100000
mutual
theorem cv_flat (L:Nat→Bool):∀ (v:Value),flat v=true→cv L v=some v
 |.bool b,_=>rfl
 |.int k n,_=>rfl
 |.float k n,_=>rfl
 |.complex k n m,_=>rfl
 |.string s,_=>rfl
 |.pointer none,_=>rfl
 |.pointer (some _),f=>by simp[flat] at f
 |.slice none n c,_=>rfl
 |.slice (some _) _ _,f=>by simp[flat] at f
 |.map none,_=>rfl
 |.map (some _),f=>by simp[flat] at f
 |.chan _,f=>by simp[flat] at f
 |.func _ _ _,f=>by simp[flat] at f
 |.nilFunc,_=>rfl
 |.iface t v,f=>by simp only[cv,cv_flat L v (by simpa [flat] using f)]
 |.nilIface,_=>rfl
 |.agg ⟨l⟩,f=>by simp only[cv,cvL_flat L l (by simpa [flat] using f)]
 |.tuple ⟨l⟩,f=>by simp only[cv,cvL_flat L l (by simpa [flat] using f)]
theorem cvL_flat (L:Nat→Bool):∀ (l:List Value),flatL l=true→cvL L l=some l
 |[],_=>rfl
 |v::l,f=>by
  simp only[flatL,Bool.and_eq_true] at f
  simp only[cvL,cv_flat L v f.1,cvL_flat L l f.2]
end
theorem cvC_flat (L:Nat→Bool):∀ (l:List Value),flatL l=true→l.map (cvC L)=l
 |[],_=>rfl
 |v::l,f=>by
  simp only[flatL,Bool.and_eq_true] at f
  rw[List.map_cons,cvC_flat L l f.2]
  unfold cvC
  rw[cv_flat L v f.1]
end Go.Kx
