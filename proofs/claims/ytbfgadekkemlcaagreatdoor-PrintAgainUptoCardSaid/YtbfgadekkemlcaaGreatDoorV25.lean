/- My texts for this claim, in one file: part 25. -/
import Derived.ProofKit
import Derived.Test.YtbfgadekkemlcaaGreatDoorV24
set_option linter.unusedVariables false
namespace Go.Kx
open Go Go.ChangeShapes Go.WideShapes Go.ChangeAt Go.RowKit
theorem trodAll_stays {H:Type} {enc:TypeId × Value→H} {P:Program} {W W':World} {base:Nat} {sp':Nat→Bool} (hl:laidOutB P=true) :
  ∀ {ts:List TypeId} {vs:List Value} {ds:List (DataW H)} {ps:List MemPlace},(∀ t∈ts,P.readableRec t=true∧t<P.types.size)→DataW.TrodAll enc P W base (fun _=>true) true ts vs ds ps→(∀ p∈ps,W.sameAt W' p)→(∀ p∈ps,sp' p.block=true) →
   DataW.TrodAll enc P W' base sp' true ts vs ds ps
 |[],[],[],ps,_,h,_,_=>h
 |t::ts,v::vs,d::ds,ps,hr,h,h1,h2=>by
  obtain⟨p,q,a,b,rfl⟩:=h
  have hrt:=hr t (by simp)
  exact⟨p,q,WideElems.Trod_stays hl hrt.1 hrt.2 a (fun x hx=>h1 x (by simp[hx])) (fun x hx=>h2 x (by simp[hx])),trodAll_stays hl (fun t ht=>hr t (by simp[ht])) b (fun x hx=>h1 x (by simp[hx])) (fun x hx=>h2 x (by simp[hx])),rfl⟩
 |[],_::_,_,_,_,h,_,_=>h.elim
 |[],[],_::_,_,_,h,_,_=>h.elim
 |_::_,[],_,_,_,h,_,_=>h.elim
 |_::_,_::_,[],_,_,h,_,_=>h.elim
end Go.Kx
