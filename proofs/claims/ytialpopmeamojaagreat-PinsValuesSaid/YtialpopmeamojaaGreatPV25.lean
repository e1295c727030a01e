/- My texts for this claim, in one file: part 25. -/
import Derived.ProofKit
import Derived.Test.YtialpopmeamojaaGreatPV24
namespace Go.Kx
open Go Go.ChangeShapes Go.WideShapes Go.ChangeAt Go.RowKit
set_option linter.unusedVariables false
theorem trodAll_stays {H : Type} {enc : TypeId × Value → H} {P : Program} {W W' : World} {base : Nat} {sp' : Nat → Bool} (hl : laidOutB P = true) :
    ∀ {ts : List TypeId} {vs : List Value} {ds : List (DataW H)} {ps : List MemPlace},(∀ t ∈ ts,P.readableRec t = true ∧ t < P.types.size) → DataW.TrodAll enc P W base (fun _ => true) true ts vs ds ps → (∀ p ∈ ps,W.sameAt W' p) → (∀ p ∈ ps,sp' p.block = true) →
      DataW.TrodAll enc P W' base sp' true ts vs ds ps
  | [],[],[],ps,_,h,_,_ => h
  | t :: ts,v :: vs,d :: ds,ps,hr,h,h1,h2 => by
    obtain ⟨p,q,a,b,rfl⟩ := h
    have hrt := hr t (by simp)
    exact ⟨p,q,WideElems.Trod_stays hl hrt.1 hrt.2 a (fun x hx => h1 x (by simp [hx])) (fun x hx => h2 x (by simp [hx])),trodAll_stays hl (fun t ht => hr t (by simp [ht])) b (fun x hx => h1 x (by simp [hx])) (fun x hx => h2 x (by simp [hx])),rfl⟩
  | [],_ :: _,_,_,_,h,_,_ => h.elim
  | [],[],_ :: _,_,_,h,_,_ => h.elim
  | _ :: _,[],_,_,_,h,_,_ => h.elim
  | _ :: _,_ :: _,[],_,_,h,_,_ => h.elim
theorem bare_true {P : Program} {H : Type} {enc : TypeId × Value → H} {s : ChangeSpec} {fn : Func} {f : FuncId} {cl : Cl} {W : World} {args : Array Value} {ds gs : List (DataW H)} {before : List MemPlace} {cargs : List Value} {h' : Kx.H} {tb : TypeId}
    (hl : laidOutB P = true) (hr : ∀ t ∈ fn.params.toList,P.readableRec t = true ∧ t < P.types.size) (hv : s.vars = []) (hf : P.funcs[f]? = some fn) (hn : (fn.name == "runtime.NumGoroutine") = false) (hb : fn.body.isSome = true)
    (hres : fn.resultTypes = #[tb]) (htb : P.underlying tb = some .bool) (hs : s.fn H ds = { results := [.lit (.bool true)],args := ds })
    (hW : DataW.Whole enc P fn.params.toList s.vars false W args.toList ds gs before) (hcl : ClOk P 0 cl) (ha : RL (io W) cargs args.toList) (hrun : cl (.f f) cargs (hOf W) = .ok (.bool true) h') (hg : Grow (hOf W) h') :
    Calls P f args W fun e W' => ∃ v,e = .returned v ∧ s.post enc P fn false true false false W args v W' := by
  have hW' := hW
  have hlt := hW.lt
  obtain ⟨p,q,hA,hV,rfl,hfz,hnd⟩ := hW
  rw [hv] at hV
  obtain ⟨rfl,rfl⟩ := trodVars_none hV
  rw [List.append_nil] at hlt hW'
  refine (calls_of_cl hcl (fun g hg => absurd hg (Nat.not_lt_zero g)) (world_sim P W) ha hf hn hb hrun).mono fun e W' he => ?_
  obtain ⟨v',rfl,ι',st,s',hvv⟩ := he
  cases hvv
  have hk : ∀ b,b < W.heap.size → lv W b = true → h'.get b = (hOf W).get b := by
    intro b hb _
    cases hq : (hOf W).get b with
    | none =>
      rw [hOf_get,Array.getElem?_eq_getElem hb] at hq
      cases hq
    | some x => exact hg.old b x hq
  have hkept : ∀ b,b < W.heap.size → W'.heap[b]? = W.heap[b]? := fun b hb => kept st s' hb (hk b hb)
  have hsame : ∀ x ∈ p,W.sameAt W' x := by
    intro x hx
    have := hlt x hx
    cases x with
    | cell b o =>
      show W'.cell? ⟨b,o,none⟩ = W.cell? ⟨b,o,none⟩
      unfold World.cell?
      simp only [hkept b this]
    | map b => exact hkept b this
  refine ⟨_,rfl,ds,[],p,[],p,[],hW',?_,?_,?_,kept_but st s' hk _,fun z => by cases z⟩
  · rw [List.append_nil,hs,hres]
    exact trodAll_mk1 (shut_bool htb _)
  · rw [List.append_nil,hs]
    exact trodAll_stays hl hr hA hsame (fun x hx => by simpa using hlt x hx)
  · rw [hv,List.append_nil,hs]
    rfl
end Go.Kx
