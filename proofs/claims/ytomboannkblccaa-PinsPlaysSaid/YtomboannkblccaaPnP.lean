/- The pins' program: what is told outright is what is done. -/
import Derived.KernelRfl
import Derived.Test.YtomboannkblccaaKxW
import Derived.Test.YtomboannkblccaaPnA
import Derived.Test.YtomboannkblccaaEqs
import Derived.Test.YtomboannkblccaaTy
namespace Go.Proofs.Ytomboannkblccaa.K
open Go Go.Kx
set_option maxRecDepth 100000
set_option linter.unusedVariables false

theorem mixed : Try.prog.follows .mixedOrders = true := by kernel_rfl

noncomputable def primO : Pr := fun f args h => match f with
  | 38 => ovP args h
  | 78 => ovP args h
  | _ => .bad
noncomputable def CLO : Cl := clS Try.prog tab primO
theorem ov38 (args args' : List Value) (ι : Io) (h : H) (w : World) (s : Sim Try.prog ι h w) (ha : RL ι args args') : SN Try.prog ι w (ovP args h) (callFunc 38 ⟨args'⟩) :=
  ovP_ok (sl := 75) (tR := 4) (e := 81) Try.func38 (by kernel_rfl) (by kernel_rfl) (by kernel_rfl) (by kernel_rfl) (by kernel_rfl) (rSizeOf (by kernel_rfl)) args args' ι h w s ha
theorem ov78 (args args' : List Value) (ι : Io) (h : H) (w : World) (s : Sim Try.prog ι h w) (ha : RL ι args args') : SN Try.prog ι w (ovP args h) (callFunc 78 ⟨args'⟩) :=
  ovP_ok (sl := 115) (tR := 4) (e := 130) Try.func78 (by kernel_rfl) (by kernel_rfl) (by kernel_rfl) (by kernel_rfl) (by kernel_rfl) (rSizeOf (by kernel_rfl)) args args' ι h w s ha

theorem primO_ok : PrOk Try.prog 0 primO := by
  intro f args args' ι h w hg s ha
  unfold primO
  split
  · exact ov38 args args' ι h w s ha
  · exact ov78 args args' ι h w s ha
  · trivial
theorem CLO_ok : ClOk Try.prog 0 CLO := clS_ok mixed tab_ok primO_ok

theorem T75 : InsT Try.prog 75 3 81 := ⟨by kernel_rfl, by kernel_rfl, by kernel_rfl, by kernel_rfl, by kernel_rfl, Nat.lt_of_lt_of_le (Nat.zero_lt_succ 102) (Nat.le_of_eq (by kernel_rfl : 103 = Try.prog.cellsOf 81))⟩
theorem T115 : InsT Try.prog 115 3 130 := ⟨by kernel_rfl, by kernel_rfl, by kernel_rfl, by kernel_rfl, by kernel_rfl, Nat.lt_of_lt_of_le (Nat.zero_lt_succ 1) (Nat.le_of_eq (by kernel_rfl : 2 = Try.prog.cellsOf 130))⟩
theorem body28 (x0 x1 x2 : Value) (h : H) : CLO (.f 28) [x0, x1, x2] h = insB Try.prog 75 3 38 (F28.j18 Try.prog CLO) CLO x0 x1 x2 h := by
  have e : CLO (.f 28) [x0, x1, x2] h = runS Try.prog CLO an28 Try.f28 [x0, x1, x2] h := clS_eq (by kernel_rfl) _ _
  rw [e, F28.eq]
  simp only [F28.j5_eq, F28.j8_eq, F28.j13_eq]
  rfl
theorem body70 (x0 x1 x2 : Value) (h : H) : CLO (.f 70) [x0, x1, x2] h = insB Try.prog 115 3 78 (F70.j18 Try.prog CLO) CLO x0 x1 x2 h := by
  have e : CLO (.f 70) [x0, x1, x2] h = runS Try.prog CLO an70 Try.f70 [x0, x1, x2] h := clS_eq (by kernel_rfl) _ _
  rw [e, F70.eq]
  simp only [F70.j5_eq, F70.j8_eq, F70.j13_eq]
  rfl
theorem ins28_ok (args args' : List Value) (ι : Io) (h : H) (w : World) (s : Sim Try.prog ι h w) (ha : RL ι args args') : SN Try.prog ι w (insP Try.prog 75 args h) (callFunc 28 ⟨args'⟩) :=
  insP_ok T75 (G := 0) CLO_ok body28 (fun args h => clS_prim (by kernel_rfl) args h) args args' ι h w s ha
theorem ins70_ok (args args' : List Value) (ι : Io) (h : H) (w : World) (s : Sim Try.prog ι h w) (ha : RL ι args args') : SN Try.prog ι w (insP Try.prog 115 args h) (callFunc 70 ⟨args'⟩) :=
  insP_ok T115 (G := 0) CLO_ok body70 (fun args h => clS_prim (by kernel_rfl) args h) args args' ι h w s ha

noncomputable def primI : Pr := fun f args h => match f with
  | 28 => insP Try.prog 75 args h
  | 70 => insP Try.prog 115 args h
  | _ => .bad
noncomputable def tabI : Tab := fun f => match f with
  | 28 => none
  | 70 => none
  | n => tab n
theorem primI_ok : PrOk Try.prog 0 primI := by
  intro f args args' ι h w hg s ha
  unfold primI
  split
  · exact ins28_ok args args' ι h w s ha
  · exact ins70_ok args args' ι h w s ha
  · trivial
theorem tabI_ok : ∀ f fn an, tabI f = some (fn, an) → fnOk Try.prog 0 an f fn := by
  intro f fn an h
  unfold tabI at h
  split at h
  · cases h
  · cases h
  · exact tab_ok _ _ _ h
def hOps : H := H0.alloc (.cells (opsC ops8) 63 0 false)
noncomputable def toldI : Res Value := clR Try.prog tabI primI 400 (.f 19) [.slice (some ⟨0, 0, none⟩) 8 8] hOps
theorem toldI_run : (match toldI with | .ok v h => (some v, h.get 0) | _ => (none, none)) = (some (.bool true), hOps.get 0) := by kernel_rfl
theorem toldI_ok : ∃ h1, toldI = .ok (.bool true) h1 ∧ h1.get 0 = hOps.get 0 := by
  have hr := toldI_run
  cases h : toldI with
  | ok v h' =>
    rw [h] at hr
    simp only [Prod.mk.injEq, Option.some.injEq] at hr
    obtain ⟨rfl, q1⟩ := hr
    exact ⟨h', rfl, q1⟩
  | pan v h' => rw [h] at hr; simp at hr
  | bad => rw [h] at hr; simp at hr
noncomputable def CLI : Cl := clR Try.prog tabI primI 400
theorem CLI_ok : ClOk Try.prog 0 CLI := clR_ok mixed tabI_ok primI_ok 400
theorem CLI_ints : ∃ h1, CLI (.f 19) [.slice (some ⟨0, 0, none⟩) 8 8] hOps = .ok (.bool true) h1 ∧ h1.get 0 = hOps.get 0 := toldI_ok
end Go.Proofs.Ytomboannkblccaa.K
