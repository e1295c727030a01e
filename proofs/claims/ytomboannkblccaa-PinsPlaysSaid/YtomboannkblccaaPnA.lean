/- The pins' program: what is told outright in it. -/
import Derived.KernelRfl
import Derived.Test.YtomboannkblccaaKxU
import Derived.Test.YtomboannkblccaaTab
namespace Go.Proofs.Ytomboannkblccaa.K
open Go Go.Kx
set_option linter.unusedVariables false
/-- The steps that the model test is put through. -/
def ops8 : List (Int × Int × Int) := [(1, 5, 1), (1, 2, 2), (1, 5, 3), (5, 0, 0), (6, 3, 0), (3, 2, 0), (3, 2, 0), (4, 0, 0)]
def opR (a : Int × Int × Int) : List Value := [.int .i64 a.1, .int .i64 a.2.1, .string ⟨⟨[]⟩⟩, .float .f64 0, .int .i64 a.2.2]
def opsC : List (Int × Int × Int) → List Value
  | [] => []
  | a :: l => opR a ++ opsC l
def isOps : List Value → List (Int × Int × Int) → Bool
  | [], [] => true
  | .int .i64 a :: .int .i64 b :: .string ⟨⟨[]⟩⟩ :: .float .f64 0 :: .int .i64 c :: l, x :: m => decide (a = x.1) && decide (b = x.2.1) && decide (c = x.2.2) && isOps l m
  | _, _ => false
def ops8At (args : List Value) (h : H) : Bool := match args with
  | [.slice (some ⟨b, 0, none⟩) 8 8] => (match h.get b with | some (.cells c 63 0 false) => isOps c ops8 | _ => false)
  | _ => false
theorem isOps_opsC : ∀ m, isOps (opsC m) m = true
  | [] => rfl
  | x :: m => by
    show (decide (x.1 = x.1) && decide (x.2.1 = x.2.1) && decide (x.2.2 = x.2.2) && isOps (opsC m) m) = true
    simp [isOps_opsC m]
theorem isOps_eq : ∀ (l : List Value) (m : List (Int × Int × Int)), isOps l m = true → l = opsC m := by
  intro l m h
  fun_induction isOps l m with
  | case1 => rfl
  | case2 a b c l x m ih =>
    simp only [Bool.and_eq_true, decide_eq_true_eq] at h
    obtain ⟨⟨⟨h1, h2⟩, h3⟩, h4⟩ := h
    subst h1; subst h2; subst h3
    rw [ih h4]; rfl
  | case3 => cases h
noncomputable def primM : Pr := fun f args h => match f with
  | 19 => bif ops8At args h then .ok (.bool true) h else .bad
  | 28 => insP Try.prog 75 args h
  | 70 => insP Try.prog 115 args h
  | _ => .bad
theorem pm19 (args : List Value) (h : H) : primM 19 args h = bif ops8At args h then .ok (.bool true) h else .bad := by kernel_rfl
theorem pm28 (args : List Value) (h : H) : primM 28 args h = insP Try.prog 75 args h := by kernel_rfl
theorem pm70 (args : List Value) (h : H) : primM 70 args h = insP Try.prog 115 args h := by kernel_rfl
end Go.Proofs.Ytomboannkblccaa.K
