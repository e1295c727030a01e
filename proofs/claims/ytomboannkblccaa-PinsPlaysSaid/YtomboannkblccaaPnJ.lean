/- The pins' program: two pins are held against each other. -/
import Derived.Test.YtomboannkblccaaPnI
namespace Go.Proofs.Ytomboannkblccaa.K
open Go Go.Kx
set_option linter.unusedVariables false
set_option linter.unusedSimpArgs false
set_option maxRecDepth 20000

theorem eqLits_app : ∀ {l m : List Lit}, eqLits l l = some true → eqLits m m = some true → eqLits (l ++ m) (l ++ m) = some true
  | [], _, _, h => h
  | x :: l, m, h, k => by
    cases x with
    | int q n => simp only [List.cons_append, eqLits, decide_true, Bool.and_self, cond_true] at *; exact eqLits_app h k
    | bool b => simp only [List.cons_append, eqLits, beq_self_eq_true, cond_true] at *; exact eqLits_app h k
    | string s => simp only [List.cons_append, eqLits, beq_self_eq_true, cond_true] at *; exact eqLits_app h k
    | float _ _ => simp [eqLits] at h
    | nil => simp [eqLits] at h

/-- Cells of a type of numbers, as the type says. -/
def KL (d t : Nat) (l : List Value) : Prop := ∃ ls, Try.prog.keyLits d t l = some ls ∧ eqLits ls ls = some true

def i64ok (n : Int) : Prop := -9223372036854775808 ≤ n ∧ n ≤ 9223372036854775807
theorem KL_int {n : Int} (h : i64ok n) (d : Nat) : KL (d + 1) 3 [.int .i64 n] := by
  refine ⟨[.int .i64 n], ?_, by simp [eqLits]⟩
  unfold Program.keyLits
  rw [Try.underlying3]
  have : (Lit.int .i64 n).wf = true := by
    unfold i64ok at h
    simp only [Lit.wf, IntKind.min, IntKind.max, IntKind.bits, IntKind.signed]
    simp; omega
  simp [this]

theorem pin_lits {k r m : List Value} {n g : Int} (hn : i64ok n) (hg : i64ok g) (hk : k.length = 32) (hr : r.length = 34) (hm : m.length = 34) (k1 : KL 11 23 k) (k2 : KL 11 25 r) (k3 : KL 11 25 m) : KL 12 38 (pinC n g k r m) := by
  obtain ⟨a, a1, a2⟩ := KL_int hn 10
  obtain ⟨b, b1, b2⟩ := KL_int hg 10
  obtain ⟨c, c1, c2⟩ := k1
  obtain ⟨d, d1, d2⟩ := k2
  obtain ⟨e, e1, e2⟩ := k3
  refine ⟨a ++ (b ++ (c ++ (d ++ e))), ?_, eqLits_app a2 (eqLits_app b2 (eqLits_app c2 (eqLits_app d2 e2)))⟩
  unfold Program.keyLits
  rw [Try.underlying38]
  have hl : (pinC n g k r m).length = 102 := by simp [pinC, hk, hr, hm]
  have p0 : ((pinC n g k r m).drop 0).take 1 = [.int .i64 n] := rfl
  have p1 : ((pinC n g k r m).drop 1).take 1 = [.int .i64 g] := rfl
  have p2 : ((pinC n g k r m).drop 2).take 32 = k := by show (k ++ (r ++ m)).take 32 = k; exact List.take_left' hk
  have p3 : ((pinC n g k r m).drop 34).take 34 = r := by
    show ((k ++ (r ++ m)).drop 32).take 34 = r
    rw [List.drop_left' hk, List.take_left' hr]
  have p4 : ((pinC n g k r m).drop 68).take 34 = m := by
    show ((k ++ (r ++ m)).drop 66).take 34 = m
    rw [show (66 : Nat) = 32 + 34 from rfl, ← List.drop_drop, List.drop_left' hk, List.drop_left' hr, take_all hm]
  have z3 : Try.prog.cellsOf 3 = 1 := by kernel_rfl
  have z23 : Try.prog.cellsOf 23 = 32 := by kernel_rfl
  have z25 : Try.prog.cellsOf 25 = 34 := by kernel_rfl
  have z38 : Try.prog.cellsOf 38 = 102 := by kernel_rfl
  simp only [hl, z38, true_and]
  rw [if_pos (by first | (simp; done) | kernel_rfl)]
  simp only [List.mapM_cons, List.mapM_nil, z3, z23, z25, p0, p1, p2, p3, p4, a1, b1, c1, d1, e1]
  simp

theorem agg38 {x : List Value} (hx : x.length = 102) (h : KL 12 38 x) : aggEq Try.prog 38 (.agg ⟨x⟩) (.agg ⟨x⟩) = some true := by
  obtain ⟨l, h1, h2⟩ := h
  have hf : (Value.agg ⟨x⟩).formed Try.prog 38 = true := by
    unfold Value.formed
    rw [Try.underlying38]
    simp [hx, show Try.prog.cellsOf 38 = 102 by kernel_rfl]
  unfold aggEq
  rw [hf, show Try.prog.keyTypeAt 12 38 = true by kernel_rfl]
  show (match Try.prog.keyLits 12 38 x, Try.prog.keyLits 12 38 x with | some l, some m => eqLits l m | _, _ => none) = _
  rw [h1]
  exact h2

theorem eg38 : Try.prog.eqGuardType Try.prog.depth 38 = false := by kernel_rfl
theorem eq38 {x : List Value} (hx : x.length = 102) (hf : flatL x = true) (hk : KL 12 38 x) (h : H) : xbin Try.prog .eql 38 (.agg ⟨x⟩) (.agg ⟨x⟩) h = .ok (.bool true) h := by
  unfold xbin
  simp only [flat, hf, Bool.and_self, cond_true, eg38, cond_false, agg38 hx hk]
theorem neq38 {x : List Value} (hx : x.length = 102) (hf : flatL x = true) (hk : KL 12 38 x) (h : H) : xbin Try.prog .neq 38 (.agg ⟨x⟩) (.agg ⟨x⟩) h = .ok (.bool false) h := by
  unfold xbin
  simp only [flat, hf, Bool.and_self, cond_true, eg38, cond_false, agg38 hx hk]
  rfl
theorem eq38_0 (h : H) : xbin Try.prog .eql 38 (.agg ⟨zc38⟩) (.agg ⟨zc38⟩) h = .ok (.bool true) h := by kernel_rfl

end Go.Proofs.Ytomboannkblccaa.K
