/- The pins' program: two numbers held against each other; the search. -/
import Derived.Test.YtomboannkblccaaCalls
namespace Go.Proofs.Ytomboannkblccaa.K
open Go Go.Kx
set_option linter.unusedVariables false
set_option linter.unusedSimpArgs false
set_option maxRecDepth 20000

def cmpI (a b : Int) : Int := if a < b then -1 else if b < a then 1 else 0

theorem isNaN_int (a : Int) (h : H) : CLM (.f 49) [.int .i64 a] h = .ok (.bool false) h := by
  rw [cM49, F49.eq]
  simp [xneq]

theorem cmp_int (a b : Int) (h : H) : CLM (.f 37) [.int .i64 a, .int .i64 b] h = .ok (.int .i64 (cmpI a b)) h := by
  rw [cM37, F37.eq]
  simp only [isNaN_int, go_ok, ifV_f, xlss, xgtr, ifV_dec, cmpI]
  by_cases h1 : a < b
  · simp [h1]
  · by_cases h2 : b < a <;> simp [h1, h2]

theorem cmp_row (a b : Int) (v : List Value) (h : H) : CLM (.f 36) [.agg ⟨.int .i64 a :: v⟩, .int .i64 b] h = .ok (.int .i64 (cmpI a b)) (h.alloc (.cells (.int .i64 a :: v) 81 0 false)) := by
  rw [cM36, F36.eq]
  simp only [xbox_eq, cells_agg, go_ok, fa81_0, ld3, H.cell_eq (H.alloc_self _ _), List.getElem?_cons_zero, ofO_some, cmp_int]

/-- Rows that may be read there: their keys. -/
def Rd (h : H) (b o n : Nat) (key : Nat → Int) : Prop := ∀ m, m < n → ∃ v, h.row ⟨b, o + m * 103, none⟩ 103 = some (.int .i64 (key m) :: v)

theorem Rd.grow {h h' : H} (g : Grow h h') {b o n : Nat} {key : Nat → Int} (r : Rd h b o n key) : Rd h' b o n key := fun m hm => let ⟨v, hv⟩ := r m hm; ⟨v, g.row hv⟩

theorem search_loop {b o n cap p : Nat} {sp : Option Nat} {key : Nat → Int} {k : Int} (hn : n ≤ 4611686018427387903) (hp : p ≤ n) (h1 : ∀ m, m < p → key m < k) (h2 : ∀ m, p ≤ m → m < n → k ≤ key m) (hsp : sp = none) :
    ∀ (d i j : Nat) (h : H), j - i ≤ d → i ≤ p → p ≤ j → j ≤ n → Rd h b o n key →
      ∃ h', Grow h h' ∧ F35.l3 Try.prog CLM (.slice (some ⟨b, o, sp⟩) n cap) (.int .i64 k) (.func (.func 36) #[] #[]) (.int .i64 n) (.int .i64 i) (.int .i64 j) h = .ok (.tuple ⟨[.int .i64 p, .bool (decide (p < n ∧ key p = k))]⟩) h' := by
  subst hsp
  intro d
  induction d with
  | zero =>
    intro i j h hd hi hj hjn hr
    obtain rfl : p = i := by omega
    obtain rfl : j = p := by omega
    rw [F35.l3_eq]
    simp only [xlss, go_ok, ifV_dec]
    rw [if_neg (by omega), F35.j8_eq]
    simp only [xlss, go_ok, ifV_dec]
    by_cases hlt : j < n
    · rw [if_pos (by omega)]
      obtain ⟨v, hv⟩ := hr j hlt
      rw [ia75 _ _ _ _ _ _ _ _ hlt]
      simp only [go_ok, ld81, hv, ofA_some, xcallV_func, List.nil_append, List.append_nil, List.cons_append, cmp_row, xeql]
      have e : decide (cmpI (key j) k = 0) = decide (j < n ∧ key j = k) := by
        have := h2 j (Nat.le_refl _) hlt
        unfold cmpI
        by_cases hk : key j = k
        · simp [hk, hlt]
        · have : k < key j := by omega
          rw [if_neg (by omega), if_pos this]
          simp [hk]
      rw [e]
      exact ⟨_, (Grow.refl h).alloc _, rfl⟩
    · rw [if_neg (by omega)]
      refine ⟨_, Grow.refl h, ?_⟩
      simp [hlt]
  | succ d ih =>
    intro i j h hd hi hj hjn hr
    by_cases hij : i < j
    · rw [F35.l3_eq]
      simp only [xlss, go_ok, ifV_dec]
      rw [if_pos (by omega), F35.j4_eq]
      have e1 : IntKind.i64.wrap ((i : Int) + j) = ((i + j : Nat) : Int) := by rw [wrap64 (by omega)]; omega
      have e2 : IntKind.u64.wrap ((i + j : Nat) : Int) = ((i + j : Nat) : Int) := wrapu64 (by omega)
      have e3 : ((i + j : Nat) : Int).fdiv 2 = (((i + j) / 2 : Nat) : Int) := by
        rw [Int.fdiv_eq_ediv_of_nonneg _ (by omega)]; omega
      have e4 : IntKind.i64.wrap (((i + j) / 2 : Nat) : Int) = (((i + j) / 2 : Nat) : Int) := wrap64 (by omega)
      have hm : (i + j) / 2 < n := by omega
      obtain ⟨v, hv⟩ := hr _ hm
      simp only [xadd, go_ok, e1, cv3_114, e2, xshr1, e3, cv114_3, e4, ia75 _ _ _ _ _ _ _ _ hm, ld81, hv, ofA_some, xcallV_func, List.nil_append, List.append_nil, List.cons_append, cmp_row, xlss, ifV_dec]
      have g1 : Grow h (h.alloc (.cells (.int .i64 (key ((i + j) / 2)) :: v) 81 0 false)) := (Grow.refl h).alloc _
      by_cases hc : key ((i + j) / 2) < k
      · rw [if_pos (by unfold cmpI; rw [if_pos hc]; omega)]
        have e5 : IntKind.i64.wrap ((((i + j) / 2 : Nat) : Int) + 1) = (((i + j) / 2 + 1 : Nat) : Int) := by rw [wrap64 (by omega)]; omega
        rw [e5]
        have hle : (i + j) / 2 < p := by
          rcases Nat.lt_or_ge ((i + j) / 2) p with q | q
          · exact q
          · have := h2 _ q hm; omega
        obtain ⟨h', q1, q2⟩ := ih ((i + j) / 2 + 1) j _ (by omega) hle hj hjn (hr.grow g1)
        exact ⟨h', g1.trans q1, q2⟩
      · rw [if_neg (by unfold cmpI; rw [if_neg hc]; split <;> omega)]
        have hle : p ≤ (i + j) / 2 := by
          rcases Nat.lt_or_ge ((i + j) / 2) p with q | q
          · exact absurd (h1 _ q) hc
          · exact q
        obtain ⟨h', q1, q2⟩ := ih i ((i + j) / 2) _ (by omega) hi hle (by omega) (hr.grow g1)
        exact ⟨h', g1.trans q1, q2⟩
    · exact ih i j h (by omega) hi hj hjn hr

/-- Where a key stands, or would stand. -/
theorem search {b o n cap p : Nat} {key : Nat → Int} {k : Int} (hn : n ≤ 4611686018427387903) (hp : p ≤ n) (h1 : ∀ m, m < p → key m < k) (h2 : ∀ m, p ≤ m → m < n → k ≤ key m) {h : H} (hr : Rd h b o n key) :
    ∃ h', Grow h h' ∧ CLM (.f 35) [.slice (some ⟨b, o, none⟩) n cap, .int .i64 k, .func (.func 36) #[] #[]] h = .ok (.tuple ⟨[.int .i64 p, .bool (decide (p < n ∧ key p = k))]⟩) h' := by
  rw [cM35, F35.eq]
  simp only [ln75, go_ok]
  exact search_loop hn hp h1 h2 rfl n 0 n h (by omega) (Nat.zero_le _) hp (Nat.le_refl _) hr
theorem search_nil_loop {k : Int} (x : Value) (h : H) : F35.l3 Try.prog CLM x (.int .i64 k) (.func (.func 36) #[] #[]) (.int .i64 0) (.int .i64 0) (.int .i64 0) h = .ok (.tuple ⟨[.int .i64 0, .bool false]⟩) h := by
  rw [F35.l3_eq, xlss, go_ok, ifV_dec, if_neg (by omega), F35.j8_eq, xlss, go_ok, ifV_dec, if_neg (by omega)]
theorem search_nil {k : Int} (n : Nat) (h : H) : CLM (.f 35) [.slice none 0 n, .int .i64 k, .func (.func 36) #[] #[]] h = .ok (.tuple ⟨[.int .i64 0, .bool false]⟩) h := by
  have e : ((0 : Nat) : Int) = 0 := rfl
  rw [cM35, F35.eq]
  simp only [ln75, go_ok, e, search_nil_loop]

end Go.Proofs.Ytomboannkblccaa.K
