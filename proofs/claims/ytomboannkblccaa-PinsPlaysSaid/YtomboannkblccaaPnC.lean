/- The pins' program: a table's rows. -/
import Derived.Test.YtomboannkblccaaPnB
namespace Go.Proofs.Ytomboannkblccaa.K
open Go Go.Kx
set_option linter.unusedVariables false
set_option linter.unusedSimpArgs false
set_option maxRecDepth 20000

abbrev Rw := Int × List Value
def rowsC : List Rw → List Value
  | [] => []
  | r :: l => .int .i64 r.1 :: (r.2 ++ rowsC l)
def Good (rows : List Rw) : Prop := ∀ r ∈ rows, r.2.length = 102 ∧ ones r.2 = true
def key (rows : List Rw) (m : Nat) : Int := ((rows[m]?).map (·.1)).getD 0
def Srt : List Rw → Prop
  | [] => True
  | r :: l => (∀ q ∈ l, r.1 < q.1) ∧ Srt l

theorem rowsC_len : ∀ {rows : List Rw}, Good rows → (rowsC rows).length = rows.length * 103
  | [], _ => rfl
  | r :: l, g => by
    have h1 := (g r (by simp)).1
    have h2 := rowsC_len (rows := l) (fun q hq => g q (by simp [hq]))
    simp only [rowsC, List.length_cons, List.length_append, h1, h2]
    omega
theorem rowsC_ones : ∀ {rows : List Rw}, Good rows → ones (rowsC rows) = true
  | [], _ => rfl
  | r :: l, g => by
    have h1 := (g r (by simp)).2
    have h2 := rowsC_ones (rows := l) (fun q hq => g q (by simp [hq]))
    show (true && ones (r.2 ++ rowsC l)) = true
    rw [ones_append h1 h2]; rfl
theorem rowsC_app : ∀ (a b : List Rw), rowsC (a ++ b) = rowsC a ++ rowsC b
  | [], _ => rfl
  | r :: l, b => by simp [rowsC, rowsC_app l b]
theorem Good.take {rows : List Rw} (g : Good rows) (n : Nat) : Good (rows.take n) := fun r hr => g r (List.mem_of_mem_take hr)
theorem Good.drop {rows : List Rw} (g : Good rows) (n : Nat) : Good (rows.drop n) := fun r hr => g r (List.mem_of_mem_drop hr)

theorem rowsC_drop {rows : List Rw} (g : Good rows) {m : Nat} (hm : m ≤ rows.length) (sp : List Value) : (rowsC rows ++ sp).drop (m * 103) = rowsC (rows.drop m) ++ sp := by
  have h1 : rowsC rows = rowsC (rows.take m) ++ rowsC (rows.drop m) := by rw [← rowsC_app, List.take_append_drop]
  have h2 := rowsC_len (g.take m)
  rw [List.length_take, Nat.min_eq_left hm] at h2
  rw [h1, List.append_assoc, ← h2, List.drop_left]
theorem rowsC_take {rows : List Rw} (g : Good rows) {m : Nat} (hm : m ≤ rows.length) (sp : List Value) : (rowsC rows ++ sp).take (m * 103) = rowsC (rows.take m) := by
  have h1 : rowsC rows = rowsC (rows.take m) ++ rowsC (rows.drop m) := by rw [← rowsC_app, List.take_append_drop]
  have h2 := rowsC_len (g.take m)
  rw [List.length_take, Nat.min_eq_left hm] at h2
  rw [h1, List.append_assoc, ← h2, List.take_left]

theorem row_at {rows : List Rw} (g : Good rows) {m : Nat} {r : Rw} (hr : rows[m]? = some r) (sp : List Value) : ((rowsC rows ++ sp).drop (m * 103)).take 103 = .int .i64 r.1 :: r.2 := by
  have hm : m < rows.length := by
    rcases Nat.lt_or_ge m rows.length with q | q
    · exact q
    · rw [List.getElem?_eq_none q] at hr; cases hr
  have hd : rows.drop m = r :: rows.drop (m + 1) := by
    rw [List.getElem?_eq_getElem hm] at hr
    cases hr
    exact List.drop_eq_getElem_cons hm
  rw [rowsC_drop g (by omega), hd]
  have h1 := (g r (List.mem_of_getElem? hr)).1
  simp only [rowsC, List.cons_append, List.take_succ_cons, List.append_assoc]
  rw [List.take_left' h1]

/-- Where a key stands, or would stand. -/
def lb (rows : List Rw) (k : Int) : Nat := (rows.takeWhile fun r => decide (r.1 < k)).length
theorem lb_le (rows : List Rw) (k : Int) : lb rows k ≤ rows.length := (List.takeWhile_prefix _).length_le
theorem lb_lo : ∀ (rows : List Rw) (k : Int) (m : Nat), m < lb rows k → key rows m < k
  | [], k, m, h => by simp [lb] at h
  | r :: l, k, m, h => by
    by_cases hr : r.1 < k
    · cases m with
      | zero => simpa [key] using hr
      | succ m =>
        have : m < lb l k := by
          unfold lb at h ⊢
          rw [List.takeWhile_cons_of_pos (by simpa using hr)] at h
          simpa using h
        simpa [key] using lb_lo l k m this
    · unfold lb at h
      rw [List.takeWhile_cons_of_neg (by simpa using hr)] at h
      simp at h
theorem lb_hi : ∀ {rows : List Rw} (s : Srt rows) (k : Int) (m : Nat), lb rows k ≤ m → m < rows.length → k ≤ key rows m
  | [], _, k, m, _, h => by simp at h
  | r :: l, s, k, m, h, hm => by
    by_cases hr : r.1 < k
    · unfold lb at h
      rw [List.takeWhile_cons_of_pos (by simpa using hr)] at h
      cases m with
      | zero => simp at h
      | succ m =>
        have := lb_hi s.2 k m (by unfold lb; simpa using h) (by simpa using hm)
        simpa [key] using this
    · cases m with
      | zero => simp only [key, List.getElem?_cons_zero, Option.map_some, Option.getD_some]; omega
      | succ m =>
        simp only [List.length_cons] at hm
        have hm' : m < l.length := by omega
        have := s.1 l[m] (List.getElem_mem hm')
        simp only [key, List.getElem?_cons_succ, List.getElem?_eq_getElem hm', Option.map_some, Option.getD_some]
        omega

/-- A slice of rows. -/
def SlOk (h : H) (sl : Value) (br : Option Nat) (rows : List Rw) : Prop :=
  (br = none ∧ sl = .slice none 0 0 ∧ rows = []) ∨
  ∃ b spare cap, br = some b ∧ sl = .slice (some ⟨b, 0, none⟩) rows.length cap ∧ h.get b = some (.cells (rowsC rows ++ spare) 81 0 true) ∧ (rowsC rows ++ spare).length = cap * 103 ∧ ones spare = true

/-- A table, and where it lies. -/
structure Tbl (h : H) (bt : Nat) (br : Option Nat) (rows : List Rw) : Prop where
  sl : ∃ sl, h.get bt = some (.cells [sl] 77 0 false) ∧ SlOk h sl br rows
  ne : some bt ≠ br
  good : Good rows
  srt : Srt rows
  few : rows.length ≤ 1000000

theorem Tbl.upd {S : Nat → Prop} {h h' : H} (u : Upd S h h') {bt : Nat} {br : Option Nat} {rows : List Rw} (t : Tbl h bt br rows) (h1 : ¬ S bt) (h2 : ∀ b, br = some b → ¬ S b) : Tbl h' bt br rows := by
  obtain ⟨sl, q1, q2⟩ := t.sl
  refine ⟨⟨sl, u.old _ _ h1 q1, q2.imp id ?_⟩, t.ne, t.good, t.srt, t.few⟩
  rintro ⟨b, sp, cap, e, a, c, d, f⟩
  exact ⟨b, sp, cap, e, a, u.old _ _ (h2 b e) c, d, f⟩
theorem Tbl.grow {h h' : H} (g : Grow h h') {bt : Nat} {br : Option Nat} {rows : List Rw} (t : Tbl h bt br rows) : Tbl h' bt br rows := t.upd (g.upd fun _ => False) id fun _ _ => id

theorem Tbl.rd {h : H} {bt b : Nat} {br : Option Nat} {rows : List Rw} (t : Tbl h bt br rows) {spare : List Value} (hg : h.get b = some (.cells (rowsC rows ++ spare) 81 0 true)) : Rd h b 0 rows.length (key rows) := by
  intro m hm
  have hl := rowsC_len t.good
  refine ⟨rows[m].2, ?_⟩
  have hr : rows[m]? = some rows[m] := List.getElem?_eq_getElem hm
  rw [H.row_eq hg (by rw [List.length_append]; omega), Nat.zero_add, row_at t.good hr]
  simp [key, hr]

/-- Does a key stand there? -/
def hasK (rows : List Rw) (k : Int) : Prop := lb rows k < rows.length ∧ key rows (lb rows k) = k
instance (rows : List Rw) (k : Int) : Decidable (hasK rows k) := by unfold hasK; exact inferInstance

theorem place {h : H} {bt : Nat} {br : Option Nat} {rows : List Rw} (t : Tbl h bt br rows) (k : Int) :
    ∃ h', Grow h h' ∧ CLM (.f 27) [.pointer (some ⟨bt, 0, none⟩), .int .i64 k] h = .ok (.tuple ⟨[.int .i64 (lb rows k : Nat), .bool (decide (hasK rows k))]⟩) h' := by
  obtain ⟨sl, q1, q2⟩ := t.sl
  rw [cM27, F27.eq]
  simp only [xnil_ptr, go_ok, fa77_0, ld75, H.cell_eq q1, List.getElem?_cons_zero, ofO_some]
  rcases q2 with ⟨rfl, rfl, rfl⟩ | ⟨b, spare, cap, rfl, rfl, hg, hl, ho⟩
  · simp only [search_nil, go_ok, xextract_0, xextract_1]
    exact ⟨h, Grow.refl h, rfl⟩
  · obtain ⟨h', g, e⟩ := search (cap := cap) (k := k) (by have := t.few; omega) (lb_le rows k) (lb_lo rows k) (lb_hi t.srt k) (t.rd hg)
    simp only [e, go_ok, xextract_0, xextract_1]
    exact ⟨h', g, rfl⟩

theorem len {h : H} {bt : Nat} {br : Option Nat} {rows : List Rw} (t : Tbl h bt br rows) : CLM (.f 15) [.pointer (some ⟨bt, 0, none⟩)] h = .ok (.int .i64 (rows.length : Nat)) h := by
  obtain ⟨sl, q1, q2⟩ := t.sl
  rw [cM15, F15.eq]
  simp only [xnil_ptr, go_ok, fa77_0, ld75, H.cell_eq q1, List.getElem?_cons_zero, ofO_some]
  rcases q2 with ⟨rfl, rfl, rfl⟩ | ⟨b, spare, cap, rfl, rfl, hg, hl, ho⟩ <;> simp only [ln75, go_ok] <;> rfl

end Go.Proofs.Ytomboannkblccaa.K
