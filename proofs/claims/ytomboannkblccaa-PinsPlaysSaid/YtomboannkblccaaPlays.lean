/- Proved here: PinsPlays: for every input the call tells true, and what it was handed reads as it did. Conditions: none beyond those of the given row. -/
import Derived.Test.YtomboannkblccaaPnN
import Derived.Test.YtomboannkblccaaKxY
import Derived.Test.YtomboannkblccaaEqs2
import Derived.Test.YtomboannkblccaaPnQ
import Derived.Test.YtomboannkblccaaKxZ
import Derived.Test.YtomboannkblccaaRows
namespace Go.Proofs.Ytomboannkblccaa.K
open Go Go.Kx
set_option linter.unusedVariables false
set_option linter.unusedSimpArgs false
set_option maxRecDepth 20000

theorem L44 : LsT Try.prog 44 69 102 := ⟨by kernel_rfl, by kernel_rfl, by kernel_rfl, by kernel_rfl, by kernel_rfl, by omega, by kernel_rfl, Nat.le_of_ble_eq_true (by kernel_rfl)⟩
theorem L73 : LsT Try.prog 73 38 102 := ⟨by kernel_rfl, by kernel_rfl, by kernel_rfl, by kernel_rfl, by kernel_rfl, by omega, by kernel_rfl, Nat.le_of_ble_eq_true (by kernel_rfl)⟩

abbrev vals (rows : List Rw) : List (List Value) := rows.map (·.2)
theorem vals_good {rows : List Rw} (g : Good rows) : GoodR 102 (vals rows) := fun r hr => by
  obtain ⟨q, h1, rfl⟩ := List.mem_map.1 hr
  exact g q h1

/-- The reference's list: where it lies. -/
structure Ref (h : H) (rb o : Nat) (last : Int) (lb : Option Nat) (rows : List Rw) : Prop where
  cells : ∃ c el sl, h.get rb = some (.cells c el 0 false) ∧ c[o]? = some sl ∧ c[o + 1]? = some (.int .i64 last) ∧ Lst 69 102 h sl lb (vals rows)
  ne : some rb ≠ lb
  good : Good rows
  pnd : Pnd rows
  srt : Srt rows
  few : rows.length ≤ 64

theorem srt_lb : ∀ {rows : List Rw} (s : Srt rows) {i : Nat} {r : Rw}, rows[i]? = some r → lb rows r.1 = i
  | [], _, i, r, h => by simp at h
  | q :: l, s, 0, r, h => by
    simp only [List.getElem?_cons_zero, Option.some.injEq] at h
    subst h
    exact lb_cons_neg (Int.lt_irrefl _)
  | q :: l, s, i + 1, r, h => by
    simp only [List.getElem?_cons_succ] at h
    rw [lb_cons_pos (s.1 r (List.mem_of_getElem? h)), srt_lb s.2 h]
theorem srt_hasK {rows : List Rw} (s : Srt rows) {i : Nat} {r : Rw} (h : rows[i]? = some r) : hasK rows r.1 := by
  have e := srt_lb s h
  obtain ⟨hi, he⟩ := List.getElem?_eq_some_iff.1 h
  refine ⟨by rw [e]; exact hi, ?_⟩
  unfold key
  rw [e, h]; rfl

/-- The place of a pin. -/
theorem at34 {h : H} {rb o : Nat} {last : Int} {lbk : Option Nat} {rows : List Rw} (R : Ref h rb o last lbk rows) (n : Int) :
    CLM (.f 34) [.pointer (some ⟨rb, o, none⟩), .int .i64 n] h = .ok (.int .i64 (if hasK rows n then (lb rows n : Nat) else -1)) h := by
  obtain ⟨c, el, sl, hg, hc0, hc1, l⟩ := R.cells
  rw [cM34, F34.eq]
  have key : ∀ (d i : Nat), rows.length - i = d → i ≤ rows.length → (∀ j r, j < i → rows[j]? = some r → r.1 ≠ n) →
      F34.l2 Try.prog CLM (.pointer (some ⟨rb, o, none⟩)) (.int .i64 n) (.int .i64 (i : Nat)) h = .ok (.int .i64 (if hasK rows n then (lb rows n : Nat) else -1)) h := by
    intro d
    induction d with
    | zero =>
      intro i hd hi hno
      have hlen : i = rows.length := by omega
      obtain ⟨x, cc, rfl⟩ := l.len
      have hnk : ¬ hasK rows n := fun q => by
        obtain ⟨r, hr⟩ : ∃ r, rows[lb rows n]? = some r := ⟨_, List.getElem?_eq_getElem q.1⟩
        have hk := q.2
        unfold K.key at hk
        rw [hr] at hk
        exact hno _ r (by rw [hlen]; exact q.1) hr hk
      rw [F34.l2_eq, xnil_ptr, go_ok, fa46_0, go_ok, ld44, H.cell_eq hg, hc0, ofO_some, go_ok, ln44, go_ok, xlss, go_ok, ifV_dec, if_neg (by simp [hlen]), F34.j6_eq, if_neg hnk]
    | succ d ih =>
      intro i hd hi hno
      have hlt : i < rows.length := by omega
      obtain ⟨r, hr⟩ : ∃ r, rows[i]? = some r := ⟨_, List.getElem?_eq_getElem hlt⟩
      obtain ⟨g0, tl, hform⟩ := R.pnd r (List.mem_of_getElem? hr)
      obtain ⟨b, cap, cc, _, rfl, hgb, _, hrow, hcell⟩ := l.at_ (vals_good R.good) (i := i) (r := r.2) (by rw [List.getElem?_map, hr]; rfl)
      have h0 := hcell 0 (by omega)
      rw [hform, List.getElem?_cons_zero, Nat.add_zero] at h0
      rw [F34.l2_eq, xnil_ptr, go_ok, fa46_0, go_ok, ld44, H.cell_eq hg, hc0, ofO_some, go_ok, ln44, go_ok, xlss, go_ok, ifV_dec, if_pos (by simp; omega), F34.j4_eq, xnil_ptr, go_ok, fa46_0, go_ok, ld44, H.cell_eq hg, hc0, ofO_some, go_ok,
        ia44 _ _ _ _ _ _ _ _ (by simpa using hlt), go_ok, fa69_0, go_ok, ld3, Nat.zero_add, h0, ofO_some, go_ok, xeql, go_ok, ifV_dec]
      by_cases hq : r.1 = n
      · rw [if_pos hq, if_pos (hq ▸ srt_hasK R.srt hr), ← hq, srt_lb R.srt hr]
      · have few := R.few
        have hw : IntKind.i64.wrap ((i : Int) + 1) = ((i + 1 : Nat) : Int) := by rw [wrap64 (by omega)]; omega
        rw [if_neg hq, xadd, go_ok, hw]
        refine ih (i + 1) (by omega) (by omega) fun j q hj hq' => ?_
        by_cases hji : j = i
        · subst hji; rw [hr] at hq'; cases hq'; exact hq
        · exact hno j q (by omega) hq'
  exact key rows.length 0 (by omega) (Nat.zero_le _) (fun j r hj => by omega)

end Go.Proofs.Ytomboannkblccaa.K

namespace Go.Proofs.Ytomboannkblccaa.K
open Go Go.Kx
set_option linter.unusedVariables false
set_option linter.unusedSimpArgs false
set_option maxRecDepth 20000

theorem cnt_snoc (g : Int) (rows : List Rw) (r : Rw) : cnt g (rows ++ [r]) = cnt g rows + if genOf r = g then 1 else 0 := by
  unfold cnt
  rw [List.filter_append, List.length_append]
  congr 1
  by_cases q : genOf r = g <;> simp [q]

/-- How many are of a generation. -/
theorem of25 {h : H} {rb o : Nat} {last : Int} {lbk : Option Nat} {rows : List Rw} (R : Ref h rb o last lbk rows) (gen : Int) :
    CLM (.f 25) [.pointer (some ⟨rb, o, none⟩), .int .i64 gen] h = .ok (.int .i64 (cnt gen rows : Nat)) h := by
  obtain ⟨c, el, sl, hg, hc0, hc1, l⟩ := R.cells
  rw [cM25, F25.eq]
  have key : ∀ (d i : Nat), rows.length - i = d → i ≤ rows.length →
      F25.l3 Try.prog CLM (.pointer (some ⟨rb, o, none⟩)) (.int .i64 gen) (.int .i64 (cnt gen (rows.take i) : Nat)) (.int .i64 (i : Nat)) h = .ok (.int .i64 (cnt gen rows : Nat)) h := by
    intro d
    induction d with
    | zero =>
      intro i hd hi
      have hlen : i = rows.length := by omega
      obtain ⟨x, cc, rfl⟩ := l.len
      rw [F25.l3_eq, xnil_ptr, go_ok, fa46_0, go_ok, ld44, H.cell_eq hg, hc0, ofO_some, go_ok, ln44, go_ok, xlss, go_ok, ifV_dec, if_neg (by simp [hlen]), F25.j7_eq, hlen, List.take_length]
    | succ d ih =>
      intro i hd hi
      have hlt : i < rows.length := by omega
      obtain ⟨r, hr⟩ : ∃ r, rows[i]? = some r := ⟨_, List.getElem?_eq_getElem hlt⟩
      obtain ⟨g0, tl, hform⟩ := R.pnd r (List.mem_of_getElem? hr)
      have hgen := genOf_eq hform
      obtain ⟨b, cap, cc, _, rfl, hgb, _, hrow, hcell⟩ := l.at_ (vals_good R.good) (i := i) (r := r.2) (by rw [List.getElem?_map, hr]; rfl)
      have h1 := hcell 1 (by omega)
      rw [hform] at h1
      simp only [List.getElem?_cons_succ, List.getElem?_cons_zero] at h1
      have htk : rows.take (i + 1) = rows.take i ++ [r] := by rw [List.take_add_one, hr]; rfl
      have few := R.few
      have hw : IntKind.i64.wrap ((i : Int) + 1) = ((i + 1 : Nat) : Int) := by rw [wrap64 (by omega)]; omega
      rw [F25.l3_eq, xnil_ptr, go_ok, fa46_0, go_ok, ld44, H.cell_eq hg, hc0, ofO_some, go_ok, ln44, go_ok, xlss, go_ok, ifV_dec, if_pos (by simp; omega), F25.j5_eq, xnil_ptr, go_ok, fa46_0, go_ok, ld44, H.cell_eq hg, hc0, ofO_some, go_ok,
        ia44 _ _ _ _ _ _ _ _ (by simpa using hlt), go_ok, fa69_1, go_ok, ld3, Nat.zero_add, h1, ofO_some, go_ok, xeql, go_ok, ifV_dec]
      have hc := cnt_snoc gen (rows.take i) r
      rw [← htk, hgen] at hc
      have hle := cnt_le gen (rows.take i)
      have hlt2 : (rows.take i).length ≤ 64 := by rw [List.length_take]; omega
      by_cases hq : g0 = gen
      · rw [if_pos hq, xadd, go_ok, xadd, go_ok, hw]
        have hw2 : IntKind.i64.wrap ((cnt gen (rows.take i) : Int) + 1) = ((cnt gen (rows.take (i + 1)) : Nat) : Int) := by
          rw [wrap64 (by omega), hc, if_pos hq]; omega
        rw [hw2]
        exact ih (i + 1) (by omega) (by omega)
      · rw [if_neg hq, xadd, go_ok, hw]
        have : cnt gen (rows.take i) = cnt gen (rows.take (i + 1)) := by rw [hc, if_neg hq]; rfl
        rw [this]
        exact ih (i + 1) (by omega) (by omega)
  exact key rows.length 0 (by omega) (Nat.zero_le _)

end Go.Proofs.Ytomboannkblccaa.K

namespace Go.Proofs.Ytomboannkblccaa.K
open Go Go.Kx
set_option linter.unusedVariables false
set_option linter.unusedSimpArgs false
set_option maxRecDepth 20000

/-- The block of the two references: but these two cells it is as it was. -/
def Oth (rb o : Nat) (h h' : H) : Prop := ∀ c el, h.get rb = some (.cells c el 0 false) → ∃ c', h'.get rb = some (.cells c' el 0 false) ∧ c'.length = c.length ∧ ∀ j, j ≠ o → j ≠ o + 1 → c'[j]? = c[j]?
theorem Oth.grow {rb o : Nat} {h h' : H} (g : Grow h h') : Oth rb o h h' := fun c el q => ⟨c, g.old _ _ q, rfl, fun _ _ _ => rfl⟩
theorem Oth.trans {rb o : Nat} {a b c : H} (p : Oth rb o a b) (q : Oth rb o b c) : Oth rb o a c := fun x el hx => by
  obtain ⟨y, h1, h2, h3⟩ := p x el hx
  obtain ⟨z, k1, k2, k3⟩ := q y el h1
  exact ⟨z, k1, k2.trans h2, fun j hj hj' => (k3 j hj hj').trans (h3 j hj hj')⟩

/-- One cell of a block is written. -/
theorem write_cell {h : H} {b k : Nat} {c : List Value} {el : TypeId} {op : Bool} (hg : h.get b = some (.cells c el 0 op)) (hk : k < c.length) {v : Value} (hv : v.oneCell' = true) : h.write ⟨b, k, none⟩ [v] = some (h.put b (.cells (c.set k v) el 0 op)) := by
  rw [H.write_eq hg (by simp only [List.length_singleton]; omega) (by show (v.oneCell' && true) = true; rw [hv]; rfl)]
  congr 3
  rw [List.set_eq_take_append_cons_drop, if_pos hk]; rfl
theorem Oth.set {rb o k : Nat} {h : H} {c : List Value} {el : TypeId} (hg : h.get rb = some (.cells c el 0 false)) (hk : k = o ∨ k = o + 1) (v : Value) : Oth rb o h (h.put rb (.cells (c.set k v) el 0 false)) := fun x e hx => by
  rw [hg] at hx; cases hx
  refine ⟨_, H.put_self hg, by rw [List.length_set], fun j hj hj' => ?_⟩
  rw [List.getElem?_set_ne (by rcases hk with q | q <;> omega)]

theorem delR_vals {rows : List Rw} {k : Int} (h : hasK rows k) : vals (delR rows k) = (vals rows).eraseIdx (lb rows k) := by
  unfold delR vals
  rw [if_pos h, List.eraseIdx_eq_take_drop_succ, List.map_append, List.map_take, List.map_drop]

theorem lst_one {e E : Nat} {h : H} {sl : Value} {br : Option Nat} {rows : List (List Value)} (l : Lst e E h sl br rows) : sl.cells.size = 1 ∧ sl.cells.toList = [sl] ∧ sl.oneCell' = true := by
  obtain ⟨x, c, rfl⟩ := l.len
  exact ⟨rfl, rfl, rfl⟩

theorem unpin22 {h : H} {rb o : Nat} {last : Int} {lbk : Option Nat} {rows : List Rw} (R : Ref h rb o last lbk rows) (n : Int) :
    ∃ h' lb', CLM (.f 22) [.pointer (some ⟨rb, o, none⟩), .int .i64 n] h = .ok (.int .i64 (if hasK rows n then 0 else 191)) h' ∧ Upd (fun x => x = rb) h h' ∧ Oth rb o h h' ∧ Ref h' rb o last lb' (delR rows n) ∧ (lb' = lbk ∨ ∀ b, lb' = some b → h.next ≤ b) := by
  have R0 := R
  obtain ⟨c, el, sl, hg, hc0, hc1, l⟩ := R.cells
  rw [cM22, F22.eq, at34 R, go_ok, xlss, go_ok, ifV_dec]
  by_cases hk : hasK rows n
  · rw [if_pos hk, if_pos hk, if_neg (by omega)]
    have hlt : lb rows n < (vals rows).length := by rw [List.length_map]; exact hk.1
    obtain ⟨t11, t13, br13, h1, t23, t25, br25, h2, s1, e1, g1, nb1, l1, s2, e2, g2, l2, nb2⟩ := lst_del L44 l (vals_good R.good) (by rw [List.length_map]; have := R.few; omega) hlt
    have hg1 := g1.old _ _ hg
    have hg2 := g2.old _ _ hg
    obtain ⟨z1, z2, z3⟩ := lst_one l2
    have hco : o < c.length := (List.getElem?_eq_some_iff.1 hc0).1
    have hw := write_cell hg2 hco z3
    have few := R.few
    have hkl := hk.1
    have hwr : IntKind.i64.wrap ((lb rows n : Int) + 1) = ((lb rows n + 1 : Nat) : Int) := by rw [wrap64 (by omega)]; omega
    have hrb : rb < h.next := H.get_lt hg
    have hput := H.put_self (x := .cells (c.set o t25) el 0 false) hg2
    refine ⟨h2.put rb (.cells (c.set o t25) el 0 false), br25, ?_, (g2.upd (fun x => x = rb)).put (.inl rfl) (H.get_lt hg2) _, (Oth.grow g2).trans (Oth.set hg2 (.inl rfl) _), ?_, .inr nb2⟩
    · rw [F22.j4_eq, xnil_ptr, go_ok, fa46_0, go_ok, ld44, H.cell_eq hg, hc0, ofO_some, go_ok, s1, go_ok, e1, go_ok, xnil_ptr, go_ok, fa46_0, go_ok, ld44, H.cell_eq hg1, hc0, ofO_some, go_ok, xadd, go_ok, hwr, s2, go_ok, e2, go_ok, xnil_ptr, go_ok, fa46_0, go_ok,
        st44 _ _ _ z1, z2, hw, ofU_some, go_ok]
    · refine ⟨⟨_, el, t25, hput, by rw [List.getElem?_set_self hco], by rw [List.getElem?_set_ne (by omega)]; exact hc1, ?_⟩, ?_, ?_, ?_, ?_, ?_⟩
      · rw [delR_vals hk]
        refine l2.upd ((Upd.refl (fun x => x = rb) h2).put (.inl rfl) (H.get_lt hg2) _) fun b hb q => ?_
        have := nb2 b hb
        omega
      · intro q
        have := nb2 rb q.symm
        omega
      · intro r hr; exact R.good r (delR_sub hr)
      · intro r hr; exact R.pnd r (delR_sub hr)
      · unfold delR; rw [if_pos hk]; exact del_srt R.srt _
      · unfold delR; rw [if_pos hk, List.length_append, List.length_take, List.length_drop]; omega
  · rw [if_neg hk, if_neg hk, if_pos (by omega)]
    have hd : delR rows n = rows := by unfold delR; rw [if_neg hk]
    exact ⟨h, lbk, rfl, Upd.refl _ _, Oth.grow (Grow.refl h), by rw [hd]; exact R0, .inl rfl⟩

end Go.Proofs.Ytomboannkblccaa.K

namespace Go.Proofs.Ytomboannkblccaa.K
open Go Go.Kx
set_option linter.unusedVariables false
set_option linter.unusedSimpArgs false
set_option maxRecDepth 20000

theorem res23 : Try.f23.results.toList = [.cell 4 69, .tmp 5] := by kernel_rfl
theorem kfn23 {t u v : Value} {h h2 : H} (hx : xload Try.prog 69 t h = .ok u h2) : kfn Try.prog Try.f23.results.toList .normal [(4, t), (5, v)] h = .ok (.tuple ⟨[u, v]⟩) h := by
  rw [res23]
  show (match (match xload Try.prog 69 t h with | .ok u _ => some [u, v] | _ => none) with | some l => Res.ok (oneV l) h | none => .bad) = _
  rw [hx]
  rfl
theorem zc69_zc38 : zc69 = zc38 := by kernel_rfl
theorem bd69_0 (h : H) : xbuild Try.prog 69 [] h = .ok (.agg ⟨zc69⟩) h := by kernel_rfl

/-- A pin is told. -/
theorem get23 {h : H} {rb o : Nat} {last : Int} {lbk : Option Nat} {rows : List Rw} (R : Ref h rb o last lbk rows) (n : Int) :
    ∃ h', Grow h h' ∧ CLM (.f 23) [.pointer (some ⟨rb, o, none⟩), .int .i64 n] h = .ok (.tuple ⟨[.agg ⟨valOf rows n⟩, .int .i64 (if hasK rows n then 0 else 191)]⟩) h' := by
  obtain ⟨c, el, sl, hg, hc0, hc1, l⟩ := R.cells
  let h1 := h.alloc (.cells zc69 69 0 false)
  have g1 : Grow h h1 := (Grow.refl h).alloc _
  have q1 : h1.get h.next = some (.cells zc69 69 0 false) := H.alloc_self _ _
  have R1 : Ref h1 rb o last lbk rows := ⟨⟨c, el, sl, g1.old _ _ hg, hc0, hc1, l.grow g1⟩, R.ne, R.good, R.pnd, R.srt, R.few⟩
  have hzl : zc69.length = 102 := by rw [zc69_zc38]; exact zc38_len
  have hzo : ones zc69 = true := by rw [zc69_zc38]; exact zc38_ones
  rw [cM23, F23.eq, al69, go_ok]
  rw [show h.alloc (.cells zc69 69 0 false) = h1 from rfl, at34 R1, go_ok, xlss, go_ok, ifV_dec]
  by_cases hk : hasK rows n
  · obtain ⟨r, hr⟩ : ∃ r, rows[lb rows n]? = some r := ⟨_, List.getElem?_eq_getElem hk.1⟩
    have hv : valOf rows n = r.2 := by unfold valOf; rw [if_pos hk, hr]; rfl
    have hgr := R.good r (List.mem_of_getElem? hr)
    obtain ⟨b, cap, cc, _, hsl, hgb, _, hrow, _⟩ := (l.grow g1).at_ (vals_good R.good) (i := lb rows n) (r := r.2) (by rw [List.getElem?_map, hr]; rfl)
    subst hsl
    have hst : (Value.agg ⟨r.2⟩).cells.size = 102 := by rw [asz]; exact hgr.1
    have hw : h1.write ⟨h.next, 0, none⟩ r.2 = some (h1.put h.next (.cells r.2 69 0 false)) := H.write_all q1 (by rw [hzl]; exact hgr.1) hgr.2
    have hkl := hk.1
    rw [if_pos hk, if_neg (by omega), F23.j4_eq, xnil_ptr, go_ok, fa46_0, go_ok, ld44, H.cell_eq (g1.old _ _ hg), hc0, ofO_some, go_ok, ia44 _ _ _ _ _ _ _ _ (by simpa using hkl), go_ok, ld69, Nat.zero_add, hrow, ofA_some, go_ok, st69 _ _ _ hst, cells_agg, hw, ofU_some, go_ok]
    rw [kfn23 (u := .agg ⟨r.2⟩) (h2 := h1.put h.next (.cells r.2 69 0 false)) (by rw [ld69, H.row_all (H.put_self q1) hgr.1]; rfl), hv, if_pos hk]
    exact ⟨_, g1.put (Nat.le_refl _) (H.get_lt q1) _, rfl⟩
  · have hv : valOf rows n = zc69 := by unfold valOf; rw [if_neg hk, zc69_zc38]
    have hst : (Value.agg ⟨zc69⟩).cells.size = 102 := by rw [asz]; exact hzl
    have hw : h1.write ⟨h.next, 0, none⟩ zc69 = some (h1.put h.next (.cells zc69 69 0 false)) := H.write_all q1 rfl hzo
    rw [if_neg hk, if_pos (by omega), bd69_0, go_ok, st69 _ _ _ hst, cells_agg, hw, ofU_some, go_ok]
    rw [kfn23 (u := .agg ⟨zc69⟩) (h2 := h1.put h.next (.cells zc69 69 0 false)) (by rw [ld69, H.row_all (H.put_self q1) hzl]; rfl), hv, if_neg hk]
    exact ⟨_, g1.put (Nat.le_refl _) (H.get_lt q1) _, rfl⟩

end Go.Proofs.Ytomboannkblccaa.K

namespace Go.Proofs.Ytomboannkblccaa.K
open Go Go.Kx
set_option linter.unusedVariables false
set_option linter.unusedSimpArgs false
set_option maxRecDepth 20000

theorem bd69 {k r m : List Value} (hk : k.length = 32) (hr : r.length = 34) (hm : m.length = 34) (a b : Int) (h : H) :
    xbuild Try.prog 69 [(0, .int .i64 a), (1, .int .i64 b), (2, .agg ⟨k⟩), (3, .agg ⟨r⟩), (4, .agg ⟨m⟩)] h = .ok (.agg ⟨.int .i64 a :: .int .i64 b :: (k ++ (r ++ m))⟩) h := by
  have e : xbuild Try.prog 69 [(0, .int .i64 a), (1, .int .i64 b), (2, .agg ⟨k⟩), (3, .agg ⟨r⟩), (4, .agg ⟨m⟩)] h =
      okA (bif Nat.beq (Value.agg ⟨k⟩).cells.size 32 && Nat.ble (2 + 32) (pa (pa zc38 0 1 [Value.int .i64 a]) 1 1 [Value.int .i64 b]).length then
        (bif Nat.beq (Value.agg ⟨r⟩).cells.size 34 && Nat.ble (34 + 34) (pa (pa (pa zc38 0 1 [Value.int .i64 a]) 1 1 [Value.int .i64 b]) 2 32 k).length then
          (bif Nat.beq (Value.agg ⟨m⟩).cells.size 34 && Nat.ble (68 + 34) (pa (pa (pa (pa zc38 0 1 [Value.int .i64 a]) 1 1 [Value.int .i64 b]) 2 32 k) 34 34 r).length then
            some (pa (pa (pa (pa (pa zc38 0 1 [Value.int .i64 a]) 1 1 [Value.int .i64 b]) 2 32 k) 34 34 r) 68 34 m) else none) else none) else none) h := by kernel_rfl
  obtain ⟨z1, y1, h1, l1, m1⟩ := split_at zc38 1 101 zc38_len
  obtain ⟨z2, y2, h2, l2, m2⟩ := split_at y1 1 100 m1
  obtain ⟨z3, y3, h3, l3, m3⟩ := split_at y2 32 68 m2
  obtain ⟨z4, z5, h4, l4, l5⟩ := split_at y3 34 34 m3
  have p1 : pa zc38 0 1 [Value.int .i64 a] = [Value.int .i64 a] ++ y1 := by rw [h1]; exact pa_app (x := []) rfl l1
  have p2 : pa ([Value.int .i64 a] ++ y1) 1 1 [Value.int .i64 b] = [Value.int .i64 a] ++ ([Value.int .i64 b] ++ y2) := by rw [h2]; exact pa_app rfl l2
  have p3 : pa ([Value.int .i64 a] ++ ([.int .i64 b] ++ y2)) 2 32 k = [Value.int .i64 a, .int .i64 b] ++ (k ++ y3) := by rw [h3]; exact pa_app (x := [Value.int .i64 a, .int .i64 b]) rfl l3
  have p4 : pa ([Value.int .i64 a, .int .i64 b] ++ (k ++ y3)) 34 34 r = ([Value.int .i64 a, .int .i64 b] ++ k) ++ (r ++ z5) := by
    rw [h4, ← List.append_assoc]; exact pa_app (by simp [hk]) l4
  have p5 : pa (([Value.int .i64 a, .int .i64 b] ++ k) ++ (r ++ z5)) 68 34 m = (([Value.int .i64 a, .int .i64 b] ++ k) ++ r) ++ (m ++ []) := by
    rw [← List.append_assoc, show z5 = z5 ++ [] by simp]; exact pa_app (by simp [hk, hr]) l5
  have q2 : ([Value.int .i64 a] ++ ([Value.int .i64 b] ++ y2)).length = 102 := by simp [m2]
  have q3 : ([Value.int .i64 a, .int .i64 b] ++ (k ++ y3)).length = 102 := by simp [hk, m3]
  have q4 : (([Value.int .i64 a, .int .i64 b] ++ k) ++ (r ++ z5)).length = 102 := by simp [hk, hr, l5]
  rw [e, p1, p2, p3, p4, p5, q2, q3, q4, asz, asz, asz, hk, hr, hm]
  simp [okA, show Nat.ble (2 + 32) 102 = true from rfl, show Nat.ble (34 + 34) 102 = true from rfl, show Nat.ble (68 + 34) 102 = true from rfl, show Nat.ble 34 102 = true from rfl, show Nat.ble 68 102 = true from rfl, show Nat.ble 102 102 = true from rfl]

theorem zc69l : zc69.length = 102 := by rw [zc69_zc38]; exact zc38_len
theorem bs44 {l : List Value} (hl : l.length = 102) (h : H) : xbuildSlice Try.prog 44 1 [(0, .agg ⟨l⟩)] h = .ok (.slice (some ⟨h.next, 0, none⟩) 1 1) (h.alloc (.cells l 69 0 false)) := by
  have e : xbuildSlice Try.prog 44 1 [(0, .agg ⟨l⟩)] h = okS (ifO (Nat.beq (Value.agg ⟨l⟩).cells.size 102 && Nat.ble (0 + 102) (zc69 ++ []).length) ((zc69 ++ []).take 0 ++ (l ++ (zc69 ++ []).drop (0 + 102)))) 1 69 h := by kernel_rfl
  rw [e]
  have h1 : (zc69 ++ []).length = 102 := by simp [zc69l]
  have h2 : (Value.agg ⟨l⟩).cells.size = 102 := by rw [asz]; exact hl
  have h4 : (zc69 ++ []).drop (0 + 102) = [] := List.drop_eq_nil_of_le (by rw [h1]; omega)
  rw [h1, h2, h4]
  simp [ifO, okS, show Nat.ble 102 102 = true from rfl, show Nat.ble (0 + 102) 102 = true from rfl]


end Go.Proofs.Ytomboannkblccaa.K

namespace Go.Proofs.Ytomboannkblccaa.K
open Go Go.Kx
set_option linter.unusedVariables false
set_option linter.unusedSimpArgs false
set_option maxRecDepth 20000

theorem pin21_full {h : H} {rb o : Nat} {last : Int} {lbk : Option Nat} {rows : List Rw} (R : Ref h rb o last lbk rows) (hf : 64 ≤ rows.length) (gen : Int) (k r m : List Value) :
    ∃ h', Grow h h' ∧ CLM (.f 21) [.pointer (some ⟨rb, o, none⟩), .int .i64 gen, .agg ⟨k⟩, .agg ⟨r⟩, .agg ⟨m⟩] h = .ok (.tuple ⟨[.int .i64 0, .int .i64 190]⟩) h' := by
  obtain ⟨c, el, sl, hg, hc0, hc1, l⟩ := R.cells
  obtain ⟨x, cc, rfl⟩ := l.len
  let h3 := ((h.alloc (.cells k 23 0 false)).alloc (.cells r 25 0 false)).alloc (.cells m 25 0 false)
  have g3 : Grow h h3 := (((Grow.refl h).alloc _).alloc _).alloc _
  refine ⟨h3, g3, ?_⟩
  rw [cM21, F21.eq, xbox_eq, cells_agg, go_ok, xbox_eq, cells_agg, go_ok, xbox_eq, cells_agg, go_ok]
  rw [show ((h.alloc (.cells k 23 0 false)).alloc (.cells r 25 0 false)).alloc (.cells m 25 0 false) = h3 from rfl, xnil_ptr, go_ok, fa46_0, go_ok, ld44, H.cell_eq (g3.old _ _ hg), hc0, ofO_some, go_ok, ln44, go_ok, xgeq, go_ok, ifV_dec, if_pos (by simp; omega)]

theorem rc_self (b n c : Nat) (h : H) : rc (.ok (.slice (some ⟨b, 0, none⟩) n c) h) (some (.slice (some ⟨b, 0, none⟩) n c)) = true := by simp [rc, veq]
theorem rc_lst {e E : Nat} {h0 h : H} {sl : Value} {br : Option Nat} {rows : List (List Value)} (l : Lst e E h0 sl br rows) : rc (.ok sl h) (some sl) = true := by
  rcases l with ⟨_, rfl, _⟩ | ⟨b, sp, cap, _, rfl, _⟩
  · simp [rc, veq]
  · simp [rc, veq]

theorem pin21 {h : H} {rb o last : Nat} {lbk : Option Nat} {rows : List Rw} (R : Ref h rb o (last : Nat) lbk rows) (hf : rows.length < 64) (hlast : last < 4611686018427387904) (hkeys : ∀ q ∈ rows, q.1 < ((last + 1 : Nat) : Int)) (gen : Int) {k r m : List Value}
    (hk : k.length = 32 ∧ ones k = true) (hr : r.length = 34 ∧ ones r = true) (hm : m.length = 34 ∧ ones m = true) :
    ∃ h' lb', CLM (.f 21) [.pointer (some ⟨rb, o, none⟩), .int .i64 gen, .agg ⟨k⟩, .agg ⟨r⟩, .agg ⟨m⟩] h = .ok (.tuple ⟨[.int .i64 ((last + 1 : Nat) : Int), .int .i64 0]⟩) h' ∧ Upd (fun x => x = rb ∨ some x = lbk) h h' ∧ Oth rb o h h' ∧
      Ref h' rb o ((last + 1 : Nat) : Int) lb' (rows ++ [(((last + 1 : Nat) : Int), pinC ((last + 1 : Nat) : Int) gen k r m)]) ∧ NewBr h lbk lb' := by
  obtain ⟨c, el, sl, hg, hc0, hc1, l⟩ := R.cells
  let h1 := h.alloc (.cells k 23 0 false)
  let h2 := h1.alloc (.cells r 25 0 false)
  let h3 := h2.alloc (.cells m 25 0 false)
  have g3 : Grow h h3 := (((Grow.refl h).alloc _).alloc _).alloc _
  have b1 : h3.get h.next = some (.cells k 23 0 false) := H.alloc_old (H.alloc_old (H.alloc_self _ _))
  have b2 : h3.get (h.next + 1) = some (.cells r 25 0 false) := H.alloc_old (H.alloc_self h1 _)
  have b3 : h3.get (h.next + 1 + 1) = some (.cells m 25 0 false) := H.alloc_self h2 _
  have hrb : rb < h.next := H.get_lt hg
  have hg3 := g3.old _ _ hg
  have ho : o < c.length := (List.getElem?_eq_some_iff.1 hc0).1
  have ho1 : o + 1 < c.length := (List.getElem?_eq_some_iff.1 hc1).1
  have hw : IntKind.i64.wrap ((last : Int) + 1) = ((last + 1 : Nat) : Int) := by rw [wrap64 (by omega)]; omega
  obtain ⟨h4, hh4, w4⟩ : ∃ h4, h4 = h3.put rb (.cells (c.set (o + 1) (.int .i64 ((last + 1 : Nat) : Int))) el 0 false) ∧ h3.write ⟨rb, o + 1, none⟩ [.int .i64 ((last + 1 : Nat) : Int)] = some h4 := ⟨_, rfl, write_cell hg3 ho1 rfl⟩
  have q4 : h4.get rb = some (.cells (c.set (o + 1) (.int .i64 ((last + 1 : Nat) : Int))) el 0 false) := by rw [hh4]; exact H.put_self hg3
  have k0 : (c.set (o + 1) (.int .i64 ((last + 1 : Nat) : Int)))[o]? = some sl := by rw [List.getElem?_set_ne (by omega)]; exact hc0
  have k1 : (c.set (o + 1) (.int .i64 ((last + 1 : Nat) : Int)))[o + 1]? = some (.int .i64 ((last + 1 : Nat) : Int)) := List.getElem?_set_self ho1
  have u4 : Upd (fun x => x = rb) h3 h4 := by rw [hh4]; exact (Upd.refl (fun x => x = rb) h3).put (.inl rfl) (H.get_lt hg3) _
  have c1 := u4.old _ _ (by omega) b1
  have c2 := u4.old _ _ (by omega) b2
  have c3 := u4.old _ _ (by omega) b3
  have l4 : Lst 69 102 h4 sl lbk (vals rows) := (l.grow g3).upd u4 (fun b hb q => by subst q; exact R.ne hb.symm)
  have hpc := pinC_ok hk hr hm ((last + 1 : Nat) : Int) gen
  obtain ⟨h5, hh5⟩ : ∃ h5, h5 = h4.alloc (.cells (pinC ((last + 1 : Nat) : Int) gen k r m) 69 0 false) := ⟨_, rfl⟩
  have g5 : Grow h4 h5 := by rw [hh5]; exact (Grow.refl h4).alloc _
  have q5 : h5.get h4.next = some (.cells (pinC ((last + 1 : Nat) : Int) gen k r m) 69 0 false) := by rw [hh5]; exact H.alloc_self _ _
  have l5 := l4.grow g5
  obtain ⟨sl', br', h6, e6, u6, l6, n6⟩ := lst_push L44 l5 (vals_good R.good) (by rw [List.length_map]; omega) q5 hpc.1 hpc.2
  have q6 : h6.get rb = some (.cells (c.set (o + 1) (.int .i64 ((last + 1 : Nat) : Int))) el 0 false) := u6.old _ _ (fun q => R.ne q) (g5.old _ _ q4)
  obtain ⟨z1, z2, z3⟩ := lst_one l6
  obtain ⟨h7, hh7, w7⟩ : ∃ h7, h7 = h6.put rb (.cells ((c.set (o + 1) (.int .i64 ((last + 1 : Nat) : Int))).set o sl') el 0 false) ∧ h6.write ⟨rb, o, none⟩ [sl'] = some h7 := ⟨_, rfl, write_cell q6 (by rw [List.length_set]; exact ho) z3⟩
  have q7 : h7.get rb = some (.cells ((c.set (o + 1) (.int .i64 ((last + 1 : Nat) : Int))).set o sl') el 0 false) := by rw [hh7]; exact H.put_self q6
  have k7 : ((c.set (o + 1) (.int .i64 ((last + 1 : Nat) : Int))).set o sl')[o + 1]? = some (.int .i64 ((last + 1 : Nat) : Int)) := by rw [List.getElem?_set_ne (by omega)]; exact k1
  have k7' : ((c.set (o + 1) (.int .i64 ((last + 1 : Nat) : Int))).set o sl')[o]? = some sl' := List.getElem?_set_self (by rw [List.length_set]; exact ho)
  have u7 : Upd (fun x => x = rb) h6 h7 := by rw [hh7]; exact (Upd.refl (fun x => x = rb) h6).put (.inl rfl) (H.get_lt q6) _
  have n4 : h4.next = h.next + 3 := by rw [hh4]; rfl
  have n5 : h5.next = h.next + 4 := by rw [hh5, H.next_alloc, n4]
  have hst : (Value.int .i64 ((last + 1 : Nat) : Int)).cells.size = 1 := rfl
  have nb : NewBr h lbk br' := n6.imp id fun ⟨b, w1, w2⟩ => ⟨b, w1, by omega⟩
  have hnr : ∀ b, br' = some b → b ≠ rb := by
    intro b hb q
    subst q
    rcases n6 with w | ⟨y, w, w'⟩
    · exact R.ne (hb.symm.trans w)
    · rw [hb] at w; cases w; omega
  have hall := insR_all hkeys (pinC ((last + 1 : Nat) : Int) gen k r m)
  have hnk := hasK_all hkeys
  have hsrt := ins_srt R.srt (pinC ((last + 1 : Nat) : Int) gen k r m) hnk
  rw [hall] at hsrt
  have hgood := ins_good R.good (k := ((last + 1 : Nat) : Int)) hpc
  rw [hall] at hgood
  refine ⟨h7, br', ?_, ((((g3.upd _).trans (u4.mono fun x _ q => .inl q)).trans (g5.upd _)).trans (u6.mono fun x _ q => .inr q)).trans (u7.mono fun x _ q => .inl q), ?_, ?_, nb⟩
  · rw [cM21, F21.eq, xbox_eq, cells_agg, go_ok, xbox_eq, cells_agg, go_ok, xbox_eq, cells_agg, go_ok]
    rw [show ((h.alloc (.cells k 23 0 false)).alloc (.cells r 25 0 false)).alloc (.cells m 25 0 false) = h3 from rfl, xnil_ptr, go_ok, fa46_0, go_ok, ld44, H.cell_eq hg3, hc0, ofO_some, go_ok]
    have hlen : ∀ hh, xbuiltin Try.prog .len [44] [sl] hh = .ok (.int .i64 (rows.length : Nat)) hh := by
      intro hh
      obtain ⟨x, cc, hx⟩ := l.len
      rw [hx, ln44, List.length_map]
    rw [hlen, go_ok, xgeq, go_ok, ifV_dec, if_neg (by omega), F21.j3_eq, xnil_ptr, go_ok, fa46_1, go_ok, ld3, H.cell_eq hg3, hc1, ofO_some, go_ok, xadd, go_ok, hw, xnil_ptr, go_ok, fa46_1, go_ok, st3 _ _ _ hst, cells_int, w4, ofU_some, go_ok,
      xnil_ptr, Res.ok1_ok, fa46_0, Res.ok1_ok, ld44, H.cell_eq q4, k0, ofO_some, Res.ok1_ok, xnil_ptr, Res.ok1_ok, fa46_1, Res.ok1_ok, ld3, H.cell_eq q4, k1, ofO_some, Res.ok1_ok]
    rw [show (h.alloc (.cells k 23 0 false)).next = h.next + 1 from rfl, show ((h.alloc (.cells k 23 0 false)).alloc (.cells r 25 0 false)).next = h.next + 1 + 1 from rfl]
    rw [ld23, H.row_all c1 hk.1, ofA_some, Res.ok1_ok, ld25, H.row_all c2 hr.1, ofA_some, Res.ok1_ok, ld25, H.row_all c3 hm.1, ofA_some, Res.ok1_ok, bd69 hk.1 hr.1 hm.1, Res.ok1_ok]
    rw [show (Value.int .i64 ((last + 1 : Nat) : Int) :: .int .i64 gen :: (k ++ (r ++ m))) = pinC ((last + 1 : Nat) : Int) gen k r m from rfl, bs44 hpc.1, go_ok, ← hh5, ld44, H.cell_eq (g5.old _ _ q4), k0, ofO_some, rc_lst l, Bool.and_true, cond_true, e6, go_ok,
      xnil_ptr, Res.ok1_ok, fa46_0, Res.ok1_ok, st44 _ _ _ z1, z2, w7, ofU_some, go_ok, xnil_ptr, go_ok, fa46_1, go_ok, ld3, H.cell_eq q7, k7, ofO_some, go_ok]
  · intro c' el' hx
    rw [hg] at hx; cases hx
    refine ⟨_, q7, by rw [List.length_set, List.length_set], fun j hj hj' => ?_⟩
    rw [List.getElem?_set_ne (by omega), List.getElem?_set_ne (by omega)]
  · refine ⟨⟨_, el, sl', q7, k7', k7, ?_⟩, fun q => hnr rb q.symm rfl, hgood, ?_, hsrt, ?_⟩
    · have : vals (rows ++ [(((last + 1 : Nat) : Int), pinC ((last + 1 : Nat) : Int) gen k r m)]) = vals rows ++ [pinC ((last + 1 : Nat) : Int) gen k r m] := by simp [vals]
      rw [this]
      exact l6.upd u7 (fun b hb q => hnr b hb q)
    · intro q hq
      rcases List.mem_append.1 hq with w | w
      · exact R.pnd q w
      · simp only [List.mem_singleton] at w; subst w; exact ⟨gen, _, rfl⟩
    · rw [List.length_append]; simp only [List.length_singleton]; omega

end Go.Proofs.Ytomboannkblccaa.K

namespace Go.Proofs.Ytomboannkblccaa.K
open Go Go.Kx
set_option linter.unusedVariables false
set_option linter.unusedSimpArgs false
set_option maxRecDepth 20000

theorem agg23 {x : List Value} (hx : x.length = 32) (h : KL 12 23 x) : aggEq Try.prog 23 (.agg ⟨x⟩) (.agg ⟨x⟩) = some true := by
  obtain ⟨l, h1, h2⟩ := h
  have hf : (Value.agg ⟨x⟩).formed Try.prog 23 = true := by
    unfold Value.formed
    rw [Try.underlying23]
    simp [hx, show Try.prog.cellsOf 23 = 32 by kernel_rfl]
  unfold aggEq
  rw [hf, show Try.prog.keyTypeAt 12 23 = true by kernel_rfl]
  show (match Try.prog.keyLits 12 23 x, Try.prog.keyLits 12 23 x with | some l, some m => eqLits l m | _, _ => none) = _
  rw [h1]
  exact h2
theorem eg23 : Try.prog.eqGuardType Try.prog.depth 23 = false := by kernel_rfl
theorem eq23 {x : List Value} (hx : x.length = 32) (hf : flatL x = true) (hk : KL 12 23 x) (h : H) : xbin Try.prog .eql 23 (.agg ⟨x⟩) (.agg ⟨x⟩) h = .ok (.bool true) h := by
  unfold xbin
  simp only [flat, hf, Bool.and_self, cond_true, eg23, cond_false, agg23 hx hk]
theorem agg25 {x : List Value} (hx : x.length = 34) (h : KL 12 25 x) : aggEq Try.prog 25 (.agg ⟨x⟩) (.agg ⟨x⟩) = some true := by
  obtain ⟨l, h1, h2⟩ := h
  have hf : (Value.agg ⟨x⟩).formed Try.prog 25 = true := by
    unfold Value.formed
    rw [Try.underlying25]
    simp [hx, show Try.prog.cellsOf 25 = 34 by kernel_rfl]
  unfold aggEq
  rw [hf, show Try.prog.keyTypeAt 12 25 = true by kernel_rfl]
  show (match Try.prog.keyLits 12 25 x, Try.prog.keyLits 12 25 x with | some l, some m => eqLits l m | _, _ => none) = _
  rw [h1]
  exact h2
theorem eg25 : Try.prog.eqGuardType Try.prog.depth 25 = false := by kernel_rfl
theorem eq25 {x : List Value} (hx : x.length = 34) (hf : flatL x = true) (hk : KL 12 25 x) (h : H) : xbin Try.prog .eql 25 (.agg ⟨x⟩) (.agg ⟨x⟩) h = .ok (.bool true) h := by
  unfold xbin
  simp only [flat, hf, Bool.and_self, cond_true, eg25, cond_false, agg25 hx hk]

end Go.Proofs.Ytomboannkblccaa.K

namespace Go.Proofs.Ytomboannkblccaa.K
open Go Go.Kx
set_option linter.unusedVariables false
set_option linter.unusedSimpArgs false
set_option maxRecDepth 20000

/-- A part of a pin, as it must be to be held against itself. -/
structure PartE (n t : Nat) (l : List Value) : Prop where
  len : l.length = n
  one : ones l = true
  flt : flatL l = true
  lit : KL 12 t l

theorem pin_parts {k r m : List Value} {n g : Int} (hk : k.length = 32) (hr : r.length = 34) (hm : m.length = 34) :
    ((pinC n g k r m).drop 2).take 32 = k ∧ ((pinC n g k r m).drop 34).take 34 = r ∧ ((pinC n g k r m).drop 68).take 34 = m ∧ (pinC n g k r m).length = 102 := by
  refine ⟨?_, ?_, ?_, by simp [pinC, hk, hr, hm]⟩
  · show (k ++ (r ++ m)).take 32 = k
    exact List.take_left' hk
  · show ((k ++ (r ++ m)).drop 32).take 34 = r
    rw [List.drop_left' hk, List.take_left' hr]
  · show ((k ++ (r ++ m)).drop 66).take 34 = m
    rw [show (66 : Nat) = 32 + 34 from rfl, ← List.drop_drop, List.drop_left' hk, List.drop_left' hr, take_all hm]

theorem same24 {k r m : List Value} {n g : Int} (hk : PartE 32 23 k) (hr : PartE 34 25 r) (hm : PartE 34 25 m) (h : H) :
    ∃ h', Grow h h' ∧ CLM (.f 24) [.agg ⟨pinC n g k r m⟩, .agg ⟨pinC n g k r m⟩] h = .ok (.bool true) h' := by
  let h1 := h.alloc (.cells (pinC n g k r m) 38 0 false)
  let h2 := h1.alloc (.cells (pinC n g k r m) 69 0 false)
  have g2 : Grow h h2 := ((Grow.refl h).alloc _).alloc _
  have b1 : h2.get h.next = some (.cells (pinC n g k r m) 38 0 false) := H.alloc_old (H.alloc_self _ _)
  have b2 : h2.get (h.next + 1) = some (.cells (pinC n g k r m) 69 0 false) := H.alloc_self h1 _
  obtain ⟨p1, p2, p3, pl⟩ := pin_parts (n := n) (g := g) hk.len hr.len hm.len
  have r0 : (pinC n g k r m)[0]? = some (.int .i64 n) := rfl
  have r1 : (pinC n g k r m)[0 + 1]? = some (.int .i64 g) := rfl
  have rw1 : ∀ b el, h2.get b = some (.cells (pinC n g k r m) el 0 false) → h2.row ⟨b, 0 + 2, none⟩ 32 = some k := fun b el hb => by rw [H.row_eq hb (by rw [pl]; omega), p1]
  have rw2 : ∀ b el, h2.get b = some (.cells (pinC n g k r m) el 0 false) → h2.row ⟨b, 0 + 34, none⟩ 34 = some r := fun b el hb => by rw [H.row_eq hb (by rw [pl]; omega), p2]
  have rw3 : ∀ b el, h2.get b = some (.cells (pinC n g k r m) el 0 false) → h2.row ⟨b, 0 + 68, none⟩ 34 = some m := fun b el hb => by rw [H.row_eq hb (by rw [pl]; omega), p3]
  refine ⟨h2, g2, ?_⟩
  rw [cM24, F24.eq, xbox_eq, cells_agg, go_ok, xbox_eq, cells_agg, go_ok]
  rw [show (h.alloc (.cells (pinC n g k r m) 38 0 false)).alloc (.cells (pinC n g k r m) 69 0 false) = h2 from rfl, show (h.alloc (.cells (pinC n g k r m) 38 0 false)).next = h.next + 1 from rfl]
  rw [fa38_0, go_ok, ld3, H.cell_eq b1, r0, ofO_some, go_ok, fa69_0, go_ok, ld3, H.cell_eq b2, r0, ofO_some, go_ok, xeql, go_ok, ifV_dec, if_pos rfl,
    fa38_1, go_ok, ld3, H.cell_eq b1, r1, ofO_some, go_ok, fa69_1, go_ok, ld3, H.cell_eq b2, r1, ofO_some, go_ok, xeql, go_ok, ifV_dec, if_pos rfl,
    fa38_2, go_ok, ld23, rw1 _ _ b1, ofA_some, go_ok, fa69_2, go_ok, ld23, rw1 _ _ b2, ofA_some, go_ok, eq23 hk.len hk.flt hk.lit, go_ok, ifV_t,
    fa38_3, go_ok, ld25, rw2 _ _ b1, ofA_some, go_ok, fa69_3, go_ok, ld25, rw2 _ _ b2, ofA_some, go_ok, eq25 hr.len hr.flt hr.lit, go_ok, ifV_t,
    fa38_4, go_ok, ld25, rw3 _ _ b1, ofA_some, go_ok, fa69_4, go_ok, ld25, rw3 _ _ b2, ofA_some, go_ok, eq25 hm.len hm.flt hm.lit, go_ok]

end Go.Proofs.Ytomboannkblccaa.K

namespace Go.Proofs.Ytomboannkblccaa.K
open Go Go.Kx
set_option linter.unusedVariables false
set_option linter.unusedSimpArgs false
set_option maxRecDepth 20000

/-- What a loop's rounds do, told by an invariant that bears the blocks which its rounds may change besides. -/
structure RoundsD (S : Nat → Prop) (b : Nat) (J : (Nat → Prop) → List Rw → H → Prop) (rows : List Rw) : Prop where
  grow : ∀ F pre h h', J F pre h → Grow h h' → J F pre h'
  step : ∀ F pre r h, J F pre h → pre ++ [r] <+: rows → ∃ h' F', CLM (.y b) [.int .i64 r.1, .agg ⟨r.2⟩] h = .ok (.bool true) h' ∧ Upd (fun x => S x ∨ F x) h h' ∧ J F' (pre ++ [r]) h' ∧ ∀ x, F' x → F x ∨ h.next ≤ x

theorem rounds_loopD {S : Nat → Prop} {b : Nat} {J : (Nat → Prop) → List Rw → H → Prop} {rows : List Rw} (R : RoundsD S b J rows) (g : Good rows) (few : rows.length ≤ 1000000) {lo : Nat} (hS : ∀ x, S x → x < lo) {sl : Value} :
    ∀ (d i : Nat) (h : H) (F : Nat → Prop), rows.length - i = d → i ≤ rows.length → Src h sl rows lo → (∀ cb n c, sl = .slice (some ⟨cb, 0, none⟩) n c → ¬ F cb) → J F (rows.take i) h →
      ∃ h', F66.l1 Try.prog CLM (.func (.yield b) ⟨[]⟩ ⟨[]⟩) sl (.int .i64 (rows.length : Nat)) (.int .i64 (i : Nat)) h = .ok (.tuple ⟨[]⟩) h' ∧ Upd (fun x => S x ∨ F x) h h' ∧ ∃ F, J F rows h' := by
  intro d
  induction d with
  | zero =>
    intro i h F hd hi hs hF hj
    rw [F66.l1_eq, xlss, go_ok, F66.j2_eq, ifV_dec, if_neg (by omega)]
    rw [List.take_of_length_le (by omega)] at hj
    exact ⟨h, rfl, Upd.refl _ _, F, hj⟩
  | succ d ih =>
    intro i h F hd hi hs hF hj
    have hlt : i < rows.length := by omega
    obtain ⟨ob, n, c, rfl, rfl, hne⟩ := hs
    obtain ⟨cb, rfl, hlo, hcb⟩ := hne (fun q => by rw [q] at hlt; simp at hlt)
    obtain ⟨r, hr⟩ : ∃ r, rows[i]? = some r := ⟨_, List.getElem?_eq_getElem hlt⟩
    have hgr := g _ (List.mem_of_getElem? hr)
    have hlen := rowsC_len g
    have hrow : h.row ⟨cb, 0 + i * 103, none⟩ 103 = some (.int .i64 r.1 :: r.2) := by
      rw [H.row_eq hcb (by omega), Nat.zero_add]
      have := row_at g hr []
      rw [List.append_nil] at this
      rw [this]
    have hst : (Value.agg ⟨.int .i64 r.1 :: r.2⟩).cells.size = 103 := by rw [asz]; simp [hgr.1]
    have hone : ones (Value.int .i64 r.1 :: r.2) = true := by show (true && ones r.2) = true; rw [hgr.2]; rfl
    let h1 := h.alloc (.cells zc81 81 0 false)
    have hq : h1.get h.next = some (.cells zc81 81 0 false) := H.alloc_self _ _
    let h2 := h1.put h.next (.cells (.int .i64 r.1 :: r.2) 81 0 false)
    have hq2 : h2.get h.next = some (.cells (.int .i64 r.1 :: r.2) 81 0 false) := H.put_self hq
    have g2 : Grow h h2 := ((Grow.refl h).alloc _).put (Nat.le_refl _) (H.get_lt hq) _
    have w2 : h1.write ⟨h.next, 0, none⟩ (.int .i64 r.1 :: r.2) = some h2 := H.write_all hq (by rw [zc81_len]; simp [hgr.1]) hone
    have hrow2 : h2.row ⟨h.next, 0 + 1, none⟩ 102 = some r.2 := by
      rw [H.row_eq hq2 (by simp [hgr.1])]
      show some (r.2.take 102) = some r.2
      rw [take_all hgr.1]
    have hpre : rows.take i ++ [r] = rows.take (i + 1) := by rw [List.take_add_one, hr]; rfl
    obtain ⟨h3, F3, e3, u3, j3, f3⟩ := R.step F (rows.take i) r h2 (R.grow _ _ _ _ hj g2) (by rw [hpre]; exact List.take_prefix _ _)
    rw [hpre] at j3
    have hw : IntKind.i64.wrap ((i : Int) + 1) = ((i + 1 : Nat) : Int) := by rw [wrap64 (by omega)]; omega
    have hcb3 : h3.get cb = some (.cells (rowsC rows) 81 0 true) := u3.old _ _ (fun q => by
      rcases q with q | q
      · have := hS _ q; omega
      · exact hF _ _ _ rfl q) (g2.old _ _ hcb)
    obtain ⟨h4, e4, u4, j4⟩ := ih (i + 1) h3 F3 (by omega) (by omega) ⟨_, _, c, rfl, rfl, fun _ => ⟨cb, rfl, hlo, hcb3⟩⟩ (fun cb' n' c' hq' q' => by
      cases hq'
      rcases f3 _ q' with w | w
      · exact hF _ _ _ rfl w
      · have := H.get_lt hcb; have := g2.next; omega) j3
    have u : Upd (fun x => S x ∨ F x) h h4 := ⟨Nat.le_trans g2.next (Nat.le_trans u3.next u4.next), fun x y n hx => u4.old x y (fun q => by
      rcases q with q | q
      · exact n (.inl q)
      · rcases f3 _ q with w | w
        · exact n (.inr w)
        · have := H.get_lt hx; have := g2.next; omega) (u3.old x y n (g2.old x y hx))⟩
    refine ⟨h4, ?_, u, j4⟩
    rw [F66.l1_eq, xlss, go_ok, F66.j2_eq, ifV_dec, if_pos (by omega), F66.j2_1_eq, ia75 _ _ _ _ _ _ _ _ hlt, go_ok, ld81, hrow, ofA_some, go_ok, al81, go_ok, st81 _ _ _ hst, cells_agg]
    rw [show h.alloc (.cells zc81 81 0 false) = h1 from rfl, w2, ofU_some, go_ok, fa81_0, go_ok, ld3, H.cell_eq hq2, List.getElem?_cons_zero, ofO_some, go_ok, fa81_1, go_ok, ld38, hrow2, ofA_some, go_ok, xcallV_yield, e3, go_ok, xun_not, go_ok]
    rw [show (Value.bool !true) = .bool false from rfl, ifV_f, xadd, go_ok, hw]
    exact e4

/-- The iterator. -/
theorem iter66D {S : Nat → Prop} {b : Nat} {J : (Nat → Prop) → List Rw → H → Prop} {rows : List Rw} {h : H} {bt p1 p3 : Nat} {br : Option Nat} (t : Tbl h bt br rows) (R : RoundsD S b J rows) (h1 : h.get p1 = some (.cells [.pointer (some ⟨bt, 0, none⟩)] 53 0 false))
    (h3 : h.get p3 = some (.cells [.func (.func 48) #[] #[]] 50 0 false)) (hS : ∀ x, S x → x < h.next) (hj : J (fun _ => False) [] h) :
    ∃ h', CLM (.f 66) [.func (.yield b) ⟨[]⟩ ⟨[]⟩, .pointer (some ⟨p1, 0, none⟩), .pointer (some ⟨p3, 0, none⟩)] h = .ok (.tuple ⟨[]⟩) h' ∧ Upd S h h' ∧ ∃ F, J F rows h' := by
  obtain ⟨sl, q1, q2⟩ := t.sl
  have f48 : xcallV CLM (.func (.func 48) #[] #[]) [] h = .ok (.int .i64 0) h := zero48 h
  have hrc : rc (.ok sl h) (some sl) = true := by
    rcases q2 with ⟨_, rfl, _⟩ | ⟨b, sp, cap, _, rfl, _⟩
    · exact rc_nil _ _ _
    · exact rc_slice _ _ _ _
  -- what is cut and copied
  have cut : ∃ x h2 sl2, xslice Try.prog 75 sl (some (.int .i64 0)) none none h = .ok x h ∧ CLM (.f 67) [x] h = .ok sl2 h2 ∧ Grow h h2 ∧ Src h2 sl2 rows h.next := by
    have nat0 : asNat? (some (.int .i64 0)) 0 = some 0 := rfl
    rcases q2 with ⟨_, rfl, rfl⟩ | ⟨b, sp, cap, _, rfl, hg, hl, ho⟩
    · exact ⟨_, _, _, nilslice75 h, clone67_nil h, Grow.refl h, _, _, _, rfl, rfl, fun q => absurd rfl q⟩
    · have hlen := rowsC_len t.good
      have hcap : rows.length ≤ cap := by rw [List.length_append] at hl; omega
      by_cases hc : cap = 0
      · subst hc
        have hr : rows = [] := List.length_eq_zero_iff.1 (by omega)
        subst hr
        have e := xslice_e (P := Try.prog) (t := 75) (o := 0) (n := 0) (cap := 0) (lo := some (.int .i64 0)) (hi := none) un75 sz81 hg rfl nat0 rfl
        obtain ⟨h2, sl2, g2, e2, s2⟩ := clone67 (h := h) (a := ⟨b, 0, some 1⟩) (c := 0) (rows := []) t.good (by simp) (by
          show h.row ⟨b, 0, none⟩ (0 * 103) = _
          rw [H.row_eq hg (by simp)]; simp [rowsC]) (fun x hx => by subst hx; exact H.get_lt hg)
        exact ⟨_, h2, sl2, e, e2, g2, s2⟩
      · have e := xslice_o (P := Try.prog) (t := 75) (o := 0) (n := rows.length) (cap := cap) (lo := some (.int .i64 0)) (hi := none) (l := 0) (u := rows.length) un75 sz81 hg rfl nat0 rfl (Nat.zero_le _) hcap (by omega)
        rw [Nat.zero_mul, Nat.add_zero, Nat.sub_zero, Nat.sub_zero] at e
        obtain ⟨h2, sl2, g2, e2, s2⟩ := clone67 (h := h) (a := ⟨b, 0, none⟩) (c := cap) t.good t.few (by
          show h.row ⟨b, 0, none⟩ (rows.length * 103) = _
          rw [H.row_eq hg (by rw [List.length_append]; omega), List.drop_zero]
          have := rowsC_take t.good (Nat.le_refl _) sp
          rw [List.take_length] at this
          rw [this]) (fun x hx => by subst hx; exact H.get_lt hg)
        exact ⟨_, h2, sl2, e, e2, g2, s2⟩
  obtain ⟨x, h2, sl2, ec, e2, g2, s2⟩ := cut
  obtain ⟨h4, e4, u4, j4⟩ := rounds_loopD R t.good t.few (lo := h.next) hS rows.length 0 h2 (fun _ => False) (by omega) (Nat.zero_le _) s2 (fun _ _ _ _ => id) (R.grow _ _ _ _ hj g2)
  obtain ⟨ob, n, c, rfl, rfl, _⟩ := s2
  refine ⟨h4, ?_, (g2.upd S).trans (u4.mono fun x _ q => q.elim id False.elim), j4⟩
  rw [cM66, F66.eq, ld53, H.cell_eq h1, List.getElem?_cons_zero, ofO_some, Res.ok1_ok, xnil_ptr, Res.ok1_ok, fa77_0, Res.ok1_ok, ld75, H.cell_eq q1, List.getElem?_cons_zero, ofO_some, Res.ok1_ok, ld50, H.cell_eq h3, List.getElem?_cons_zero, ofO_some, Res.ok1_ok, f48, go_ok,
    ld53, H.cell_eq h1, List.getElem?_cons_zero, ofO_some, rc_ptr, ld75, H.cell_eq q1, List.getElem?_cons_zero, ofO_some, hrc]
  rw [show (true && (true && true)) = true from rfl, cond_true, ec, Res.ok1_ok, e2, go_ok, lenV_slice, Option.isSome_some, cond_true, ln75, Res.ok1_ok]
  exact e4

/-- A loop over all rows. -/
theorem range66D {an : Ann} {ps : Array Tmp} {ac bo : Code} {K : Ex → H → Res Value} {kf : Fr} {S : Nat → Prop} {J : (Nat → Prop) → List Rw → H → Prop} {rows : List Rw} {h : H} {bt p1 p3 : Nat} {br : Option Nat} (hit : an.its.contains 66 = true) (t : Tbl h bt br rows)
    (R : RoundsD (fun x => S x ∨ x = h.next) h.next J rows) (h1 : h.get p1 = some (.cells [.pointer (some ⟨bt, 0, none⟩)] 53 0 false)) (h3 : h.get p3 = some (.cells [.func (.func 48) #[] #[]] 50 0 false)) (hS : ∀ x, S x → x < h.next)
    (hj : J (fun _ => False) [] (h.alloc (.loop ⟨.ready, none, ps.toList, ac, bo, an, kf⟩))) (hend : ∀ F h', J F rows h' → h'.get h.next = some (.loop ⟨.ready, none, ps.toList, ac, bo, an, kf⟩)) :
    ∃ h', rngV CLM an (.func (.func 66) ⟨[]⟩ ⟨[.pointer (some ⟨p1, 0, none⟩), .pointer (some ⟨p3, 0, none⟩)]⟩) ps ac bo K kf h = K .normal (h'.put h.next .dead) ∧ Upd S h (h'.put h.next .dead) ∧ ∃ F, J F rows h' := by
  have g1 : Grow h (h.alloc (.loop ⟨.ready, none, ps.toList, ac, bo, an, kf⟩)) := (Grow.refl h).alloc _
  obtain ⟨h', e, u, F, j⟩ := iter66D (t.grow g1) R (g1.old _ _ h1) (g1.old _ _ h3) (fun x q => by rcases q with q | q; exact Nat.lt_succ_of_lt (hS x q); subst q; exact Nat.lt_succ_self _) hj
  have hl := hend F h' j
  refine ⟨h', ?_, ?_, F, j⟩
  · unfold rngV
    simp only [hit, cond_true]
    rw [e]
    simp only [go_ok, kloop, hl]
  · refine ⟨by have := g1.next; have := u.next; simp only [H.next_put]; omega, fun b x n hb => ?_⟩
    rw [H.get_put _ _ _ _ (H.get_lt hl), if_neg (by have := H.get_lt hb; omega)]
    exact u.old b x (fun q => q.elim n fun q => by have := H.get_lt hb; omega) (g1.old b x hb)


end Go.Proofs.Ytomboannkblccaa.K

namespace Go.Proofs.Ytomboannkblccaa.K
open Go Go.Kx
set_option linter.unusedVariables false
set_option linter.unusedSimpArgs false
set_option maxRecDepth 20000

theorem bs73 {l : List Value} (hl : l.length = 102) (h : H) : xbuildSlice Try.prog 73 1 [(0, .agg ⟨l⟩)] h = .ok (.slice (some ⟨h.next, 0, none⟩) 1 1) (h.alloc (.cells l 38 0 false)) := by
  have e : xbuildSlice Try.prog 73 1 [(0, .agg ⟨l⟩)] h = okS (ifO (Nat.beq (Value.agg ⟨l⟩).cells.size 102 && Nat.ble (0 + 102) (zc38 ++ []).length) ((zc38 ++ []).take 0 ++ (l ++ (zc38 ++ []).drop (0 + 102)))) 1 38 h := by kernel_rfl
  rw [e]
  have h1 : (zc38 ++ []).length = 102 := by simp [zc38_len]
  have h2 : (Value.agg ⟨l⟩).cells.size = 102 := by rw [asz]; exact hl
  have h4 : (zc38 ++ []).drop (0 + 102) = [] := List.drop_eq_nil_of_le (by rw [h1]; omega)
  rw [h1, h2, h4]
  simp [ifO, okS, show Nat.ble 102 102 = true from rfl, show Nat.ble (0 + 102) 102 = true from rfl]

noncomputable def lp26 (x3 : Value) : LpB := ⟨.ready, none, [11, 12], sub (bodyOf Try.f26) [1, 1, 0, 1, 0, 0], sub (bodyOf Try.f26) [1, 1, 0, 1, 0, 1], an26, [(3, x3)]⟩

structure J26 (b q3 : Nat) (F : Nat → Prop) (pre : List Rw) (h : H) : Prop where
  lp : h.get b = some (.loop (lp26 (.pointer (some ⟨q3, 0, none⟩))))
  ls : ∃ sl br, h.get q3 = some (.cells [sl] 73 0 false) ∧ Lst 38 102 h sl br (vals pre) ∧ ∀ x, br = some x → F x
  ne : ∀ x, F x → x ≠ b ∧ q3 < x

theorem round26 {b q3 : Nat} {rows : List Rw} (g : Good rows) (few : rows.length ≤ 100000) (n1 : b ≠ q3) : RoundsD (fun x => x = q3 ∨ x = b) b (J26 b q3) rows := by
  refine ⟨fun F pre h h' j u => ?_, fun F pre r h j hpre => ?_⟩
  · obtain ⟨sl, br, q1, q2, q3⟩ := j.ls
    exact ⟨u.old _ _ j.lp, ⟨sl, br, u.old _ _ q1, q2.grow u, q3⟩, j.ne⟩
  obtain ⟨sl, br, hv, l, hF⟩ := j.ls
  have hmem : r ∈ rows := hpre.subset (by simp)
  have hgr := g r hmem
  have hlen : pre.length + 1 ≤ rows.length := by have := hpre.length_le; simpa using this
  have gpre : Good pre := fun q hq => g q (hpre.subset (by simp [hq]))
  have hst : (Value.agg ⟨r.2⟩).cells.size = 102 := by rw [asz]; exact hgr.1
  let h1 := h.alloc (.cells zc38 38 0 false)
  have hq : h1.get h.next = some (.cells zc38 38 0 false) := H.alloc_self _ _
  let h2 := h1.put h.next (.cells r.2 38 0 false)
  have w2 : h1.write ⟨h.next, 0, none⟩ r.2 = some h2 := H.write_all hq (by rw [zc38_len]; exact hgr.1) hgr.2
  have g2 : Grow h h2 := ((Grow.refl h).alloc _).put (Nat.le_refl _) (H.get_lt hq) _
  have hb2 := g2.old _ _ j.lp
  let h3 := h2.put b (.loop { lp26 (.pointer (some ⟨q3, 0, none⟩)) with st := .busy })
  have hb3 : h3.get b = some (.loop { lp26 (.pointer (some ⟨q3, 0, none⟩)) with st := .busy }) := H.put_self hb2
  have hnb : b < h.next := H.get_lt j.lp
  have hnq : q3 < h.next := H.get_lt hv
  have hv3 : h3.get h.next = some (.cells r.2 38 0 false) := H.put_ne hb2 (by omega) (H.put_self hq)
  have hg3 : h3.get q3 = some (.cells [sl] 73 0 false) := H.put_ne hb2 (Ne.symm n1) (g2.old _ _ hv)
  have u3 : Upd (fun x => x = b) h2 h3 := (Upd.refl (fun x => x = b) h2).put (.inl rfl) (H.get_lt hb2) _
  have l3 : Lst 38 102 h3 sl br (vals pre) := (l.grow g2).upd u3 fun x hx => (j.ne x (hF x hx)).1
  have n3 : h3.next = h.next + 1 := rfl
  let h4 := h3.alloc (.cells r.2 38 0 false)
  have g4 : Grow h3 h4 := (Grow.refl h3).alloc _
  have q4 : h4.get h3.next = some (.cells r.2 38 0 false) := H.alloc_self _ _
  obtain ⟨sl', br', h5, e5, u5, l5, n5⟩ := lst_push L73 (l3.grow g4) (vals_good gpre) (by rw [List.length_map]; omega) q4 hgr.1 hgr.2
  have hnF : ∀ x, ¬ F x → ¬ some x = br := fun x hx q => hx (hF x q.symm)
  have hq5 : h5.get q3 = some (.cells [sl] 73 0 false) := u5.old _ _ (fun q => Nat.lt_irrefl _ (j.ne q3 (hF q3 q.symm)).2) (g4.old _ _ hg3)
  have hb5 : h5.get b = some (.loop { lp26 (.pointer (some ⟨q3, 0, none⟩)) with st := .busy }) := u5.old _ _ (fun q => (j.ne b (hF b q.symm)).1 rfl) (g4.old _ _ hb3)
  obtain ⟨z1, z2, z3⟩ := lst_one l5
  have w6 : h5.write ⟨q3, 0, none⟩ [sl'] = some (h5.put q3 (.cells [sl'] 73 0 false)) := H.write_all hq5 rfl (by show (sl'.oneCell' && true) = true; rw [z3]; rfl)
  obtain ⟨h6, hh6⟩ : ∃ h6, h6 = h5.put q3 (.cells [sl'] 73 0 false) := ⟨_, rfl⟩
  rw [← hh6] at w6
  have u6 : Upd (fun x => x = q3) h5 h6 := by rw [hh6]; exact (Upd.refl (fun x => x = q3) h5).put (.inl rfl) (H.get_lt hq5) _
  have hq6 : h6.get q3 = some (.cells [sl'] 73 0 false) := by rw [hh6]; exact H.put_self hq5
  have hb6 := u6.old _ _ n1 hb5
  have hbr' : ∀ x, br' = some x → x ≠ b ∧ q3 < x ∧ (F x ∨ h.next ≤ x) := by
    intro x hx
    rcases n5 with q | ⟨y, q, q'⟩
    · have := j.ne x (hF x (q.symm.trans hx)); exact ⟨this.1, this.2, .inl (hF x (q.symm.trans hx))⟩
    · rw [q] at hx; cases hx
      have : h4.next = h.next + 2 := rfl
      exact ⟨by omega, by omega, .inr (by omega)⟩
  have l6 : Lst 38 102 h6 sl' br' (vals pre ++ [r.2]) := l5.upd u6 fun x hx => Nat.ne_of_gt (hbr' x hx).2.1
  have U : Upd (fun x => (x = q3 ∨ x = b) ∨ F x) h h6 := ((((g2.upd _).trans (u3.mono fun x _ q => .inl (.inr q))).trans (g4.upd _)).trans (u5.mono fun x _ q => .inr (hF x q.symm))).trans (u6.mono fun x _ q => .inl (.inl q))
  obtain ⟨h7, hh7⟩ : ∃ h7, h7 = h6.put b (.loop (lp26 (.pointer (some ⟨q3, 0, none⟩)))) := ⟨_, rfl⟩
  have u7 : Upd (fun x => x = b) h6 h7 := by rw [hh7]; exact (Upd.refl (fun x => x = b) h6).put (.inl rfl) (H.get_lt hb6) _
  refine ⟨h7, fun x => br' = some x, ?_, U.trans (u7.mono fun x _ q => .inl (.inr q)), ⟨?_, ⟨sl', br', u7.old _ _ (Ne.symm n1) hq6, ?_, fun x => id⟩, fun x hx => ⟨(hbr' x hx).1, (hbr' x hx).2.1⟩⟩, fun x hx => (hbr' x hx).2.2⟩
  · rw [cMy]
    have e0 : yldS Try.prog CLM b [.int .i64 r.1, .agg ⟨r.2⟩] h = evS Try.prog CLM an26 (sub (bodyOf Try.f26) [1, 1, 0, 1, 0, 0]) (kassign (begK b fun fr' h' => evS Try.prog CLM an26 (sub (bodyOf Try.f26) [1, 1, 0, 1, 0, 1]) (kround b) fr' h')) [(12, .agg ⟨r.2⟩), (11, .int .i64 r.1), (3, .pointer (some ⟨q3, 0, none⟩))] h := by
      unfold yldS
      rw [j.lp]
      rfl
    rw [e0, F26.y4, al38, go_ok, st38 _ _ _ hst, cells_agg]
    rw [show h.alloc (.cells zc38 38 0 false) = h1 from rfl, w2, ofU_some, go_ok]
    have e1 : ∀ body : H → Res Value, begV b body h2 = body h3 := fun body => by unfold begV; rw [hb2]; rfl
    rw [e1, ld73, H.cell_eq hg3, List.getElem?_cons_zero, ofO_some, go_ok, ld38, H.row_all hv3 hgr.1, ofA_some, go_ok, bs73 hgr.1, go_ok]
    rw [show h3.alloc (.cells r.2 38 0 false) = h4 from rfl, e5, go_ok, st73 _ _ _ z1, z2, w6, ofU_some, go_ok]
    rw [hh7]
    unfold krV; rw [hb6]; rfl
  · rw [hh7]; exact H.put_self hb6
  · have : vals (pre ++ [r]) = vals pre ++ [r.2] := by simp [vals]
    rw [this]
    exact l6.upd u7 fun x hx => (hbr' x hx).1

/-- All pins. -/
theorem all26 {h : H} {bp bt : Nat} {br : Option Nat} {rows : List Rw} {last : Nat} (p : Pns h bp bt br rows last) (few : rows.length ≤ 64) :
    ∃ h' sl br', Grow h h' ∧ CLM (.f 26) [.pointer (some ⟨bp, 0, none⟩)] h = .ok sl h' ∧ Lst 38 102 h' sl br' (vals rows) ∧ ∀ b, br' = some b → h.next ≤ b := by
  have hz : zc73 = [.slice none 0 0] := by kernel_rfl
  let h3 := h.alloc (.cells [.slice none 0 0] 73 0 false)
  have g3 : Grow h h3 := (Grow.refl h).alloc _
  have c1 : h3.get h.next = some (.cells [.slice none 0 0] 73 0 false) := H.alloc_self _ _
  have p3 := p.grow g3
  let h4 := h3.alloc (.cells [.pointer (some ⟨bt, 0, none⟩)] 53 0 false)
  let h5 := h4.alloc (.cells [.func (.func 48) #[] #[]] 50 0 false)
  have g5 : Grow h3 h5 := ((Grow.refl h3).alloc _).alloc _
  have d1 : h5.get h3.next = some (.cells [.pointer (some ⟨bt, 0, none⟩)] 53 0 false) := H.alloc_old (H.alloc_self _ _)
  have d2 : h5.get (h3.next + 1) = some (.cells [.func (.func 48) #[] #[]] 50 0 false) := H.alloc_self h4 _
  have n3 : h3.next = h.next + 1 := rfl
  have n5 : h5.next = h.next + 3 := rfl
  have R := round26 (b := h5.next) (q3 := h.next) p.tbl.good (by omega) (by omega)
  obtain ⟨h6, e6, u6, F6, j6⟩ := range66D (an := an26) (ps := #[11, 12]) (ac := sub (bodyOf Try.f26) [1, 1, 0, 1, 0, 0]) (bo := sub (bodyOf Try.f26) [1, 1, 0, 1, 0, 1]) (K := fun e hh => (F26.k2 Try.prog CLM nu0) e [(3, .pointer (some ⟨h.next, 0, none⟩))] hh) (S := fun x => x = h.next)
    (kf := [(3, .pointer (some ⟨h.next, 0, none⟩))]) (by kernel_rfl) (p3.tbl.grow g5) R d1 d2 (fun x q => by omega)
    ⟨H.alloc_self _ _, ⟨_, none, H.alloc_old (g5.old _ _ c1), Lst.nil, fun x q => by cases q⟩, fun x q => q.elim⟩ (fun F h' j => j.lp)
  obtain ⟨sl, br', q1, q2, q3⟩ := j6.ls
  have hdead : (h6.put h5.next .dead).get h.next = some (.cells [sl] 73 0 false) := H.put_ne j6.lp (by omega) q1
  have u : Upd (fun x => x = h.next) h (h6.put h5.next .dead) := ((g3.trans g5).upd _).trans u6
  have G : Grow h (h6.put h5.next .dead) := ⟨u.next, fun b x hb => u.old b x (fun q => by have := H.get_lt hb; omega) hb⟩
  refine ⟨_, sl, br', G, ?_, q2.upd ((Upd.refl (fun x => x = h5.next) h6).put (.inl rfl) (H.get_lt j6.lp) _) (fun x hx => (j6.ne x (q3 x hx)).1), fun x hx => ?_⟩
  · rw [cM26, F26.eq, al73, hz, go_ok]
    rw [show h.alloc (.cells [.slice none 0 0] 73 0 false) = h3 from rfl, xnil_ptr, go_ok, fa56_0, go_ok, ld53, H.cell_eq p3.pin, List.getElem?_cons_zero, ofO_some, go_ok, all33, go_ok]
    rw [show (h3.alloc (.cells [.pointer (some ⟨bt, 0, none⟩)] 53 0 false)).alloc (.cells [.func (.func 48) #[] #[]] 50 0 false) = h5 from rfl, e6]
    show F26.k2 Try.prog CLM nu0 .normal [(3, .pointer (some ⟨h.next, 0, none⟩))] _ = _
    rw [F26.r4_normal, ld73, H.cell_eq hdead, List.getElem?_cons_zero, ofO_some, go_ok]
  · have := (j6.ne x (q3 x hx)).2; omega

end Go.Proofs.Ytomboannkblccaa.K

namespace Go.Proofs.Ytomboannkblccaa.K
open Go Go.Kx
set_option linter.unusedVariables false
set_option linter.unusedSimpArgs false
set_option maxRecDepth 20000

theorem Ref.grow {h h' : H} (g : Grow h h') {rb o : Nat} {last : Int} {lb : Option Nat} {rows : List Rw} (R : Ref h rb o last lb rows) : Ref h' rb o last lb rows := by
  obtain ⟨c, el, sl, hg, hc0, hc1, l⟩ := R.cells
  exact ⟨⟨c, el, sl, g.old _ _ hg, hc0, hc1, l.grow g⟩, R.ne, R.good, R.pnd, R.srt, R.few⟩

/-- Each row is a pin, whose parts can be held against themselves. -/
def Full (rows : List Rw) : Prop := ∀ q ∈ rows, ∃ g k r m, q.2 = pinC q.1 g k r m ∧ PartE 32 23 k ∧ PartE 34 25 r ∧ PartE 34 25 m

/-- An empty pin of a number. -/
noncomputable def zm (a : Int) : List Value := pa zc38 0 1 [.int .i64 a]
theorem zm_len (a : Int) : (zm a).length = 102 := by
  obtain ⟨z1, y1, h1, l1, m1⟩ := split_at zc38 1 101 zc38_len
  unfold zm
  rw [h1, show z1 ++ y1 = [] ++ (z1 ++ y1) from rfl, pa_app (x := []) (o := 0) rfl l1]
  simp [m1]
theorem zm_0 (a : Int) : (zm a)[0]? = some (.int .i64 a) := rfl
theorem zm_ones (a : Int) : ones (zm a) = true := by
  obtain ⟨z1, y1, h1, l1, m1⟩ := split_at zc38 1 101 zc38_len
  have h2 := ones_drop zc38_ones 1
  rw [h1, List.drop_left' l1] at h2
  unfold zm
  rw [h1, show z1 ++ y1 = [] ++ (z1 ++ y1) from rfl, pa_app (x := []) (o := 0) rfl l1]
  exact h2
theorem bd38_n (a : Int) (h : H) : xbuild Try.prog 38 [(0, .int .i64 a)] h = .ok (.agg ⟨zm a⟩) h := by kernel_rfl

/-- A row of a list: where it lies, what it is. -/
theorem row73 {h : H} {sl : Value} {br : Option Nat} {A : List (List Value)} (l : Lst 38 102 h sl br A) (G : GoodR 102 A) {i : Nat} {r : List Value} (hr : A[i]? = some r) :
    ∃ b, br = some b ∧ xindexAddr Try.prog 73 sl (.int .i64 (i : Nat)) h = .ok (.pointer (some ⟨b, i * 102, none⟩)) h ∧ xload Try.prog 38 (.pointer (some ⟨b, i * 102, none⟩)) h = .ok (.agg ⟨r⟩) h ∧ h.cell ⟨b, i * 102 + 0, none⟩ = r[0]? := by
  obtain ⟨b, cap, c, hb, rfl, hg, hle, hrow, hcell⟩ := l.at_ G hr
  have hi := (List.getElem?_eq_some_iff.1 hr).1
  refine ⟨b, hb, ?_, ?_, hcell 0 (by omega)⟩
  · rw [ia73 _ _ _ _ _ _ _ _ hi, Nat.zero_add]
  · rw [ld38, hrow, ofA_some]

section
variable {rb o : Nat} {last : Int} {lb : Option Nat} {rows : List Rw}

/-- A row is held against the reference's. -/
theorem same13 {h : H} (R : Ref h rb o last lb rows) (F : Full rows) {sl : Value} {br : Option Nat} {A : List (List Value)} (l : Lst 38 102 h sl br A) (G : GoodR 102 A) {i : Nat} (hi : i < rows.length) (hA : A[i]? = (vals rows)[i]?) :
    ∃ h', Grow h h' ∧ ∀ K : Value → H → Res Value, ((xindexAddr Try.prog 73 sl (.int .i64 (i : Nat)) h).ok1 fun t33 h34 => ((xload Try.prog 38 t33 h34).ok1 fun t35 h36 => ((xnilCheck (.pointer (some ⟨rb, o, none⟩)) h36).ok1 fun t37 h38 => ((xfieldAddr Try.prog 46 t37 0 h38).ok1 fun t39 h40 => ((xload Try.prog 44 t39 h40).ok1 fun t41 h42 =>
      ((xindexAddr Try.prog 44 t41 (.int .i64 (i : Nat)) h42).ok1 fun t43 h44 => ((xload Try.prog 69 t43 h44).ok1 fun t45 h46 => ((CLM (.f 24) [t35, t45] h46).go .pan fun t47 h48 => ((xun Try.prog .not t47 h48).ok1 K))))))))) = K (.bool false) h' := by
  obtain ⟨q, hq⟩ : ∃ q, rows[i]? = some q := ⟨_, List.getElem?_eq_getElem hi⟩
  have hv : (vals rows)[i]? = some q.2 := by rw [List.getElem?_map, hq]; rfl
  rw [hv] at hA
  obtain ⟨b, _, e1, e2, _⟩ := row73 l G hA
  obtain ⟨c, el, slr, hg, hc0, hc1, lr⟩ := R.cells
  obtain ⟨b2, cap, cc, _, rfl, hgb, _, hrow, _⟩ := lr.at_ (vals_good R.good) hv
  obtain ⟨g, k, r, m, hf, pk, pr, pm⟩ := F q (List.mem_of_getElem? hq)
  obtain ⟨h', g', e'⟩ := same24 (n := q.1) (g := g) pk pr pm h
  refine ⟨h', g', fun K => ?_⟩
  rw [e1, Res.ok1_ok, e2, Res.ok1_ok, xnil_ptr, Res.ok1_ok, fa46_0, Res.ok1_ok, ld44, H.cell_eq hg, hc0, ofO_some, Res.ok1_ok, ia44 _ _ _ _ _ _ _ _ (by simpa using hi), Res.ok1_ok, ld69, Nat.zero_add, hrow, ofA_some, Res.ok1_ok, hf, e', go_ok, xun_not, Res.ok1_ok]
  rfl

/-- A row is written. -/
theorem put13 {h : H} {sl : Value} {br : Option Nat} {A : List (List Value)} (l : Lst 38 102 h sl br A) (G : GoodR 102 A) {i : Nat} (hi : i < A.length) (a : Int) :
    ∃ h', Upd (fun x => some x = br) h h' ∧ Lst 38 102 h' sl br (A.set i (zm a)) ∧ ∀ K : Value → H → Res Value, ((xbuild Try.prog 38 [(0, (.int .i64 a))] h).go .pan fun t69 h70 => ((xindexAddr Try.prog 73 sl (.int .i64 (i : Nat)) h70).go .pan fun t71 h72 => ((xstore Try.prog 38 t71 t69 h72).go .pan K))) = K undef h' := by
  obtain ⟨b, cap, h', hb, rfl, hw, u, l'⟩ := lst_set l G hi (zm_len a) (zm_ones a)
  refine ⟨h', u, l', fun K => ?_⟩
  have hst : (Value.agg ⟨zm a⟩).cells.size = 102 := by rw [asz]; exact zm_len a
  rw [bd38_n, go_ok, ia73 _ _ _ _ _ _ _ _ hi, go_ok, st38 _ _ _ hst, cells_agg, Nat.zero_add, hw, ofU_some, go_ok]

/-- A row more. -/
theorem push13 {h : H} {sl : Value} {br : Option Nat} {A : List (List Value)} (l : Lst 38 102 h sl br A) (G : GoodR 102 A) (few : A.length < 1000) (a : Int) :
    ∃ sl' br' h', Upd (fun x => some x = br) h h' ∧ Lst 38 102 h' sl' br' (A ++ [zm a]) ∧ NewBr h br br' ∧ ∀ K : Value → H → Res Value, ((xbuild Try.prog 38 [(0, (.int .i64 a))] h).go .pan fun t79 h80 => ((xbuildSlice Try.prog 73 1 [(0, t79)] h80).go .pan fun t81 h82 => ((xbuiltin Try.prog .append [73, 73] [sl, t81] h82).go .pan K))) = K sl' h' := by
  have g1 : Grow h (h.alloc (.cells (zm a) 38 0 false)) := (Grow.refl h).alloc _
  obtain ⟨sl', br', h', e, u, l', n⟩ := lst_push L73 (l.grow g1) G (by omega) (H.alloc_self _ _) (zm_len a) (zm_ones a)
  refine ⟨sl', br', h', (g1.upd _).trans u, l', n.imp id fun ⟨b, w1, w2⟩ => ⟨b, w1, Nat.le_of_succ_le w2⟩, fun K => ?_⟩
  rw [bd38_n, go_ok, bs73 (zm_len a), go_ok, e, go_ok]
end

end Go.Proofs.Ytomboannkblccaa.K

namespace Go.Proofs.Ytomboannkblccaa.K
open Go Go.Kx
set_option linter.unusedVariables false
set_option linter.unusedSimpArgs false
set_option maxRecDepth 20000

/-- Two lists of one's own. -/
structure S13 (h0 h : H) (sl1 : Value) (br1 : Option Nat) (A1 : List (List Value)) (sl2 : Value) (br2 : Option Nat) (A2 : List (List Value)) : Prop where
  g : Grow h0 h
  l1 : Lst 38 102 h sl1 br1 A1
  l2 : Lst 38 102 h sl2 br2 A2
  g1 : GoodR 102 A1
  g2 : GoodR 102 A2
  ne : ∀ x, br1 = some x → br2 ≠ some x
  f1 : ∀ x, br1 = some x → h0.next ≤ x
  f2 : ∀ x, br2 = some x → h0.next ≤ x

section
variable {h0 h h' : H} {sl1 sl2 : Value} {br1 br2 : Option Nat} {A1 A2 : List (List Value)}
theorem S13.grow (s : S13 h0 h sl1 br1 A1 sl2 br2 A2) (g : Grow h h') : S13 h0 h' sl1 br1 A1 sl2 br2 A2 :=
  ⟨s.g.trans g, s.l1.grow g, s.l2.grow g, s.g1, s.g2, s.ne, s.f1, s.f2⟩
theorem S13.swap (s : S13 h0 h sl1 br1 A1 sl2 br2 A2) : S13 h0 h sl2 br2 A2 sl1 br1 A1 :=
  ⟨s.g, s.l2, s.l1, s.g2, s.g1, fun x q w => s.ne x w q, s.f2, s.f1⟩
/-- The first list is another one. -/
theorem S13.to (s : S13 h0 h sl1 br1 A1 sl2 br2 A2) (u : Upd (fun x => some x = br1) h h') {sl' : Value} {br' : Option Nat} {A' : List (List Value)} (l' : Lst 38 102 h' sl' br' A') (g' : GoodR 102 A') (n : NewBr h br1 br') : S13 h0 h' sl' br' A' sl2 br2 A2 := by
  refine ⟨⟨Nat.le_trans s.g.next u.next, fun b x hb => u.old b x (fun q => ?_) (s.g.old b x hb)⟩, l', s.l2.upd u fun b hb q => s.ne b q.symm hb, g', s.g2, fun x hx q => ?_, fun x hx => ?_, s.f2⟩
  · have := s.f1 b q.symm
    have := H.get_lt hb
    omega
  · rcases n with w | ⟨y, w, w'⟩
    · exact s.ne x (w.symm.trans hx) q
    · rw [hx] at w; cases w
      have := s.l2.lt q
      omega
  · rcases n with w | ⟨y, w, w'⟩
    · exact s.f1 x (w.symm.trans hx)
    · rw [hx] at w; cases w
      have := s.g.next
      omega
end

/-- Lists in the making: so many are written. -/
noncomputable def mix (a : Int) (i : Nat) (l : List (List Value)) : List (List Value) := List.replicate i (zm a) ++ l.drop i
theorem mix_0 (a : Int) (l : List (List Value)) : mix a 0 l = l := rfl
theorem mix_len {a : Int} {i : Nat} {l : List (List Value)} (h : i ≤ l.length) : (mix a i l).length = l.length := by simp [mix]; omega
theorem mix_at {a : Int} {i : Nat} {l : List (List Value)} : (mix a i l)[i]? = l[i]? := by
  unfold mix
  rw [List.getElem?_append_right (by simp), List.length_replicate, Nat.sub_self, List.getElem?_drop, Nat.add_zero]
theorem mix_set {a : Int} {i : Nat} {l : List (List Value)} (h : i < l.length) : (mix a i l).set i (zm a) = mix a (i + 1) l := by
  unfold mix
  rw [List.set_append_right _ _ (by simp), List.length_replicate, Nat.sub_self, List.drop_eq_getElem_cons h, List.set_cons_zero, List.replicate_succ', List.append_assoc]
  rfl
theorem mix_all {a : Int} {l : List (List Value)} : mix a l.length l = List.replicate l.length (zm a) := by simp [mix]
theorem rep_good (a : Int) (n : Nat) : GoodR 102 (List.replicate n (zm a)) := fun r hr => by rw [List.eq_of_mem_replicate hr]; exact ⟨zm_len a, zm_ones a⟩
theorem mix_good {a : Int} {i : Nat} {l : List (List Value)} (g : GoodR 102 l) : GoodR 102 (mix a i l) := (rep_good a i).append (g.drop i)

theorem lenl {h : H} {sl : Value} {br : Option Nat} {A : List (List Value)} (l : Lst 38 102 h sl br A) (h' : H) : xbuiltin Try.prog .len [73] [sl] h' = .ok (.int .i64 (A.length : Nat)) h' := by
  obtain ⟨x, c, rfl⟩ := l.len
  rw [ln73]

section
variable {h0 : H} {rb o : Nat} {last : Int} {lb : Option Nat} {rows : List Rw}

/-- The last round: all bear their numbers. -/
theorem loop26 {n : Nat} (hn : n ≤ 1000) {h : H} {sl1 sl2 : Value} {br1 br2 : Option Nat} (s : S13 h0 h sl1 br1 (List.replicate n (zm (-1))) sl2 br2 (List.replicate n (zm (-2)))) :
    ∀ (d i : Nat), n - i = d → i ≤ n → F13.l26 Try.prog CLM sl1 sl2 (.int .i64 (i : Nat)) h = .ok (.bool true) h := by
  intro d
  induction d with
  | zero =>
    intro i hd hi
    rw [F13.l26_eq, lenl s.l1, go_ok, xlss, go_ok, ifV_dec, if_neg (by simp; omega), F13.j30_eq]
  | succ d ih =>
    intro i hd hi
    have a1 : (List.replicate n (zm (-1)))[i]? = some (zm (-1)) := by rw [List.getElem?_replicate, if_pos (by omega)]
    have a2 : (List.replicate n (zm (-2)))[i]? = some (zm (-2)) := by rw [List.getElem?_replicate, if_pos (by omega)]
    obtain ⟨b1, _, e1, _, c1⟩ := row73 s.l1 s.g1 a1
    obtain ⟨b2, _, e2, _, c2⟩ := row73 s.l2 s.g2 a2
    rw [zm_0] at c1 c2
    have hw : IntKind.i64.wrap ((i : Int) + 1) = ((i + 1 : Nat) : Int) := by rw [wrap64 (by omega)]; omega
    rw [F13.l26_eq, lenl s.l1, go_ok, xlss, go_ok, ifV_dec, if_pos (by simp; omega), F13.j28_eq, e1, go_ok, fa38_0, go_ok, ld3, ← Nat.add_zero (i * 102), c1, ofO_some, go_ok, xneq, go_ok, ifV_not, if_pos rfl,
      e2, go_ok, fa38_0, go_ok, ld3, ← Nat.add_zero (i * 102), c2, ofO_some, go_ok, xneq, go_ok, ifV_not, if_pos rfl, xadd, go_ok, hw]
    exact ih (i + 1) (by omega) (by omega)

theorem loop22 {n : Nat} (hn : n ≤ 64) {sl1 : Value} {br1 : Option Nat} :
    ∀ (d i : Nat) {h : H} {sl2 : Value} {br2 : Option Nat}, 9 - i = d → i ≤ 9 → S13 h0 h sl1 br1 (List.replicate (n + 9) (zm (-1))) sl2 br2 (List.replicate (n + i) (zm (-2))) → ∃ h', Grow h0 h' ∧ F13.l22 Try.prog CLM sl1 sl2 (.int .i64 (i : Nat)) h = .ok (.bool true) h' := by
  intro d
  induction d with
  | zero =>
    intro i h sl2 br2 hd hi s
    have : i = 9 := by omega
    subst this
    refine ⟨h, s.g, ?_⟩
    rw [F13.l22_eq, xlss, go_ok, ifV_dec, if_neg (by omega), F13.j25_eq]
    exact loop26 (n := n + 9) (by omega) s _ 0 rfl (Nat.zero_le _)
  | succ d ih =>
    intro i h sl2 br2 hd hi s
    obtain ⟨sl', br', h1, u1, l1, n1, e1⟩ := push13 s.l2 s.g2 (by simp; omega) (-2)
    have s1 := (s.swap.to u1 l1 (s.g2.append (GoodR.one (zm_len _) (zm_ones _))) n1).swap
    rw [show List.replicate (n + i) (zm (-2)) ++ [zm (-2)] = List.replicate (n + (i + 1)) (zm (-2)) from List.replicate_succ'.symm] at s1
    obtain ⟨h2, g2, e2⟩ := ih (i + 1) (by omega) (by omega) s1
    have hw : IntKind.i64.wrap ((i : Int) + 1) = ((i + 1 : Nat) : Int) := by rw [wrap64 (by omega)]; omega
    refine ⟨h2, g2, ?_⟩
    rw [F13.l22_eq, xlss, go_ok, ifV_dec, if_pos (by omega), F13.j24_eq, e1, xadd, go_ok, hw]
    exact e2

theorem loop16 (R : Ref h0 rb o last lb rows) (F : Full rows) {sl1 : Value} {br1 : Option Nat} {sl2 : Value} {br2 : Option Nat} :
    ∀ (d i : Nat) {h : H}, rows.length - i = d → i ≤ rows.length → S13 h0 h sl1 br1 (List.replicate (rows.length + 9) (zm (-1))) sl2 br2 (mix (-2) i (vals rows)) → ∃ h', Grow h0 h' ∧ F13.l16 Try.prog CLM (.pointer (some ⟨rb, o, none⟩)) sl1 sl2 (.int .i64 (i : Nat)) h = .ok (.bool true) h' := by
  have hl : (vals rows).length = rows.length := List.length_map ..
  have few := R.few
  intro d
  induction d with
  | zero =>
    intro i h hd hi s
    have : i = rows.length := by omega
    subst this
    rw [← hl, mix_all, hl] at s
    obtain ⟨h2, g2, e2⟩ := loop22 few 9 0 rfl (Nat.zero_le _) s
    refine ⟨h2, g2, ?_⟩
    rw [F13.l16_eq, lenl s.l2, go_ok, xlss, go_ok, ifV_dec, if_neg (by simp), F13.j21_eq]
    exact e2
  | succ d ih =>
    intro i h hd hi s
    obtain ⟨h1, g1, e1⟩ := same13 (R.grow s.g) F s.l2 s.g2 (i := i) (by omega) mix_at
    have s1 := s.grow g1
    obtain ⟨h2, u2, l2, e2⟩ := put13 s1.l2 s1.g2 (i := i) (by rw [mix_len (by omega)]; omega) (-2)
    have s2 := (s1.swap.to u2 l2 (s1.g2.set (zm_len _) (zm_ones _) i) (.inl rfl)).swap
    rw [mix_set (by omega)] at s2
    obtain ⟨h3, g3, e3⟩ := ih (i + 1) (by omega) (by omega) s2
    have hw : IntKind.i64.wrap ((i : Int) + 1) = ((i + 1 : Nat) : Int) := by rw [wrap64 (by omega)]; omega
    refine ⟨h3, g3, ?_⟩
    rw [F13.l16_eq, lenl s.l2, go_ok, xlss, go_ok, ifV_dec, if_pos (by rw [mix_len (by omega)]; omega), F13.j18_eq, e1, ifV_f, F13.j20_eq, e2, xadd, go_ok, hw]
    exact e3

theorem loop12 (R : Ref h0 rb o last lb rows) (F : Full rows) {sl2 : Value} {br2 : Option Nat} :
    ∀ (d i : Nat) {h : H} {sl1 : Value} {br1 : Option Nat}, 9 - i = d → i ≤ 9 → S13 h0 h sl1 br1 (List.replicate (rows.length + i) (zm (-1))) sl2 br2 (vals rows) → ∃ h', Grow h0 h' ∧ F13.l12 Try.prog CLM (.pointer (some ⟨rb, o, none⟩)) sl1 sl2 (.int .i64 (i : Nat)) h = .ok (.bool true) h' := by
  have few := R.few
  intro d
  induction d with
  | zero =>
    intro i h sl1 br1 hd hi s
    have : i = 9 := by omega
    subst this
    rw [← mix_0 (-2) (vals rows)] at s
    obtain ⟨h2, g2, e2⟩ := loop16 R F rows.length 0 rfl (Nat.zero_le _) s
    refine ⟨h2, g2, ?_⟩
    rw [F13.l12_eq, xlss, go_ok, ifV_dec, if_neg (by omega), F13.j15_eq]
    exact e2
  | succ d ih =>
    intro i h sl1 br1 hd hi s
    obtain ⟨sl', br', h1, u1, l1, n1, e1⟩ := push13 s.l1 s.g1 (by simp; omega) (-1)
    have s1 := s.to u1 l1 (s.g1.append (GoodR.one (zm_len _) (zm_ones _))) n1
    rw [show List.replicate (rows.length + i) (zm (-1)) ++ [zm (-1)] = List.replicate (rows.length + (i + 1)) (zm (-1)) from List.replicate_succ'.symm] at s1
    obtain ⟨h2, g2, e2⟩ := ih (i + 1) (by omega) (by omega) s1
    have hw : IntKind.i64.wrap ((i : Int) + 1) = ((i + 1 : Nat) : Int) := by rw [wrap64 (by omega)]; omega
    refine ⟨h2, g2, ?_⟩
    rw [F13.l12_eq, xlss, go_ok, ifV_dec, if_pos (by omega), F13.j14_eq, e1, xadd, go_ok, hw]
    exact e2

theorem loop13_6 (R : Ref h0 rb o last lb rows) (F : Full rows) {sl1 : Value} {br1 : Option Nat} {sl2 : Value} {br2 : Option Nat} :
    ∀ (d i : Nat) {h : H}, rows.length - i = d → i ≤ rows.length → S13 h0 h sl1 br1 (mix (-1) i (vals rows)) sl2 br2 (vals rows) → ∃ h', Grow h0 h' ∧ F13.l6 Try.prog CLM (.pointer (some ⟨rb, o, none⟩)) sl1 sl2 (.int .i64 (i : Nat)) h = .ok (.bool true) h' := by
  have hl : (vals rows).length = rows.length := List.length_map ..
  have few := R.few
  intro d
  induction d with
  | zero =>
    intro i h hd hi s
    have : i = rows.length := by omega
    subst this
    have s' := s
    rw [← hl, mix_all, hl] at s'
    obtain ⟨h2, g2, e2⟩ := loop12 R F 9 0 rfl (Nat.zero_le _) s'
    refine ⟨h2, g2, ?_⟩
    rw [F13.l6_eq, lenl s'.l1, go_ok, xlss, go_ok, ifV_dec, if_neg (by simp), F13.j11_eq]
    exact e2
  | succ d ih =>
    intro i h hd hi s
    obtain ⟨h1, g1, e1⟩ := same13 (R.grow s.g) F s.l1 s.g1 (i := i) (by omega) mix_at
    have s1 := s.grow g1
    obtain ⟨h2, g2, e2⟩ := same13 (R.grow s1.g) F s1.l2 s1.g2 (i := i) (by omega) rfl
    have s2 := s1.grow g2
    obtain ⟨h3, u3, l3, e3⟩ := put13 s2.l1 s2.g1 (i := i) (by rw [mix_len (by omega)]; omega) (-1)
    have s3 := s2.to u3 l3 (s2.g1.set (zm_len _) (zm_ones _) i) (.inl rfl)
    rw [mix_set (by omega)] at s3
    obtain ⟨h4, g4, e4⟩ := ih (i + 1) (by omega) (by omega) s3
    have hw : IntKind.i64.wrap ((i : Int) + 1) = ((i + 1 : Nat) : Int) := by rw [wrap64 (by omega)]; omega
    refine ⟨h4, g4, ?_⟩
    rw [F13.l6_eq, lenl s.l1, go_ok, xlss, go_ok, ifV_dec, if_pos (by rw [mix_len (by omega)]; omega), F13.j8_eq, e1, ifV_f, e2, ifV_f, F13.j10_eq, e3, xadd, go_ok, hw]
    exact e4

/-- All of both. -/
theorem all13 {h : H} (R : Ref h rb o last lb rows) (F : Full rows) {bp bt : Nat} {br : Option Nat} {lst : Nat} (p : Pns h bp bt br rows lst) :
    ∃ h', Grow h h' ∧ CLM (.f 13) [.pointer (some ⟨bp, 0, none⟩), .pointer (some ⟨rb, o, none⟩)] h = .ok (.bool true) h' := by
  have hl : (vals rows).length = rows.length := List.length_map ..
  obtain ⟨h1, sl1, br1, g1, e1, l1, f1⟩ := all26 p R.few
  obtain ⟨h2, sl2, br2, g2, e2, l2, f2⟩ := all26 (p.grow g1) R.few
  have s : S13 h h2 sl1 br1 (mix (-1) 0 (vals rows)) sl2 br2 (vals rows) := ⟨g1.trans g2, l1.grow g2, l2, vals_good R.good, vals_good R.good, fun x hx q => by have := f2 x q; have := l1.lt hx; omega, f1, fun x hx => Nat.le_trans g1.next (f2 x hx)⟩
  obtain ⟨h', g', e'⟩ := loop13_6 R F rows.length 0 rfl (Nat.zero_le _) s
  obtain ⟨c, el, slr, hg, hc0, hc1, lr⟩ := (R.grow s.g).cells
  have hr : ∀ hh, xbuiltin Try.prog .len [44] [slr] hh = .ok (.int .i64 (rows.length : Nat)) hh := fun hh => by
    obtain ⟨x, c, hx⟩ := lr.len
    rw [hx, ln44, hl]
  refine ⟨h', g', ?_⟩
  rw [cM13, F13.eq, e1, go_ok, e2, go_ok, lenl l1, go_ok, xnil_ptr, go_ok, fa46_0, go_ok, ld44, H.cell_eq hg, hc0, ofO_some, go_ok, hr, go_ok, xneq, go_ok, ifV_not, hl, if_pos rfl, lenl l2, go_ok, xnil_ptr, go_ok, fa46_0, go_ok, ld44, H.cell_eq hg, hc0, ofO_some, go_ok, hr, go_ok, xneq, go_ok, ifV_not, hl, if_pos rfl, F13.j5_eq]
  exact e'
end

end Go.Proofs.Ytomboannkblccaa.K

namespace Go.Proofs.Ytomboannkblccaa.K
open Go Go.Kx
set_option linter.unusedVariables false
set_option linter.unusedSimpArgs false
set_option maxRecDepth 20000

/-- A list of pins and the reference's. -/
structure Side (h : H) (bp bt : Nat) (br : Option Nat) (rb o : Nat) (lb : Option Nat) (rows : List Rw) (last : Nat) : Prop where
  p : Pns h bp bt br rows last
  r : Ref h rb o ((last : Nat) : Int) lb rows
  full : Full rows
  apart : ∀ x, Ft bp bt br x → x ≠ rb ∧ some x ≠ lb

/-- An act's parts can be held against themselves. -/
structure AE (a : AT) : Prop where
  ok : a.Ok
  ek : PartE 32 23 a.k
  er : PartE 34 25 a.r
  em : PartE 34 25 a.m

noncomputable def klB (d t : Nat) (l : List Value) : Bool := match Try.prog.keyLits d t l with | some ls => (match eqLits ls ls with | some true => true | _ => false) | none => false
theorem klB_KL {d t : Nat} {l : List Value} (h : klB d t l = true) : KL d t l := by
  unfold klB at h
  split at h
  · rename_i ls q
    split at h
    · rename_i w; exact ⟨ls, q, w⟩
    · cases h
  · cases h
theorem e23 : PartE 32 23 zc23 := ⟨by kernel_rfl, by kernel_rfl, by kernel_rfl, klB_KL (by kernel_rfl)⟩
theorem e25 : PartE 34 25 zc25 := ⟨by kernel_rfl, by kernel_rfl, by kernel_rfl, klB_KL (by kernel_rfl)⟩
theorem zc38_pin : zc38 = pinC 0 0 zc23 zc25 zc25 := by kernel_rfl

/-- What is told for a number can be held against itself. -/
theorem same_val {rows : List Rw} (F : Full rows) (n : Int) (h : H) : ∃ h', Grow h h' ∧ CLM (.f 24) [.agg ⟨valOf rows n⟩, .agg ⟨valOf rows n⟩] h = .ok (.bool true) h' := by
  unfold valOf
  split
  · rename_i hk
    obtain ⟨r, hr⟩ : ∃ r, rows[lb rows n]? = some r := ⟨_, List.getElem?_eq_getElem hk.1⟩
    rw [hr]
    obtain ⟨g, k, r', m, hf, pk, pr, pm⟩ := F r (List.mem_of_getElem? hr)
    show ∃ h', Grow h h' ∧ CLM (.f 24) [.agg ⟨r.2⟩, .agg ⟨r.2⟩] h = .ok (.bool true) h'
    rw [hf]
    exact same24 pk pr pm h
  · rw [zc38_pin]
    exact same24 e23 e25 e25 h

theorem Pns.lt {h : H} {bp bt : Nat} {br : Option Nat} {rows : List Rw} {last : Nat} (p : Pns h bp bt br rows last) {x : Nat} (hx : Ft bp bt br x) : x < h.next := by
  rcases hx with q | q | q
  · subst q; exact H.get_lt p.pin
  · subst q; obtain ⟨sl, w, _⟩ := p.tbl.sl; exact H.get_lt w
  · obtain ⟨sl, _, w⟩ := p.tbl.sl
    rcases w with ⟨w, _⟩ | ⟨b, sp, cp, w1, _, w2, _⟩
    · rw [w] at q; cases q
    · rw [w1] at q; cases q; exact H.get_lt w2
theorem Ref.lt {h : H} {rb o : Nat} {last : Int} {lb : Option Nat} {rows : List Rw} (R : Ref h rb o last lb rows) : rb < h.next ∧ ∀ x, some x = lb → x < h.next := by
  obtain ⟨c, el, sl, hg, hc0, hc1, l⟩ := R.cells
  exact ⟨H.get_lt hg, fun x hx => l.lt hx.symm⟩
theorem Ref.upd {S : Nat → Prop} {h h' : H} (u : Upd S h h') {rb o : Nat} {last : Int} {lb : Option Nat} {rows : List Rw} (R : Ref h rb o last lb rows) (h1 : ¬ S rb) (h2 : ∀ x, some x = lb → ¬ S x) : Ref h' rb o last lb rows := by
  obtain ⟨c, el, sl, hg, hc0, hc1, l⟩ := R.cells
  exact ⟨⟨c, el, sl, u.old _ _ h1 hg, hc0, hc1, l.upd u fun b hb => h2 b hb.symm⟩, R.ne, R.good, R.pnd, R.srt, R.few⟩
theorem Side.grow {h h' : H} (g : Grow h h') {bp bt : Nat} {br : Option Nat} {rb o : Nat} {lb : Option Nat} {rows : List Rw} {last : Nat} (s : Side h bp bt br rb o lb rows last) : Side h' bp bt br rb o lb rows last := ⟨s.p.grow g, s.r.grow g, s.full, s.apart⟩

/-- What becomes of a block: the same one, or a new one, or none. -/
def NewW (h : H) (br br' : Option Nat) : Prop := br' = br ∨ ∀ b, br' = some b → h.next ≤ b
theorem NewBr.w {h h1 : H} {br br' : Option Nat} (n : NewBr h1 br br') (hn : h.next ≤ h1.next) : NewW h br br' := n.imp id fun ⟨y, q, q'⟩ b hb => by rw [q] at hb; cases hb; exact Nat.le_trans hn q'

/-- The blocks of both. -/
def Fs (bp bt : Nat) (br : Option Nat) (rb : Nat) (lb : Option Nat) (x : Nat) : Prop := Ft bp bt br x ∨ x = rb ∨ some x = lb

section
variable {h : H} {bp bt : Nat} {br : Option Nat} {rb o : Nat} {lb : Option Nat} {rows : List Rw} {last : Nat}

/-- A pin is taken. -/
theorem both1 (s : Side h bp bt br rb o lb rows last) (hl : last < 1000) (gen : Int) {k r m : List Value} (hk : PartE 32 23 k) (hr : PartE 34 25 r) (hm : PartE 34 25 m) :
    ∃ n e h1 h' br' lb' rows' last', CLM (.f 6) [.pointer (some ⟨bp, 0, none⟩), .int .i64 gen, .agg ⟨k⟩, .agg ⟨r⟩, .agg ⟨m⟩] h = .ok (.tuple ⟨[.int .i64 n, .int .i64 e]⟩) h1 ∧ (∀ b x, ¬ Ft bp bt br b → h.get b = some x → h1.get b = some x) ∧
      CLM (.f 21) [.pointer (some ⟨rb, o, none⟩), .int .i64 gen, .agg ⟨k⟩, .agg ⟨r⟩, .agg ⟨m⟩] h1 = .ok (.tuple ⟨[.int .i64 n, .int .i64 e]⟩) h' ∧ Upd (Fs bp bt br rb lb) h h' ∧ Oth rb o h h' ∧ Side h' bp bt br' rb o lb' rows' last' ∧ last' ≤ last + 1 ∧ NewW h br br' ∧ NewW h lb lb' := by
  by_cases hf : 64 ≤ rows.length
  · obtain ⟨h1, g1, e1⟩ := pin6_full s.p hf gen k r m
    have s1 := s.grow g1
    obtain ⟨h2, g2, e2⟩ := pin21_full s1.r hf gen k r m
    exact ⟨0, 190, h1, h2, br, lb, rows, last, e1, fun b x _ q => g1.old b x q, e2, (g1.trans g2).upd _, Oth.grow (g1.trans g2), s1.grow g2, by omega, .inl rfl, .inl rfl⟩
  · obtain ⟨h1, br', u1, nb, e1, p1⟩ := pin6 s.p (by omega) (by omega) gen ⟨hk.len, hk.one⟩ ⟨hr.len, hr.one⟩ ⟨hm.len, hm.one⟩
    have hap : ∀ {x : Nat}, (x = rb ∨ some x = lb) → ¬ Ft bp bt br x := fun hx q => by
      have := s.apart _ q
      exact hx.elim this.1 this.2
    have r1 := s.r.upd u1 (hap (.inl rfl)) (fun x hx => hap (.inr hx))
    obtain ⟨h2, lb', e2, u2, o2, r2, nl⟩ := pin21 r1 (by omega) (by omega) (fun q hq => by have := s.p.keys q hq; omega) gen ⟨hk.len, hk.one⟩ ⟨hr.len, hr.one⟩ ⟨hm.len, hm.one⟩
    obtain ⟨lr1, lr2⟩ := s.r.lt
    have hn := u1.next
    have hFt' : ∀ x, Ft bp bt (some br') x → x ≠ rb ∧ some x ≠ lb := fun x hx => by
      rcases hx with q | q | q
      · exact s.apart x (.inl q)
      · exact s.apart x (.inr (.inl q))
      · cases q
        exact ⟨by omega, fun q => by have := lr2 _ q; omega⟩
    have p2 := p1.upd u2 (fun x hx q => by have := hFt' x hx; exact q.elim this.1 this.2)
    refine ⟨_, _, h1, h2, some br', lb', _, last + 1, e1, fun b x hb q => u1.old b x hb q, e2, (u1.mono fun x _ q => .inl q).trans (u2.mono fun x _ q => .inr q), ?_, ⟨p2, r2, ?_, ?_⟩, Nat.le_refl _, .inr (fun b hb => by cases hb; exact nb), NewBr.w nl hn⟩
    · refine Oth.trans ?_ o2
      intro c el hg
      exact ⟨c, u1.old _ _ (hap (.inl rfl)) hg, rfl, fun _ _ _ => rfl⟩
    · intro q hq
      rcases List.mem_append.1 hq with w | w
      · exact s.full q w
      · simp only [List.mem_singleton] at w
        subst w
        exact ⟨gen, k, r, m, rfl, hk, hr, hm⟩
    · intro x hx
      refine ⟨(hFt' x hx).1, ?_⟩
      rcases nl with q | ⟨y, q, q'⟩
      · rw [q]; exact (hFt' x hx).2
      · rw [q]; intro w; cases w
        have := p1.lt hx
        omega

/-- A pin is let go. -/
theorem both2 (s : Side h bp bt br rb o lb rows last) (n : Int) :
    ∃ e h1 h' lb' rows', CLM (.f 8) [.pointer (some ⟨bp, 0, none⟩), .int .i64 n] h = .ok (.int .i64 e) h1 ∧ (∀ b x, ¬ Ft bp bt br b → h.get b = some x → h1.get b = some x) ∧
      CLM (.f 22) [.pointer (some ⟨rb, o, none⟩), .int .i64 n] h1 = .ok (.int .i64 e) h' ∧ Upd (Fs bp bt br rb lb) h h' ∧ Oth rb o h h' ∧ Side h' bp bt br rb o lb' rows' last ∧ NewW h lb lb' := by
  obtain ⟨h1, u1, e1, p1⟩ := unpin8 s.p n
  have hap : ∀ {x : Nat}, (x = rb ∨ some x = lb) → ¬ Ft bp bt br x := fun hx q => by
    have := s.apart _ q
    exact hx.elim this.1 this.2
  have r1 := s.r.upd u1 (hap (.inl rfl)) (fun x hx => hap (.inr hx))
  obtain ⟨h2, lb', e2, u2, o2, r2, nl⟩ := unpin22 r1 n
  have hn := u1.next
  have p2 := p1.upd u2 (fun x hx q => (s.apart x hx).1 q)
  refine ⟨_, h1, h2, lb', _, e1, fun b x hb q => u1.old b x hb q, e2, (u1.mono fun x _ q => .inl q).trans (u2.mono fun x _ q => .inr (.inl q)), ?_, ⟨p2, r2, fun q hq => s.full q (delR_sub hq), ?_⟩, ?_⟩
  · refine Oth.trans ?_ o2
    intro c el hg
    exact ⟨c, u1.old _ _ (hap (.inl rfl)) hg, rfl, fun _ _ _ => rfl⟩
  · intro x hx
    refine ⟨(s.apart x hx).1, ?_⟩
    rcases nl with q | q
    · rw [q]; exact (s.apart x hx).2
    · intro w
      have := q x w.symm
      have := p1.lt hx
      omega
  · exact nl.imp id fun q b hb => Nat.le_trans hn (q b hb)
end

end Go.Proofs.Ytomboannkblccaa.K

namespace Go.Proofs.Ytomboannkblccaa.K
open Go Go.Kx
set_option linter.unusedVariables false
set_option linter.unusedSimpArgs false
set_option maxRecDepth 20000

theorem rc_int (n : Int) (h : H) : rc (.ok (.int .i64 n) h) (some (.int .i64 n)) = true := by simp [rc, veq]

theorem act_rows {h : H} {a : AT} (ha : a.Ok) {q : Nat} (hq : h.get q = some (.cells (actC a) 35 0 false)) : h.row ⟨q, 0 + 3, none⟩ 32 = some a.k ∧ h.row ⟨q, 0 + 35, none⟩ 34 = some a.r ∧ h.row ⟨q, 0 + 69, none⟩ 34 = some a.m := by
  have la := actC_len ha
  refine ⟨?_, ?_, ?_⟩
  · rw [H.row_eq hq (by omega)]
    show some ((a.k ++ (a.r ++ a.m)).take 32) = _
    rw [List.take_left' ha.k2.len]
  · rw [H.row_eq hq (by omega)]
    show some (((a.k ++ (a.r ++ a.m)).drop 32).take 34) = _
    rw [List.drop_left' ha.k2.len, List.take_left' ha.r2.len]
  · rw [H.row_eq hq (by omega)]
    show some (((a.k ++ (a.r ++ a.m)).drop 66).take 34) = _
    rw [show (66 : Nat) = 32 + 34 from rfl, ← List.drop_drop, List.drop_left' ha.k2.len, List.drop_left' ha.r2.len, take_all ha.m2.len]

section
variable {h : H} {bp bt : Nat} {br : Option Nat} {rb o : Nat} {lb : Option Nat} {rows : List Rw} {last : Nat}

theorem does11 (s : Side h bp bt br rb o lb rows last) (hl : last < 1000) {a : AT} (ha : AE a) :
    ∃ h' br' lb' rows' last', CLM (.f 11) [.pointer (some ⟨bp, 0, none⟩), .pointer (some ⟨rb, o, none⟩), .agg ⟨actC a⟩] h = .ok (.bool true) h' ∧ Upd (Fs bp bt br rb lb) h h' ∧ Oth rb o h h' ∧ Side h' bp bt br' rb o lb' rows' last' ∧ last' ≤ last + 1 ∧ NewW h br br' ∧ NewW h lb lb' := by
  obtain ⟨h1, hh1⟩ : ∃ h1, h1 = h.alloc (.cells (actC a) 35 0 false) := ⟨_, rfl⟩
  have g1 : Grow h h1 := by rw [hh1]; exact (Grow.refl h).alloc _
  have q1 : h1.get h.next = some (.cells (actC a) 35 0 false) := by rw [hh1]; exact H.alloc_self _ _
  have s1 := s.grow g1
  have r0 : (actC a)[0]? = some (.int .i64 a.kind) := rfl
  have r1 : (actC a)[0 + 1]? = some (.int .i64 a.n) := rfl
  have r2 : (actC a)[0 + 2]? = some (.int .i64 a.gen) := rfl
  have nF : ¬ Ft bp bt br h.next := fun q => by have := s.p.lt q; omega
  have nS : ¬ Fs bp bt br rb lb h.next := fun q => by
    rcases q with q | q | q
    · exact nF q
    · have := s.r.lt.1; omega
    · have := s.r.lt.2 _ q; omega
  rw [cM11, F11.eq, xbox_eq, cells_agg, ← hh1, go_ok, fa35_0, go_ok, ld3, H.cell_eq q1, r0, ofO_some, go_ok, xeql, go_ok, ifV_dec]
  by_cases k1 : a.kind = 1
  · obtain ⟨n, e, h2, h3, br', lb', rows', last', e6, o6, e21, u, ot, s3, l3, n3, n4⟩ := both1 s1 hl a.gen ha.ek ha.er ha.em
    have q2 := o6 _ _ nF q1
    obtain ⟨a1, a2, a3⟩ := act_rows ha.ok q1
    obtain ⟨b1, b2, b3⟩ := act_rows ha.ok q2
    refine ⟨h3, br', lb', rows', last', ?_, (g1.upd _).trans u, (Oth.grow g1).trans ot, s3, l3, n3.imp id fun q b hb => Nat.le_trans g1.next (q b hb), n4.imp id fun q b hb => Nat.le_trans g1.next (q b hb)⟩
    rw [if_pos k1, fa35_2, go_ok, ld3, H.cell_eq q1, r2, ofO_some, go_ok, fa35_3, go_ok, ld23, a1, ofA_some, go_ok, fa35_4, go_ok, ld25, a2, ofA_some, go_ok, fa35_5, go_ok, ld25, a3, ofA_some, go_ok, e6, go_ok, xextract_0, go_ok, xextract_1, go_ok,
      fa35_2, go_ok, ld3, H.cell_eq q2, r2, ofO_some, go_ok, fa35_3, go_ok, ld23, b1, ofA_some, go_ok, fa35_4, go_ok, ld25, b2, ofA_some, go_ok, fa35_5, go_ok, ld25, b3, ofA_some, go_ok, e21, go_ok, xextract_0, go_ok, xextract_1, go_ok, xeql, go_ok, ifV_dec, if_pos rfl, num7, go_ok, xeql, go_ok]
    simp
  rw [if_neg k1, xeql, go_ok, ifV_dec]
  by_cases k2 : a.kind = 2
  · obtain ⟨e, h2, h3, lb', rows', e8, o8, e22, u, ot, s3, n4⟩ := both2 s1 a.n
    have q2 := o8 _ _ nF q1
    refine ⟨h3, br, lb', rows', last, ?_, (g1.upd _).trans u, (Oth.grow g1).trans ot, s3, by omega, .inl rfl, n4.imp id fun q b hb => Nat.le_trans g1.next (q b hb)⟩
    rw [if_pos k2, fa35_1, Res.ok1_ok, ld3, H.cell_eq q1, r1, ofO_some, Res.ok1_ok, fa35_1, Res.ok1_ok, ld3, H.cell_eq q1, r1, ofO_some, Res.ok1_ok, e8, go_ok, ld3, H.cell_eq q2, r1, ofO_some, rc_int, Bool.and_true, cond_true, num7, go_ok, ld3, H.cell_eq q2, r1, ofO_some, rc_int, Bool.and_true, cond_true,
      e22, go_ok, plain2_int, cond_true, xeql, Res.ok1_ok]
    simp
  rw [if_neg k2, xeql, go_ok, ifV_dec]
  by_cases k3 : a.kind = 3
  · obtain ⟨h2, g2, e9⟩ := get9 s1.p a.n
    have s2 := s1.grow g2
    have hv := valOf_len s.p.tbl.good a.n
    have hst : (Value.agg ⟨valOf rows a.n⟩).cells.size = 102 := by rw [asz]; exact hv.1
    obtain ⟨h3, hh3⟩ : ∃ h3, h3 = h2.alloc (.cells zc38 38 0 false) := ⟨_, rfl⟩
    have p3 : h3.get h2.next = some (.cells zc38 38 0 false) := by rw [hh3]; exact H.alloc_self _ _
    obtain ⟨h4, hh4⟩ : ∃ h4, h4 = h3.put h2.next (.cells (valOf rows a.n) 38 0 false) := ⟨_, rfl⟩
    have w4 : h3.write ⟨h2.next, 0, none⟩ (valOf rows a.n) = some h4 := by rw [hh4]; exact H.write_all p3 (by rw [zc38_len]; exact hv.1) hv.2
    have p4 : h4.get h2.next = some (.cells (valOf rows a.n) 38 0 false) := by rw [hh4]; exact H.put_self p3
    have g4 : Grow h2 h4 := by rw [hh4, hh3]; exact ((Grow.refl h2).alloc _).put (Nat.le_refl _) (by rw [← hh3]; exact H.get_lt p3) _
    have s4 := s2.grow g4
    have q4 := g4.old _ _ (g2.old _ _ q1)
    obtain ⟨h5, g5, e23⟩ := get23 s4.r a.n
    obtain ⟨h6, hh6⟩ : ∃ h6, h6 = h5.alloc (.cells zc69 69 0 false) := ⟨_, rfl⟩
    have p6 : h6.get h5.next = some (.cells zc69 69 0 false) := by rw [hh6]; exact H.alloc_self _ _
    obtain ⟨h7, hh7⟩ : ∃ h7, h7 = h6.put h5.next (.cells (valOf rows a.n) 69 0 false) := ⟨_, rfl⟩
    have w7 : h6.write ⟨h5.next, 0, none⟩ (valOf rows a.n) = some h7 := by rw [hh7]; exact H.write_all p6 (by rw [zc69l]; exact hv.1) hv.2
    have p7 : h7.get h5.next = some (.cells (valOf rows a.n) 69 0 false) := by rw [hh7]; exact H.put_self p6
    have g7 : Grow h5 h7 := by rw [hh7, hh6]; exact ((Grow.refl h5).alloc _).put (Nat.le_refl _) (by rw [← hh6]; exact H.get_lt p6) _
    have p7' := g7.old _ _ (g5.old _ _ p4)
    obtain ⟨h8, g8, e24⟩ := same_val s.full a.n h7
    have G := ((((g1.trans g2).trans g4).trans g5).trans g7).trans g8
    refine ⟨h8, br, lb, rows, last, ?_, G.upd _, Oth.grow G, s.grow G, by omega, .inl rfl, .inl rfl⟩
    rw [if_pos k3, fa35_1, go_ok, ld3, H.cell_eq q1, r1, ofO_some, go_ok, e9, go_ok, xextract_0, go_ok, xextract_1, go_ok, al38, go_ok, ← hh3, st38 _ _ _ hst, cells_agg, w4, ofU_some, go_ok, fa35_1, go_ok, ld3, H.cell_eq q4, r1, ofO_some, go_ok, e23, go_ok, xextract_0, go_ok, xextract_1, go_ok, al69, go_ok, ← hh6,
      st69 _ _ _ hst, cells_agg, w7, ofU_some, go_ok, ld38, H.row_all p7' hv.1, ofA_some, go_ok, ld69, H.row_all p7 hv.1, ofA_some, go_ok, e24, go_ok, ifV_t, num7, go_ok, xeql, go_ok]
    simp
  rw [if_neg k3, xeql, go_ok, ifV_dec]
  by_cases k4 : a.kind = 4
  · obtain ⟨h2, g2, e13⟩ := all13 s1.r s.full s1.p
    have G := g1.trans g2
    refine ⟨h2, br, lb, rows, last, ?_, G.upd _, Oth.grow G, s.grow G, by omega, .inl rfl, .inl rfl⟩
    rw [if_pos k4, e13, go_ok]
  rw [if_neg k4, xeql, go_ok, ifV_dec]
  by_cases k5 : a.kind = 5
  · obtain ⟨h2, g2, e20⟩ := of20 s1.p s1.r.pnd a.gen
    have s2 := s1.grow g2
    have q2 := g2.old _ _ q1
    have e25 := of25 s2.r a.gen
    have e12 := len12 s2.p
    have G := g1.trans g2
    obtain ⟨c, el, slr, hg, hc0, hc1, lr⟩ := s2.r.cells
    have hr : ∀ hh, xbuiltin Try.prog .len [44] [slr] hh = .ok (.int .i64 (rows.length : Nat)) hh := fun hh => by
      obtain ⟨x, c, hx⟩ := lr.len
      rw [hx, ln44, List.length_map]
    have hs : (lenV slr).isSome = true := by obtain ⟨x, c, hx⟩ := lr.len; rw [hx]; rfl
    refine ⟨h2, br, lb, rows, last, ?_, G.upd _, Oth.grow G, s.grow G, by omega, .inl rfl, .inl rfl⟩
    rw [if_pos k5, fa35_2, Res.ok1_ok, ld3, H.cell_eq q1, r2, ofO_some, Res.ok1_ok, fa35_2, Res.ok1_ok, ld3, H.cell_eq q1, r2, ofO_some, Res.ok1_ok, e20, go_ok, ld3, H.cell_eq q2, r2, ofO_some, rc_int, Bool.and_true, cond_true, e25, go_ok, plain2_int, cond_true, xeql, Res.ok1_ok, ifV_dec, if_pos rfl,
      xnil_ptr, Res.ok1_ok, fa46_0, Res.ok1_ok, ld44, H.cell_eq hg, hc0, ofO_some, Res.ok1_ok, hs, cond_true, hr, Res.ok1_ok, e12, go_ok, ld44, H.cell_eq hg, hc0, ofO_some, rc_lst lr, Bool.and_true, cond_true, plain2_int, cond_true, xeql, Res.ok1_ok]
    simp
  · rw [if_neg k5]
    exact ⟨h1, br, lb, rows, last, rfl, g1.upd _, Oth.grow g1, s1, by omega, .inl rfl, .inl rfl⟩
end

end Go.Proofs.Ytomboannkblccaa.K

namespace Go.Proofs.Ytomboannkblccaa.K
open Go Go.Kx
set_option linter.unusedVariables false
set_option linter.unusedSimpArgs false
set_option maxRecDepth 20000

/-- Whose turn it is. -/
def Trn (h : H) (lo : Nat) (x1 : Value) (ts : List Int) : Prop :=
  ∃ ob c, x1 = .slice ob ts.length c ∧ ∀ j n, ts[j]? = some n → ∃ b o sp, ob = some ⟨b, o, sp⟩ ∧ b < lo ∧ h.row ⟨b, o + j * 1, none⟩ 1 = some [.int .i64 n]
theorem row_cell {h : H} {b o : Nat} {v : Value} (hr : h.row ⟨b, o, none⟩ 1 = some [v]) : h.cell ⟨b, o, none⟩ = some v := by
  unfold H.row at hr
  unfold H.cell
  simp only at hr ⊢
  cases hb : h.get b with
  | none => rw [hb] at hr; cases hr
  | some x =>
    rw [hb] at hr
    cases x with
    | cells c el f op =>
      simp only at hr ⊢
      cases q : Nat.ble (o + 1) c.length with
      | false => rw [q] at hr; cases hr
      | true =>
        rw [q, cond_true] at hr
        simp only [Option.some.injEq] at hr
        have h1 : ((c.drop o).take 1)[0]? = some v := by rw [hr]; rfl
        rw [List.getElem?_take, if_pos (by omega), List.getElem?_drop, Nat.add_zero] at h1
        exact h1
    | _ => cases hr
theorem Trn.grow {h h' : H} (g : Grow h h') {lo : Nat} {x1 : Value} {ts : List Int} (s : Trn h lo x1 ts) : Trn h' lo x1 ts := by
  obtain ⟨ob, c, e, f⟩ := s
  refine ⟨ob, c, e, fun j a ha => ?_⟩
  obtain ⟨b, o, sp, q1, q2, q3⟩ := f j a ha
  exact ⟨b, o, sp, q1, q2, g.row q3⟩

theorem Ref.oth {S : Nat → Prop} {h h' : H} {rb o o' : Nat} (u : Upd S h h') (ot : Oth rb o h h') {last : Int} {lb : Option Nat} {rows : List Rw} (R : Ref h rb o' last lb rows) (h1 : o' ≠ o) (h2 : o' ≠ o + 1) (h3 : o' + 1 ≠ o) (hS : ∀ x, some x = lb → ¬ S x) : Ref h' rb o' last lb rows := by
  obtain ⟨c, el, sl, hg, hc0, hc1, l⟩ := R.cells
  obtain ⟨c', q1, q2, q3⟩ := ot c el hg
  exact ⟨⟨c', el, sl, q1, by rw [q3 _ h1 h2]; exact hc0, by rw [q3 _ h3 (by omega)]; exact hc1, l.upd u fun b hb => hS b hb.symm⟩, R.ne, R.good, R.pnd, R.srt, R.few⟩

def Fo (bp bt : Nat) (br lb : Option Nat) (x : Nat) : Prop := Ft bp bt br x ∨ some x = lb

/-- Both lists, and what lies with them. -/
structure Duo (h0 h : H) (b7 rb : Nat) (v0 v1 : Value) (o0 o1 B : Nat) (bp0 bt0 : Nat) (br0 lb0 : Option Nat) (rows0 : List Rw) (bp1 bt1 : Nat) (br1 lb1 : Option Nat) (rows1 : List Rw) : Prop where
  g : Grow h0 h
  s0 : ∃ last, Side h bp0 bt0 br0 rb o0 lb0 rows0 last ∧ last ≤ B
  s1 : ∃ last, Side h bp1 bt1 br1 rb o1 lb1 rows1 last ∧ last ≤ B
  ps : h.get b7 = some (.cells [v0, v1] 43 0 false)
  far : o0 ≠ o1 ∧ o0 ≠ o1 + 1 ∧ o1 ≠ o0 + 1
  cross : ∀ x, Fo bp0 bt0 br0 lb0 x → ¬ Fo bp1 bt1 br1 lb1 x
  out0 : ∀ x, Fo bp0 bt0 br0 lb0 x → x ≠ b7 ∧ x ≠ rb ∧ h0.next ≤ x
  out1 : ∀ x, Fo bp1 bt1 br1 lb1 x → x ≠ b7 ∧ x ≠ rb ∧ h0.next ≤ x
  low : b7 ≠ rb ∧ h0.next ≤ b7 ∧ h0.next ≤ rb

section
variable {h0 h : H} {b7 rb : Nat} {v0 v1 : Value} {o0 o1 B : Nat} {bp0 bt0 : Nat} {br0 lb0 : Option Nat} {rows0 : List Rw} {bp1 bt1 : Nat} {br1 lb1 : Option Nat} {rows1 : List Rw}

theorem Duo.swap (D : Duo h0 h b7 rb v0 v1 o0 o1 B bp0 bt0 br0 lb0 rows0 bp1 bt1 br1 lb1 rows1) : Duo h0 h b7 rb v0 v1 o1 o0 B bp1 bt1 br1 lb1 rows1 bp0 bt0 br0 lb0 rows0 :=
  ⟨D.g, D.s1, D.s0, D.ps, ⟨Ne.symm D.far.1, D.far.2.2, D.far.2.1⟩, fun x p q => D.cross x q p, D.out1, D.out0, D.low⟩
theorem Duo.grow {h' : H} (g : Grow h h') (D : Duo h0 h b7 rb v0 v1 o0 o1 B bp0 bt0 br0 lb0 rows0 bp1 bt1 br1 lb1 rows1) : Duo h0 h' b7 rb v0 v1 o0 o1 B bp0 bt0 br0 lb0 rows0 bp1 bt1 br1 lb1 rows1 := by
  obtain ⟨l0, s0, b0⟩ := D.s0
  obtain ⟨l1, s1, b1⟩ := D.s1
  exact ⟨D.g.trans g, ⟨l0, s0.grow g, b0⟩, ⟨l1, s1.grow g, b1⟩, g.old _ _ D.ps, D.far, D.cross, D.out0, D.out1, D.low⟩

theorem Side.lt {h : H} {bp bt : Nat} {br : Option Nat} {rb o : Nat} {lb : Option Nat} {rows : List Rw} {last : Nat} (s : Side h bp bt br rb o lb rows last) {x : Nat} (hx : Fo bp bt br lb x) : x < h.next := hx.elim s.p.lt (s.r.lt.2 x)

theorem Duo.step (D : Duo h0 h b7 rb v0 v1 o0 o1 B bp0 bt0 br0 lb0 rows0 bp1 bt1 br1 lb1 rows1) (hB : B < 1000) {a : AT} (ha : AE a) :
    ∃ h' br' lb' rows', CLM (.f 11) [.pointer (some ⟨bp0, 0, none⟩), .pointer (some ⟨rb, o0, none⟩), .agg ⟨actC a⟩] h = .ok (.bool true) h' ∧ Duo h0 h' b7 rb v0 v1 o0 o1 (B + 1) bp0 bt0 br' lb' rows' bp1 bt1 br1 lb1 rows1 := by
  obtain ⟨l0, s0, b0⟩ := D.s0
  obtain ⟨l1, s1, b1⟩ := D.s1
  obtain ⟨h', br', lb', rows', last', e, u, ot, s', hl, n1, n2⟩ := does11 s0 (by omega) ha
  have hn := u.next
  have nS : ∀ x, Fo bp1 bt1 br1 lb1 x → ¬ Fs bp0 bt0 br0 rb lb0 x := fun x hx q => by
    rcases q with q | q | q
    · exact D.cross x (.inl q) hx
    · exact (D.out1 x hx).2.1 q
    · exact D.cross x (.inr q) hx
  have new : ∀ x, Fo bp0 bt0 br' lb' x → Fo bp0 bt0 br0 lb0 x ∨ h.next ≤ x := fun x hx => by
    rcases hx with (q | q | q) | q
    · exact .inl (.inl (.inl q))
    · exact .inl (.inl (.inr (.inl q)))
    · rcases n1 with w | w
      · rw [w] at q; exact .inl (.inl (.inr (.inr q)))
      · exact .inr (w x q.symm)
    · rcases n2 with w | w
      · rw [w] at q; exact .inl (.inr q)
      · exact .inr (w x q.symm)
  have h7 := H.get_lt D.ps
  have hr := s0.r.lt.1
  refine ⟨h', br', lb', rows', e, ⟨⟨Nat.le_trans D.g.next hn, fun b x hb => u.old b x (fun q => ?_) (D.g.old b x hb)⟩, ⟨last', s', by omega⟩, ⟨l1, ⟨s1.p.upd u fun x hx => nS x (.inl hx), s1.r.oth u ot (Ne.symm D.far.1) D.far.2.2 (fun q => D.far.2.1 q.symm) fun x hx => nS x (.inr hx), s1.full, s1.apart⟩, by omega⟩, u.old _ _ (fun q => ?_) D.ps, D.far, fun x hx hx' => ?_, fun x hx => ?_, D.out1, D.low⟩⟩
  · have := H.get_lt hb
    rcases q with q | q | q
    · have := (D.out0 b (.inl q)).2.2; omega
    · have := D.low.2.2; omega
    · have := (D.out0 b (.inr q)).2.2; omega
  · rcases q with q | q | q
    · exact (D.out0 b7 (.inl q)).1 rfl
    · exact D.low.1 q
    · exact (D.out0 b7 (.inr q)).1 rfl
  · rcases new x hx with w | w
    · exact D.cross x w hx'
    · have := s1.lt hx'; omega
  · rcases new x hx with w | w
    · exact D.out0 x w
    · exact ⟨by omega, by omega, Nat.le_trans D.g.next w⟩

/-- One round, for the one whose turn it is. -/
theorem turn11 (D : Duo h0 h b7 rb v0 v1 o0 o1 B bp0 bt0 br0 lb0 rows0 bp1 bt1 br1 lb1 rows1) (hB : B < 1000) {a : AT} (ha : AE a) {x0 : Value} {acts : List AT} (hs : Scr h0 h0.next x0 acts) {i : Nat} (hi : i < 500) (hia : acts[i]? = some a) {k : Nat} (hk : k < 2) (ho : o0 = 2 * k) (hv : [v0, v1][k]? = some (.pointer (some ⟨bp0, 0, none⟩))) (x1 x25 x26 x35 x36 x37 x38 x39 : Value) :
    ∃ h' br' lb' rows', F4.j11 Try.prog CLM x0 x1 (.pointer (some ⟨b7, 0, none⟩)) (.pointer (some ⟨rb, 0, none⟩)) (.int .i64 (i : Nat)) (.int .i64 (k : Nat)) x25 x26 x35 x36 x37 x38 x39 h =
      F4.l6 Try.prog CLM x0 x1 (.pointer (some ⟨b7, 0, none⟩)) (.pointer (some ⟨rb, 0, none⟩)) (.int .i64 ((i + 1 : Nat) : Int)) h' ∧ Duo h0 h' b7 rb v0 v1 o0 o1 (B + 1) bp0 bt0 br' lb' rows' bp1 bt1 br1 lb1 rows1 := by
  obtain ⟨h', br', lb', rows', e, D'⟩ := D.step hB ha
  refine ⟨h', br', lb', rows', ?_, D'⟩
  obtain ⟨ob, c, rfl, hrows⟩ := hs
  obtain ⟨b, o, sp, rfl, hblo, hrow⟩ := hrows i a hia
  have hrow' := D.g.row hrow
  have hil := (List.getElem?_eq_some_iff.1 hia).1
  obtain ⟨l', s', _⟩ := D'.s0
  have e12 := len12 s'.p
  obtain ⟨cc, el, slr, hg, hc0, hc1, lr⟩ := s'.r.cells
  have hr : ∀ hh, xbuiltin Try.prog .len [44] [slr] hh = .ok (.int .i64 (rows'.length : Nat)) hh := fun hh => by
    obtain ⟨x, c, hx⟩ := lr.len
    rw [hx, ln44, List.length_map]
  have hs : (lenV slr).isSome = true := by obtain ⟨x, c, hx⟩ := lr.len; rw [hx]; rfl
  have hw : IntKind.i64.wrap ((i : Int) + 1) = ((i + 1 : Nat) : Int) := by rw [wrap64 (by omega)]; omega
  have c1 : ∀ {hh : H}, hh.get b7 = some (.cells [v0, v1] 43 0 false) → hh.cell ⟨b7, 0 + k * 1, none⟩ = some (.pointer (some ⟨bp0, 0, none⟩)) := fun q => by rw [H.cell_eq q, Nat.zero_add, Nat.mul_one]; exact hv
  have ho2 : 0 + k * 2 = o0 := by omega
  rw [F4.j11_eq, ia43 _ _ _ _ _ hk, Res.ok1_ok, ld27, c1 D.ps, ofO_some, Res.ok1_ok, ia47 _ _ _ _ _ hk, Res.ok1_ok, ho2, ia26 _ _ _ _ _ _ _ _ hil, Res.ok1_ok, ld35, hrow', ofA_some, Res.ok1_ok, e, go_ok, xun_not, Res.ok1_ok, show (Value.bool !true) = .bool false from rfl, ifV_f,
    ia43 _ _ _ _ _ hk, Res.ok1_ok, ld27, c1 D'.ps, ofO_some, Res.ok1_ok, ia47 _ _ _ _ _ hk, Res.ok1_ok, ho2, fa46_0, Res.ok1_ok, ld44, H.cell_eq hg, hc0, ofO_some, Res.ok1_ok, hs, cond_true, hr, Res.ok1_ok, e12, go_ok, ld44, H.cell_eq hg, hc0, ofO_some, rc_lst lr, Bool.and_true, cond_true, plain2_int, cond_true, xneq, Res.ok1_ok, ifV_not, if_pos rfl, xadd, go_ok, hw]
end

/-- The end: all of both, and what is closed. -/
theorem end4 {h0 h : H} {b7 rb : Nat} {B : Nat} {bp0 bt0 : Nat} {br0 lb0 : Option Nat} {rows0 : List Rw} {bp1 bt1 : Nat} {br1 lb1 : Option Nat} {rows1 : List Rw} (D : Duo h0 h b7 rb (.pointer (some ⟨bp0, 0, none⟩)) (.pointer (some ⟨bp1, 0, none⟩)) 0 2 B bp0 bt0 br0 lb0 rows0 bp1 bt1 br1 lb1 rows1) :
    ∃ h', F4.j13 Try.prog CLM (.pointer (some ⟨b7, 0, none⟩)) (.pointer (some ⟨rb, 0, none⟩)) h = .ok (.bool true) h' ∧ Grow h0 h' := by
  obtain ⟨l0, s0, _⟩ := D.s0
  obtain ⟨h1, g1, e1⟩ := all13 s0.r s0.full s0.p
  obtain ⟨l1, s1, _⟩ := (D.grow g1).s1
  obtain ⟨h2, g2, e2⟩ := all13 s1.r s1.full s1.p
  obtain ⟨h3, g3, e3⟩ := started h2
  refine ⟨h3, ?_, ((D.g.trans g1).trans g2).trans g3⟩
  have c0 : h.cell ⟨b7, 0 + 0 * 1, none⟩ = some (.pointer (some ⟨bp0, 0, none⟩)) := by rw [H.cell_eq D.ps]; rfl
  have c1 : h1.cell ⟨b7, 0 + 1 * 1, none⟩ = some (.pointer (some ⟨bp1, 0, none⟩)) := by rw [H.cell_eq (g1.old _ _ D.ps)]; rfl
  have i0 : (Value.int .i64 0) = .int .i64 ((0 : Nat) : Int) := rfl
  have i1 : (Value.int .i64 1) = .int .i64 ((1 : Nat) : Int) := rfl
  rw [F4.j13_eq, i0, ia43 _ _ _ _ _ (by omega), go_ok, ld27, c0, ofO_some, go_ok, ia47 _ _ _ _ _ (by omega), go_ok]
  rw [show 0 + 0 * 2 = 0 from rfl, e1, go_ok, ifV_t, i1, ia43 _ _ _ _ _ (by omega), go_ok, ld27, c1, ofO_some, go_ok, ia47 _ _ _ _ _ (by omega), go_ok]
  rw [show 0 + 1 * 2 = 2 from rfl, e2, go_ok, ifV_t, e3, go_ok]

theorem loop4 {h0 : H} {b7 rb : Nat} {x0 x1 : Value} {acts : List AT} {ts : List Int} (hs : Scr h0 h0.next x0 acts) (ht : Trn h0 h0.next x1 ts) (hok : ∀ a ∈ acts, AE a) {bp0 bt0 bp1 bt1 : Nat} :
    ∀ (d i : Nat) {h : H} {br0 lb0 : Option Nat} {rows0 : List Rw} {br1 lb1 : Option Nat} {rows1 : List Rw}, 500 - i = d → i ≤ 500 → Duo h0 h b7 rb (.pointer (some ⟨bp0, 0, none⟩)) (.pointer (some ⟨bp1, 0, none⟩)) 0 2 i bp0 bt0 br0 lb0 rows0 bp1 bt1 br1 lb1 rows1 →
      ∃ h', F4.l6 Try.prog CLM x0 x1 (.pointer (some ⟨b7, 0, none⟩)) (.pointer (some ⟨rb, 0, none⟩)) (.int .i64 (i : Nat)) h = .ok (.bool true) h' ∧ Grow h0 h' := by
  intro d
  induction d with
  | zero =>
    intro i h br0 lb0 rows0 br1 lb1 rows1 hd hi D
    obtain ⟨h', e, g⟩ := end4 D
    refine ⟨h', ?_, g⟩
    obtain ⟨ob, c, rfl, _⟩ := hs
    rw [F4.l6_eq, ln26, go_ok, xlss, go_ok, ifV_dec]
    split
    · rw [xlss, go_ok, ifV_dec, if_neg (by omega)]; exact e
    · exact e
  | succ d ih =>
    intro i h br0 lb0 rows0 br1 lb1 rows1 hd hi D
    by_cases hia : i < acts.length
    · obtain ⟨a, ha⟩ : ∃ a, acts[i]? = some a := ⟨_, List.getElem?_eq_getElem hia⟩
      have hae := hok a (List.mem_of_getElem? ha)
      have key0 : ∀ x25 x26 x35 x36 x37 x38 x39, ∃ h', F4.j11 Try.prog CLM x0 x1 (.pointer (some ⟨b7, 0, none⟩)) (.pointer (some ⟨rb, 0, none⟩)) (.int .i64 (i : Nat)) (.int .i64 0) x25 x26 x35 x36 x37 x38 x39 h = .ok (.bool true) h' ∧ Grow h0 h' := by
        intro x25 x26 x35 x36 x37 x38 x39
        obtain ⟨h1, br', lb', rows', e1, D1⟩ := turn11 D (by omega) hae hs (by omega) ha (k := 0) (by omega) rfl rfl x1 x25 x26 x35 x36 x37 x38 x39
        obtain ⟨h2, e2, g2⟩ := ih (i + 1) (by omega) (by omega) D1
        exact ⟨h2, e1.trans e2, g2⟩
      have key1 : ∀ x25 x26 x35 x36 x37 x38 x39, ∃ h', F4.j11 Try.prog CLM x0 x1 (.pointer (some ⟨b7, 0, none⟩)) (.pointer (some ⟨rb, 0, none⟩)) (.int .i64 (i : Nat)) (.int .i64 1) x25 x26 x35 x36 x37 x38 x39 h = .ok (.bool true) h' ∧ Grow h0 h' := by
        intro x25 x26 x35 x36 x37 x38 x39
        obtain ⟨h1, br', lb', rows', e1, D1⟩ := turn11 D.swap (by omega) hae hs (by omega) ha (k := 1) (by omega) rfl rfl x1 x25 x26 x35 x36 x37 x38 x39
        obtain ⟨h2, e2, g2⟩ := ih (i + 1) (by omega) (by omega) D1.swap
        exact ⟨h2, e1.trans e2, g2⟩
      obtain ⟨ob, c, rfl, hscr⟩ := hs
      obtain ⟨ob1, c1, rfl, htr⟩ := ht
      rw [F4.l6_eq, ln26, go_ok, xlss, go_ok, ifV_dec, if_pos (by omega), xlss, go_ok, ifV_dec, if_pos (by omega), F4.j8_eq, ln33, go_ok, xlss, go_ok, ifV_dec]
      by_cases hit : i < ts.length
      · obtain ⟨n, hn⟩ : ∃ n, ts[i]? = some n := ⟨_, List.getElem?_eq_getElem hit⟩
        obtain ⟨b, o, sp, rfl, _, hrow⟩ := htr i n hn
        rw [if_pos (by omega), ia33 _ _ _ _ _ _ _ _ hit, go_ok, ld3, row_cell (D.g.row hrow), ofO_some, go_ok, xeql, go_ok, ifV_dec]
        split
        · exact key1 _ _ _ _ _ _ _
        · exact key0 _ _ _ _ _ _ _
      · rw [if_neg (by omega)]
        exact key0 _ _ _ _ _ _ _
    · obtain ⟨h', e, g⟩ := end4 D
      refine ⟨h', ?_, g⟩
      obtain ⟨ob, c, rfl, _⟩ := hs
      rw [F4.l6_eq, ln26, go_ok, xlss, go_ok, ifV_dec, if_neg (by omega)]
      exact e

theorem bd43 (a b : Addr) (h : H) : xbuild Try.prog 43 [(0, .pointer (some a)), (1, .pointer (some b))] h = .ok (.agg ⟨[.pointer (some a), .pointer (some b)]⟩) h := by kernel_rfl
theorem zc47v : zc47 = [.slice none 0 0, .int .i64 0, .slice none 0 0, .int .i64 0] := by kernel_rfl

/-- PinsPlays: true; what was there is as it was. -/
theorem plays {h : H} {x0 x1 : Value} {acts : List AT} {ts : List Int} (hs : Scr h h.next x0 acts) (ht : Trn h h.next x1 ts) (hok : ∀ a ∈ acts, AE a) :
    ∃ h', CLM (.f 4) [x0, x1] h = .ok (.bool true) h' ∧ Grow h h' := by
  obtain ⟨h1, g1, e1, p1, n1⟩ := new5 h
  obtain ⟨h2, g2, e2, p2, n2⟩ := new5 h1
  let h3 := h2.alloc (.cells zc43 43 0 false)
  have q3 : h3.get h2.next = some (.cells zc43 43 0 false) := H.alloc_self _ _
  obtain ⟨h4, hh4⟩ : ∃ h4, h4 = h3.put h2.next (.cells [.pointer (some ⟨h.next + 1, 0, none⟩), .pointer (some ⟨h1.next + 1, 0, none⟩)] 43 0 false) := ⟨_, rfl⟩
  have w4 : h3.write ⟨h2.next, 0, none⟩ [.pointer (some ⟨h.next + 1, 0, none⟩), .pointer (some ⟨h1.next + 1, 0, none⟩)] = some h4 := by rw [hh4]; exact H.write_all q3 (by rw [zc43_len]; rfl) rfl
  have q4 : h4.get h2.next = some (.cells [.pointer (some ⟨h.next + 1, 0, none⟩), .pointer (some ⟨h1.next + 1, 0, none⟩)] 43 0 false) := by rw [hh4]; exact H.put_self q3
  have g4 : Grow h2 h4 := by rw [hh4]; exact ((Grow.refl h2).alloc _).put (Nat.le_refl _) (H.get_lt q3) _
  have n4 : h4.next = h2.next + 1 := by rw [hh4]; rfl
  obtain ⟨h5, hh5⟩ : ∃ h5, h5 = h4.alloc (.cells zc47 47 0 false) := ⟨_, rfl⟩
  have g5 : Grow h4 h5 := by rw [hh5]; exact (Grow.refl h4).alloc _
  have q5 : h5.get h4.next = some (.cells zc47 47 0 false) := by rw [hh5]; exact H.alloc_self _ _
  have G25 := g4.trans g5
  have P1 := (p1.grow g2).grow G25
  have P2 := p2.grow G25
  have nilS : ∀ o, (o = 0 ∨ o = 2) → Ref h5 h4.next o ((0 : Nat) : Int) none [] := fun o ho => ⟨⟨_, _, .slice none 0 0, q5, by rw [zc47v]; rcases ho with q | q <;> subst q <;> rfl, by rw [zc47v]; rcases ho with q | q <;> subst q <;> rfl, Lst.nil⟩, by simp, fun r hr => by simp at hr, fun r hr => by simp at hr, trivial, by simp⟩
  have f0 : ∀ x, Fo (h.next + 1) h.next none none x → x = h.next + 1 ∨ x = h.next := fun x hx => by rcases hx with (q | q | q) | q; exact .inl q; exact .inr q; cases q; cases q
  have f1 : ∀ x, Fo (h1.next + 1) h1.next none none x → x = h1.next + 1 ∨ x = h1.next := fun x hx => by rcases hx with (q | q | q) | q; exact .inl q; exact .inr q; cases q; cases q
  have D : Duo h h5 h2.next h4.next (.pointer (some ⟨h.next + 1, 0, none⟩)) (.pointer (some ⟨h1.next + 1, 0, none⟩)) 0 2 0 (h.next + 1) h.next none none [] (h1.next + 1) h1.next none none [] :=
    ⟨(g1.trans g2).trans G25, ⟨0, ⟨P1, nilS 0 (.inl rfl), fun q hq => by simp at hq, fun x hx => ⟨by have := f0 x (.inl hx); omega, by simp⟩⟩, by omega⟩, ⟨0, ⟨P2, nilS 2 (.inr rfl), fun q hq => by simp at hq, fun x hx => ⟨by have := f1 x (.inl hx); omega, by simp⟩⟩, by omega⟩,
      g5.old _ _ q4, by omega, fun x hx hx' => by have := f0 x hx; have := f1 x hx'; omega, fun x hx => by have := f0 x hx; omega, fun x hx => by have := f1 x hx; omega, by omega⟩
  obtain ⟨h6, e6, g6⟩ := loop4 hs ht hok 500 0 rfl (by omega) D
  refine ⟨h6, ?_, g6⟩
  have c0 : h5.cell ⟨h2.next, 0 + 0 * 1, none⟩ = some (.pointer (some ⟨h.next + 1, 0, none⟩)) := by rw [H.cell_eq (g5.old _ _ q4)]; rfl
  have c1 : h5.cell ⟨h2.next, 0 + 1 * 1, none⟩ = some (.pointer (some ⟨h1.next + 1, 0, none⟩)) := by rw [H.cell_eq (g5.old _ _ q4)]; rfl
  have i0 : (Value.int .i64 0) = .int .i64 ((0 : Nat) : Int) := rfl
  have i1 : (Value.int .i64 1) = .int .i64 ((1 : Nat) : Int) := rfl
  have hst : (Value.agg ⟨[.pointer (some ⟨h.next + 1, 0, none⟩), .pointer (some ⟨h1.next + 1, 0, none⟩)]⟩).cells.size = 2 := rfl
  rw [cM4, F4.eq, e1, go_ok, e2, go_ok, bd43, go_ok, al43, go_ok, st43 _ _ _ hst, cells_agg]
  rw [show h2.alloc (.cells zc43 43 0 false) = h3 from rfl, w4, ofU_some, go_ok, al47, go_ok, ← hh5, i0, ia43 _ _ _ _ _ (by omega), go_ok, ld27, c0, ofO_some, go_ok, nonnil27, go_ok, ifV_f, i1, ia43 _ _ _ _ _ (by omega), go_ok, ld27, c1, ofO_some, go_ok, nonnil27, go_ok, ifV_f, F4.j5_eq]
  exact e6

end Go.Proofs.Ytomboannkblccaa.K

namespace Go.Proofs.Ytomboannkblccaa.K
open Go Go.Kx Go.ChangeShapes Go.WideShapes Go.ChangeAt Go.RowKit
set_option maxRecDepth 100000
set_option linter.unusedVariables false

/-! ## What a reading tells of the cells -/

theorem mapM_told' {α β : Type} {f : α → Option β} {g : α → β} : ∀ (l : List α), (∀ x ∈ l, f x = some (g x)) → l.mapM f = some (l.map g)
  | [], _ => by simp
  | x :: l, h => by
    rw [List.mapM_cons, h x (by simp), mapM_told' l (fun y hy => h y (by simp [hy]))]
    rfl

theorem eqLits_ints' : ∀ (l : List Lit), (∀ x ∈ l, ∃ k n, x = .int k n) → eqLits l l = some true
  | [], _ => rfl
  | x :: l, h => by
    obtain ⟨k, n, rfl⟩ := h x (by simp)
    have := eqLits_ints' l (fun y hy => h y (by simp [hy]))
    simp only [eqLits, decide_true, Bool.and_self, cond_true]
    exact this
theorem wf_i64' {n : Int} (h : (Lit.int .i64 n).wf = true) : i64ok n := by
  simp only [Lit.wf, IntKind.min, IntKind.max, IntKind.bits, IntKind.signed] at h
  simp at h
  unfold i64ok
  omega

/-- Cells of a type of whole numbers. -/
structure PartF (b n t : Nat) (l : List Value) : Prop where
  len : l.length = n
  one : ones l = true
  flt : flatL l = true
  lit : ∀ d, b ≤ d → KL d t l
theorem PartF.ok {b n t : Nat} {l : List Value} (hb : b ≤ 11) (h : PartF b n t l) : PartOk n t l := ⟨h.len, h.one, h.flt, h.lit 11 hb⟩
theorem PartF.e {b n t : Nat} {l : List Value} (hb : b ≤ 12) (h : PartF b n t l) : PartE n t l := ⟨h.len, h.one, h.flt, h.lit 12 hb⟩

theorem flatL_app' : ∀ (l m : List Value), flatL l = true → flatL m = true → flatL (l ++ m) = true := by
  intro l m h1 h2
  induction l with
  | nil => exact h2
  | cons v l ih =>
    simp only [flatL, Bool.and_eq_true, List.cons_append] at *
    exact ⟨h1.1, ih h1.2⟩

section
variable {HH : Type} {enc : TypeId × Value → HH} {W : World} {base : Nat} {sp : Nat → Bool} {hd : Bool} {fuel : Nat} {cs : List Value} {x : DataW HH × List MemPlace}

theorem ones_all' {l : List Value} (h : ∀ v ∈ l, ∃ k n, v = .int k n) : ones l = true ∧ flatL l = true := by
  induction l with
  | nil => exact ⟨rfl, rfl⟩
  | cons v l ih =>
    obtain ⟨k, n, rfl⟩ := h v (by simp)
    obtain ⟨h1, h2⟩ := ih (fun y hy => h y (by simp [hy]))
    refine ⟨?_, ?_⟩
    · show (true && ones l) = true
      rw [h1]; rfl
    · simp only [flatL, flat, h2, Bool.and_self]

theorem read23' (h : DataW.trod enc Try.prog W base sp hd fuel 23 cs = some x) : PartF 2 32 23 cs := by
  obtain ⟨xs, m, _, _, hl, _, hx⟩ := DataW.trod_array Try.underlying23 h
  have c23 : Try.prog.cellsOf 23 = 32 := by kernel_rfl
  have c5 : Try.prog.cellsOf 5 = 1 := by kernel_rfl
  rw [c23] at hl
  rw [c5] at hx
  have hp : ∀ i, i < 32 → ∃ n, (cs.drop (i * 1)).take 1 = [.int .u8 n] ∧ (Lit.int .u8 n).wf = true := by
    intro i hi
    have := hx i hi
    obtain ⟨n, h1, _, h3⟩ := DataW.trod_int (k := .u8) (by kernel_rfl) (this.trans (List.getElem?_eq_getElem (by omega : i < xs.length)))
    exact ⟨n, h1, h3⟩
  have hall : ∀ v ∈ cs, ∃ k n, v = .int k n := by
    intro v hv
    obtain ⟨i, hi, rfl⟩ := List.getElem_of_mem hv
    obtain ⟨n, h1, _⟩ := hp i (by omega)
    rw [Nat.mul_one, List.drop_eq_getElem_cons hi] at h1
    simp only [List.take_succ_cons, List.take_zero, List.cons.injEq, and_true] at h1
    exact ⟨_, _, h1⟩
  obtain ⟨h1, h2⟩ := ones_all' hall
  refine ⟨hl, h1, h2, fun d hd => ?_⟩
  obtain ⟨d, rfl⟩ : ∃ e, d = e + 2 := ⟨d - 2, by omega⟩
  have hk : ∀ i ∈ List.range 32, Try.prog.keyLits (d + 1) 5 ((cs.drop (i * 1)).take 1) = some ((fun i => match (cs.drop (i * 1)).take 1 with | [.int k n] => [.int k n] | _ => []) i : List Lit) := by
    intro i hi
    obtain ⟨n, e1, e2⟩ := hp i (List.mem_range.1 hi)
    simp only [e1]
    unfold Program.keyLits
    rw [show Try.prog.underlying 5 = some (.int .u8) by kernel_rfl]
    simp [e2]
  refine ⟨((List.range 32).map (fun i => match (cs.drop (i * 1)).take 1 with | [.int k n] => [.int k n] | _ => [] : Nat → List Lit)).flatten, ?_, eqLits_ints' _ ?_⟩
  · unfold Program.keyLits
    rw [Try.underlying23]
    simp only [c23, c5, hl, if_true]
    rw [mapM_told' _ hk]
    rfl
  · intro y hy
    obtain ⟨l, hl1, hl2⟩ := List.mem_flatten.1 hy
    obtain ⟨i, hi, rfl⟩ := List.mem_map.1 hl1
    obtain ⟨n, e1, e2⟩ := hp i (List.mem_range.1 hi)
    simp only [e1, List.mem_singleton] at hl2
    exact ⟨_, _, hl2⟩

theorem read3' (h : DataW.trod enc Try.prog W base sp hd fuel 3 cs = some x) : ∃ n, i64ok n ∧ cs = [.int .i64 n] := by
  obtain ⟨n, h1, _, h3⟩ := DataW.trod_int Try.underlying3 h
  exact ⟨n, wf_i64' h3, h1⟩

theorem split3' {l : List Value} {a b c : List Value} {n m : Nat} (h0 : (l.drop 0).take n = a) (h1 : (l.drop n).take m = b) (h2 : (l.drop (n + m)).take (l.length - (n + m)) = c) (hl : n + m ≤ l.length) : l = a ++ (b ++ c) := by
  rw [← h0, ← h1, ← h2]
  rw [List.drop_zero, show (l.drop (n + m)).take (l.length - (n + m)) = l.drop (n + m) from List.take_of_length_le (by rw [List.length_drop]; omega), ← List.drop_drop, List.take_append_drop, List.take_append_drop]

theorem read25' (h : DataW.trod enc Try.prog W base sp hd fuel 25 cs = some x) : PartF 3 34 25 cs := by
  obtain ⟨y0, y1, y2, n, _, hl, h0, h1, h2⟩ := Go.Deep.trod_struct3 Try.underlying25 h
  have c23 : Try.prog.cellsOf 23 = 32 := by kernel_rfl
  have c25 : Try.prog.cellsOf 25 = 34 := by kernel_rfl
  have c3 : Try.prog.cellsOf 3 = 1 := by kernel_rfl
  rw [c25] at hl
  simp only [c23, c3] at h0 h1 h2
  obtain ⟨a, oa, ha⟩ := read3' h1
  obtain ⟨b, ob, hb⟩ := read3' h2
  have hk := read23' h0
  have e : cs = (cs.drop 0).take 32 ++ ([.int .i64 a] ++ [.int .i64 b]) := split3' rfl ha (by rw [hl]; exact hb) (by omega)
  obtain ⟨k, hkk⟩ : ∃ k, k = (cs.drop 0).take 32 := ⟨_, rfl⟩
  rw [← hkk] at hk e h0
  subst e
  have lk := hk.len
  refine ⟨by simp [lk], by rw [ones_append hk.one]; rfl, flatL_app' _ _ hk.flt rfl, fun d hd => ?_⟩
  obtain ⟨d, rfl⟩ : ∃ e, d = e + 1 := ⟨d - 1, by omega⟩
  have hK := hk.lit d (by omega)
  obtain ⟨l0, k0, k1⟩ := hK
  obtain ⟨d, rfl⟩ : ∃ e, d = e + 1 := ⟨d - 1, by omega⟩
  obtain ⟨la, a0, a1⟩ := KL_int oa d
  obtain ⟨lb, b0, b1⟩ := KL_int ob d
  refine ⟨l0 ++ (la ++ lb), ?_, eqLits_app k1 (eqLits_app a1 b1)⟩
  unfold Program.keyLits
  rw [Try.underlying25]
  have p0 : ((k ++ ([Value.int .i64 a] ++ [Value.int .i64 b])).drop 0).take 32 = k := List.take_left' lk
  simp only [c25, hl, true_and]
  rw [if_pos (by first | (simp; done) | kernel_rfl)]
  simp only [List.mapM_cons, List.mapM_nil, c3, c23, p0, ha, hb, k0, a0, b0]
  simp

theorem trod_struct6' {H : Type} {enc : TypeId × Value → H} {P : Program} {w : World} {base : Nat} {spare : Nat → Bool} {held : Bool} {t : TypeId} {f0 f1 f2 f3 f4 f5 : Field} {fuel : Nat} {cs : List Value} {x : DataW H × List MemPlace} (ht : P.underlying t = some (.struct #[f0, f1, f2, f3, f4, f5]))
    (h : DataW.trod enc P w base spare held fuel t cs = some x) :
    ∃ y0 y1 y2 y3 y4 y5 n, cs.length = P.cellsOf t ∧ DataW.trod enc P w base spare held n f0.type ((cs.drop f0.offset).take (P.cellsOf f0.type)) = some y0 ∧
      DataW.trod enc P w base spare held n f1.type ((cs.drop f1.offset).take (P.cellsOf f1.type)) = some y1 ∧ DataW.trod enc P w base spare held n f2.type ((cs.drop f2.offset).take (P.cellsOf f2.type)) = some y2 ∧
      DataW.trod enc P w base spare held n f3.type ((cs.drop f3.offset).take (P.cellsOf f3.type)) = some y3 ∧ DataW.trod enc P w base spare held n f4.type ((cs.drop f4.offset).take (P.cellsOf f4.type)) = some y4 ∧
      DataW.trod enc P w base spare held n f5.type ((cs.drop f5.offset).take (P.cellsOf f5.type)) = some y5 := by
  obtain ⟨xs, n, _, _, hl, hlen, hf⟩ := DataW.trod_struct ht h
  match xs, hlen with
  | [y0, y1, y2, y3, y4, y5], _ => exact ⟨y0, y1, y2, y3, y4, y5, n, hl, by simpa using hf 0 f0 rfl, by simpa using hf 1 f1 rfl, by simpa using hf 2 f2 rfl, by simpa using hf 3 f3 rfl, by simpa using hf 4 f4 rfl, by simpa using hf 5 f5 rfl⟩

theorem read35' (h : DataW.trod enc Try.prog W base sp hd fuel 35 cs = some x) : ∃ a : AT, AE a ∧ cs = actC a := by
  obtain ⟨y0, y1, y2, y3, y4, y5, n, hl, h0, h1, h2, h3, h4, h5⟩ := trod_struct6' Try.underlying35 h
  have c23 : Try.prog.cellsOf 23 = 32 := by kernel_rfl
  have c25 : Try.prog.cellsOf 25 = 34 := by kernel_rfl
  have c3 : Try.prog.cellsOf 3 = 1 := by kernel_rfl
  have c35 : Try.prog.cellsOf 35 = 103 := by kernel_rfl
  rw [c35] at hl
  simp only [c23, c25, c3] at h0 h1 h2 h3 h4 h5
  obtain ⟨a, oa, ha⟩ := read3' h0
  obtain ⟨b, ob, hb⟩ := read3' h1
  obtain ⟨c, oc, hc⟩ := read3' h2
  have hk := read23' h3
  have hr := read25' h4
  have hm := read25' h5
  refine ⟨⟨a, b, c, (cs.drop 3).take 32, (cs.drop 35).take 34, (cs.drop 69).take 34⟩, ⟨⟨oa, ob, oc, hk.ok (by omega), hr.ok (by omega), hm.ok (by omega)⟩, hk.e (by omega), hr.e (by omega), hm.e (by omega)⟩, ?_⟩
  have e1 : cs.take 1 = [.int .i64 a] := ha
  have s1 : cs = cs.take 1 ++ ((cs.drop 1).take 1 ++ ((cs.drop 2).take 1 ++ ((cs.drop 3).take 32 ++ ((cs.drop 35).take 34 ++ (cs.drop 69).take 34)))) := by
    have d1 : cs = cs.take 1 ++ cs.drop 1 := (List.take_append_drop 1 cs).symm
    have d2 : cs.drop 1 = (cs.drop 1).take 1 ++ cs.drop 2 := by have := (List.take_append_drop 1 (cs.drop 1)).symm; rwa [List.drop_drop] at this
    have d3 : cs.drop 2 = (cs.drop 2).take 1 ++ cs.drop 3 := by have := (List.take_append_drop 1 (cs.drop 2)).symm; rwa [List.drop_drop] at this
    have d4 : cs.drop 3 = (cs.drop 3).take 32 ++ cs.drop 35 := by have := (List.take_append_drop 32 (cs.drop 3)).symm; rwa [List.drop_drop] at this
    have d5 : cs.drop 35 = (cs.drop 35).take 34 ++ cs.drop 69 := by have := (List.take_append_drop 34 (cs.drop 35)).symm; rwa [List.drop_drop] at this
    have d6 : cs.drop 69 = (cs.drop 69).take 34 := (List.take_of_length_le (by rw [List.length_drop]; omega)).symm
    rw [← d6, ← d5, ← d4, ← d3, ← d2, ← d1]
  rw [e1, hb, hc] at s1
  exact s1
end

theorem AT.Ok.flat' {a : AT} (h : a.Ok) : flatL (actC a) = true := by
  show (true && (true && (true && flatL (a.k ++ (a.r ++ a.m))))) = true
  rw [flatL_app' _ _ h.k2.flt (flatL_app' _ _ h.r2.flt h.m2.flt)]; rfl

instance : Inhabited AT := ⟨⟨0, 0, 0, [], [], []⟩⟩

/-! ## The row -/

theorem laidOut' : laidOutB Try.prog = true := by kernel_rfl
theorem own' : ownKnob Try.prog.godebug = none := by kernel_rfl

theorem trodAll_two' {H : Type} {enc : TypeId × Value → H} {P : Program} {w : World} {base : Nat} {spare : Nat → Bool} {held : Bool} {t0 t1 : TypeId} {args : Array Value} {ds : List (DataW H)} {ps : List MemPlace} (h : DataW.TrodAll enc P w base spare held [t0, t1] args.toList ds ps) :
    ∃ v0 v1 d0 d1 p0 p1, args = #[v0, v1] ∧ ds = [d0, d1] ∧ DataW.Trod enc P w base spare held t0 v0 d0 p0 ∧ DataW.Trod enc P w base spare held t1 v1 d1 p1 := by
  obtain ⟨v0, vs, d0, ds', p0, q, hargs, rfl, rfl, hd, hrest⟩ := trodAll_cons h
  obtain ⟨v1, vs1, d1, ds1, p1, q1, rfl, rfl, rfl, hd1, hrest1⟩ := trodAll_cons hrest
  obtain ⟨rfl, rfl, rfl⟩ := trodAll_nil hrest1
  exact ⟨v0, v1, d0, d1, p0, p1, by cases args; simp_all, rfl, hd, hd1⟩

/-- What the call gives. -/
theorem contract4 (H : Type) (enc : TypeId × Value → H) (W : World) (base : Nat) (args : Array Value) (ds gs : List (DataW H)) (before : List MemPlace)
    (hval : ∀ (j : Nat) t v, Try.f4.params[j]? = some t → args[j]? = some v → Value.okWide Try.prog W .any base t v)
    (hW : DataW.Whole enc Try.prog Try.f4.params.toList Rows.pinsPlaysSpec.vars false W args.toList ds gs before) :
    Calls Try.prog 4 args W fun e W' => ∃ v, e = .returned v ∧ Rows.pinsPlaysSpec.post enc Try.prog Try.f4 false true false false W args v W' := by
  have hW' := hW
  obtain ⟨p, q, hA0, hV, rfl, hfz, hnd⟩ := hW
  have hA : DataW.TrodAll enc Try.prog W 0 (fun _ => true) true Try.f4.params.toList args.toList ds p := hA0
  rw [Try.params4] at hA hval
  obtain ⟨v0, v1, d0, d1, p0, p1, rfl, rfl, h0, h1⟩ := trodAll_two' hA
  obtain ⟨x0, acts, ob0, c0, rx0, hacts, hx0, hr0⟩ := read_rows (α := AT) (ok := AE) (C := actC) Try.underlying26 (by kernel_rfl : Try.prog.cellsOf 35 = 103) (by omega) (fun h => read35' h) (fun a ha => ha.ok.flat') (hval 0 26 v0 rfl rfl) h0
  obtain ⟨x1, ts, ob1, c1, rx1, hts, hx1, hr1⟩ := read_rows (α := Int) (ok := i64ok) (C := fun n => [.int .i64 n]) Try.underlying33 (by kernel_rfl : Try.prog.cellsOf 3 = 1) (by omega) (fun h => read3' h) (fun a ha => rfl) (hval 1 33 v1 rfl rfl) h1
  obtain ⟨h', hr, hg⟩ := plays (h := hOf W) (x0 := x0) (x1 := x1) (acts := acts) (ts := ts) ⟨ob0, c0, hx0, hr0⟩ ⟨ob1, c1, hx1, hr1⟩ hacts
  refine bare_true laidOut' ?_ rfl Try.func4 (by kernel_rfl) (by kernel_rfl) (tb := 4) (by kernel_rfl) Try.underlying4 rfl hW' CLM_ok ?_ hr hg
  · rw [Try.params4]
    intro t ht
    simp only [List.mem_cons, List.not_mem_nil, or_false] at ht
    rcases ht with rfl | rfl <;> exact ⟨by kernel_rfl, of_decide_eq_true (by kernel_rfl)⟩
  · exact .cons rx0 (.cons rx1 .nil)

theorem lifted4 (os : Os) (started : os.Started) (H : Type) (enc : TypeId × Value → H) :
    ReturnsInHanded {} Try.checked os 4 .any (Rows.pinsPlaysSpec.pre6 enc Try.prog Try.f4 Rows.pinsPlaysRow.domain false) (Rows.pinsPlaysSpec.post enc Try.prog Try.f4 false true false false) := by
  refine returnsInHanded_of_change (C := Try.checked) own' started (by kernel_rfl) Try.func4
    (ChangeSpec.witness6 (enc := enc) (C := Try.checked) false ⟨#[], #[.slice none 0 0, .slice none 0 0], []⟩ 8 (by kernel_rfl) (by kernel_rfl) (by kernel_rfl) (by kernel_rfl)) ?_
  intro W base args ds gs before hval hW _ _
  exact contract4 H enc W base args ds gs before hval hW

end Go.Proofs.Ytomboannkblccaa.K

namespace Go.Proofs.Ytomboannkblccaa
open Go
set_option maxRecDepth 100000
/-- THE ROW. -/
theorem pinsPlays_holds : Rows.PinsPlaysSaid :=
  OpenClaim.holds_of_wide 4 Try.f4 rfl rfl rfl rfl rfl rfl rfl ⟨rfl, rfl, rfl, rfl, rfl⟩ rfl rfl rfl rfl rfl (by kernel_rfl) Try.func4 (by kernel_rfl)
    (of_decide_eq_true (by kernel_rfl)) (by unfold Func.isWrapper; first | (rw [if_pos (by decide +kernel)]; kernel_rfl) | (rw [if_neg (by decide +kernel)]; exact ⟨rfl, rfl⟩))
    (fun os started H enc _ => K.lifted4 os started H enc)
end Go.Proofs.Ytomboannkblccaa
#print axioms Go.Proofs.Ytomboannkblccaa.pinsPlays_holds
