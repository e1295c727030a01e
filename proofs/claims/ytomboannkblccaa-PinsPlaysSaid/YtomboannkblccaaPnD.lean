/- The pins' program: what a table holds by a key; a key is put; a key is taken out. -/
import Derived.Test.YtomboannkblccaaPnC
namespace Go.Proofs.Ytomboannkblccaa.K
open Go Go.Kx
set_option linter.unusedVariables false
set_option linter.unusedSimpArgs false
set_option maxRecDepth 20000

theorem res18 : Try.f18.results.toList = [.cell 4 38, .tmp 5] := by kernel_rfl
theorem kfn18 {t u v : Value} {h h2 : H} (hx : xload Try.prog 38 t h = .ok u h2) : kfn Try.prog Try.f18.results.toList .normal [(4, t), (5, v)] h = .ok (.tuple ⟨[u, v]⟩) h := by
  rw [res18]
  show (match (match xload Try.prog 38 t h with | .ok u _ => some [u, v] | _ => none) with | some l => Res.ok (oneV l) h | none => .bad) = _
  rw [hx]
  rfl

/-- What is held by a key. -/
noncomputable def valOf (rows : List Rw) (k : Int) : List Value := if hasK rows k then ((rows[lb rows k]?).map (·.2)).getD [] else zc38

theorem get18 {h : H} {bt : Nat} {br : Option Nat} {rows : List Rw} (t : Tbl h bt br rows) (k : Int) :
    ∃ h', Grow h h' ∧ CLM (.f 18) [.pointer (some ⟨bt, 0, none⟩), .int .i64 k] h = .ok (.tuple ⟨[.agg ⟨valOf rows k⟩, .bool (decide (hasK rows k))]⟩) h' := by
  have g1 : Grow h (h.alloc (.cells zc38 38 0 false)) := (Grow.refl h).alloc _
  obtain ⟨h2, g2, e2⟩ := place (t.grow g1) k
  have hA : h2.get h.next = some (.cells zc38 38 0 false) := g2.old _ _ (H.alloc_self _ _)
  have hAlt : h.next < h2.next := H.get_lt hA
  have g12 := g1.trans g2
  rw [cM18, F18.eq]
  simp only [al38, go_ok, e2, xextract_0, xextract_1, xun_not, ifV_not]
  by_cases hk : hasK rows k
  · rw [if_pos hk, F18.j5_eq]
    obtain ⟨sl, q1, q2⟩ := (t.grow g12).sl
    rcases q2 with ⟨rfl, rfl, rfl⟩ | ⟨b, spare, cap, rfl, rfl, hg, hl, ho⟩
    · exact absurd hk.1 (by simp)
    · obtain ⟨r, hr⟩ : ∃ r, rows[lb rows k]? = some r := ⟨_, List.getElem?_eq_getElem hk.1⟩
      have hgood := t.good _ (List.mem_of_getElem? hr)
      have hlen := rowsC_len t.good
      have hrow : h2.row ⟨b, 0 + lb rows k * 103 + 1, none⟩ 102 = some r.2 := by
        rw [H.row_eq hg (by rw [List.length_append]; have := hk.1; omega), Nat.zero_add]
        have := row_at t.good hr spare
        rw [← List.drop_drop, show (102 : Nat) = 103 - 1 by rfl, ← List.drop_take, this]
        rfl
      have hv : valOf rows k = r.2 := by unfold valOf; rw [if_pos hk, hr]; rfl
      have hst : (Value.agg ⟨r.2⟩).cells.size = 102 := by rw [asz]; exact hgood.1
      simp only [xnil_ptr, go_ok, fa77_0, ld75, H.cell_eq q1, List.getElem?_cons_zero, ofO_some, ia75 _ _ _ _ _ _ _ _ hk.1, fa81_1, ld38, hrow, ofA_some, st38 _ _ _ hst, cells_agg, H.write_all hA (by rw [zc38_len]; exact hgood.1) hgood.2, ofU_some]
      rw [kfn18 (u := .agg ⟨r.2⟩) (h2 := h2.put h.next (.cells r.2 38 0 false)) (by
        rw [ld38, H.row_all (H.put_self hA) hgood.1]; rfl)]
      exact ex_ok (g12.put (Nat.le_refl _) hAlt _) (by simp [hv, hk])
  · rw [if_neg hk]
    have hB : (h2.alloc (.cells zc38 38 0 false)).get h2.next = some (.cells zc38 38 0 false) := H.alloc_self _ _
    have hA' : (h2.alloc (.cells zc38 38 0 false)).get h.next = some (.cells zc38 38 0 false) := H.alloc_old hA
    have hst : (Value.agg ⟨zc38⟩).cells.size = 102 := by rw [asz]; exact zc38_len
    simp only [al38, go_ok, ld38, H.row_all hB zc38_len, ofA_some, st38 _ _ _ hst, cells_agg, H.write_all hA' rfl zc38_ones, ofU_some]
    rw [kfn18 (u := .agg ⟨zc38⟩) (h2 := (h2.alloc (.cells zc38 38 0 false)).put h.next (.cells zc38 38 0 false)) (by
      rw [ld38, H.row_all (H.put_self hA') zc38_len]; rfl)]
    exact ex_ok ((g12.alloc _).put (Nat.le_refl _) (by show h.next < h2.next + 1; omega) _) (by simp [valOf, hk])

end Go.Proofs.Ytomboannkblccaa.K
