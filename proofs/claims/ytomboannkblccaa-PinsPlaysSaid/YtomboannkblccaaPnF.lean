/- The pins' program: a row is taken out. -/
import Derived.Test.YtomboannkblccaaPnE
namespace Go.Proofs.Ytomboannkblccaa.K
open Go Go.Kx
set_option linter.unusedVariables false
set_option linter.unusedSimpArgs false
set_option maxRecDepth 20000

theorem zero81 : ∃ z, zeroOf Try.prog 81 = some z ∧ z.cells.toList = zc81 := by
  cases h : zeroOf Try.prog 81 with
  | none => exact absurd h (by intro q; have : (zeroOf Try.prog 81).isSome = true := by kernel_rfl
                               rw [q] at this; cases this)
  | some z => exact ⟨z, rfl, by unfold zc81; rw [h]⟩
theorem it75 : isIntT Try.prog 75 = some false := by kernel_rfl

/-- What the cells are behind it. -/
theorem del_cells {rows : List Rw} (g : Good rows) {i : Nat} (hi : i < rows.length) (sp : List Value) :
    let a := rowsC rows ++ sp
    let n := rowsC (rows.drop (i + 1))
    let b := a.take (i * 103) ++ (n ++ a.drop (i * 103 + n.length))
    n.length = (rows.length - (i + 1)) * 103 ∧ b.length = a.length ∧ b.take ((rows.length - 1) * 103) ++ (zc81 ++ b.drop ((rows.length - 1) * 103 + zc81.length)) = rowsC (rows.take i ++ rows.drop (i + 1)) ++ (zc81 ++ sp) := by
  have ha := rowsC_len g
  have hn : (rowsC (rows.drop (i + 1))).length = (rows.length - (i + 1)) * 103 := by rw [rowsC_len (g.drop _), List.length_drop]
  have ht : (rowsC (rows.take i)).length = i * 103 := by rw [rowsC_len (g.take _), List.length_take, Nat.min_eq_left (by omega)]
  have e1 : (rowsC rows ++ sp).take (i * 103) = rowsC (rows.take i) := rowsC_take g (by omega) sp
  have e2 : (rowsC rows ++ sp).drop (i * 103 + (rows.length - (i + 1)) * 103) = rowsC (rows.drop (rows.length - 1)) ++ sp := by
    rw [show i * 103 + (rows.length - (i + 1)) * 103 = (rows.length - 1) * 103 by omega]
    exact rowsC_drop g (by omega) sp
  have hlast : (rowsC (rows.drop (rows.length - 1))).length = 103 := by rw [rowsC_len (g.drop _), List.length_drop]; omega
  refine ⟨hn, ?_, ?_⟩
  · simp only [hn, e1, e2, List.length_append, ht, hlast, ha]
    omega
  · simp only [hn, e1, e2]
    have h1 : (rowsC (rows.take i) ++ (rowsC (rows.drop (i + 1)) ++ (rowsC (rows.drop (rows.length - 1)) ++ sp))) = rowsC (rows.take i ++ rows.drop (i + 1)) ++ (rowsC (rows.drop (rows.length - 1)) ++ sp) := by
      rw [rowsC_app, List.append_assoc]
    have h2 : (rowsC (rows.take i ++ rows.drop (i + 1))).length = (rows.length - 1) * 103 := by rw [rowsC_app, List.length_append, ht, hn]; omega
    have h3 : (rowsC (rows.take i ++ rows.drop (i + 1)) ++ (rowsC (rows.drop (rows.length - 1)) ++ sp)).drop ((rows.length - 1) * 103 + zc81.length) = sp := by
      rw [← List.append_assoc]
      exact List.drop_left' (by rw [List.length_append, h2, hlast, zc81_len])
    rw [h1, List.take_left' h2, h3]

theorem del29 {h : H} {sl : Value} {br : Option Nat} {rows : List Rw} (hs : SlOk h sl br rows) (hg : Good rows) (few : rows.length ≤ 1000000) {i : Nat} (hi : i < rows.length) :
    ∃ h' sl', Upd (fun b => some b = br) h h' ∧ CLM (.f 29) [sl, .int .i64 (i : Nat), .int .i64 ((i + 1 : Nat) : Int)] h = .ok sl' h' ∧ SlOk h' sl' br (rows.take i ++ rows.drop (i + 1)) ∧ (∃ o n c, sl' = .slice o n c) := by
  rcases hs with ⟨rfl, rfl, rfl⟩ | ⟨br, spare, cap, rfl, rfl, hb, hl, ho⟩
  · simp at hi
  · have hlen := rowsC_len hg
    have hcap : rows.length ≤ cap := by rw [List.length_append] at hl; omega
    have nat : ∀ (m d : Nat), asNat? (some (.int .i64 (m : Int))) d = some m := fun m d => rfl
    have non : ∀ (d : Nat), asNat? none d = some d := fun d => rfl
    obtain ⟨d1, d2, d3⟩ := del_cells hg hi spare
    rw [cM29, F29.eq]
    simp only [ln75, go_ok]
    rw [xslice_m un75 sz81 (nat i _) (nat (i + 1) _) (nat rows.length _) (by omega) (by omega) hcap]
    simp only [go_ok, xeql, ifV_dec]
    rw [if_neg (by omega), F29.j4_eq]
    simp only [ln75, go_ok]
    rw [xslice_o un75 sz81 hb rfl (non 0) (nat i _) (Nat.zero_le _) (by omega) (by omega)]
    simp only [Res.ok1_ok, Nat.zero_mul, Nat.add_zero, Nat.sub_zero]
    -- what follows the append
    have fin : ∀ (h2 : H) (c : List Value), h2.get br = some (.cells c 81 0 true) → c.length = (rowsC rows ++ spare).length → Upd (fun b => some b = some br) h h2 →
        c.take ((rows.length - 1) * 103) ++ (zc81 ++ c.drop ((rows.length - 1) * 103 + zc81.length)) = rowsC (rows.take i ++ rows.drop (i + 1)) ++ (zc81 ++ spare) →
        ∃ h' sl', Upd (fun b => some b = some br) h h' ∧ ((xbuiltin Try.prog .len [75] [.slice (some ⟨br, 0, none⟩) (rows.length - 1) cap] h2).go .pan fun t15 h16 => ((xslice Try.prog 75 (.slice (some ⟨br, 0, none⟩) (rows.length - 1) cap) (some t15) (some (.int .i64 (rows.length : Nat))) none h16).go .pan fun t17 h18 => ((xbuiltin Try.prog .clear [75] [t17] h18).go .pan fun t19 h20 => (.ok (.slice (some ⟨br, 0, none⟩) (rows.length - 1) cap) h20)))) = .ok sl' h' ∧
          SlOk h' sl' (some br) (rows.take i ++ rows.drop (i + 1)) ∧ (∃ o n c, sl' = .slice o n c) := by
      intro h2 c hc hcl u2 hfin
      obtain ⟨z, hz, hzc⟩ := zero81
      have hw : h2.write ⟨br, 0 + (rows.length - 1) * 103, none⟩ (repeatL z.cells.toList 1) = some (h2.put br (.cells (rowsC (rows.take i ++ rows.drop (i + 1)) ++ (zc81 ++ spare)) 81 0 true)) := by
        rw [hzc, show repeatL zc81 1 = zc81 by simp [repeatL], H.write_eq hc (by rw [hcl, zc81_len, List.length_append]; omega) zc81_ones, Nat.zero_add, hfin]
      simp only [ln75, go_ok]
      rw [xslice_o un75 sz81 hc rfl (nat (rows.length - 1) _) (nat rows.length _) (by omega) hcap (by omega)]
      simp only [go_ok, co81]
      rw [xclear_eq un75 hz (by omega) (by rw [show rows.length - (rows.length - 1) = 1 by omega]; exact hw)]
      simp only [go_ok]
      refine ⟨_, _, u2.put (.inl rfl) (H.get_lt hc) _, rfl, .inr ⟨br, zc81 ++ spare, cap, rfl, ?_, H.put_self hc, ?_, ones_append zc81_ones ho⟩, _, _, _, rfl⟩
      · simp only [List.length_append, List.length_take, List.length_drop]
        rw [show min i rows.length + (rows.length - (i + 1)) = rows.length - 1 by omega]
      · rw [← hfin]
        simp only [List.length_append, List.length_take, List.length_drop, zc81_len]
        rw [List.length_append] at hl hcl
        omega
    by_cases hlast : i + 1 = rows.length
    · -- the last one: nothing is moved
      have hx : ∃ x, xslice Try.prog 75 (.slice (some ⟨br, 0, none⟩) rows.length cap) (some (.int .i64 ((i + 1 : Nat) : Int))) none none h = .ok x h ∧ lenV x = some 0 ∧ firstC h (Try.prog.cellsOf 81) 0 x = some [] := by
        by_cases hc : rows.length = cap
        · refine ⟨_, xslice_e un75 sz81 hb rfl (by rw [← hc, ← hlast]; exact nat _ _) (by rw [← hc]; exact non _), rfl, ?_⟩
          show h.row ⟨br, 0, none⟩ (0 * _) = _
          rw [H.row_eq hb (by rw [Nat.zero_mul]; omega), Nat.zero_mul]; simp
        · refine ⟨_, xslice_o un75 sz81 hb rfl (nat _ _) (non _) (by omega) hcap (by omega), by show some (rows.length - (i + 1)) = _; rw [hlast, Nat.sub_self], ?_⟩
          show h.row ⟨br, 0 + (i + 1) * _, none⟩ (0 * _) = _
          rw [H.row_eq hb (by rw [Nat.zero_mul, co81, List.length_append]; omega), Nat.zero_mul]; simp
      obtain ⟨x, x1, x2, x3⟩ := hx
      rw [x1]
      simp only [Res.ok1_ok]
      rw [xapp_0 eo75 sz81 it75 x2 x3 (by omega)]
      simp only [go_ok]
      have hn0 : rows.drop (i + 1) = [] := List.drop_eq_nil_of_le (by omega)
      have := fin h _ hb rfl (Upd.refl _ _) (by
        rw [← d3]
        simp only [hn0, rowsC, List.nil_append, List.length_nil, Nat.add_zero, List.take_append_drop])
      rw [show i = rows.length - 1 by omega] at this ⊢
      exact this
    · have hrow : h.row ⟨br, 0 + (i + 1) * 103, none⟩ ((rows.length - (i + 1)) * 103) = some (rowsC (rows.drop (i + 1))) := by
        rw [H.row_eq hb (by rw [List.length_append]; omega), Nat.zero_add, rowsC_drop hg (by omega), List.take_left' d1]
      rw [xslice_o un75 sz81 hb rfl (nat _ _) (non _) (by omega) hcap (by omega)]
      simp only [Res.ok1_ok, co81]
      have hw : h.write ⟨br, 0 + i * 103, none⟩ (rowsC (rows.drop (i + 1))) = some (h.put br (.cells ((rowsC rows ++ spare).take (i * 103) ++ (rowsC (rows.drop (i + 1)) ++ (rowsC rows ++ spare).drop (i * 103 + (rowsC (rows.drop (i + 1))).length))) 81 0 true)) := by
        rw [H.write_eq hb (by rw [d1, List.length_append]; omega) (rowsC_ones (hg.drop _)), Nat.zero_add]
      rw [xapp_in eo75 sz81 it75 (k := rows.length - (i + 1)) rfl (by rw [co81]; exact hrow) (by omega) (by omega) (by rw [co81]; exact hw)]
      simp only [go_ok]
      have := fin _ _ (H.put_self hb) d2 ((Upd.refl (fun b => some b = some br) _).put (.inl rfl) (H.get_lt hb) _) d3
      rw [show i + (rows.length - (i + 1)) = rows.length - 1 by omega]
      exact this

/-- The rows without a key's. -/
def delR (rows : List Rw) (k : Int) : List Rw := if hasK rows k then rows.take (lb rows k) ++ rows.drop (lb rows k + 1) else rows
theorem Srt.append : ∀ {a b : List Rw}, Srt (a ++ b) → Srt a ∧ Srt b ∧ ∀ p ∈ a, ∀ q ∈ b, p.1 < q.1
  | [], b, h => ⟨trivial, h, fun p hp => by cases hp⟩
  | r :: a, b, h => by
    obtain ⟨h1, h2, h3⟩ := Srt.append h.2
    refine ⟨⟨fun q hq => h.1 q (List.mem_append.2 (.inl hq)), h1⟩, h2, fun p hp q hq => ?_⟩
    rcases List.mem_cons.1 hp with rfl | hp
    · exact h.1 q (List.mem_append.2 (.inr hq))
    · exact h3 p hp q hq
theorem Srt.of_append : ∀ {a b : List Rw}, Srt a → Srt b → (∀ p ∈ a, ∀ q ∈ b, p.1 < q.1) → Srt (a ++ b)
  | [], b, _, h, _ => h
  | r :: a, b, h, hb, hx => ⟨fun q hq => (List.mem_append.1 hq).elim (h.1 q) (hx r (by simp) q), Srt.of_append h.2 hb fun p hp => hx p (by simp [hp])⟩
theorem Srt.drop1 : ∀ {a : List Rw} (n : Nat), Srt a → Srt (a.drop n)
  | _, 0, h => by simpa using h
  | [], n + 1, h => by simpa using h
  | _ :: l, n + 1, h => by simpa using Srt.drop1 (a := l) n h.2
theorem del_srt {rows : List Rw} (s : Srt rows) (i : Nat) : Srt (rows.take i ++ rows.drop (i + 1)) := by
  rw [← List.take_append_drop i rows] at s
  obtain ⟨h1, h2, h3⟩ := s.append
  rw [show rows.drop (i + 1) = (rows.drop i).drop 1 by rw [List.drop_drop]]
  exact h1.of_append (h2.drop1 1) fun p hp q hq => h3 p hp q (List.mem_of_mem_drop hq)
theorem del_good {rows : List Rw} (g : Good rows) (i : Nat) : Good (rows.take i ++ rows.drop (i + 1)) := fun r hr => by
  rcases List.mem_append.1 hr with h | h
  · exact g r (List.mem_of_mem_take h)
  · exact g r (List.mem_of_mem_drop h)

/-- A key is taken out. -/
theorem delete17 {h : H} {bt : Nat} {br : Option Nat} {rows : List Rw} (t : Tbl h bt br rows) (k : Int) :
    ∃ h', Upd (fun b => b = bt ∨ some b = br) h h' ∧ CLM (.f 17) [.pointer (some ⟨bt, 0, none⟩), .int .i64 k] h = .ok (.bool (decide (hasK rows k))) h' ∧ Tbl h' bt br (delR rows k) := by
  obtain ⟨h1, g1, e1⟩ := place t k
  have t1 := t.grow g1
  rw [cM17, F17.eq]
  simp only [e1, go_ok, xextract_0, xextract_1, ifV_dec]
  by_cases hk : hasK rows k
  · rw [if_pos hk]
    obtain ⟨sl, q1, q2⟩ := t1.sl
    have hw : IntKind.i64.wrap ((lb rows k : Int) + 1) = ((lb rows k + 1 : Nat) : Int) := by
      have := t.few; have := hk.1
      rw [wrap64 (by omega)]; omega
    obtain ⟨h2, sl', u2, e2, s2, o', n', c', rfl⟩ := del29 q2 t.good t.few hk.1
    have hbt2 : h2.get bt = some (.cells [sl] 77 0 false) := u2.old _ _ t.ne q1
    have hst : (Value.slice o' n' c').cells.size = 1 := rfl
    simp only [xnil_ptr, go_ok, fa77_0, ld75, H.cell_eq q1, List.getElem?_cons_zero, ofO_some, xadd, hw, e2, st75 _ _ _ hst, cells_slice, H.write_all hbt2 (l := [.slice o' n' c']) rfl rfl, ofU_some]
    have u : Upd (fun b => b = bt ∨ some b = br) h h2 := (g1.upd _).trans (u2.mono fun x _ q => .inr q)
    have hd : delR rows k = rows.take (lb rows k) ++ rows.drop (lb rows k + 1) := by unfold delR; rw [if_pos hk]
    refine ⟨_, u.put (.inl (.inl rfl)) (H.get_lt hbt2) _, rfl, ⟨⟨_, H.put_self hbt2, ?_⟩, t.ne, ?_, ?_, ?_⟩⟩
    · rw [hd]
      refine s2.imp id ?_
      rintro ⟨b, sp, cap, e, a, c, d, f⟩
      exact ⟨b, sp, cap, e, a, H.put_ne hbt2 (fun q => t.ne (by rw [e, q])) c, d, f⟩
    · rw [hd]; exact del_good t.good _
    · rw [hd]; exact del_srt t.srt _
    · rw [hd]
      have := t.few
      simp only [List.length_append, List.length_take, List.length_drop]; omega
  · rw [if_neg hk]
    exact ⟨h1, g1.upd _, rfl, by unfold delR; rw [if_neg hk]; exact t1⟩

end Go.Proofs.Ytomboannkblccaa.K
