/- The pins' program: all rows are gone over. -/
import Derived.Test.YtomboannkblccaaPnG
namespace Go.Proofs.Ytomboannkblccaa.K
open Go Go.Kx
set_option linter.unusedVariables false
set_option linter.unusedSimpArgs false
set_option maxRecDepth 20000

theorem nil75 (n c : Nat) (h : H) : xbin Try.prog .eql 75 (.slice none n c) (.slice none 0 0) h = .ok (.bool true) h := by kernel_rfl
theorem nonnil75 (a : Addr) (n c : Nat) (h : H) : xbin Try.prog .eql 75 (.slice (some a) n c) (.slice none 0 0) h = .ok (.bool false) h := by kernel_rfl
theorem bs75_0 (h : H) : xbuildSlice Try.prog 75 0 [] h = .ok (.slice (some ⟨h.next, 0, none⟩) 0 0) (h.alloc (.cells [] 81 0 false)) := by kernel_rfl

/-- A list of rows that nobody else has. -/
def Src (h : H) (sl : Value) (rows : List Rw) (lo : Nat) : Prop :=
  ∃ ob n c, sl = .slice ob n c ∧ n = rows.length ∧ (rows ≠ [] → ∃ cb, ob = some ⟨cb, 0, none⟩ ∧ lo ≤ cb ∧ h.get cb = some (.cells (rowsC rows) 81 0 true))

theorem clone67 {h : H} {a : Addr} {c : Nat} {rows : List Rw} (g : Good rows) (few : rows.length ≤ 1000000) (hf : firstC h 103 rows.length (.slice (some a) rows.length c) = some (rowsC rows)) (ha : ∀ b, a.block = b → b < h.next) :
    ∃ h' sl', Grow h h' ∧ CLM (.f 67) [.slice (some a) rows.length c] h = .ok sl' h' ∧ Src h' sl' rows h.next := by
  let h1 := h.alloc (.cells [] 81 0 false)
  have g1 : Grow h h1 := (Grow.refl h).alloc _
  have hb : h1.get h.next = some (.cells [] 81 0 false) := H.alloc_self _ _
  have hf1 : firstC h1 103 rows.length (.slice (some a) rows.length c) = some (rowsC rows) := by
    unfold firstC at hf ⊢
    exact g1.row hf
  rw [cM67, F67.eq]
  simp only [nonnil75, go_ok, ifV_f, bs75_0]
  rw [show h.alloc (.cells [] 81 0 false) = h1 from rfl]
  by_cases h0 : rows.length = 0
  · have hr : rows = [] := List.length_eq_zero_iff.1 h0
    subst hr
    rw [xapp_0 eo75 sz81 it75 (new := []) rfl (by rw [co81]; exact hf1) (Nat.le_refl _)]
    exact ⟨h1, _, g1, rfl, _, _, _, rfl, rfl, fun q => absurd rfl q⟩
  · have e := xapp_new (P := Try.prog) (t := 75) (e := 81) (xt := 75) (base := some ⟨h.next, 0, none⟩) (n := 0) (cap := 0) (k := rows.length) (x := .slice (some a) rows.length c) (old := []) (new := rowsC rows) (h := h1) eo75 sz81 it75 rfl (by rw [co81]; exact hf1)
      (by show h1.row ⟨h.next, 0, none⟩ (0 * _) = _; rw [H.row_all hb (by simp)]) (by omega)
      (by have := Nat.mul_le_mul (show 0 + rows.length ≤ 1000000 by omega) by81; omega) (by omega) (by have := by81; omega) zf81 (rowsC_ones g) (by unfold appOk; simp only [hb])
    rw [e]
    simp only [go_ok, Nat.zero_add, List.nil_append]
    have hlv : h1.leave (some ⟨h.next, 0, none⟩) = h1 := by unfold H.leave; simp only [hb]
    rw [hlv]
    exact ⟨_, _, g1.alloc _, rfl, _, _, _, rfl, rfl, fun _ => ⟨h1.next, rfl, Nat.le_succ _, H.alloc_self _ _⟩⟩

/-- What a loop's rounds do, told by an invariant. -/
structure Rounds (S : Nat → Prop) (b : Nat) (J : List Rw → H → Prop) (rows : List Rw) : Prop where
  grow : ∀ pre h h', J pre h → Grow h h' → J pre h'
  step : ∀ pre r h, J pre h → pre ++ [r] <+: rows → ∃ h', CLM (.y b) [.int .i64 r.1, .agg ⟨r.2⟩] h = .ok (.bool true) h' ∧ Upd S h h' ∧ J (pre ++ [r]) h'

theorem rounds_loop {S : Nat → Prop} {b : Nat} {J : List Rw → H → Prop} {rows : List Rw} (R : Rounds S b J rows) (g : Good rows) (few : rows.length ≤ 1000000) {lo : Nat} (hS : ∀ x, S x → x < lo) {sl : Value} :
    ∀ (d i : Nat) (h : H), rows.length - i = d → i ≤ rows.length → Src h sl rows lo → J (rows.take i) h →
      ∃ h', F66.l1 Try.prog CLM (.func (.yield b) ⟨[]⟩ ⟨[]⟩) sl (.int .i64 (rows.length : Nat)) (.int .i64 (i : Nat)) h = .ok (.tuple ⟨[]⟩) h' ∧ Upd S h h' ∧ J rows h' := by
  intro d
  induction d with
  | zero =>
    intro i h hd hi hs hj
    rw [F66.l1_eq, xlss, go_ok, F66.j2_eq, ifV_dec, if_neg (by omega)]
    rw [List.take_of_length_le (by omega)] at hj
    exact ⟨h, rfl, Upd.refl _ _, hj⟩
  | succ d ih =>
    intro i h hd hi hs hj
    have hlt : i < rows.length := by omega
    obtain ⟨ob, n, c, rfl, rfl, hne⟩ := hs
    obtain ⟨cb, rfl, hlo, hcb⟩ := hne (fun q => by rw [q] at hlt; simp at hlt)
    obtain ⟨r, hr⟩ : ∃ r, rows[i]? = some r := ⟨_, List.getElem?_eq_getElem hlt⟩
    have hgr := g _ (List.mem_of_getElem? hr)
    have hlen := rowsC_len g
    have hrow : h.row ⟨cb, 0 + i * 103, none⟩ 103 = some (.int .i64 r.1 :: r.2) := by
      rw [H.row_eq hcb (by omega), Nat.zero_add]
      have := row_at g hr []
      rw [List.append_nil] at this
      rw [this]
    have hst : (Value.agg ⟨.int .i64 r.1 :: r.2⟩).cells.size = 103 := by rw [asz]; simp [hgr.1]
    have hone : ones (Value.int .i64 r.1 :: r.2) = true := by show (true && ones r.2) = true; rw [hgr.2]; rfl
    let h1 := h.alloc (.cells zc81 81 0 false)
    have hq : h1.get h.next = some (.cells zc81 81 0 false) := H.alloc_self _ _
    let h2 := h1.put h.next (.cells (.int .i64 r.1 :: r.2) 81 0 false)
    have hq2 : h2.get h.next = some (.cells (.int .i64 r.1 :: r.2) 81 0 false) := H.put_self hq
    have g2 : Grow h h2 := ((Grow.refl h).alloc _).put (Nat.le_refl _) (H.get_lt hq) _
    have w2 : h1.write ⟨h.next, 0, none⟩ (.int .i64 r.1 :: r.2) = some h2 := H.write_all hq (by rw [zc81_len]; simp [hgr.1]) hone
    have hrow2 : h2.row ⟨h.next, 0 + 1, none⟩ 102 = some r.2 := by
      rw [H.row_eq hq2 (by simp [hgr.1])]
      show some (r.2.take 102) = some r.2
      rw [take_all hgr.1]
    have hpre : rows.take i ++ [r] = rows.take (i + 1) := by rw [List.take_add_one, hr]; rfl
    obtain ⟨h3, e3, u3, j3⟩ := R.step (rows.take i) r h2 (R.grow _ _ _ hj g2) (by rw [hpre]; exact List.take_prefix _ _)
    rw [hpre] at j3
    have hw : IntKind.i64.wrap ((i : Int) + 1) = ((i + 1 : Nat) : Int) := by rw [wrap64 (by omega)]; omega
    have hcb3 : h3.get cb = some (.cells (rowsC rows) 81 0 true) := u3.old _ _ (fun q => by have := hS _ q; omega) (g2.old _ _ hcb)
    obtain ⟨h4, e4, u4, j4⟩ := ih (i + 1) h3 (by omega) (by omega) ⟨_, _, c, rfl, rfl, fun _ => ⟨cb, rfl, hlo, hcb3⟩⟩ j3
    refine ⟨h4, ?_, (g2.upd S).trans (u3.trans u4), j4⟩
    rw [F66.l1_eq, xlss, go_ok, F66.j2_eq, ifV_dec, if_pos (by omega), F66.j2_1_eq, ia75 _ _ _ _ _ _ _ _ hlt, go_ok, ld81, hrow, ofA_some, go_ok, al81, go_ok, st81 _ _ _ hst, cells_agg]
    rw [show h.alloc (.cells zc81 81 0 false) = h1 from rfl, w2, ofU_some, go_ok, fa81_0, go_ok, ld3, H.cell_eq hq2, List.getElem?_cons_zero, ofO_some, go_ok, fa81_1, go_ok, ld38, hrow2, ofA_some, go_ok, xcallV_yield, e3, go_ok, xun_not, go_ok]
    rw [show (Value.bool !true) = .bool false from rfl, ifV_f, xadd, go_ok, hw]
    exact e4

theorem nilslice75 (h : H) : xslice Try.prog 75 (.slice none 0 0) (some (.int .i64 0)) none none h = .ok (.slice none 0 0) h := by kernel_rfl
theorem zero48 (h : H) : CLM (.f 48) [] h = .ok (.int .i64 0) h := by rw [cM48, F48.eq]
theorem rc_ptr (b : Nat) (h : H) : rc (.ok (.pointer (some ⟨b, 0, none⟩)) h) (some (.pointer (some ⟨b, 0, none⟩))) = true := by simp [rc, veq]
theorem clone67_nil (h : H) : CLM (.f 67) [.slice none 0 0] h = .ok (.slice none 0 0) h := by
  rw [cM67, F67.eq, nil75, go_ok, ifV_t]

/-- The iterator. -/
theorem iter66 {S : Nat → Prop} {b : Nat} {J : List Rw → H → Prop} {rows : List Rw} {h : H} {bt p1 p3 : Nat} {br : Option Nat} (t : Tbl h bt br rows) (R : Rounds S b J rows) (h1 : h.get p1 = some (.cells [.pointer (some ⟨bt, 0, none⟩)] 53 0 false))
    (h3 : h.get p3 = some (.cells [.func (.func 48) #[] #[]] 50 0 false)) (hS : ∀ x, S x → x < h.next) (hj : J [] h) :
    ∃ h', CLM (.f 66) [.func (.yield b) ⟨[]⟩ ⟨[]⟩, .pointer (some ⟨p1, 0, none⟩), .pointer (some ⟨p3, 0, none⟩)] h = .ok (.tuple ⟨[]⟩) h' ∧ Upd S h h' ∧ J rows h' := by
  obtain ⟨sl, q1, q2⟩ := t.sl
  have f48 : xcallV CLM (.func (.func 48) #[] #[]) [] h = .ok (.int .i64 0) h := zero48 h
  have hrc : rc (.ok sl h) (some sl) = true := by
    rcases q2 with ⟨_, rfl, _⟩ | ⟨b, sp, cap, _, rfl, _⟩
    · exact rc_nil _ _ _
    · exact rc_slice _ _ _ _
  -- what is cut and copied
  have cut : ∃ x h2 sl2, xslice Try.prog 75 sl (some (.int .i64 0)) none none h = .ok x h ∧ CLM (.f 67) [x] h = .ok sl2 h2 ∧ Grow h h2 ∧ Src h2 sl2 rows h.next := by
    have nat0 : asNat? (some (.int .i64 0)) 0 = some 0 := rfl
    rcases q2 with ⟨_, rfl, rfl⟩ | ⟨b, sp, cap, _, rfl, hg, hl, ho⟩
    · exact ⟨_, _, _, nilslice75 h, clone67_nil h, Grow.refl h, _, _, _, rfl, rfl, fun q => absurd rfl q⟩
    · have hlen := rowsC_len t.good
      have hcap : rows.length ≤ cap := by rw [List.length_append] at hl; omega
      by_cases hc : cap = 0
      · subst hc
        have hr : rows = [] := List.length_eq_zero_iff.1 (by omega)
        subst hr
        have e := xslice_e (P := Try.prog) (t := 75) (o := 0) (n := 0) (cap := 0) (lo := some (.int .i64 0)) (hi := none) un75 sz81 hg rfl nat0 rfl
        obtain ⟨h2, sl2, g2, e2, s2⟩ := clone67 (h := h) (a := ⟨b, 0, some 1⟩) (c := 0) (rows := []) t.good (by simp) (by
          show h.row ⟨b, 0, none⟩ (0 * 103) = _
          rw [H.row_eq hg (by simp)]; simp [rowsC]) (fun x hx => by subst hx; exact H.get_lt hg)
        exact ⟨_, h2, sl2, e, e2, g2, s2⟩
      · have e := xslice_o (P := Try.prog) (t := 75) (o := 0) (n := rows.length) (cap := cap) (lo := some (.int .i64 0)) (hi := none) (l := 0) (u := rows.length) un75 sz81 hg rfl nat0 rfl (Nat.zero_le _) hcap (by omega)
        rw [Nat.zero_mul, Nat.add_zero, Nat.sub_zero, Nat.sub_zero] at e
        obtain ⟨h2, sl2, g2, e2, s2⟩ := clone67 (h := h) (a := ⟨b, 0, none⟩) (c := cap) t.good t.few (by
          show h.row ⟨b, 0, none⟩ (rows.length * 103) = _
          rw [H.row_eq hg (by rw [List.length_append]; omega), List.drop_zero]
          have := rowsC_take t.good (Nat.le_refl _) sp
          rw [List.take_length] at this
          rw [this]) (fun x hx => by subst hx; exact H.get_lt hg)
        exact ⟨_, h2, sl2, e, e2, g2, s2⟩
  obtain ⟨x, h2, sl2, ec, e2, g2, s2⟩ := cut
  obtain ⟨h4, e4, u4, j4⟩ := rounds_loop R t.good t.few (lo := h.next) hS rows.length 0 h2 (by omega) (Nat.zero_le _) s2 (R.grow _ _ _ hj g2)
  obtain ⟨ob, n, c, rfl, rfl, _⟩ := s2
  refine ⟨h4, ?_, (g2.upd S).trans u4, j4⟩
  rw [cM66, F66.eq, ld53, H.cell_eq h1, List.getElem?_cons_zero, ofO_some, Res.ok1_ok, xnil_ptr, Res.ok1_ok, fa77_0, Res.ok1_ok, ld75, H.cell_eq q1, List.getElem?_cons_zero, ofO_some, Res.ok1_ok, ld50, H.cell_eq h3, List.getElem?_cons_zero, ofO_some, Res.ok1_ok, f48, go_ok,
    ld53, H.cell_eq h1, List.getElem?_cons_zero, ofO_some, rc_ptr, ld75, H.cell_eq q1, List.getElem?_cons_zero, ofO_some, hrc]
  rw [show (true && (true && true)) = true from rfl, cond_true, ec, Res.ok1_ok, e2, go_ok, lenV_slice, Option.isSome_some, cond_true, ln75, Res.ok1_ok]
  exact e4

/-- All of a table: a function to range over. -/
theorem all33 (bt : Nat) (h : H) : CLM (.f 33) [.pointer (some ⟨bt, 0, none⟩)] h = .ok (.func (.func 66) ⟨[]⟩ ⟨[.pointer (some ⟨h.next, 0, none⟩), .pointer (some ⟨h.next + 1, 0, none⟩)]⟩) ((h.alloc (.cells [.pointer (some ⟨bt, 0, none⟩)] 53 0 false)).alloc (.cells [.func (.func 48) #[] #[]] 50 0 false)) := by
  rw [cM33, F33.eq, cM47, F47.eq]
  simp only [xbox_eq, cells_ptr, go_ok, cells_func, H.next_alloc]

/-- A loop over all rows. -/
theorem range66 {an : Ann} {ps : Array Tmp} {ac bo : Code} {K : Ex → H → Res Value} {kf : Fr} {S : Nat → Prop} {J : List Rw → H → Prop} {rows : List Rw} {h : H} {bt p1 p3 : Nat} {br : Option Nat} (hit : an.its.contains 66 = true) (t : Tbl h bt br rows)
    (R : Rounds (fun x => S x ∨ x = h.next) h.next J rows) (h1 : h.get p1 = some (.cells [.pointer (some ⟨bt, 0, none⟩)] 53 0 false)) (h3 : h.get p3 = some (.cells [.func (.func 48) #[] #[]] 50 0 false)) (hS : ∀ x, S x → x < h.next)
    (hj : J [] (h.alloc (.loop ⟨.ready, none, ps.toList, ac, bo, an, kf⟩))) (hend : ∀ h', J rows h' → h'.get h.next = some (.loop ⟨.ready, none, ps.toList, ac, bo, an, kf⟩)) :
    ∃ h', rngV CLM an (.func (.func 66) ⟨[]⟩ ⟨[.pointer (some ⟨p1, 0, none⟩), .pointer (some ⟨p3, 0, none⟩)]⟩) ps ac bo K kf h = K .normal (h'.put h.next .dead) ∧ Upd S h (h'.put h.next .dead) ∧ J rows h' := by
  have g1 : Grow h (h.alloc (.loop ⟨.ready, none, ps.toList, ac, bo, an, kf⟩)) := (Grow.refl h).alloc _
  obtain ⟨h', e, u, j⟩ := iter66 (t.grow g1) R (g1.old _ _ h1) (g1.old _ _ h3) (fun x q => by rcases q with q | q; exact Nat.lt_succ_of_lt (hS x q); subst q; exact Nat.lt_succ_self _) hj
  have hl := hend h' j
  refine ⟨h', ?_, ?_, j⟩
  · unfold rngV
    simp only [hit, cond_true]
    rw [e]
    simp only [go_ok, kloop, hl]
  · refine ⟨by have := g1.next; have := u.next; simp only [H.next_put]; omega, fun b x n hb => ?_⟩
    rw [H.get_put _ _ _ _ (H.get_lt hl), if_neg (by have := H.get_lt hb; omega)]
    exact u.old b x (fun q => q.elim n fun q => by have := H.get_lt hb; omega) (g1.old b x hb)

theorem cMy (b : Nat) (args : List Value) (h : H) : CLM (.y b) args h = yldS Try.prog CLM b args h := clS_y b args h

end Go.Proofs.Ytomboannkblccaa.K
