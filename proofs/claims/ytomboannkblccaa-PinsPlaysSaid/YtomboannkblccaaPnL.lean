/- The pins' program: PinsStay's rounds. -/
import Derived.Test.YtomboannkblccaaPnK
namespace Go.Proofs.Ytomboannkblccaa.K
open Go Go.Kx
set_option linter.unusedVariables false
set_option linter.unusedSectionVars false
set_option linter.unusedSimpArgs false
set_option maxRecDepth 20000

section
variable {h0 : H} {gen : Int} {k r m : List Value} {x4 : Value} {acts : List AT} {b6 b7 b8 bp : Nat} (hg : i64ok gen) (hk : PartOk 32 23 k) (hr : PartOk 34 25 r) (hm : PartOk 34 25 m)
include hg hk hr hm

theorem pin_flat (n : Int) : flatL (pinC n gen k r m) = true := by
  have app : ∀ {a b : List Value}, flatL a = true → flatL b = true → flatL (a ++ b) = true := by
    intro a b ha hb
    induction a with
    | nil => exact hb
    | cons v l ih => simp only [List.cons_append, flatL, Bool.and_eq_true] at *; exact ⟨ha.1, ih ha.2⟩
  show (true && (true && flatL (k ++ (r ++ m)))) = true
  rw [app hk.flt (app hr.flt hm.flt)]; rfl

theorem Inv3.grow {B : Nat} {x14 : Value} {h h' : H} (i : Inv3 h0 gen k r m x4 acts b6 b7 b8 bp B x14 h) (g : Grow h h') : Inv3 h0 gen k r m x4 acts b6 b7 b8 bp B x14 h' := by
  obtain ⟨u, s, c6, c7, c8, bt, br, rows, last, seen, bs, p, f, a1, a2, a3, a4, nu, rest⟩ := i
  obtain ⟨op, hn⟩ := nu.at_
  exact ⟨u.trans g, s.upd (g.upd fun _ => False) (fun _ q => q.elim), g.old _ _ c6, g.old _ _ c7, g.old _ _ c8, bt, br, rows, last, seen, bs, p.grow g, f, a1, a2, a3, a4, ⟨nu.eq, op, g.old _ _ hn⟩, rest⟩

/-- The end of a round: the pin tells what it was told. -/
theorem j23 {B i : Nat} (hi : i < 400) {x14 : Value} (x47 x48 x61 x62 x63 : Value) {h : H} (I : Inv3 h0 gen k r m x4 acts b6 b7 b8 bp B x14 h) :
    ∃ h', F3.j23 Try.prog CLM (.int .i64 gen) x4 (.pointer (some ⟨b6, 0, none⟩)) (.pointer (some ⟨b7, 0, none⟩)) (.pointer (some ⟨b8, 0, none⟩)) (.pointer (some ⟨bp, 0, none⟩)) (.int .i64 1) x14 (.int .i64 (i : Nat)) x47 x48 x61 x62 x63 h =
      F3.l9 Try.prog CLM (.int .i64 gen) x4 (.pointer (some ⟨b6, 0, none⟩)) (.pointer (some ⟨b7, 0, none⟩)) (.pointer (some ⟨b8, 0, none⟩)) (.pointer (some ⟨bp, 0, none⟩)) (.int .i64 1) x14 (.int .i64 ((i + 1 : Nat) : Int)) h' ∧ Inv3 h0 gen k r m x4 acts b6 b7 b8 bp B x14 h' := by
  obtain ⟨bt, br, rows, last, seen, bs, p, f, hmem, rest⟩ := I.st
  obtain ⟨hh, hv⟩ := hasK_mem p.tbl.srt hmem
  obtain ⟨h1, g1, e1⟩ := get9 p 1
  have hpl : (pinC 1 gen k r m).length = 102 ∧ ones (pinC 1 gen k r m) = true := pinC_ok ⟨hk.len, hk.one⟩ ⟨hr.len, hr.one⟩ ⟨hm.len, hm.one⟩ 1 gen
  rw [hv, if_pos hh] at e1
  let h2 := h1.alloc (.cells zc38 38 0 false)
  have q2 : h2.get h1.next = some (.cells zc38 38 0 false) := H.alloc_self _ _
  let h3 := h2.put h1.next (.cells (pinC 1 gen k r m) 38 0 false)
  have q3 : h3.get h1.next = some (.cells (pinC 1 gen k r m) 38 0 false) := H.put_self q2
  have g3 : Grow h h3 := (g1.alloc _).put g1.next (H.get_lt q2) _
  have w3 : h2.write ⟨h1.next, 0, none⟩ (pinC 1 gen k r m) = some h3 := H.write_all q2 (by rw [zc38_len]; exact hpl.1) hpl.2
  have hst : (Value.agg ⟨pinC 1 gen k r m⟩).cells.size = 102 := by rw [asz]; exact hpl.1
  have hl : KL 12 38 (pinC 1 gen k r m) := pin_lits (by unfold i64ok; omega) hg hk.len hr.len hm.len hk.lit hr.lit hm.lit
  have hw : IntKind.i64.wrap ((i : Int) + 1) = ((i + 1 : Nat) : Int) := by rw [wrap64 (by omega)]; omega
  have d00 : (decide ((0 : Int) = 0)) = true := by decide
  refine ⟨h3, ?_, I.grow hg hk hr hm g3⟩
  rw [F3.j23_eq, e1, go_ok, xextract_0, go_ok, xextract_1, go_ok, al38, go_ok, st38 _ _ _ hst, cells_agg]
  rw [show h1.alloc (.cells zc38 38 0 false) = h2 from rfl, w3, ofU_some, go_ok, num7, go_ok, xneq, go_ok, ifV_not, if_pos rfl, ld38, H.row_all q3 hpl.1, ofA_some, go_ok, ld23, H.row_all (g3.old _ _ I.c6) hk.len, ofA_some, go_ok, ld25, H.row_all (g3.old _ _ I.c7) hr.len, ofA_some, go_ok,
    ld25, H.row_all (g3.old _ _ I.c8) hm.len, ofA_some, go_ok, bd38 hk.len hr.len hm.len, go_ok]
  rw [show (Value.int .i64 1 :: .int .i64 gen :: (k ++ (r ++ m))) = pinC 1 gen k r m from rfl, neq38 hpl.1 (pin_flat hg hk hr hm 1) hl, go_ok, ifV_f, F3.j10_eq, xadd, go_ok, hw]

omit hg hk hr hm
theorem bs33 (a : Int) (h : H) : xbuildSlice Try.prog 33 1 [(0, .int .i64 a)] h = .ok (.slice (some ⟨h.next, 0, none⟩) 1 1) (h.alloc (.cells [.int .i64 a] 3 0 false)) := by kernel_rfl
theorem it33 : isIntT Try.prog 33 = some false := by kernel_rfl
theorem zf3 : zeroFits Try.prog 3 = true := by kernel_rfl
theorem by3 : bytesOf Try.prog 3 = 8 := by kernel_rfl
theorem intsV_ones (l : List Int) : ones (intsV l) = true := by
  induction l with
  | nil => rfl
  | cons a l ih => exact ih
theorem intsV_len (l : List Int) : (intsV l).length = l.length := by simp [intsV]

/-- One number more. -/
theorem app33 {h : H} {x : Value} {bs : Nat} {l : List Int} (nu : Nums h x bs l) (a : Int) (few : l.length ≤ 1000000) {q : Nat} (hq : h.get q = some (.cells [.int .i64 a] 3 0 false)) :
    ∃ h' x', Upd (fun b => b = bs) h h' ∧ xbuiltin Try.prog .append [33, 33] [x, .slice (some ⟨q, 0, none⟩) 1 1] h = .ok x' h' ∧ Nums h' x' h.next (l ++ [a]) := by
  obtain ⟨op, hb⟩ := nu.at_
  obtain rfl := nu.eq
  have e := xapp_new (P := Try.prog) (t := 33) (e := 3) (xt := 33) (base := some ⟨bs, 0, none⟩) (n := l.length) (cap := l.length) (k := 1) (x := .slice (some ⟨q, 0, none⟩) 1 1) (old := intsV l) (new := [.int .i64 a]) (h := h) eo33 sz3 it33 rfl
    (by show h.row ⟨q, 0, none⟩ (1 * _) = _; rw [co3]; exact H.row_all hq rfl) (by show h.row ⟨bs, 0, none⟩ (l.length * _) = _; rw [co3, Nat.mul_one]; exact H.row_all hb (intsV_len l)) (by omega)
    (by rw [by3]; omega) (by omega) (by rw [by3]; omega) zf3 rfl (by unfold appOk; simp only [hb]; cases op <;> rfl)
  rw [e]
  have hu : Upd (fun b => b = bs) h (h.leave (some ⟨bs, 0, none⟩)) ∧ (h.leave (some ⟨bs, 0, none⟩)).next = h.next := by
    unfold H.leave
    simp only [hb]
    cases op with
    | true => exact ⟨(Upd.refl (fun b => b = bs) h).put (.inl rfl) (H.get_lt hb) _, rfl⟩
    | false => exact ⟨Upd.refl _ h, rfl⟩
  refine ⟨_, _, hu.1.alloc _, rfl, ⟨by simp, true, ?_⟩⟩
  have := H.alloc_self (h.leave (some ⟨bs, 0, none⟩)) (.cells (intsV l ++ [.int .i64 a]) 3 0 true)
  rw [hu.2] at this
  rw [this]
  simp [intsV]

/-- None of those that were told is this one. -/
theorem l15_loop {h : H} {x14 : Value} {bs : Nat} {seen : List Int} (nu : Nums h x14 bs seen) (few : seen.length ≤ 1000000) (e mm : Int) (hne : e = 0 → ∀ s ∈ seen, s ≠ mm) (x0 x4 x6 x7 x8 x11 x12 x15 x47 x48 x61 x62 x63 : Value) :
    ∀ (d j : Nat), seen.length - j = d → j ≤ seen.length →
      F3.l15 Try.prog CLM x0 x4 x6 x7 x8 x11 x12 x14 x15 (.int .i64 mm) (.int .i64 e) (.int .i64 (j : Nat)) x47 x48 x61 x62 x63 h = F3.j19 Try.prog CLM x0 x4 x6 x7 x8 x11 x12 x14 x15 (.int .i64 mm) (.int .i64 e) x47 x48 x61 x62 x63 h := by
  obtain ⟨op, hb⟩ := nu.at_
  obtain rfl := nu.eq
  intro d
  induction d with
  | zero =>
    intro j hd hj
    rw [F3.l15_eq, ln33, go_ok, xlss, go_ok, ifV_dec, if_neg (by omega)]
  | succ d ih =>
    intro j hd hj
    have hlt : j < seen.length := by omega
    have hw : IntKind.i64.wrap ((j : Int) + 1) = ((j + 1 : Nat) : Int) := by rw [wrap64 (by omega)]; omega
    rw [F3.l15_eq, ln33, go_ok, xlss, go_ok, ifV_dec, if_pos (by omega), F3.j17_eq, num7, go_ok, xeql, go_ok, ifV_dec]
    by_cases he : e = 0
    · have hj2 : (intsV seen)[0 + j * 1]? = some (.int .i64 (seen[j]'hlt)) := by simp [intsV, hlt]
      rw [if_pos he, ia33 _ _ _ _ _ _ _ _ hlt, go_ok, ld3, H.cell_eq hb, hj2, ofO_some, go_ok, xeql, go_ok, ifV_dec, if_neg (hne he _ (List.getElem_mem hlt)), xadd, go_ok, hw]
      exact ih (j + 1) (by omega) (by omega)
    · rw [if_neg he, xadd, go_ok, hw]
      exact ih (j + 1) (by omega) (by omega)

include hg hk hr hm
/-- A pin more, if there is room. -/
theorem j13_pin {B i : Nat} (hi : i < 400) (hB : B < 1000) {x14 : Value} (x47 x48 x61 x62 x63 : Value) {h : H} (I : Inv3 h0 gen k r m x4 acts b6 b7 b8 bp B x14 h) {a : AT} (ha : a.Ok) {q : Nat} (hq : h.get q = some (.cells (actC a) 35 0 false)) :
    ∃ x14' h', F3.j13 Try.prog CLM (.int .i64 gen) x4 (.pointer (some ⟨b6, 0, none⟩)) (.pointer (some ⟨b7, 0, none⟩)) (.pointer (some ⟨b8, 0, none⟩)) (.pointer (some ⟨bp, 0, none⟩)) (.int .i64 1) x14 (.int .i64 (i : Nat)) (.pointer (some ⟨q, 0, none⟩)) x47 x48 (.bool true) x61 x62 x63 h =
      F3.l9 Try.prog CLM (.int .i64 gen) x4 (.pointer (some ⟨b6, 0, none⟩)) (.pointer (some ⟨b7, 0, none⟩)) (.pointer (some ⟨b8, 0, none⟩)) (.pointer (some ⟨bp, 0, none⟩)) (.int .i64 1) x14' (.int .i64 ((i + 1 : Nat) : Int)) h' ∧ Inv3 h0 gen k r m x4 acts b6 b7 b8 bp (B + 1) x14' h' := by
  obtain ⟨u, sc, c6, c7, c8, bt, br, rows, last, seen, bs, p, f, hmem, hfew, hlast, h1l, nu, n6, n7, n8, nlo, hseen, hsl⟩ := I
  have la := actC_len ha
  have r2 : (actC a)[0 + 2]? = some (.int .i64 a.gen) := rfl
  have rk : h.row ⟨q, 0 + 3, none⟩ 32 = some a.k := by
    rw [H.row_eq hq (by omega)]
    show some ((a.k ++ (a.r ++ a.m)).take 32) = _
    rw [List.take_left' ha.k2.len]
  have rr : h.row ⟨q, 0 + 35, none⟩ 34 = some a.r := by
    rw [H.row_eq hq (by omega)]
    show some (((a.k ++ (a.r ++ a.m)).drop 32).take 34) = _
    rw [List.drop_left' ha.k2.len, List.take_left' ha.r2.len]
  have rm : h.row ⟨q, 0 + 69, none⟩ 34 = some a.m := by
    rw [H.row_eq hq (by omega)]
    show some (((a.k ++ (a.r ++ a.m)).drop 66).take 34) = _
    rw [show (66 : Nat) = 32 + 34 from rfl, ← List.drop_drop, List.drop_left' ha.k2.len, List.drop_left' ha.r2.len, take_all ha.m2.len]
  rw [F3.j13_eq, ifV_t, fa35_2, go_ok, ld3, H.cell_eq hq, r2, ofO_some, go_ok, fa35_3, go_ok, ld23, rk, ofA_some, go_ok, fa35_4, go_ok, ld25, rr, ofA_some, go_ok, fa35_5, go_ok, ld25, rm, ofA_some, go_ok]
  have hfin : ∀ x, Ft bp bt br x → h0.next ≤ x := fun x hx => (f x hx).2.2.2.2
  by_cases hfull : 64 ≤ rows.length
  · obtain ⟨h1, g1, e1⟩ := pin6_full p hfull a.gen a.k a.r a.m
    have I1 : Inv3 h0 gen k r m x4 acts b6 b7 b8 bp (B + 1) x14 h1 :=
      Inv3.grow hg hk hr hm ⟨u, sc, c6, c7, c8, bt, br, rows, last, seen, bs, p, f, hmem, hfew, by omega, h1l, nu, n6, n7, n8, nlo, hseen, by omega⟩ g1
    obtain ⟨h2, e2, I2⟩ := j23 hg hk hr hm hi x47 x48 x61 x62 x63 I1
    obtain ⟨op, hn⟩ := nu.at_
    have nu1 : Nums h1 x14 bs seen := ⟨nu.eq, op, g1.old _ _ hn⟩
    refine ⟨x14, h2, ?_, I2⟩
    rw [e1, go_ok, xextract_0, go_ok, xextract_1, go_ok]
    rw [show (Value.int .i64 0) = .int .i64 ((0 : Nat) : Int) from rfl, l15_loop nu1 (by omega) 190 _ (fun q => absurd q (by omega)) _ _ _ _ _ _ _ _ _ _ _ _ _ seen.length 0 (by omega) (Nat.zero_le _), F3.j19_eq, num7, go_ok, xeql, go_ok, ifV_dec, if_neg (by omega)]
    exact e2
  · obtain ⟨h1, br', u1, nb', e1, p1⟩ := pin6 p (by omega) (by omega) a.gen ⟨ha.k2.len, ha.k2.one⟩ ⟨ha.r2.len, ha.r2.one⟩ ⟨ha.m2.len, ha.m2.one⟩
    have nf : ∀ {x : Nat}, (x = b6 ∨ x = b7 ∨ x = b8 ∨ x = bs) → ¬ Ft bp bt br x := fun {x} hx hF => by
      obtain ⟨q1, q2, q3, q4, _⟩ := f x hF
      rcases hx with q | q | q | q <;> contradiction
    obtain ⟨op, hn⟩ := nu.at_
    have d6 := u1.old _ _ (nf (.inl rfl)) c6
    have d7 := u1.old _ _ (nf (.inr (.inl rfl))) c7
    have d8 := u1.old _ _ (nf (.inr (.inr (.inl rfl)))) c8
    have dn := u1.old _ _ (nf (.inr (.inr (.inr rfl)))) hn
    have nu1 : Nums h1 x14 bs seen := ⟨nu.eq, op, dn⟩
    have up1 : Grow h0 h1 := ⟨Nat.le_trans u.next u1.next, fun b x e => u1.old b x (fun hF => by have := hfin b hF; have := H.get_lt e; omega) (u.old b x e)⟩
    have f1 : ∀ x, Ft bp bt (some br') x → x ≠ b6 ∧ x ≠ b7 ∧ x ≠ b8 ∧ x ≠ bs ∧ h0.next ≤ x := by
      intro x hx
      rcases hx with q | q | q
      · exact f x (.inl q)
      · exact f x (.inr (.inl q))
      · cases q
        have := H.get_lt c6; have := H.get_lt c7; have := H.get_lt c8; have := H.get_lt hn; have := u.next
        refine ⟨?_, ?_, ?_, ?_, ?_⟩ <;> omega
    -- the number is kept
    let h2 := h1.alloc (.cells [.int .i64 ((last + 1 : Nat) : Int)] 3 0 false)
    have g2 : Grow h1 h2 := (Grow.refl h1).alloc _
    have nu2 : Nums h2 x14 bs seen := ⟨nu.eq, op, g2.old _ _ dn⟩
    obtain ⟨h3, x3, u3, e3, nu3⟩ := app33 nu2 ((last + 1 : Nat) : Int) (by omega) (H.alloc_self h1 _)
    have bsl := H.get_lt (g2.old _ _ dn)
    have p3 := (p1.grow g2).upd u3 (fun b hb => (f1 b hb).2.2.2.1)
    have lt3 : h1.next < h3.next := by have := u3.next; have : h2.next = h1.next + 1 := rfl; omega
    have I3 : Inv3 h0 gen k r m x4 acts b6 b7 b8 bp (B + 1) x3 h3 := by
      refine ⟨⟨Nat.le_trans (up1.trans g2).next u3.next, fun b x e => u3.old b x (fun q => by have := H.get_lt e; omega) ((up1.trans g2).old b x e)⟩, ?_, u3.old _ _ (Ne.symm n6) (g2.old _ _ d6), u3.old _ _ (Ne.symm n7) (g2.old _ _ d7), u3.old _ _ (Ne.symm n8) (g2.old _ _ d8), bt, some br', _, last + 1, seen ++ [((last + 1 : Nat) : Int)], h2.next, p3, ?_, List.mem_append.2 (.inl hmem), by simp; omega, by omega, by omega, nu3, ?_, ?_, ?_, ?_, ?_, by simp; omega⟩
      · exact ((sc.upd u1 hfin).upd (g2.upd fun _ => False) (fun _ q => q.elim)).upd u3 (fun x q => by subst q; exact nlo)
      · intro x hx
        obtain ⟨q1, q2, q3, q4, q5⟩ := f1 x hx
        refine ⟨q1, q2, q3, ?_, q5⟩
        have hx1 : x < h1.next := by
          rcases hx with q | q | q
          · subst q; exact H.get_lt p1.pin
          · subst q; obtain ⟨sl, w, _⟩ := p1.tbl.sl; exact H.get_lt w
          · cases q
            obtain ⟨sl, _, w⟩ := p1.tbl.sl
            rcases w with ⟨w, _⟩ | ⟨b, sp, cp, w1, _, w2, _⟩
            · cases w
            · cases w1; exact H.get_lt w2
        have : h2.next = h1.next + 1 := rfl
        omega
      · have := H.get_lt d6; have : h2.next = h1.next + 1 := rfl; omega
      · have := H.get_lt d7; have : h2.next = h1.next + 1 := rfl; omega
      · have := H.get_lt d8; have : h2.next = h1.next + 1 := rfl; omega
      · have := up1.next; have : h2.next = h1.next + 1 := rfl; omega
      · intro s hs
        rcases List.mem_append.1 hs with q | q
        · have := hseen s q; omega
        · simp only [List.mem_singleton] at q; subst q; exact Int.le_refl _
    obtain ⟨h4, e4, I4⟩ := j23 hg hk hr hm hi x47 x48 x61 x62 x63 I3
    refine ⟨x3, h4, ?_, I4⟩
    rw [e1, go_ok, xextract_0, go_ok, xextract_1, go_ok]
    have e5 := l15_loop nu1 (by omega) 0 ((last + 1 : Nat) : Int) (fun _ s hs => by have := hseen s hs; omega) (.int .i64 gen) x4 (.pointer (some ⟨b6, 0, none⟩)) (.pointer (some ⟨b7, 0, none⟩)) (.pointer (some ⟨b8, 0, none⟩)) (.pointer (some ⟨bp, 0, none⟩)) (.int .i64 1) (.int .i64 (i : Nat)) x47 x48 x61 x62 x63 seen.length 0 (by omega) (Nat.zero_le _)
    refine Eq.trans e5 ?_
    rw [F3.j19_eq, num7, go_ok, xeql, go_ok, ifV_dec, if_pos rfl, bs33, go_ok]
    rw [show h1.alloc (.cells [.int .i64 ((last + 1 : Nat) : Int)] 3 0 false) = h2 from rfl, e3, go_ok]
    exact e4

end
end Go.Proofs.Ytomboannkblccaa.K
