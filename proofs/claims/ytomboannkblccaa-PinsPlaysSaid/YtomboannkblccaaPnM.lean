/- The pins' program: PinsStay whole, over its closed part. -/
import Derived.Test.YtomboannkblccaaPnL
namespace Go.Proofs.Ytomboannkblccaa.K
open Go Go.Kx
set_option linter.unusedVariables false
set_option linter.unusedSimpArgs false
set_option linter.unusedSectionVars false
set_option maxRecDepth 20000

section
variable {h0 : H} {gen : Int} {k r m : List Value} {x4 : Value} {acts : List AT} {b6 b7 b8 bp : Nat} (hg : i64ok gen) (hk : PartOk 32 23 k) (hr : PartOk 34 25 r) (hm : PartOk 34 25 m)
include hg hk hr hm

theorem Inv3.more {B : Nat} {x14 : Value} {h : H} (i : Inv3 h0 gen k r m x4 acts b6 b7 b8 bp B x14 h) : Inv3 h0 gen k r m x4 acts b6 b7 b8 bp (B + 1) x14 h := by
  obtain ⟨u, sc, c6, c7, c8, bt, br, rows, last, seen, bs, p, f, hmem, hfew, hlast, h1l, nu, n6, n7, n8, nlo, hseen, hsl⟩ := i
  exact ⟨u, sc, c6, c7, c8, bt, br, rows, last, seen, bs, p, f, hmem, hfew, by omega, h1l, nu, n6, n7, n8, nlo, hseen, by omega⟩

/-- Another pin is let go of. -/
theorem j22_un {B i : Nat} (hi : i < 400) {x14 : Value} (x47 x48 x61 x62 x63 x107 x108 x109 x110 : Value) {h : H} (I : Inv3 h0 gen k r m x4 acts b6 b7 b8 bp B x14 h) {a : AT} (ha : a.Ok) (hn1 : a.n ≠ 1) {q : Nat} (hq : h.get q = some (.cells (actC a) 35 0 false)) :
    ∃ h', F3.j22 Try.prog CLM (.int .i64 gen) x4 (.pointer (some ⟨b6, 0, none⟩)) (.pointer (some ⟨b7, 0, none⟩)) (.pointer (some ⟨b8, 0, none⟩)) (.pointer (some ⟨bp, 0, none⟩)) (.int .i64 1) x14 (.int .i64 (i : Nat)) (.pointer (some ⟨q, 0, none⟩)) x47 x48 x61 x62 x63 (.bool true) x107 x108 x109 x110 h =
      F3.l9 Try.prog CLM (.int .i64 gen) x4 (.pointer (some ⟨b6, 0, none⟩)) (.pointer (some ⟨b7, 0, none⟩)) (.pointer (some ⟨b8, 0, none⟩)) (.pointer (some ⟨bp, 0, none⟩)) (.int .i64 1) x14 (.int .i64 ((i + 1 : Nat) : Int)) h' ∧ Inv3 h0 gen k r m x4 acts b6 b7 b8 bp B x14 h' := by
  obtain ⟨u, sc, c6, c7, c8, bt, br, rows, last, seen, bs, p, f, hmem, hfew, hlast, h1l, nu, n6, n7, n8, nlo, hseen, hsl⟩ := I
  have r1 : (actC a)[0 + 1]? = some (.int .i64 a.n) := rfl
  obtain ⟨h1, u1, e1, p1⟩ := unpin8 p a.n
  have hfin : ∀ x, Ft bp bt br x → h0.next ≤ x := fun x hx => (f x hx).2.2.2.2
  obtain ⟨op, hn⟩ := nu.at_
  have nf : ∀ {x : Nat}, (x = b6 ∨ x = b7 ∨ x = b8 ∨ x = bs) → ¬ Ft bp bt br x := fun {x} hx hF => by
    obtain ⟨q1, q2, q3, q4, _⟩ := f x hF
    rcases hx with q | q | q | q <;> contradiction
  have hlen : (delR rows a.n).length ≤ 64 := by
    unfold delR
    split
    · simp only [List.length_append, List.length_take, List.length_drop]; omega
    · exact hfew
  have I1 : Inv3 h0 gen k r m x4 acts b6 b7 b8 bp B x14 h1 :=
    ⟨⟨Nat.le_trans u.next u1.next, fun b x e => u1.old b x (fun hF => by have := hfin b hF; have := H.get_lt e; omega) (u.old b x e)⟩, sc.upd u1 hfin, u1.old _ _ (nf (.inl rfl)) c6, u1.old _ _ (nf (.inr (.inl rfl))) c7, u1.old _ _ (nf (.inr (.inr (.inl rfl)))) c8,
      bt, br, _, last, seen, bs, p1, f, delR_mem p.tbl.srt hmem (fun q => hn1 q.symm), hlen, hlast, h1l, ⟨nu.eq, op, u1.old _ _ (nf (.inr (.inr (.inr rfl)))) hn⟩, n6, n7, n8, nlo, hseen, hsl⟩
  obtain ⟨h2, e2, I2⟩ := j23 hg hk hr hm hi x47 x48 x61 x62 x63 I1
  refine ⟨h2, ?_, I2⟩
  rw [F3.j22_eq, ifV_t, fa35_1, go_ok, ld3, H.cell_eq hq, r1, ofO_some, go_ok, e1, go_ok]
  exact e2

/-- One round. -/
theorem round9 {B i : Nat} (hi : i < 300) (hB : B < 1000) (hia : i < acts.length) (hok : ∀ a ∈ acts, a.Ok) {x14 : Value} {h : H} (I : Inv3 h0 gen k r m x4 acts b6 b7 b8 bp B x14 h) :
    ∃ x14' h', F3.l9 Try.prog CLM (.int .i64 gen) x4 (.pointer (some ⟨b6, 0, none⟩)) (.pointer (some ⟨b7, 0, none⟩)) (.pointer (some ⟨b8, 0, none⟩)) (.pointer (some ⟨bp, 0, none⟩)) (.int .i64 1) x14 (.int .i64 (i : Nat)) h =
      F3.l9 Try.prog CLM (.int .i64 gen) x4 (.pointer (some ⟨b6, 0, none⟩)) (.pointer (some ⟨b7, 0, none⟩)) (.pointer (some ⟨b8, 0, none⟩)) (.pointer (some ⟨bp, 0, none⟩)) (.int .i64 1) x14' (.int .i64 ((i + 1 : Nat) : Int)) h' ∧ Inv3 h0 gen k r m x4 acts b6 b7 b8 bp (B + 1) x14' h' := by
  obtain ⟨a, ha⟩ : ∃ a, acts[i]? = some a := ⟨_, List.getElem?_eq_getElem hia⟩
  have haok := hok a (List.mem_of_getElem? ha)
  obtain ⟨ob, c, hx4, hrows⟩ := I.scr
  obtain ⟨b, o, sp, rfl, hblo, hrow⟩ := hrows i a ha
  have la := actC_len haok
  let h1 := h.alloc (.cells zc35 35 0 false)
  have q1 : h1.get h.next = some (.cells zc35 35 0 false) := H.alloc_self _ _
  let h2 := h1.put h.next (.cells (actC a) 35 0 false)
  have q2 : h2.get h.next = some (.cells (actC a) 35 0 false) := H.put_self q1
  have g2 : Grow h h2 := ((Grow.refl h).alloc _).put (Nat.le_refl _) (H.get_lt q1) _
  have w2 : h1.write ⟨h.next, 0, none⟩ (actC a) = some h2 := H.write_all q1 (by rw [zc35_len]; exact la) (actC_one haok)
  have hst : (Value.agg ⟨actC a⟩).cells.size = 103 := by rw [asz]; exact la
  have I2 := I.grow hg hk hr hm g2
  have r0 : (actC a)[0]? = some (.int .i64 a.kind) := rfl
  have r1 : (actC a)[0 + 1]? = some (.int .i64 a.n) := rfl
  rw [hx4] at I2 ⊢
  rw [F3.l9_eq, ln26, go_ok, xlss, go_ok, ifV_dec, if_pos (by omega), xlss, go_ok, ifV_dec, if_pos (by omega), F3.j11_eq, ia26 _ _ _ _ _ _ _ _ hia, go_ok, ld35, hrow, ofA_some, go_ok, al35, go_ok, st35 _ _ _ hst, cells_agg]
  rw [show h.alloc (.cells zc35 35 0 false) = h1 from rfl, w2, ofU_some, go_ok, fa35_0, go_ok, ld3, H.cell_eq q2, r0, ofO_some, go_ok, xeql, go_ok, ifV_dec]
  by_cases h1k : a.kind = 1
  · rw [if_pos h1k]
    exact j13_pin hg hk hr hm (by omega) hB _ _ _ _ _ I2 haok q2
  · rw [if_neg h1k, fa35_0, go_ok, ld3, H.cell_eq q2, r0, ofO_some, go_ok, xeql, go_ok]
    by_cases h5k : a.kind = 5
    · rw [show decide (a.kind = 5) = true by simpa using h5k]
      exact j13_pin hg hk hr hm (by omega) hB _ _ _ _ _ I2 haok q2
    · rw [show decide (a.kind = 5) = false by simpa using h5k, F3.j13_eq, ifV_f, fa35_0, go_ok, ld3, H.cell_eq q2, r0, ofO_some, go_ok, xeql, go_ok, ifV_dec]
      by_cases h2k : a.kind = 2
      · rw [if_pos h2k, fa35_1, go_ok, ld3, H.cell_eq q2, r1, ofO_some, go_ok, xneq, go_ok]
        by_cases hn1 : a.n = 1
        · rw [show (!decide (a.n = 1)) = false by simp [hn1], F3.j22_eq, ifV_f]
          obtain ⟨h3, e3, I3⟩ := j23 hg hk hr hm (by omega : i < 400) _ _ _ _ _ I2
          exact ⟨_, h3, e3, I3.more hg hk hr hm⟩
        · rw [show (!decide (a.n = 1)) = true by simp [hn1]]
          obtain ⟨h3, e3, I3⟩ := j22_un hg hk hr hm (by omega : i < 400) _ _ _ _ _ _ _ _ _ I2 haok hn1 q2
          exact ⟨_, h3, e3, I3.more hg hk hr hm⟩
      · rw [if_neg h2k, F3.j22_eq, ifV_f]
        obtain ⟨h3, e3, I3⟩ := j23 hg hk hr hm (by omega : i < 400) _ _ _ _ _ I2
        exact ⟨_, h3, e3, I3.more hg hk hr hm⟩

/-- The end. -/
theorem j26_end (hst : ∀ h : H, ∃ h', Grow h h' ∧ CLM (.f 10) [] h = .ok (.bool true) h') {B : Nat} {x14 : Value} {h : H} (I : Inv3 h0 gen k r m x4 acts b6 b7 b8 bp B x14 h) :
    ∃ h', F3.j26 Try.prog CLM (.pointer (some ⟨bp, 0, none⟩)) (.int .i64 1) h = .ok (.bool true) h' ∧ Grow h0 h' := by
  obtain ⟨u, sc, c6, c7, c8, bt, br, rows, last, seen, bs, p, f, hmem, rest⟩ := I
  obtain ⟨hh, hv⟩ := hasK_mem p.tbl.srt hmem
  obtain ⟨h1, u1, e1, p1⟩ := unpin8 p 1
  have hfin : ∀ x, Ft bp bt br x → h0.next ≤ x := fun x hx => (f x hx).2.2.2.2
  have up1 : Grow h0 h1 := ⟨Nat.le_trans u.next u1.next, fun b x e => u1.old b x (fun hF => by have := hfin b hF; have := H.get_lt e; omega) (u.old b x e)⟩
  have hno := delR_not p.tbl.srt 1
  obtain ⟨h2, g2, e2⟩ := get9 p1 1
  rw [if_neg hno] at e2
  have hz : valOf (delR rows 1) 1 = zc38 := by unfold valOf; rw [if_neg hno]
  rw [hz] at e2
  rw [if_pos hh] at e1
  let h3 := h2.alloc (.cells zc38 38 0 false)
  have q3 : h3.get h2.next = some (.cells zc38 38 0 false) := H.alloc_self _ _
  let h4 := h3.put h2.next (.cells zc38 38 0 false)
  have q4 : h4.get h2.next = some (.cells zc38 38 0 false) := H.put_self q3
  have g4 : Grow h1 h4 := (g2.alloc _).put g2.next (H.get_lt q3) _
  have w4 : h3.write ⟨h2.next, 0, none⟩ zc38 = some h4 := H.write_all q3 rfl zc38_ones
  have hsz : (Value.agg ⟨zc38⟩).cells.size = 102 := by rw [asz]; exact zc38_len
  obtain ⟨h5, g5, e5⟩ := hst h4
  refine ⟨h5, ?_, (up1.trans g4).trans g5⟩
  rw [F3.j26_eq, e1, go_ok, e2, go_ok, xextract_0, go_ok, xextract_1, go_ok, al38, go_ok, st38 _ _ _ hsz, cells_agg]
  rw [show h2.alloc (.cells zc38 38 0 false) = h3 from rfl, w4, ofU_some, go_ok, num7, go_ok, xeql, go_ok, ifV_dec, if_pos rfl, num7, go_ok, xeql, go_ok, ifV_dec, if_pos rfl, ld38, H.row_all q4 zc38_len, ofA_some, go_ok, bd38_0, go_ok, eq38_0, go_ok, ifV_t, e5, go_ok]

theorem loop9 (hst : ∀ h : H, ∃ h', Grow h h' ∧ CLM (.f 10) [] h = .ok (.bool true) h') (hok : ∀ a ∈ acts, a.Ok) :
    ∀ (d i : Nat) {x14 : Value} {h : H}, 300 - i = d → i ≤ 300 → i ≤ acts.length → Inv3 h0 gen k r m x4 acts b6 b7 b8 bp (i + 1) x14 h →
      ∃ h', F3.l9 Try.prog CLM (.int .i64 gen) x4 (.pointer (some ⟨b6, 0, none⟩)) (.pointer (some ⟨b7, 0, none⟩)) (.pointer (some ⟨b8, 0, none⟩)) (.pointer (some ⟨bp, 0, none⟩)) (.int .i64 1) x14 (.int .i64 (i : Nat)) h = .ok (.bool true) h' ∧ Grow h0 h' := by
  intro d
  induction d with
  | zero =>
    intro i x14 h hd hi hia I
    obtain ⟨ob, c, hx4, hrows⟩ := I.scr
    obtain ⟨h', e, g⟩ := j26_end hg hk hr hm hst I
    refine ⟨h', ?_, g⟩
    rw [hx4, F3.l9_eq, ln26, go_ok, xlss, go_ok, ifV_dec]
    split
    · rw [xlss, go_ok, ifV_dec, if_neg (by omega)]; exact e
    · exact e
  | succ d ih =>
    intro i x14 h hd hi hia I
    by_cases hlt : i < acts.length
    · obtain ⟨x', h1, e1, I1⟩ := round9 hg hk hr hm (by omega) (by omega) hlt hok I
      obtain ⟨h2, e2, g2⟩ := ih (i + 1) (by omega) (by omega) (by omega) I1
      exact ⟨h2, e1.trans e2, g2⟩
    · obtain ⟨ob, c, hx4, hrows⟩ := I.scr
      obtain ⟨h', e, g⟩ := j26_end hg hk hr hm hst I
      refine ⟨h', ?_, g⟩
      rw [hx4, F3.l9_eq, ln26, go_ok, xlss, go_ok, ifV_dec, if_neg (by omega)]
      exact e
end

theorem nonnil27 (a : Addr) (h : H) : xbin Try.prog .eql 27 (.pointer (some a)) (.pointer none) h = .ok (.bool false) h := by kernel_rfl

/-- PinsStay: true; what was there is as it was. -/
theorem stay3 (hst : ∀ h : H, ∃ h', Grow h h' ∧ CLM (.f 10) [] h = .ok (.bool true) h') {h : H} {gen : Int} {k r m : List Value} {x4 : Value} {acts : List AT} (hg : i64ok gen) (hk : PartOk 32 23 k) (hr : PartOk 34 25 r) (hm : PartOk 34 25 m) (hok : ∀ a ∈ acts, a.Ok) (hs : Scr h h.next x4 acts) :
    ∃ h', CLM (.f 3) [.int .i64 gen, .agg ⟨k⟩, .agg ⟨r⟩, .agg ⟨m⟩, x4] h = .ok (.bool true) h' ∧ Grow h h' := by
  let h1 := h.alloc (.cells k 23 0 false)
  let h2 := h1.alloc (.cells r 25 0 false)
  let h3 := h2.alloc (.cells m 25 0 false)
  have g3 : Grow h h3 := (((Grow.refl h).alloc _).alloc _).alloc _
  have b1 : h3.get h.next = some (.cells k 23 0 false) := H.alloc_old (H.alloc_old (H.alloc_self _ _))
  have b2 : h3.get (h.next + 1) = some (.cells r 25 0 false) := H.alloc_old (H.alloc_self h1 _)
  have b3 : h3.get (h.next + 1 + 1) = some (.cells m 25 0 false) := H.alloc_self h2 _
  have n3 : h3.next = h.next + 3 := rfl
  obtain ⟨h4, g4, e4, p4, n4⟩ := new5 h3
  obtain ⟨h5, br', u5, nb5, e5, p5⟩ := pin6 p4 (by simp) (by omega) gen ⟨hk.len, hk.one⟩ ⟨hr.len, hr.one⟩ ⟨hm.len, hm.one⟩
  let h6 := h5.alloc (.cells [.int .i64 1] 3 0 false)
  have g6 : Grow h5 h6 := (Grow.refl h5).alloc _
  have nf : ∀ x, x < h3.next → ¬ Ft (h3.next + 1) h3.next none x := fun x hx hF => by rcases hF with q | q | q; omega; omega; cases q
  have c1 := g6.old _ _ (u5.old _ _ (nf _ (by omega)) (g4.old _ _ b1))
  have c2 := g6.old _ _ (u5.old _ _ (nf _ (by omega)) (g4.old _ _ b2))
  have c3 := g6.old _ _ (u5.old _ _ (nf _ (by omega)) (g4.old _ _ b3))
  have up : Grow h h6 := ⟨by have := u5.next; have := g6.next; have := g4.next; omega, fun b x e => g6.old _ _ (u5.old b x (nf _ (by have := H.get_lt e; omega)) (g4.old _ _ (g3.old _ _ e)))⟩
  have n6 : h6.next = h5.next + 1 := rfl
  have h54 := u5.next
  obtain ⟨slb, hb5, hrest5⟩ := p5.tbl.sl
  have hbr5 : br' < h5.next := by
    rcases hrest5 with ⟨w, _⟩ | ⟨b, sp, cp, w1, _, w2, _⟩
    · cases w
    · cases w1; exact H.get_lt w2
  have I : Inv3 h gen k r m x4 acts h.next (h.next + 1) (h.next + 1 + 1) (h3.next + 1) 1 (.slice (some ⟨h5.next, 0, none⟩) 1 1) h6 := by
    refine ⟨up, (hs.upd (up.upd fun _ => False) (fun _ q => q.elim)), c1, c2, c3, h3.next, some br', _, 1, [1], h5.next, p5.grow g6, ?_, by simp, by simp, Nat.le_refl _, Nat.le_refl _, ⟨rfl, false, H.alloc_self _ _⟩, by omega, by omega, by omega, by omega, by simp, by simp⟩
    intro x hx
    rcases hx with q | q | q
    · subst q; refine ⟨?_, ?_, ?_, ?_, ?_⟩ <;> omega
    · subst q; refine ⟨?_, ?_, ?_, ?_, ?_⟩ <;> omega
    · cases q; refine ⟨?_, ?_, ?_, ?_, ?_⟩ <;> omega
  obtain ⟨h7, e7, g7⟩ := loop9 hg hk hr hm hst hok 300 0 rfl (by omega) (Nat.zero_le _) I
  refine ⟨h7, ?_, g7⟩
  rw [cM3, F3.eq, xbox_eq, cells_agg, go_ok, xbox_eq, cells_agg, go_ok, xbox_eq, cells_agg, go_ok]
  rw [show ((h.alloc (.cells k 23 0 false)).alloc (.cells r 25 0 false)).alloc (.cells m 25 0 false) = h3 from rfl, e4, go_ok, nonnil27, go_ok, ifV_f, F3.j4_eq]
  rw [show (h.alloc (.cells k 23 0 false)).next = h.next + 1 from rfl, show ((h.alloc (.cells k 23 0 false)).alloc (.cells r 25 0 false)).next = h.next + 1 + 1 from rfl]
  rw [ld23, H.row_all (g4.old _ _ b1) hk.len, ofA_some, go_ok, ld25, H.row_all (g4.old _ _ b2) hr.len, ofA_some, go_ok, ld25, H.row_all (g4.old _ _ b3) hm.len, ofA_some, go_ok, e5, go_ok, xextract_0, go_ok, xextract_1, go_ok, num7, go_ok, xneq, go_ok, ifV_not, if_pos rfl, F3.j7_eq]
  rw [show (((0 + 1 : Nat) : Int)) = 1 from rfl, bs33, go_ok]
  exact e7

end Go.Proofs.Ytomboannkblccaa.K
