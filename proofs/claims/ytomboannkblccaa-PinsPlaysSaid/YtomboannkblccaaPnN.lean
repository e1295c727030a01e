/- The pins' program: started, told. -/
import Derived.Test.YtomboannkblccaaPnM
import Derived.Test.YtomboannkblccaaPnN0
namespace Go.Proofs.Ytomboannkblccaa.K
open Go Go.Kx
set_option linter.unusedVariables false
set_option linter.unusedSimpArgs false
set_option maxRecDepth 20000

theorem ints19 {h : H} {b : Nat} (e : h.get b = some (.cells (opsC ops8) 63 0 false)) : CLM (.f 19) [.slice (some ⟨b, 0, none⟩) 8 8] h = .ok (.bool true) h := by
  rw [cM19, pm19]
  have : ops8At [.slice (some ⟨b, 0, none⟩) 8 8] h = true := by
    show (match h.get b with | some (.cells c 63 0 false) => isOps c ops8 | _ => false) = true
    rw [e]
    exact isOps_opsC ops8
  rw [this]; rfl

/-- The rows after so many pins. -/
noncomputable def rows7 : Nat → List Rw
  | 0 => []
  | n + 1 => rows7 n ++ [(((n + 1 : Nat) : Int), pinC ((n + 1 : Nat) : Int) 7 zc23 zc25 zc25)]
theorem rows7_len : ∀ n, (rows7 n).length = n
  | 0 => rfl
  | n + 1 => by simp [rows7, rows7_len n]
theorem rows7_mem : ∀ n i, i < n → (((i + 1 : Nat) : Int), pinC ((i + 1 : Nat) : Int) 7 zc23 zc25 zc25) ∈ rows7 n
  | 0, i, h => absurd h (by omega)
  | n + 1, i, h => by
    by_cases e : i = n
    · subst e; exact List.mem_append.2 (.inr (by simp))
    · exact List.mem_append.2 (.inl (rows7_mem n i (by omega)))
theorem rows7_form : ∀ n r, r ∈ rows7 n → r.2 = pinC r.1 7 zc23 zc25 zc25
  | 0, r, h => by cases h
  | n + 1, r, h => by
    rcases List.mem_append.1 h with q | q
    · exact rows7_form n r q
    · simp only [List.mem_singleton] at q; subst q; rfl

theorem grow_upd {S : Nat → Prop} {h0 h h' : H} (g : Grow h0 h) (u : Upd S h h') (hS : ∀ x, S x → h0.next ≤ x) : Grow h0 h' :=
  ⟨Nat.le_trans g.next u.next, fun b x e => u.old b x (fun q => by have := hS b q; have := H.get_lt e; omega) (g.old b x e)⟩

theorem pair_eq (a b : Int) (h : H) : xextract (.tuple ⟨[.int .i64 a, .int .i64 b]⟩) 1 h = .ok (.int .i64 b) h := rfl

/-- The last part. -/
theorem j11_end {h0 h : H} {bp bt : Nat} {br : Option Nat} (g : Grow h0 h) (p : Pns h bp bt br (rows7 64) 64) (f : ∀ x, Ft bp bt br x → h0.next ≤ x) :
    ∃ h', Grow h0 h' ∧ F10.j11 Try.prog CLM (.pointer (some ⟨bp, 0, none⟩)) h = .ok (.bool true) h' := by
  obtain ⟨h1, g1, e1⟩ := pin6_full p (by rw [rows7_len]; exact Nat.le_refl _) 7 zc23 zc25 zc25
  have p1 := p.grow g1
  obtain ⟨h2, u2, e2, p2⟩ := unpin8 p1 30
  have hm := hasK_mem p.tbl.srt (rows7_mem 64 29 (by omega))
  have hh : hasK (rows7 64) 30 := hm.1
  rw [if_pos hh] at e2
  have hl : (delR (rows7 64) 30).length = 63 := by
    have := hh.1
    have h64 := rows7_len 64
    unfold delR
    rw [if_pos hh, List.length_append, List.length_take, List.length_drop]
    omega
  obtain ⟨h3, br3, u3, n3, e3, p3⟩ := pin6 p2 (by omega) (by omega) 8 zc23_ok zc25_ok zc25_ok
  have hp : Pnd (delR (rows7 64) 30 ++ [(((64 + 1 : Nat) : Int), pinC ((64 + 1 : Nat) : Int) 8 zc23 zc25 zc25)]) := by
    intro r hr
    rcases List.mem_append.1 hr with q | q
    · exact ⟨7, _, rows7_form 64 r (delR_sub q)⟩
    · simp only [List.mem_singleton] at q; subst q; exact ⟨8, _, rfl⟩
  obtain ⟨h4, g4, e4⟩ := of20 p3 hp 7
  have hc : cnt 7 (delR (rows7 64) 30 ++ [(((64 + 1 : Nat) : Int), pinC ((64 + 1 : Nat) : Int) 8 zc23 zc25 zc25)]) = 63 := by
    unfold cnt
    rw [List.filter_append, List.filter_eq_self.2, List.length_append, hl]
    · rfl
    · intro r hr
      have := rows7_form 64 r (delR_sub hr)
      exact decide_eq_true (genOf_eq (l := zc23 ++ (zc25 ++ zc25)) this)
  rw [hc] at e4
  have gg : Grow h0 h4 := (grow_upd (grow_upd (g.trans g1) u2 f) u3 f).trans g4
  refine ⟨h4, gg, ?_⟩
  rw [F10.j11_eq, bd23, go_ok, bd25, go_ok, bd25, go_ok, e1, go_ok, xextract_0, go_ok, xextract_1, go_ok, e2, go_ok, bd23, go_ok, bd25, go_ok, bd25, go_ok, e3, go_ok, xextract_0, go_ok, xextract_1, go_ok,
    xeql, go_ok, ifV_dec, if_pos rfl, num7, go_ok, xeql, go_ok, ifV_dec, if_pos rfl, num7, go_ok, xeql, go_ok, ifV_dec, if_pos rfl, xeql, go_ok, ifV_dec, if_pos (by omega : ((64 + 1 : Nat) : Int) = 65), num7, go_ok, xeql, go_ok, ifV_dec, if_pos rfl, e4, go_ok, xeql, go_ok]
  rfl

/-- The 64 pins. -/
theorem loop6 {h0 : H} {bp bt : Nat} : ∀ (d n : Nat) {h : H} {br : Option Nat}, n + d = 64 → Grow h0 h → Pns h bp bt br (rows7 n) n → (∀ x, Ft bp bt br x → h0.next ≤ x) →
    ∃ h', Grow h0 h' ∧ F10.l6 Try.prog CLM (.pointer (some ⟨bp, 0, none⟩)) (.int .i64 ((n + 1 : Nat) : Int)) h = .ok (.bool true) h' := by
  intro d
  induction d with
  | zero =>
    intro n h br hn g p f
    have : n = 64 := by omega
    subst this
    obtain ⟨h', g', e'⟩ := j11_end g p f
    refine ⟨h', g', ?_⟩
    rw [F10.l6_eq, xleq, go_ok, ifV_dec, if_neg (by omega)]
    exact e'
  | succ d ih =>
    intro n h br hn g p f
    obtain ⟨h1, br1, u1, n1, e1, p1⟩ := pin6 p (by rw [rows7_len]; omega) (by omega) 7 zc23_ok zc25_ok zc25_ok
    have hg1 := grow_upd g u1 f
    have f1 : ∀ x, Ft bp bt (some br1) x → h0.next ≤ x := by
      intro x hx
      rcases hx with q | q | q
      · exact f x (.inl q)
      · exact f x (.inr (.inl q))
      · cases q; have := g.next; omega
    obtain ⟨h2, g2, e2⟩ := ih (n + 1) (by omega) hg1 p1 f1
    refine ⟨h2, g2, ?_⟩
    have hw : IntKind.i64.wrap (((n + 1 : Nat) : Int) + 1) = ((n + 1 + 1 : Nat) : Int) := by rw [wrap64 (by omega)]; omega
    rw [F10.l6_eq, xleq, go_ok, ifV_dec, if_pos (by omega), F10.j8_eq, bd23, go_ok, bd25, go_ok, bd25, go_ok, e1, go_ok, xextract_0, go_ok, xextract_1, go_ok, xneq, go_ok, ifV_not, if_pos rfl, num7, go_ok, xneq, go_ok, ifV_not, if_pos rfl, xadd, go_ok, hw]
    exact e2

theorem started (h : H) : ∃ h', Grow h h' ∧ CLM (.f 10) [] h = .ok (.bool true) h' := by
  let h1 := h.alloc (.cells (opsC ops8) 63 0 false)
  have g1 : Grow h h1 := (Grow.refl h).alloc _
  have b1 : h1.get h.next = some (.cells (opsC ops8) 63 0 false) := H.alloc_self _ _
  obtain ⟨h2, g2, e2, p2, n2⟩ := new5 h1
  have n1 : h1.next = h.next + 1 := rfl
  obtain ⟨h3, g3, e3⟩ := loop6 (h0 := h) 64 0 (by omega) (g1.trans g2) p2 (fun x hx => by rcases hx with q | q | q; omega; omega; cases q)
  refine ⟨h3, g3, ?_⟩
  rw [cM10, F10.eq, bd63a, go_ok, bd63a, go_ok, bd63a, go_ok, bd63c, go_ok, bd63b, go_ok, bd63b, go_ok, bd63b, go_ok, bd63c, go_ok, bs64, go_ok]
  rw [show h.alloc (.cells (opsC ops8) 63 0 false) = h1 from rfl, e2, go_ok, nonnil27, go_ok, ifV_f, ints19 (g2.old _ _ b1), go_ok, xun_not, go_ok, ifV_bool]
  show F10.j5 Try.prog CLM _ h2 = _
  rw [F10.j5_eq]
  exact e3

/-- PinsStay: true; what was there is as it was. -/
theorem stay {h : H} {gen : Int} {k r m : List Value} {x4 : Value} {acts : List AT} (hg : i64ok gen) (hk : PartOk 32 23 k) (hr : PartOk 34 25 r) (hm : PartOk 34 25 m) (hok : ∀ a ∈ acts, a.Ok) (hs : Scr h h.next x4 acts) :
    ∃ h', CLM (.f 3) [.int .i64 gen, .agg ⟨k⟩, .agg ⟨r⟩, .agg ⟨m⟩, x4] h = .ok (.bool true) h' ∧ Grow h h' := stay3 started hg hk hr hm hok hs

end Go.Proofs.Ytomboannkblccaa.K
