/- The pins' program: how many pins are of a generation; all pins. -/
import Derived.Test.YtomboannkblccaaPnH
namespace Go.Proofs.Ytomboannkblccaa.K
open Go Go.Kx
set_option linter.unusedVariables false
set_option linter.unusedSimpArgs false
set_option maxRecDepth 20000

/-- Each row is a pin's. -/
def Pnd (rows : List Rw) : Prop := ∀ r ∈ rows, ∃ g l, r.2 = .int .i64 r.1 :: .int .i64 g :: l
def genOf (r : Rw) : Int := match r.2 with | _ :: .int _ g :: _ => g | _ => 0
theorem genOf_eq {r : Rw} {g : Int} {l : List Value} (h : r.2 = .int .i64 r.1 :: .int .i64 g :: l) : genOf r = g := by unfold genOf; rw [h]
def cnt (g : Int) (rows : List Rw) : Nat := (rows.filter fun r => decide (genOf r = g)).length
theorem cnt_le (g : Int) (rows : List Rw) : cnt g rows ≤ rows.length := List.length_filter_le _ _

noncomputable def lp20 (x3 x5 : Value) : LpB := ⟨.ready, none, [13, 14], sub (bodyOf Try.f20) [1, 1, 0, 1, 0, 0], sub (bodyOf Try.f20) [1, 1, 0, 1, 0, 1], an20, [(3, x3), (5, x5)]⟩

structure J20 (b q3 q5 : Nat) (gen : Int) (pre : List Rw) (h : H) : Prop where
  lp : h.get b = some (.loop (lp20 (.pointer (some ⟨q3, 0, none⟩)) (.pointer (some ⟨q5, 0, none⟩))))
  vg : h.get q3 = some (.cells [.int .i64 gen] 3 0 false)
  vc : h.get q5 = some (.cells [.int .i64 (cnt gen pre : Nat)] 3 0 false)

theorem round20 {b q3 q5 : Nat} {gen : Int} {rows : List Rw} (g : Good rows) (hp : Pnd rows) (few : rows.length ≤ 1000000) (n1 : b ≠ q3) (n2 : b ≠ q5) (n3 : q3 ≠ q5) : Rounds (fun x => x = q5 ∨ x = b) b (J20 b q3 q5 gen) rows := by
  refine ⟨fun pre h h' j u => ⟨u.old _ _ j.lp, u.old _ _ j.vg, u.old _ _ j.vc⟩, fun pre r h j hpre => ?_⟩
  have hmem : r ∈ rows := hpre.subset (by simp)
  obtain ⟨gr, l, hr⟩ := hp r hmem
  have hgr := g r hmem
  have hgen := genOf_eq hr
  have hlen : pre.length + 1 ≤ rows.length := by have := hpre.length_le; simpa using this
  have hst : (Value.agg ⟨r.2⟩).cells.size = 102 := by rw [asz]; exact hgr.1
  -- the value's own cell
  let h1 := h.alloc (.cells zc38 38 0 false)
  have hq : h1.get h.next = some (.cells zc38 38 0 false) := H.alloc_self _ _
  let h2 := h1.put h.next (.cells r.2 38 0 false)
  have w2 : h1.write ⟨h.next, 0, none⟩ r.2 = some h2 := H.write_all hq (by rw [zc38_len]; exact hgr.1) hgr.2
  have g2 : Grow h h2 := ((Grow.refl h).alloc _).put (Nat.le_refl _) (H.get_lt hq) _
  have hb2 := g2.old _ _ j.lp
  let h3 := h2.put b (.loop { lp20 (.pointer (some ⟨q3, 0, none⟩)) (.pointer (some ⟨q5, 0, none⟩)) with st := .busy })
  have hb3 : h3.get b = some (.loop { lp20 (.pointer (some ⟨q3, 0, none⟩)) (.pointer (some ⟨q5, 0, none⟩)) with st := .busy }) := H.put_self hb2
  have hne : h.next ≠ b := by have := H.get_lt j.lp; omega
  have hv3 : h3.get h.next = some (.cells r.2 38 0 false) := H.put_ne hb2 hne (H.put_self hq)
  have hg3 : h3.get q3 = some (.cells [.int .i64 gen] 3 0 false) := H.put_ne hb2 (Ne.symm n1) (g2.old _ _ j.vg)
  have hc3 : h3.get q5 = some (.cells [.int .i64 (cnt gen pre : Nat)] 3 0 false) := H.put_ne hb2 (Ne.symm n2) (g2.old _ _ j.vc)
  have u3 : Upd (fun x => x = q5 ∨ x = b) h h3 := (g2.upd _).put (.inl (.inr rfl)) (H.get_lt hb2) _
  have one : r.2[0 + 1]? = some (.int .i64 gr) := by rw [hr]; rfl
  rw [cMy]
  have e0 : yldS Try.prog CLM b [.int .i64 r.1, .agg ⟨r.2⟩] h = evS Try.prog CLM an20 (sub (bodyOf Try.f20) [1, 1, 0, 1, 0, 0]) (kassign (begK b fun fr' h' => evS Try.prog CLM an20 (sub (bodyOf Try.f20) [1, 1, 0, 1, 0, 1]) (kround b) fr' h')) [(14, .agg ⟨r.2⟩), (13, .int .i64 r.1), (3, .pointer (some ⟨q3, 0, none⟩)), (5, .pointer (some ⟨q5, 0, none⟩))] h := by
    unfold yldS
    rw [j.lp]
    rfl
  rw [e0, F20.y4, al38, go_ok, st38 _ _ _ hst, cells_agg]
  rw [show h.alloc (.cells zc38 38 0 false) = h1 from rfl, w2, ofU_some, go_ok]
  have e1 : ∀ body : H → Res Value, begV b body h2 = body h3 := fun body => by unfold begV; rw [hb2]; rfl
  rw [e1, fa38_1, go_ok, ld3, H.cell_eq hv3, one, ofO_some, go_ok, ld3, H.cell_eq hg3, List.getElem?_cons_zero, ofO_some, go_ok, xeql, go_ok, ifV_dec]
  have hcnt : cnt gen (pre ++ [r]) = cnt gen pre + if gr = gen then 1 else 0 := by
    unfold cnt
    rw [List.filter_append, List.length_append]
    congr 1
    by_cases q : gr = gen <;> simp [hgen, q]
  by_cases hq2 : gr = gen
  · rw [if_pos hq2, ld3, H.cell_eq hc3, List.getElem?_cons_zero, ofO_some, go_ok, xadd, go_ok]
    have hw : IntKind.i64.wrap ((cnt gen pre : Int) + 1) = ((cnt gen (pre ++ [r]) : Nat) : Int) := by
      have := cnt_le gen pre
      rw [wrap64 (by omega), hcnt, if_pos hq2]; omega
    have hsi : (Value.int .i64 ((cnt gen (pre ++ [r]) : Nat) : Int)).cells.size = 1 := rfl
    rw [hw, st3 _ _ _ hsi, cells_int, H.write_all hc3 (l := [.int .i64 ((cnt gen (pre ++ [r]) : Nat) : Int)]) rfl rfl, ofU_some, go_ok]
    have hb4 := H.put_ne hc3 (x := .cells [.int .i64 ((cnt gen (pre ++ [r]) : Nat) : Int)] 3 0 false) n2 hb3
    refine ⟨_, by unfold krV; rw [hb4]; rfl, (u3.put (.inl (.inl rfl)) (H.get_lt hc3) _).put (.inl (.inr rfl)) (H.get_lt hb4) _, ⟨H.put_self hb4, H.put_ne hb4 (Ne.symm n1) (H.put_ne hc3 n3 hg3), H.put_ne hb4 (Ne.symm n2) (H.put_self hc3)⟩⟩
  · rw [if_neg hq2]
    refine ⟨_, by unfold krV; rw [hb3]; rfl, u3.put (.inl (.inr rfl)) (H.get_lt hb3) _, ⟨H.put_self hb3, H.put_ne hb3 (Ne.symm n1) hg3, H.put_ne hb3 (Ne.symm n2) (by rw [hcnt, if_neg hq2]; exact hc3)⟩⟩

/-- How many are of a generation. -/
theorem of20 {h : H} {bp bt : Nat} {br : Option Nat} {rows : List Rw} {last : Nat} (p : Pns h bp bt br rows last) (hp : Pnd rows) (gen : Int) :
    ∃ h', Grow h h' ∧ CLM (.f 20) [.pointer (some ⟨bp, 0, none⟩), .int .i64 gen] h = .ok (.int .i64 (cnt gen rows : Nat)) h' := by
  let h1 := h.alloc (.cells [.int .i64 gen] 3 0 false)
  have hz : zc3 = [.int .i64 0] := by kernel_rfl
  let h2 := h1.alloc (.cells zc3 3 0 false)
  have g2 : Grow h h2 := ((Grow.refl h).alloc _).alloc _
  have b1 : h2.get h.next = some (.cells [.int .i64 gen] 3 0 false) := H.alloc_old (H.alloc_self _ _)
  have b2 : h2.get (h.next + 1) = some (.cells zc3 3 0 false) := H.alloc_self h1 _
  let h3 := h2.put (h.next + 1) (.cells [.int .i64 0] 3 0 false)
  have c1 : h3.get h.next = some (.cells [.int .i64 gen] 3 0 false) := H.put_ne b2 (by omega) b1
  have c2 : h3.get (h.next + 1) = some (.cells [.int .i64 0] 3 0 false) := H.put_self b2
  have g3 : Grow h h3 := g2.put (by omega) (H.get_lt b2) _
  have p3 := p.grow g3
  let h4 := h3.alloc (.cells [.pointer (some ⟨bt, 0, none⟩)] 53 0 false)
  let h5 := h4.alloc (.cells [.func (.func 48) #[] #[]] 50 0 false)
  have g5 : Grow h3 h5 := ((Grow.refl h3).alloc _).alloc _
  have d1 : h5.get h3.next = some (.cells [.pointer (some ⟨bt, 0, none⟩)] 53 0 false) := H.alloc_old (H.alloc_self _ _)
  have d2 : h5.get (h3.next + 1) = some (.cells [.func (.func 48) #[] #[]] 50 0 false) := H.alloc_self h4 _
  have n3 : h3.next = h.next + 2 := rfl
  have n5 : h5.next = h.next + 4 := rfl
  have R := round20 (b := h5.next) (q3 := h.next) (q5 := h.next + 1) (gen := gen) p.tbl.good hp p.tbl.few (by omega) (by omega) (by omega)
  have hsi : (Value.int .i64 0).cells.size = 1 := rfl
  obtain ⟨h6, e6, u6, j6⟩ := range66 (an := an20) (ps := #[13, 14]) (ac := sub (bodyOf Try.f20) [1, 1, 0, 1, 0, 0]) (bo := sub (bodyOf Try.f20) [1, 1, 0, 1, 0, 1]) (K := fun e hh => (F20.k2 Try.prog CLM nu0) e [(5, .pointer (some ⟨h.next + 1, 0, none⟩))] hh) (S := fun x => x = h.next + 1)
    (kf := [(3, .pointer (some ⟨h.next, 0, none⟩)), (5, .pointer (some ⟨h.next + 1, 0, none⟩))]) (by kernel_rfl) (p3.tbl.grow g5) R d1 d2 (fun x q => by omega)
    ⟨H.alloc_self _ _, H.alloc_old (g5.old _ _ c1), by rw [show cnt gen [] = 0 from rfl]; exact H.alloc_old (g5.old _ _ c2)⟩ (fun h' j => j.lp)
  have hdead : (h6.put h5.next .dead).get (h.next + 1) = some (.cells [.int .i64 (cnt gen rows : Nat)] 3 0 false) := H.put_ne j6.lp (by omega) j6.vc
  have u : Upd (fun x => x = h.next + 1) h (h6.put h5.next .dead) := ((g3.trans g5).upd _).trans u6
  refine ⟨_, ⟨u.next, fun b x hb => u.old b x (fun q => by have := H.get_lt hb; omega) hb⟩, ?_⟩
  rw [cM20, F20.eq, xbox_eq, cells_int, go_ok]
  rw [show h.alloc (.cells [.int .i64 gen] 3 0 false) = h1 from rfl, al3, go_ok]
  rw [show h1.alloc (.cells zc3 3 0 false) = h2 from rfl, show h1.next = h.next + 1 from rfl, st3 _ _ _ hsi, cells_int, H.write_all b2 (l := [.int .i64 0]) (by rw [hz]) rfl, ofU_some, go_ok]
  rw [show h2.put (h.next + 1) (.cells [.int .i64 0] 3 0 false) = h3 from rfl, xnil_ptr, go_ok, fa56_0, go_ok, ld53, H.cell_eq p3.pin, List.getElem?_cons_zero, ofO_some, go_ok, all33, go_ok]
  rw [show (h3.alloc (.cells [.pointer (some ⟨bt, 0, none⟩)] 53 0 false)).alloc (.cells [.func (.func 48) #[] #[]] 50 0 false) = h5 from rfl, e6]
  show F20.k2 Try.prog CLM nu0 .normal [(5, .pointer (some ⟨h.next + 1, 0, none⟩))] _ = _
  rw [F20.r4_normal, ld3, H.cell_eq hdead, List.getElem?_cons_zero, ofO_some, go_ok]

end Go.Proofs.Ytomboannkblccaa.K
