/- The pins' program: the list of pins. -/
import Derived.Test.YtomboannkblccaaPnF
namespace Go.Proofs.Ytomboannkblccaa.K
open Go Go.Kx
set_option linter.unusedVariables false
set_option linter.unusedSimpArgs false
set_option maxRecDepth 20000

theorem bd77 (h : H) : xbuild Try.prog 77 [] h = .ok (.agg ⟨[.slice none 0 0]⟩) h := by kernel_rfl
theorem bd56 (a : Addr) (h : H) : xbuild Try.prog 56 [(0, .pointer (some a))] h = .ok (.agg ⟨[.pointer (some a), .int .i64 0]⟩) h := by kernel_rfl
theorem bd38_0 (h : H) : xbuild Try.prog 38 [] h = .ok (.agg ⟨zc38⟩) h := by kernel_rfl

def pa (l : List Value) (o n : Nat) (p : List Value) : List Value := l.take o ++ (p ++ l.drop (o + n))
theorem pa_app {x y z p : List Value} {o n : Nat} (hx : x.length = o) (hy : y.length = n) : pa (x ++ (y ++ z)) o n p = x ++ (p ++ z) := by
  unfold pa
  rw [List.take_left' hx, ← List.drop_drop, List.drop_left' hx, List.drop_left' hy]
theorem split_at (l : List Value) (n m : Nat) (h : l.length = n + m) : ∃ a b, l = a ++ b ∧ a.length = n ∧ b.length = m := ⟨l.take n, l.drop n, (List.take_append_drop n l).symm, by simp; omega, by simp; omega⟩

theorem bd38 {k r m : List Value} (hk : k.length = 32) (hr : r.length = 34) (hm : m.length = 34) (a b : Int) (h : H) :
    xbuild Try.prog 38 [(0, .int .i64 a), (1, .int .i64 b), (2, .agg ⟨k⟩), (3, .agg ⟨r⟩), (4, .agg ⟨m⟩)] h = .ok (.agg ⟨.int .i64 a :: .int .i64 b :: (k ++ (r ++ m))⟩) h := by
  have e : xbuild Try.prog 38 [(0, .int .i64 a), (1, .int .i64 b), (2, .agg ⟨k⟩), (3, .agg ⟨r⟩), (4, .agg ⟨m⟩)] h =
      okA (bif Nat.beq (Value.agg ⟨k⟩).cells.size 32 && Nat.ble (2 + 32) (pa (pa zc38 0 1 [Value.int .i64 a]) 1 1 [Value.int .i64 b]).length then
        (bif Nat.beq (Value.agg ⟨r⟩).cells.size 34 && Nat.ble (34 + 34) (pa (pa (pa zc38 0 1 [Value.int .i64 a]) 1 1 [Value.int .i64 b]) 2 32 k).length then
          (bif Nat.beq (Value.agg ⟨m⟩).cells.size 34 && Nat.ble (68 + 34) (pa (pa (pa (pa zc38 0 1 [Value.int .i64 a]) 1 1 [Value.int .i64 b]) 2 32 k) 34 34 r).length then
            some (pa (pa (pa (pa (pa zc38 0 1 [Value.int .i64 a]) 1 1 [Value.int .i64 b]) 2 32 k) 34 34 r) 68 34 m) else none) else none) else none) h := by kernel_rfl
  obtain ⟨z1, y1, h1, l1, m1⟩ := split_at zc38 1 101 zc38_len
  obtain ⟨z2, y2, h2, l2, m2⟩ := split_at y1 1 100 m1
  obtain ⟨z3, y3, h3, l3, m3⟩ := split_at y2 32 68 m2
  obtain ⟨z4, z5, h4, l4, l5⟩ := split_at y3 34 34 m3
  have p1 : pa zc38 0 1 [Value.int .i64 a] = [Value.int .i64 a] ++ y1 := by rw [h1]; exact pa_app (x := []) rfl l1
  have p2 : pa ([Value.int .i64 a] ++ y1) 1 1 [Value.int .i64 b] = [Value.int .i64 a] ++ ([Value.int .i64 b] ++ y2) := by rw [h2]; exact pa_app rfl l2
  have p3 : pa ([Value.int .i64 a] ++ ([.int .i64 b] ++ y2)) 2 32 k = [Value.int .i64 a, .int .i64 b] ++ (k ++ y3) := by rw [h3]; exact pa_app (x := [Value.int .i64 a, .int .i64 b]) rfl l3
  have p4 : pa ([Value.int .i64 a, .int .i64 b] ++ (k ++ y3)) 34 34 r = ([Value.int .i64 a, .int .i64 b] ++ k) ++ (r ++ z5) := by
    rw [h4, ← List.append_assoc]; exact pa_app (by simp [hk]) l4
  have p5 : pa (([Value.int .i64 a, .int .i64 b] ++ k) ++ (r ++ z5)) 68 34 m = (([Value.int .i64 a, .int .i64 b] ++ k) ++ r) ++ (m ++ []) := by
    rw [← List.append_assoc, show z5 = z5 ++ [] by simp]; exact pa_app (by simp [hk, hr]) l5
  have q2 : ([Value.int .i64 a] ++ ([Value.int .i64 b] ++ y2)).length = 102 := by simp [m2]
  have q3 : ([Value.int .i64 a, .int .i64 b] ++ (k ++ y3)).length = 102 := by simp [hk, m3]
  have q4 : (([Value.int .i64 a, .int .i64 b] ++ k) ++ (r ++ z5)).length = 102 := by simp [hk, hr, l5]
  rw [e, p1, p2, p3, p4, p5, q2, q3, q4, asz, asz, asz, hk, hr, hm]
  simp [okA, show Nat.ble (2 + 32) 102 = true from rfl, show Nat.ble (34 + 34) 102 = true from rfl, show Nat.ble (68 + 34) 102 = true from rfl, show Nat.ble 34 102 = true from rfl, show Nat.ble 68 102 = true from rfl, show Nat.ble 102 102 = true from rfl]

/-- A list of pins, and where it lies. -/
structure Pns (h : H) (bp bt : Nat) (br : Option Nat) (rows : List Rw) (last : Nat) : Prop where
  pin : h.get bp = some (.cells [.pointer (some ⟨bt, 0, none⟩), .int .i64 (last : Nat)] 56 0 false)
  tbl : Tbl h bt br rows
  ne1 : bp ≠ bt
  ne2 : some bp ≠ br
  keys : ∀ r ∈ rows, r.1 ≤ (last : Int)

/-- The blocks of a list of pins. -/
def Ft (bp bt : Nat) (br : Option Nat) (b : Nat) : Prop := b = bp ∨ b = bt ∨ some b = br

theorem Pns.upd {S : Nat → Prop} {h h' : H} (u : Upd S h h') {bp bt : Nat} {br : Option Nat} {rows : List Rw} {last : Nat} (p : Pns h bp bt br rows last) (hs : ∀ b, Ft bp bt br b → ¬ S b) : Pns h' bp bt br rows last :=
  ⟨u.old _ _ (hs _ (.inl rfl)) p.pin, p.tbl.upd u (hs _ (.inr (.inl rfl))) fun b e => hs _ (.inr (.inr e.symm)), p.ne1, p.ne2, p.keys⟩
theorem Pns.grow {h h' : H} (g : Grow h h') {bp bt : Nat} {br : Option Nat} {rows : List Rw} {last : Nat} (p : Pns h bp bt br rows last) : Pns h' bp bt br rows last := p.upd (g.upd fun _ => False) fun _ _ => id

theorem new5 (h : H) : ∃ h', Grow h h' ∧ CLM (.f 5) [] h = .ok (.pointer (some ⟨h.next + 1, 0, none⟩)) h' ∧ Pns h' (h.next + 1) h.next none [] 0 ∧ h'.next = h.next + 2 := by
  have e14 : CLM (.f 14) [] h = .ok (.pointer (some ⟨h.next, 0, none⟩)) (h.alloc (.cells [.slice none 0 0] 77 0 false)) := by
    rw [cM14, F14.eq]
    simp only [bd77, go_ok, xbox_eq, cells_agg]
  rw [cM5, F5.eq]
  simp only [e14, go_ok, bd56, xbox_eq, cells_agg]
  have g1 : Grow h (h.alloc (.cells [.slice none 0 0] 77 0 false)) := (Grow.refl h).alloc _
  have hb : ((h.alloc (.cells [.slice none 0 0] 77 0 false)).alloc (.cells [.pointer (some ⟨h.next, 0, none⟩), .int .i64 0] 56 0 false)).get h.next = some (.cells [.slice none 0 0] 77 0 false) := H.alloc_old (H.alloc_self _ _)
  refine ⟨_, g1.alloc _, rfl, ⟨H.alloc_self (h.alloc _) _, ⟨⟨_, hb, .inl ⟨rfl, rfl, rfl⟩⟩, by simp, fun r hr => by simp at hr, trivial, by simp⟩, by omega, by simp, fun r hr => by simp at hr⟩, rfl⟩

theorem len12 {h : H} {bp bt : Nat} {br : Option Nat} {rows : List Rw} {last : Nat} (p : Pns h bp bt br rows last) : CLM (.f 12) [.pointer (some ⟨bp, 0, none⟩)] h = .ok (.int .i64 (rows.length : Nat)) h := by
  rw [cM12, F12.eq]
  simp only [xnil_ptr, go_ok, fa56_0, ld53, H.cell_eq p.pin, List.getElem?_cons_zero, ofO_some, len p.tbl]

theorem unpin8 {h : H} {bp bt : Nat} {br : Option Nat} {rows : List Rw} {last : Nat} (p : Pns h bp bt br rows last) (k : Int) :
    ∃ h', Upd (Ft bp bt br) h h' ∧ CLM (.f 8) [.pointer (some ⟨bp, 0, none⟩), .int .i64 k] h = .ok (.int .i64 (if hasK rows k then 0 else 191)) h' ∧ Pns h' bp bt br (delR rows k) last := by
  obtain ⟨h1, u1, e1, t1⟩ := delete17 p.tbl k
  rw [cM8, F8.eq]
  simp only [xnil_ptr, go_ok, fa56_0, ld53, H.cell_eq p.pin, List.getElem?_cons_zero, ofO_some, e1, xun_not, ifV_not]
  have hp := u1.old _ _ (fun q => q.elim p.ne1 p.ne2) p.pin
  have hk : ∀ r ∈ delR rows k, r.1 ≤ (last : Int) := fun r hr => by
    unfold delR at hr
    split at hr
    · rcases List.mem_append.1 hr with q | q
      · exact p.keys r (List.mem_of_mem_take q)
      · exact p.keys r (List.mem_of_mem_drop q)
    · exact p.keys r hr
  refine ⟨h1, u1.mono fun x _ q => .inr q, ?_, ⟨hp, t1, p.ne1, p.ne2, hk⟩⟩
  split <;> rfl

theorem res9 : Try.f9.results.toList = [.cell 4 38, .tmp 5] := by kernel_rfl
theorem kfn9 {t u v : Value} {h h2 : H} (hx : xload Try.prog 38 t h = .ok u h2) : kfn Try.prog Try.f9.results.toList .normal [(4, t), (5, v)] h = .ok (.tuple ⟨[u, v]⟩) h := by
  rw [res9]
  show (match (match xload Try.prog 38 t h with | .ok u _ => some [u, v] | _ => none) with | some l => Res.ok (oneV l) h | none => .bad) = _
  rw [hx]
  rfl

theorem valOf_len {rows : List Rw} (g : Good rows) (k : Int) : (valOf rows k).length = 102 ∧ ones (valOf rows k) = true := by
  unfold valOf
  split
  · rename_i hk
    obtain ⟨r, hr⟩ : ∃ r, rows[lb rows k]? = some r := ⟨_, List.getElem?_eq_getElem hk.1⟩
    rw [hr]
    exact g _ (List.mem_of_getElem? hr)
  · exact ⟨zc38_len, zc38_ones⟩

theorem get9 {h : H} {bp bt : Nat} {br : Option Nat} {rows : List Rw} {last : Nat} (p : Pns h bp bt br rows last) (k : Int) :
    ∃ h', Grow h h' ∧ CLM (.f 9) [.pointer (some ⟨bp, 0, none⟩), .int .i64 k] h = .ok (.tuple ⟨[.agg ⟨valOf rows k⟩, .int .i64 (if hasK rows k then 0 else 191)]⟩) h' := by
  have g1 : Grow h (h.alloc (.cells zc38 38 0 false)) := (Grow.refl h).alloc _
  obtain ⟨h2, g2, e2⟩ := get18 (p.tbl.grow g1) k
  have hA : h2.get h.next = some (.cells zc38 38 0 false) := g2.old _ _ (H.alloc_self _ _)
  have g12 := g1.trans g2
  have hv := valOf_len p.tbl.good k
  have hst : (Value.agg ⟨valOf rows k⟩).cells.size = 102 := by rw [asz]; exact hv.1
  have hz : (Value.agg ⟨zc38⟩).cells.size = 102 := by rw [asz]; exact zc38_len
  let h3 := h2.alloc (.cells zc38 38 0 false)
  have hB : h3.get h2.next = some (.cells zc38 38 0 false) := H.alloc_self _ _
  have hA3 : h3.get h.next = some (.cells zc38 38 0 false) := H.alloc_old hA
  have hne : h.next ≠ h2.next := by have := H.get_lt hA; omega
  let h4 := h3.put h2.next (.cells (valOf rows k) 38 0 false)
  have hB4 : h4.get h2.next = some (.cells (valOf rows k) 38 0 false) := H.put_self hB
  have hA4 : h4.get h.next = some (.cells zc38 38 0 false) := H.put_ne hB hne hA3
  have g4 : Grow h h4 := (g12.alloc _).put (by have := g12.next; omega) (H.get_lt hB) _
  rw [cM9, F9.eq]
  simp only [al38, go_ok, xnil_ptr, fa56_0, ld53, H.cell_eq (g1.old _ _ p.pin), List.getElem?_cons_zero, ofO_some, e2, xextract_0, xextract_1]
  rw [show h2.alloc (.cells zc38 38 0 false) = h3 from rfl]
  simp only [st38 _ _ _ hst, cells_agg, H.write_all hB (by rw [zc38_len]; exact hv.1) hv.2, ofU_some, go_ok, xun_not, ifV_not]
  rw [show h3.put h2.next (.cells (valOf rows k) 38 0 false) = h4 from rfl]
  by_cases hk : hasK rows k
  · rw [if_pos hk, if_pos hk]
    simp only [ld38, H.row_all hB4 hv.1, ofA_some, go_ok, st38 _ _ _ hst, cells_agg, H.write_all hA4 (by rw [zc38_len]; exact hv.1) hv.2, ofU_some]
    rw [kfn9 (u := .agg ⟨valOf rows k⟩) (h2 := h4.put h.next (.cells (valOf rows k) 38 0 false)) (by rw [ld38, H.row_all (H.put_self hA4) hv.1]; rfl)]
    exact ex_ok (g4.put (Nat.le_refl _) (H.get_lt hA4) _) rfl
  · rw [if_neg hk, if_neg hk]
    simp only [bd38_0, go_ok, st38 _ _ _ hz, cells_agg, H.write_all hA4 rfl zc38_ones, ofU_some]
    rw [kfn9 (u := .agg ⟨zc38⟩) (h2 := h4.put h.next (.cells zc38 38 0 false)) (by rw [ld38, H.row_all (H.put_self hA4) zc38_len]; rfl)]
    exact ex_ok (g4.put (Nat.le_refl _) (H.get_lt hA4) _) (by unfold valOf; rw [if_neg hk])

/-- The cells of a pin. -/
def pinC (n gen : Int) (k r m : List Value) : List Value := .int .i64 n :: .int .i64 gen :: (k ++ (r ++ m))
theorem pinC_ok {k r m : List Value} (hk : k.length = 32 ∧ ones k = true) (hr : r.length = 34 ∧ ones r = true) (hm : m.length = 34 ∧ ones m = true) (n gen : Int) : (pinC n gen k r m).length = 102 ∧ ones (pinC n gen k r m) = true := by
  refine ⟨by simp [pinC, hk.1, hr.1, hm.1], ?_⟩
  show (true && (true && ones (k ++ (r ++ m)))) = true
  rw [ones_append hk.2 (ones_append hr.2 hm.2)]; rfl

theorem lb_all : ∀ {rows : List Rw} {k : Int}, (∀ r ∈ rows, r.1 < k) → lb rows k = rows.length
  | [], _, _ => rfl
  | r :: l, k, h => by rw [lb_cons_pos (h r (by simp)), lb_all (fun q hq => h q (by simp [hq]))]; rfl
theorem hasK_all {rows : List Rw} {k : Int} (h : ∀ r ∈ rows, r.1 < k) : ¬ hasK rows k := fun q => by have := q.1; rw [lb_all h] at this; omega
theorem insR_all {rows : List Rw} {k : Int} (h : ∀ r ∈ rows, r.1 < k) (v : List Value) : insR rows k v = rows ++ [(k, v)] := by
  unfold insR
  rw [lb_all h]
  simp

theorem pin6_full {h : H} {bp bt : Nat} {br : Option Nat} {rows : List Rw} {last : Nat} (p : Pns h bp bt br rows last) (hf : 64 ≤ rows.length) (gen : Int) (k r m : List Value) :
    ∃ h', Grow h h' ∧ CLM (.f 6) [.pointer (some ⟨bp, 0, none⟩), .int .i64 gen, .agg ⟨k⟩, .agg ⟨r⟩, .agg ⟨m⟩] h = .ok (.tuple ⟨[.int .i64 0, .int .i64 190]⟩) h' := by
  let h3 := ((h.alloc (.cells k 23 0 false)).alloc (.cells r 25 0 false)).alloc (.cells m 25 0 false)
  have g3 : Grow h h3 := (((Grow.refl h).alloc _).alloc _).alloc _
  have p3 := p.grow g3
  rw [cM6, F6.eq]
  simp only [xbox_eq, cells_agg, go_ok, H.next_alloc]
  rw [show ((h.alloc (.cells k 23 0 false)).alloc (.cells r 25 0 false)).alloc (.cells m 25 0 false) = h3 from rfl]
  simp only [xnil_ptr, go_ok, fa56_0, ld53, H.cell_eq p3.pin, List.getElem?_cons_zero, ofO_some, len p3.tbl, xgeq, ifV_dec]
  rw [if_pos (by omega)]
  exact ⟨h3, g3, rfl⟩

theorem pin6 {h : H} {bp bt : Nat} {br : Option Nat} {rows : List Rw} {last : Nat} (p : Pns h bp bt br rows last) (hf : rows.length < 64) (hlast : last < 4611686018427387904) (gen : Int) {k r m : List Value}
    (hk : k.length = 32 ∧ ones k = true) (hr : r.length = 34 ∧ ones r = true) (hm : m.length = 34 ∧ ones m = true) :
    ∃ h' br', Upd (Ft bp bt br) h h' ∧ h.next ≤ br' ∧ CLM (.f 6) [.pointer (some ⟨bp, 0, none⟩), .int .i64 gen, .agg ⟨k⟩, .agg ⟨r⟩, .agg ⟨m⟩] h = .ok (.tuple ⟨[.int .i64 ((last + 1 : Nat) : Int), .int .i64 0]⟩) h' ∧
      Pns h' bp bt (some br') (rows ++ [(((last + 1 : Nat) : Int), pinC ((last + 1 : Nat) : Int) gen k r m)]) (last + 1) := by
  let h1 := h.alloc (.cells k 23 0 false)
  let h2 := h1.alloc (.cells r 25 0 false)
  let h3 := h2.alloc (.cells m 25 0 false)
  have g3 : Grow h h3 := (((Grow.refl h).alloc _).alloc _).alloc _
  have p3 := p.grow g3
  have b1 : h3.get h.next = some (.cells k 23 0 false) := H.alloc_old (H.alloc_old (H.alloc_self _ _))
  have b2 : h3.get (h.next + 1) = some (.cells r 25 0 false) := H.alloc_old (H.alloc_self h1 _)
  have b3 : h3.get (h.next + 1 + 1) = some (.cells m 25 0 false) := H.alloc_self h2 _
  have hw : IntKind.i64.wrap ((last : Int) + 1) = ((last + 1 : Nat) : Int) := by rw [wrap64 (by omega)]; omega
  let h4 := h3.put bp (.cells [.pointer (some ⟨bt, 0, none⟩), .int .i64 ((last + 1 : Nat) : Int)] 56 0 false)
  have w4 : h3.write ⟨bp, 0 + 1, none⟩ [.int .i64 ((last + 1 : Nat) : Int)] = some h4 := by
    rw [H.write_eq p3.pin (by simp) rfl]; rfl
  have hlt := H.get_lt p.pin
  have b4 : h4.get bp = some (.cells [.pointer (some ⟨bt, 0, none⟩), .int .i64 ((last + 1 : Nat) : Int)] 56 0 false) := H.put_self p3.pin
  have u4 : Upd (fun b => b = bp) h3 h4 := (Upd.refl (fun b => b = bp) _).put (.inl rfl) (H.get_lt p3.pin) _
  have t4 : Tbl h4 bt br rows := p3.tbl.upd u4 (fun q => p.ne1 q.symm) fun b e q => p.ne2 (by rw [e, q])
  have c1 : h4.get h.next = some (.cells k 23 0 false) := u4.old _ _ (by omega) b1
  have c2 : h4.get (h.next + 1) = some (.cells r 25 0 false) := u4.old _ _ (by omega) b2
  have c3 : h4.get (h.next + 1 + 1) = some (.cells m 25 0 false) := u4.old _ _ (by omega) b3
  have hall : ∀ q ∈ rows, q.1 < ((last + 1 : Nat) : Int) := fun q hq => by have := p.keys q hq; omega
  obtain ⟨h5, br', u5, n5, e5, t5⟩ := put16 t4 (hasK_all hall) (pinC_ok hk hr hm ((last + 1 : Nat) : Int) gen) (by omega)
  rw [insR_all hall] at t5
  have hn4 : h4.next = h.next + 3 := rfl
  have b5 : h5.get bp = some (.cells [.pointer (some ⟨bt, 0, none⟩), .int .i64 ((last + 1 : Nat) : Int)] 56 0 false) := u5.old _ _ (fun q => q.elim p.ne1 p.ne2) b4
  have hst : (Value.int .i64 ((last + 1 : Nat) : Int)).cells.size = 1 := rfl
  have one : ([Value.pointer (some ⟨bt, 0, none⟩), .int .i64 ((last + 1 : Nat) : Int)] : List Value)[0 + 1]? = some (.int .i64 ((last + 1 : Nat) : Int)) := rfl
  have one3 : ([Value.pointer (some ⟨bt, 0, none⟩), .int .i64 (last : Int)] : List Value)[0 + 1]? = some (.int .i64 (last : Int)) := rfl
  rw [cM6, F6.eq]
  simp only [xbox_eq, cells_agg, go_ok, H.next_alloc]
  rw [show ((h.alloc (.cells k 23 0 false)).alloc (.cells r 25 0 false)).alloc (.cells m 25 0 false) = h3 from rfl]
  simp only [xnil_ptr, go_ok, fa56_0, ld53, H.cell_eq p3.pin, List.getElem?_cons_zero, ofO_some, len p3.tbl, xgeq, ifV_dec]
  rw [if_neg (by omega), F6.j3_eq]
  simp only [xnil_ptr, go_ok, fa56_1, ld3, H.cell_eq p3.pin, one3, ofO_some, xadd, hw, st3 _ _ _ hst, cells_int, w4, ofU_some, Res.ok1_ok, fa56_0, ld53, H.cell_eq b4, List.getElem?_cons_zero, one, ld23, H.row_all c1 hk.1, ofA_some, ld25, H.row_all c2 hr.1, H.row_all c3 hm.1, bd38 hk.1 hr.1 hm.1]
  rw [show (Value.int .i64 ((last + 1 : Nat) : Int) :: .int .i64 gen :: (k ++ (r ++ m))) = pinC ((last + 1 : Nat) : Int) gen k r m from rfl, e5]
  simp only [go_ok, xnil_ptr, fa56_1, ld3, H.cell_eq b5, one, ofO_some]
  have u : Upd (Ft bp bt br) h h5 := (g3.upd _).trans ((u4.mono fun x _ q => .inl q).trans (u5.mono fun x _ q => .inr q))
  refine ⟨h5, br', u, by omega, rfl, ⟨b5, t5, p.ne1, fun q => ?_, fun q hq => ?_⟩⟩
  · have := Option.some.inj q; omega
  · rcases List.mem_append.1 hq with q1 | q1
    · have := p.keys q q1; omega
    · simp only [List.mem_singleton] at q1; subst q1; exact Int.le_refl _

end Go.Proofs.Ytomboannkblccaa.K
