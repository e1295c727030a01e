/- The pins' program: a new key is put into a table. -/
import Derived.Test.YtomboannkblccaaPnD
namespace Go.Proofs.Ytomboannkblccaa.K
open Go Go.Kx
set_option linter.unusedVariables false
set_option linter.unusedSimpArgs false
set_option maxRecDepth 20000

def ifO (b : Bool) (l : List Value) : Option (List Value) := bif b then some l else none
def okA (o : Option (List Value)) (h : H) : Res Value := match o with | some l => .ok (.agg ⟨l⟩) h | none => .bad
def okS (o : Option (List Value)) (n : Nat) (el : TypeId) (h : H) : Res Value := match o with | some l => .ok (.slice (some ⟨h.next, 0, none⟩) n n) (h.alloc (.cells l el 0 false)) | none => .bad

theorem bd81 {v : List Value} (hv : v.length = 102) (k : Int) (h : H) : xbuild Try.prog 81 [(0, .int .i64 k), (1, .agg ⟨v⟩)] h = .ok (.agg ⟨.int .i64 k :: v⟩) h := by
  have e : xbuild Try.prog 81 [(0, .int .i64 k), (1, .agg ⟨v⟩)] h = okA (ifO (Nat.beq (Value.agg ⟨v⟩).cells.size 102 && Nat.ble (1 + 102) (zc81.take 0 ++ ([Value.int .i64 k] ++ zc81.drop 1)).length) ((zc81.take 0 ++ ([Value.int .i64 k] ++ zc81.drop 1)).take 1 ++ (v ++ (zc81.take 0 ++ ([Value.int .i64 k] ++ zc81.drop 1)).drop (1 + 102)))) h := by kernel_rfl
  rw [e]
  have h1 : (zc81.take 0 ++ ([Value.int .i64 k] ++ zc81.drop 1)).length = 103 := by simp [zc81_len]
  have h2 : (Value.agg ⟨v⟩).cells.size = 102 := by rw [asz]; exact hv
  have h3 : (zc81.take 0 ++ ([Value.int .i64 k] ++ zc81.drop 1)).take 1 = [.int .i64 k] := by simp
  have h4 : (zc81.take 0 ++ ([Value.int .i64 k] ++ zc81.drop 1)).drop (1 + 102) = [] := List.drop_eq_nil_of_le (by rw [h1]; omega)
  rw [h1, h2, h3, h4]
  simp [ifO, okA, show Nat.ble 103 103 = true from rfl, show Nat.ble (1 + 102) 103 = true from rfl]

theorem bs75 {l : List Value} (hl : l.length = 103) (h : H) : xbuildSlice Try.prog 75 1 [(0, .agg ⟨l⟩)] h = .ok (.slice (some ⟨h.next, 0, none⟩) 1 1) (h.alloc (.cells l 81 0 false)) := by
  have e : xbuildSlice Try.prog 75 1 [(0, .agg ⟨l⟩)] h = okS (ifO (Nat.beq (Value.agg ⟨l⟩).cells.size 103 && Nat.ble (0 + 103) (zc81 ++ []).length) ((zc81 ++ []).take 0 ++ (l ++ (zc81 ++ []).drop (0 + 103)))) 1 81 h := by kernel_rfl
  rw [e]
  have h1 : (zc81 ++ []).length = 103 := by simp [zc81_len]
  have h2 : (Value.agg ⟨l⟩).cells.size = 103 := by rw [asz]; exact hl
  have h4 : (zc81 ++ []).drop (0 + 103) = [] := List.drop_eq_nil_of_le (by rw [h1]; omega)
  rw [h1, h2, h4]
  simp [ifO, okS, show Nat.ble 103 103 = true from rfl, show Nat.ble (0 + 103) 103 = true from rfl]

/-- A row put in its place. -/
def insR (rows : List Rw) (k : Int) (v : List Value) : List Rw := rows.take (lb rows k) ++ (k, v) :: rows.drop (lb rows k)

theorem zf81 : zeroFits Try.prog 81 = true := by kernel_rfl
theorem by81 : bytesOf Try.prog 81 ≤ 4096 := by
  have : Nat.ble (bytesOf Try.prog 81) 4096 = true := by kernel_rfl
  exact Nat.le_of_ble_eq_true this

/-- slices.Insert of one row. -/
theorem ins28 {h : H} {sl : Value} {br : Option Nat} {vb : Nat} {rows : List Rw} {r : Rw} (hs : SlOk h sl br rows) (hg : Good rows) (hr : r.2.length = 102 ∧ ones r.2 = true) (few : rows.length ≤ 1000000)
    (hv : h.get vb = some (.cells (.int .i64 r.1 :: r.2) 81 0 false)) {i : Nat} (hi : i ≤ rows.length) :
    ∃ h', Upd (fun b => some b = br) h h' ∧ CLM (.f 28) [sl, .int .i64 (i : Nat), .slice (some ⟨vb, 0, none⟩) 1 1] h = .ok (.slice (some ⟨h.next, 0, none⟩) (rows.length + 1) (rows.length + 1)) h' ∧
      h.next < h'.next ∧ h'.get h.next = some (.cells (rowsC (rows.take i ++ r :: rows.drop i)) 81 0 true) := by
  have hone : ones (Value.int .i64 r.1 :: r.2) = true := by show (true && ones r.2) = true; rw [hr.2]; rfl
  have hrow : h.row ⟨vb, 0, none⟩ (1 * 103) = some (.int .i64 r.1 :: r.2) := H.row_all hv (by simp [hr.1])
  have hb1 : Nat.ble ((rows.length + 1) * bytesOf Try.prog 81) 35184372088832 = true := Nat.ble_eq_true_of_le (by
    have := Nat.mul_le_mul (show rows.length + 1 ≤ 1000001 by omega) by81
    omega)
  have hb2 : Nat.ble (rows.length + 1) 35184372088832 = true := Nat.ble_eq_true_of_le (by omega)
  have hb3 : Nat.ble (bytesOf Try.prog 81) 1048576 = true := Nat.ble_eq_true_of_le (by have := by81; omega)
  have hlist : (rowsC rows).take (i * 103) ++ ((.int .i64 r.1 :: r.2) ++ (rowsC rows).drop (i * 103)) = rowsC (rows.take i ++ r :: rows.drop i) := by
    have h1 := rowsC_take hg hi []
    have h2 := rowsC_drop hg hi []
    simp only [List.append_nil] at h1 h2
    rw [h1, h2, rowsC_app]
    simp [rowsC]
  rw [cM28]
  rcases hs with ⟨rfl, rfl, rfl⟩ | ⟨br, spare, cap, rfl, rfl, hb, hl, ho⟩
  · have hi0 : i = 0 := by simpa using hi
    subst hi0
    have e : primM 28 [.slice none 0 0, .int .i64 ((0 : Nat) : Int), .slice (some ⟨vb, 0, none⟩) 1 1] h = .ok (.slice (some ⟨h.next, 0, none⟩) 1 1) (h.alloc (.cells (.int .i64 r.1 :: r.2) 81 0 true)) := by
      rw [pm28]
      unfold insP
      simp only [eo75, co81, firstC, hrow, insOk, hv, hone, zf81]
      simp only [List.length_nil, Nat.zero_add] at hb1 hb2
      simp [hb1, hb2, hb3, H.leave]
      rfl
    rw [e]
    exact ⟨_, (Upd.refl _ h).alloc _, rfl, Nat.lt_succ_self _, by rw [H.alloc_self]; simp [rowsC]⟩
  · have hne : br ≠ vb := fun q => by subst q; rw [hb] at hv; simp at hv
    have hlen := rowsC_len hg
    have hfirst : h.row ⟨br, 0, none⟩ (rows.length * 103) = some (rowsC rows) := by
      rw [H.row_eq hb (by rw [List.length_append]; omega), List.drop_zero]
      have := rowsC_take hg (Nat.le_refl _) spare
      rw [List.take_length] at this
      rw [this]
    have hcap : rows.length ≤ cap := by rw [List.length_append] at hl; omega
    have e : primM 28 [.slice (some ⟨br, 0, none⟩) rows.length cap, .int .i64 (i : Int), .slice (some ⟨vb, 0, none⟩) 1 1] h = .ok (.slice (some ⟨h.next, 0, none⟩) (rows.length + 1) (rows.length + 1)) ((h.put br .dead).alloc (.cells (rowsC (rows.take i ++ r :: rows.drop i)) 81 0 true)) := by
      rw [pm28]
      unfold insP
      simp only [eo75, co81, firstC, hrow, hfirst, insOk, hb, hv, hone, zf81, ones_append (rowsC_ones hg) ho]
      have hbq : Nat.beq br vb = false := beqF hne
      have c1 : Nat.ble i rows.length = true := Nat.ble_eq_true_of_le hi
      have c2 : Nat.ble rows.length cap = true := Nat.ble_eq_true_of_le hcap
      have c3 : Nat.beq (r.2.length + 1) 0 = false := by rw [hr.1]; rfl
      have hlist' : (rowsC rows).take (i * 103) ++ .int .i64 r.1 :: (r.2 ++ (rowsC rows).drop (i * 103)) = rowsC (rows.take i ++ r :: rows.drop i) := by simpa using hlist
      simp [hb1, hb2, hb3, H.leave, hb, hbq, c1, c2, c3, hlist', show Nat.blt 0 1 = true from rfl, show Nat.ble 1 1 = true from rfl]
    rw [e]
    exact ⟨_, ((Upd.refl (fun b => some b = some br) h).put (.inl rfl) (H.get_lt hb) _).alloc _, rfl, Nat.lt_succ_self _, H.alloc_self _ _⟩

theorem lb_cons_pos {r : Rw} {l : List Rw} {k : Int} (h : r.1 < k) : lb (r :: l) k = lb l k + 1 := by
  unfold lb
  rw [List.takeWhile_cons_of_pos (by simpa using h)]
  simp
theorem lb_cons_neg {r : Rw} {l : List Rw} {k : Int} (h : ¬ r.1 < k) : lb (r :: l) k = 0 := by
  unfold lb
  rw [List.takeWhile_cons_of_neg (by simpa using h)]
  simp
theorem ins_len (rows : List Rw) (k : Int) (v : List Value) : (insR rows k v).length = rows.length + 1 := by
  have := lb_le rows k
  simp only [insR, List.length_append, List.length_cons, List.length_take, List.length_drop]
  omega
theorem ins_good {rows : List Rw} (g : Good rows) {k : Int} {v : List Value} (hv : v.length = 102 ∧ ones v = true) : Good (insR rows k v) := by
  intro r hr
  rcases List.mem_append.1 hr with h | h
  · exact g r (List.mem_of_mem_take h)
  · rcases List.mem_cons.1 h with rfl | h
    · exact hv
    · exact g r (List.mem_of_mem_drop h)
theorem ins_mem {rows : List Rw} {k : Int} {v : List Value} {q : Rw} (h : q ∈ insR rows k v) : q = (k, v) ∨ q ∈ rows := by
  rcases List.mem_append.1 h with h | h
  · exact .inr (List.mem_of_mem_take h)
  · rcases List.mem_cons.1 h with rfl | h
    · exact .inl rfl
    · exact .inr (List.mem_of_mem_drop h)
theorem ins_srt : ∀ {rows : List Rw} (s : Srt rows) {k : Int} (v : List Value), ¬ hasK rows k → Srt (insR rows k v)
  | [], _, k, v, _ => ⟨fun q hq => by simp at hq, trivial⟩
  | r :: l, s, k, v, hk => by
    by_cases hr : r.1 < k
    · have e : insR (r :: l) k v = r :: insR l k v := by unfold insR; rw [lb_cons_pos hr]; rfl
      have hk' : ¬ hasK l k := fun q => hk ⟨by rw [lb_cons_pos hr]; simpa using q.1, by rw [lb_cons_pos hr]; simpa [key] using q.2⟩
      rw [e]
      refine ⟨fun q hq => ?_, ins_srt s.2 v hk'⟩
      rcases ins_mem hq with rfl | hq
      · exact hr
      · exact s.1 q hq
    · have e : insR (r :: l) k v = (k, v) :: r :: l := by unfold insR; rw [lb_cons_neg hr]; rfl
      have hne : r.1 ≠ k := fun q => hk ⟨by rw [lb_cons_neg hr]; simp, by rw [lb_cons_neg hr]; simpa [key] using q⟩
      have hlt : k < r.1 := by omega
      rw [e]
      refine ⟨fun q hq => ?_, s⟩
      rcases List.mem_cons.1 hq with rfl | hq
      · exact hlt
      · have := s.1 q hq
        show k < q.1
        omega

theorem rc_slice (b n c : Nat) (h : H) : rc (.ok (.slice (some ⟨b, 0, none⟩) n c) h) (some (.slice (some ⟨b, 0, none⟩) n c)) = true := by simp [rc, veq]
theorem rc_nil (n c : Nat) (h : H) : rc (.ok (.slice none n c) h) (some (.slice none n c)) = true := by simp [rc, veq]

/-- A new key is put. -/
theorem put16 {h : H} {bt : Nat} {br : Option Nat} {rows : List Rw} (t : Tbl h bt br rows) {k : Int} (hk : ¬ hasK rows k) {v : List Value} (hv : v.length = 102 ∧ ones v = true) (few : rows.length < 1000000) :
    ∃ h' br', Upd (fun b => b = bt ∨ some b = br) h h' ∧ h.next ≤ br' ∧ CLM (.f 16) [.pointer (some ⟨bt, 0, none⟩), .int .i64 k, .agg ⟨v⟩] h = .ok (.bool false) h' ∧ Tbl h' bt (some br') (insR rows k v) := by
  let h1 := h.alloc (.cells v 38 0 false)
  have g1 : Grow h h1 := (Grow.refl h).alloc _
  obtain ⟨h2, g2, e2⟩ := place (t.grow g1) k
  have g12 := g1.trans g2
  have hA : h2.get h.next = some (.cells v 38 0 false) := g2.old _ _ (H.alloc_self _ _)
  have t2 := t.grow g12
  obtain ⟨sl, q1, q2⟩ := t2.sl
  have hl : (Value.int .i64 k :: v).length = 103 := by simp [hv.1]
  let h3 := h2.alloc (.cells (.int .i64 k :: v) 81 0 false)
  have g3 : Grow h2 h3 := (Grow.refl h2).alloc _
  have q2' : SlOk h3 sl br rows := by
    refine q2.imp id ?_
    rintro ⟨b, sp, cap, e, a, c, d, f⟩
    exact ⟨b, sp, cap, e, a, g3.old _ _ c, d, f⟩
  obtain ⟨h4, u4, e4, n4, b4⟩ := ins28 (r := (k, v)) q2' t.good hv t.few (H.alloc_self h2 _) (lb_le rows k)
  have hbt3 : h3.get bt = some (.cells [sl] 77 0 false) := g3.old _ _ q1
  have hbt4 : h4.get bt = some (.cells [sl] 77 0 false) := u4.old _ _ t.ne hbt3
  have hst : (Value.slice (some ⟨h3.next, 0, none⟩) (rows.length + 1) (rows.length + 1)).cells.size = 1 := rfl
  have hbtlt := H.get_lt hbt4
  have hnext3 : h2.next + 1 = h3.next := rfl
  have hbt2 : bt < h2.next := H.get_lt q1
  have hrc : (rc (xload Try.prog 75 (.pointer (some ⟨bt, 0, none⟩)) h3) (some sl) && true) = true := by
    rw [ld75, H.cell_eq hbt3, List.getElem?_cons_zero, ofO_some]
    rcases q2 with ⟨_, rfl, _⟩ | ⟨b, sp, cap, _, rfl, _⟩
    · rw [rc_nil]; rfl
    · rw [rc_slice]; rfl
  rw [cM16, F16.eq]
  simp only [xbox_eq, cells_agg, go_ok]
  rw [show h.alloc (.cells v 38 0 false) = h1 from rfl, e2]
  simp only [go_ok, xextract_0, xextract_1, ifV_dec]
  rw [if_neg hk, F16.j5_eq]
  simp only [xnil_ptr, Res.ok1_ok, fa77_0, ld75, H.cell_eq q1, List.getElem?_cons_zero, ofO_some, ld38, H.row_all hA hv.1, ofA_some, bd81 hv.1, bs75 hl, go_ok]
  rw [show h2.alloc (.cells (.int .i64 k :: v) 81 0 false) = h3 from rfl]
  simp only [ld75] at hrc
  rw [hrc]
  simp only [cond_true]
  rw [show (Value.slice (some ⟨h2.next, 0, none⟩) 1 1) = .slice (some ⟨h2.next, 0, none⟩) 1 1 from rfl, e4]
  simp only [go_ok, xnil_ptr, Res.ok1_ok, fa77_0, st75 _ _ _ hst, cells_slice, H.write_all hbt4 (l := [.slice (some ⟨h3.next, 0, none⟩) (rows.length + 1) (rows.length + 1)]) rfl rfl, ofU_some]
  have u : Upd (fun b => b = bt ∨ some b = br) h h4 := ((g12.trans g3).upd _).trans (u4.mono fun x _ q => .inr q)
  refine ⟨_, h3.next, u.put (.inl (.inl rfl)) hbtlt _, ?_, rfl, ⟨⟨_, H.put_self hbt4, .inr ⟨_, [], rows.length + 1, rfl, ?_, ?_, ?_, rfl⟩⟩, ?_, ins_good t.good hv, ins_srt t.srt v hk, by rw [ins_len]; omega⟩⟩
  · exact Nat.le_trans g12.next g3.next
  · rw [ins_len]
  · rw [List.append_nil]; exact H.put_ne hbt4 (by omega) b4
  · rw [List.append_nil, rowsC_len (ins_good t.good hv), ins_len]
  · intro q; have := Option.some.inj q; omega

end Go.Proofs.Ytomboannkblccaa.K
