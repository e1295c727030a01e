/- My texts for this claim, in one file: part 23. -/
import Derived.Lib.Overlaps
import Derived.Test.YtialpopmeamojaaGreatPV22
namespace Go.Kx
open Go
set_option linter.unusedVariables false
set_option linter.unusedSimpArgs false
section
variable {P : Program} {t e : TypeId} {b o n cap : Nat} {h : H}
theorem xslice_c {c : List Value} {el : TypeId} {f : Nat} {lo hi : Option Value} {l u : Nat} (hu : P.underlying t = some (.slice e)) (hz : szOk P e = true) (hg : h.get b = some (.cells c el f false))
    (h1 : asNat? lo 0 = some l) (h2 : asNat? hi n = some u) (hlu : l ≤ u) (huc : u ≤ cap) (hlc : l < cap) :
    xslice P t (.slice (some ⟨b,o,none⟩) n cap) lo hi none h = .ok (.slice (some ⟨b,o + l * P.cellsOf e,none⟩) (u - l) (cap - l)) h := by
  unfold xslice
  simp only [hu,h1,h2,show asNat? none cap = some cap from rfl,Nat.ble_eq_true_of_le hlu,Nat.ble_eq_true_of_le huc,Nat.ble_eq_true_of_le (Nat.le_refl cap),hz,Bool.and_true,cond_true,H.opnSz,hg,cutAt,beqF (show ¬ cap = l by omega),cond_false]
theorem xslice_c_any {c : List Value} {el : TypeId} {f : Nat} {lo : Option Value} {l : Nat} (hu : P.underlying t = some (.slice e)) (hz : szOk P e = true) (hg : h.get b = some (.cells c el f false))
    (h1 : asNat? lo 0 = some l) (hlu : l ≤ n) (huc : n ≤ cap) : ∃ v,xslice P t (.slice (some ⟨b,o,none⟩) n cap) lo none none h = .ok v h := by
  unfold xslice
  simp only [hu,h1,show asNat? none cap = some cap from rfl,show asNat? none n = some n from rfl,Nat.ble_eq_true_of_le hlu,Nat.ble_eq_true_of_le huc,Nat.ble_eq_true_of_le (Nat.le_refl cap),hz,Bool.and_true,cond_true,H.opnSz,hg]
  exact ⟨_,rfl⟩
theorem xlen_s {x : Option Addr} (hu : P.underlying t = some (.slice e)) : xbuiltin P .len [t] [.slice x n cap] h = .ok (.int .i64 (n : Nat)) h := by
  show xlen P t _ h = _
  unfold xlen
  simp only [hu]; rfl
theorem xcap_c {c : List Value} {el : TypeId} {f : Nat} (hu : P.underlying t = some (.slice e)) (hg : h.get b = some (.cells c el f false)) : xbuiltin P .cap [t] [.slice (some ⟨b,o,none⟩) n cap] h = .ok (.int .i64 (cap : Nat)) h := by
  show xcap P t _ h = _
  unfold xcap
  simp only [hu,H.opnSz,hg]; rfl
theorem xcopy_s {a : Option Addr} {k cp : Nat} {l : List Value} {h' : H} (he : elemOf? P t = some e) (hz : szOk P e = true) (hf : firstC h (P.cellsOf e) (Nat.min k n) (.slice a k cp) = some l) (h0 : Nat.min k n ≠ 0)
    (hw : h.write ⟨b,o,none⟩ l = some h') : xbuiltin P .copy [t,t] [.slice (some ⟨b,o,none⟩) n cap,.slice a k cp] h = .ok (goInt (Nat.min k n)) h' := by
  show xcopy P t _ _ h = _
  unfold xcopy
  simp only [he,lenV_slice,hz,cond_true,firstD,beqF h0,cond_false,hf,hw]
end
theorem xapp_mk {P : Program} {t e it : TypeId} {b o n cap k : Nat} {z : Value} {old : List Value} {h : H} (he : elemOf? P t = some e) (hz : szOk P e = true) (hx : isIntT P it = some true) (zf : zeroFits P e = true) (hzz : zeroOf P e = some z)
    (ho : h.row ⟨b,o,none⟩ (n * P.cellsOf e) = some old) (hk : ¬ n + k ≤ cap) (b1 : (n + k) * bytesOf P e ≤ 35184372088832) (b2 : n + k ≤ 35184372088832) (b3 : bytesOf P e ≤ 1048576) (ha : appOk e h (some ⟨b,o,none⟩) = true) :
    xbuiltin P .append [t,it] [.slice (some ⟨b,o,none⟩) n cap,.int .i64 (k : Nat)] h = .ok (.slice (some ⟨h.next,0,none⟩) (n + k) (n + k)) ((h.leave (some ⟨b,o,none⟩)).alloc (.cells (old ++ repeatL z.cells.toList k) e 0 true)) := by
  show xappend P t it _ _ h = _
  have hb : Nat.ble (n + k) cap = false := by
    cases q : Nat.ble (n + k) cap with
    | false => rfl
    | true => exact absurd (Nat.le_of_ble_eq_true q) hk
  have hzs : Nat.beq z.cells.size (P.cellsOf e) = true ∧ ones z.cells.toList = true := by
    unfold zeroFits at zf
    rw [hzz] at zf
    simpa [Bool.and_eq_true] using zf
  have hkb : k * bytesOf P e ≤ 140737488355328 := by have := Nat.mul_le_mul_right (bytesOf P e) (Nat.le_add_left k n); omega
  have hk9 : k ≤ 9223372036854775807 := by omega
  unfold xappend appendC
  simp only [he,hz,hx,hzz,cond_true,hb,cond_false,Int.ofNat_eq_natCast]
  show (bif Nat.ble k 9223372036854775807 && Nat.beq z.cells.size (P.cellsOf e) && Nat.ble (k * bytesOf P e) 140737488355328 then _ else _) = _
  rw [Nat.ble_eq_true_of_le hk9,hzs.1,Nat.ble_eq_true_of_le hkb]
  simp only [Bool.and_true,cond_true,Nat.ble_eq_true_of_le b1,Nat.ble_eq_true_of_le b2,Nat.ble_eq_true_of_le b3,zf,ones_repeat hzs.2,ha,firstC,ho]
def insB (P : Program) (sl it : TypeId) (ov : FuncId) (K : Value → Value → Value → Value → Value → H → Res Value) (cl : Cl) (x0 x1 x2 : Value) (h : H) : Res Value :=
  (xslice P sl x0 (some x1) none none h).go .pan fun t1 h2 => (xbuiltin P .len [sl] [x2] h2).go .pan fun x7 h4 => (xbin P .eql it x7 (.int .i64 0) h4).go .pan fun t5 h => ifV t5 (.ok x0 h)
  ((xbuiltin P .len [sl] [x0] h).go .pan fun x8 h8 => (xbin P .eql it x1 x8 h8).go .pan fun t9 h => ifV t9 ((xbuiltin P .append [sl,sl] [x0,x2] h).go .pan fun t11 h12 => .ok t11 h12)
  ((xbin P .add it x8 x7 h).go .pan fun t13 h14 => (xbuiltin P .cap [sl] [x0] h14).go .pan fun t15 h16 => (xbin P .gtr it t13 t15 h16).go .pan fun t17 h18 => ifV t17
    ((xslice P sl x0 none (some x1) none h18).go .pan fun t19 h20 => (xbin P .add it x8 x7 h20).go .pan fun t21 h22 => (xbin P .sub it t21 x1 h22).go .pan fun t23 h24 => (xbuiltin P .append [sl,it] [t19,t23] h24).go .pan fun t25 h26 =>
      (xslice P sl t25 (some x1) none none h26).go .pan fun t27 h28 => (xbuiltin P .copy [sl,sl] [t27,x2] h28).go .pan fun t29 h30 => bif plain2 x1 x7 then
        (xbin P .add it x1 x7 h30).ok1 fun t31 h32 => (xslice P sl t25 (some t31) none none h32).ok1 fun t33 h34 => (xslice P sl x0 (some x1) none none h34).ok1 fun t35 h36 => (xbuiltin P .copy [sl,sl] [t33,t35] h36).go .pan fun t37 h38 => .ok t25 h38
      else .bad)
    ((xbin P .add it x8 x7 h18).go .pan fun t39 h40 => (xslice P sl x0 none (some t39) none h40).go .pan fun t41 h42 => (xbin P .add it x1 x7 h42).go .pan fun t43 h44 => (xslice P sl t41 (some t43) none none h44).go .pan fun t45 h46 =>
      (cl (.f ov) [x2,t45] h46).go .pan fun t47 h48 => (xun P .not t47 h48).go .pan fun t49 h50 => ifV t49
        (bif plain2 x1 x7 then (xbin P .add it x1 x7 h50).ok1 fun t51 h52 => (xslice P sl t41 (some t51) none none h52).ok1 fun t53 h54 => (xslice P sl t41 (some x1) none none h54).ok1 fun t55 h56 => (xbuiltin P .copy [sl,sl] [t53,t55] h56).go .pan fun t57 h58 =>
          (xslice P sl t41 (some x1) none none h58).go .pan fun t59 h60 => (xbuiltin P .copy [sl,sl] [t59,x2] h60).go .pan fun t61 h62 => .ok t41 h62
        else .bad)
        (K t41 x1 x2 x7 x8 h50))))
structure InsT (P : Program) (sl it e : TypeId) : Prop where
  u : P.underlying sl = some (.slice e)
  el : elemOf? P sl = some e
  sz : szOk P e = true
  iss : isIntT P sl = some false
  isi : isIntT P it = some true
  pos : 0 < P.cellsOf e
theorem asNat_int (i d : Nat) : asNat? (some (.int .i64 (i : Nat))) d = some i := rfl
theorem ins_in {c new : List Value} {o I M N : Nat} (hI : I ≤ N) (hM : new.length = M) (hc : o + (N + M) ≤ c.length) {C c1 : List Value} (hC : C = (c.drop (o + I)).take (N - I)) (h1 : c1 = c.take (o + (I + M)) ++ (C ++ c.drop (o + (I + M) + C.length))) :
    c1.take (o + I) ++ (new ++ c1.drop (o + I + new.length)) = c.take o ++ ((((c.drop o).take N).take I ++ (new ++ ((c.drop o).take N).drop I)) ++ c.drop (o + (N + M))) := by
  subst hM
  have lC : C.length = N - I := by rw [hC,List.length_take,List.length_drop]; omega
  obtain ⟨A,r1,e1,lA,l1⟩ : ∃ a b,c = a ++ b ∧ a.length = o ∧ b.length = c.length - o := ⟨c.take o,c.drop o,(List.take_append_drop o c).symm,by rw [List.length_take]; omega,by rw [List.length_drop]⟩
  obtain ⟨B,r2,e2,lB,l2⟩ : ∃ a b,r1 = a ++ b ∧ a.length = I ∧ b.length = r1.length - I := ⟨r1.take I,r1.drop I,(List.take_append_drop I r1).symm,by rw [List.length_take]; omega,by rw [List.length_drop]⟩
  obtain ⟨Y1,r3,e3,lY,l3⟩ : ∃ a b,r2 = a ++ b ∧ a.length = new.length ∧ b.length = r2.length - new.length := ⟨r2.take new.length,r2.drop new.length,(List.take_append_drop _ r2).symm,by rw [List.length_take]; omega,by rw [List.length_drop]⟩
  obtain ⟨Y2,Z,e4,lY2,l4⟩ : ∃ a b,r3 = a ++ b ∧ a.length = N - I ∧ b.length = r3.length - (N - I) := ⟨r3.take (N - I),r3.drop (N - I),(List.take_append_drop _ r3).symm,by rw [List.length_take]; omega,by rw [List.length_drop]⟩
  have d1 : c.drop o = r1 := by rw [e1]; exact List.drop_left' lA
  have d2 : c.drop (o + I) = r2 := by rw [← List.drop_drop,d1,e2]; exact List.drop_left' lB
  have d4 : c.drop (o + (I + new.length) + (N - I)) = Z := by rw [show o + (I + new.length) + (N - I) = o + I + (new.length + (N - I)) by omega,← List.drop_drop,d2,e3,e4,← List.drop_drop,List.drop_left' lY]; exact List.drop_left' lY2
  have d5 : c.drop (o + (N + new.length)) = Z := by rw [← d4]; congr 1; omega
  have t0 : c.take o = A := by rw [e1]; exact List.take_left' lA
  have t1 : c.take (o + (I + new.length)) = A ++ (B ++ Y1) := by
    rw [e1,e2,e3,← List.append_assoc B,← List.append_assoc A]
    exact List.take_left' (by rw [List.length_append,List.length_append]; omega)
  have t2 : r1.take N = B ++ C := by
    rw [hC,d2,e2,List.take_append,lB,List.take_of_length_le (by omega)]
  rw [d1,t2,t0,d5,List.take_left' lB,List.drop_left' lB]
  rw [t1,lC,d4] at h1
  have u1 : c1.take (o + I) = A ++ B := by rw [h1,← List.append_assoc A,List.append_assoc]; exact List.take_left' (by rw [List.length_append]; omega)
  have u2 : c1.drop (o + I + new.length) = C ++ Z := by rw [h1]; exact List.drop_left' (by rw [List.length_append,List.length_append]; omega)
  rw [u1,u2]
  simp only [List.append_assoc]
theorem ins_end {c new : List Value} {o N : Nat} (hc : o + (N + new.length) ≤ c.length) :
    c.take (o + N) ++ (new ++ c.drop (o + N + new.length)) = c.take o ++ ((((c.drop o).take N).take N ++ (new ++ ((c.drop o).take N).drop N)) ++ c.drop (o + (N + new.length))) := by
  apply List.ext_getElem?
  intro j
  simp only [List.getElem?_append,List.getElem?_take,List.getElem?_drop,List.length_take,List.length_drop,List.length_append]
  repeat' split
  all_goals first
    | rfl
    | (exfalso; omega)
    | (congr 1; omega)
theorem ins_new {a zz new C c1 c2 : List Value} {I M : Nat} (ha : a.length = I) (hM : new.length = M) (hz : zz.length = M + C.length) (h1 : c1 = (a ++ zz).take I ++ (new ++ (a ++ zz).drop (I + new.length))) (h2 : c2 = c1.take (I + M) ++ (C ++ c1.drop (I + M + C.length))) :
    c2 = a ++ (new ++ C) := by
  subst h1 h2 ha hM
  have e1 : (a ++ zz).take a.length = a := List.take_left
  have e2 : (a ++ zz).drop (a.length + new.length) = zz.drop new.length := by rw [← List.drop_drop,List.drop_left]
  rw [e1,e2]
  have e3 : (a ++ (new ++ zz.drop new.length)).take (a.length + new.length) = a ++ new := by rw [← List.append_assoc,List.take_left' (by simp)]
  have e4 : (a ++ (new ++ zz.drop new.length)).drop (a.length + new.length + C.length) = [] := List.drop_eq_nil_of_le (by simp; omega)
  rw [e3,e4,List.append_nil,List.append_assoc]
theorem ones_take {l : List Value} (h : ones l = true) : ∀ n,ones (l.take n) = true := by
  intro n
  rw [ones_iff] at *
  exact fun v hv => h v (List.mem_of_mem_take hv)
theorem H.row_len {h : H} {a : Addr} {n : Nat} {l : List Value} (e : h.row a n = some l) : l.length = n := by
  unfold H.row at e
  split at e
  · rename_i c el f o hg hs
    cases hb : Nat.ble (a.off + n) c.length with
    | false => rw [hb] at e; cases e
    | true =>
      rw [hb] at e
      simp only [cond_true,Option.some.injEq] at e
      subst e
      have := Nat.le_of_ble_eq_true hb
      rw [List.length_take,List.length_drop]; omega
  · cases e
theorem H.row_of {h : H} {b o n : Nat} {c l : List Value} {el : TypeId} {f : Nat} {op : Bool} (hg : h.get b = some (.cells c el f op)) (e : h.row ⟨b,o,none⟩ n = some l) : o + n ≤ c.length ∧ l = (c.drop o).take n := by
  unfold H.row at e
  rw [hg] at e
  simp only at e
  cases hb : Nat.ble (o + n) c.length with
  | false => rw [hb] at e; cases e
  | true =>
    rw [hb] at e
    simp only [cond_true,Option.some.injEq] at e
    exact ⟨Nat.le_of_ble_eq_true hb,e.symm⟩
section
variable {P : Program} {sl it e : TypeId} (T : InsT P sl it e) {ov : FuncId} {K : Value → Value → Value → Value → Value → H → Res Value} {cl : Cl}
variable {b o n cap i m vb vo mc : Nat} {c new : List Value} {el : TypeId} {h : H}
structure InsH (P : Program) (e el : TypeId) (ov : FuncId) (cl : Cl) (h : H) (b o n cap i m vb vo mc : Nat) (c new : List Value) : Prop where
  gb : h.get b = some (.cells c el 0 false)
  len : o + cap * P.cellsOf e = c.length
  nc : n ≤ cap
  ni : i ≤ n
  m0 : m ≠ 0
  mm : m ≤ mc
  nv : b ≠ vb
  c1 : ones c = true
  n1 : ones new = true
  rv : h.row ⟨vb,vo,none⟩ (m * P.cellsOf e) = some new
  by1 : (n + m) * bytesOf P e ≤ 35184372088832
  by2 : n + m ≤ 35184372088832
  by3 : bytesOf P e ≤ 1048576
  zf : zeroFits P e = true
  ov : c ≠ [] → ∀ o' k' c',cl (.f ov) [.slice (some ⟨vb,vo,none⟩) m mc,.slice (some ⟨b,o',none⟩) k' c'] h = .ok (.bool false) h
include T
theorem ins_in_end (q : InsH P e el ov cl h b o n cap i m vb vo mc c new) (hi : i = n) (hfit : n + m ≤ cap) :
    ∃ h',insB P sl it ov K cl (.slice (some ⟨b,o,none⟩) n cap) (.int .i64 (i : Nat)) (.slice (some ⟨vb,vo,none⟩) m mc) h = .ok (.slice (some ⟨b,o,none⟩) (n + m) cap) h' ∧ h'.next = h.next ∧ h'.get vb = h.get vb ∧
      h'.get b = some (.cells (c.take o ++ ((((c.drop o).take (n * P.cellsOf e)).take (i * P.cellsOf e) ++ (new ++ ((c.drop o).take (n * P.cellsOf e)).drop (i * P.cellsOf e))) ++ c.drop (o + (n * P.cellsOf e + m * P.cellsOf e)))) el 0 false) := by
  subst hi
  have hl := H.row_len q.rv
  have hm1 : (i + m) * P.cellsOf e = i * P.cellsOf e + m * P.cellsOf e := Nat.add_mul _ _ _
  have hm2 := Nat.mul_le_mul_right (P.cellsOf e) hfit
  have hlen := q.len
  obtain ⟨v1,e1⟩ := xslice_c_any (lo := some (.int .i64 (i : Nat))) (o := o) T.u T.sz q.gb (asNat_int i 0) (Nat.le_refl i) q.nc
  obtain ⟨h2,hh2,hw⟩ : ∃ h2,h2 = h.put b (.cells (c.take (o + i * P.cellsOf e) ++ (new ++ c.drop (o + i * P.cellsOf e + new.length))) el 0 false) ∧ h.write ⟨b,o + i * P.cellsOf e,none⟩ new = some h2 := ⟨_,rfl,H.write_eq q.gb (by omega) q.n1⟩
  have e2 := xapp_in (cap := cap) T.el T.sz T.iss (x := .slice (some ⟨vb,vo,none⟩) m mc) (lenV_slice _ _ _) (show firstC h (P.cellsOf e) m (.slice (some ⟨vb,vo,none⟩) m mc) = some new from q.rv) hfit q.m0 hw
  have E : insB P sl it ov K cl (.slice (some ⟨b,o,none⟩) i cap) (.int .i64 (i : Nat)) (.slice (some ⟨vb,vo,none⟩) m mc) h = .ok (.slice (some ⟨b,o,none⟩) (i + m) cap) h2 := by
    unfold insB
    rw [e1,go_ok,xlen_s T.u,go_ok,xeql,go_ok,ifV_dec,if_neg (by have := q.m0; omega),xlen_s T.u,go_ok,xeql,go_ok,ifV_dec,if_pos rfl,e2,go_ok]
  refine ⟨h2,E,?_,?_,?_⟩
  · rw [hh2]; rfl
  · rw [hh2,H.get_put _ _ _ _ (H.get_lt q.gb),if_neg (fun w => q.nv w.symm)]
  · rw [hh2,H.put_self q.gb,← hl,ins_end (by omega)]
theorem ins_new_end (q : InsH P e el ov cl h b o n cap i m vb vo mc c new) (hi : i = n) (hfit : ¬ n + m ≤ cap) :
    ∃ h',insB P sl it ov K cl (.slice (some ⟨b,o,none⟩) n cap) (.int .i64 (i : Nat)) (.slice (some ⟨vb,vo,none⟩) m mc) h = .ok (.slice (some ⟨h.next,0,none⟩) (n + m) (n + m)) h' ∧ h'.next = h.next + 1 ∧ h'.get vb = h.get vb ∧ h'.get b = h.get b ∧
      h'.get h.next = some (.cells (((c.drop o).take (n * P.cellsOf e)).take (i * P.cellsOf e) ++ (new ++ ((c.drop o).take (n * P.cellsOf e)).drop (i * P.cellsOf e))) e 0 true) := by
  subst hi
  have hlen := q.len
  have hm2 := Nat.mul_le_mul_right (P.cellsOf e) q.nc
  have hvb : vb < h.next := by
    have := q.rv
    unfold H.row at this
    split at this
    · rename_i hg _; exact H.get_lt hg
    · cases this
  have hbb := H.get_lt q.gb
  obtain ⟨v1,e1⟩ := xslice_c_any (lo := some (.int .i64 (i : Nat))) (o := o) T.u T.sz q.gb (asNat_int i 0) (Nat.le_refl i) q.nc
  have ho0 : h.row ⟨b,o,none⟩ (i * P.cellsOf e) = some ((c.drop o).take (i * P.cellsOf e)) := H.row_eq q.gb (by omega)
  have ho : firstC h (P.cellsOf e) i (.slice (some ⟨b,o,none⟩) i cap) = some ((c.drop o).take (i * P.cellsOf e)) := ho0
  have ha : appOk e h (some ⟨b,o,none⟩) = true := by unfold appOk; simp only [q.gb]
  have e2 := xapp_new T.el T.sz T.iss (x := .slice (some ⟨vb,vo,none⟩) m mc) (lenV_slice _ _ _) (show firstC h (P.cellsOf e) m (.slice (some ⟨vb,vo,none⟩) m mc) = some new from q.rv) ho hfit q.by1 q.by2 q.by3 q.zf q.n1 ha
  have hlv : h.leave (some ⟨b,o,none⟩) = h := by unfold H.leave; simp only [q.gb]
  rw [hlv] at e2
  have E : insB P sl it ov K cl (.slice (some ⟨b,o,none⟩) i cap) (.int .i64 (i : Nat)) (.slice (some ⟨vb,vo,none⟩) m mc) h = .ok (.slice (some ⟨h.next,0,none⟩) (i + m) (i + m)) (h.alloc (.cells ((c.drop o).take (i * P.cellsOf e) ++ new) e 0 true)) := by
    unfold insB
    rw [e1,go_ok,xlen_s T.u,go_ok,xeql,go_ok,ifV_dec,if_neg (by have := q.m0; omega),xlen_s T.u,go_ok,xeql,go_ok,ifV_dec,if_pos rfl,e2,go_ok]
  refine ⟨_,E,rfl,?_,?_,?_⟩
  · rw [H.get_alloc,if_neg (by omega)]
  · rw [H.get_alloc,if_neg (by omega)]
  · have hll : ((c.drop o).take (i * P.cellsOf e)).length = i * P.cellsOf e := by rw [List.length_take,List.length_drop]; omega
    rw [H.alloc_self,List.take_of_length_le (Nat.le_of_eq hll),List.drop_of_length_le (Nat.le_of_eq hll),List.append_nil]
theorem ins_in_mid (q : InsH P e el ov cl h b o n cap i m vb vo mc c new) (hi : i ≠ n) (hfit : n + m ≤ cap) :
    ∃ h',insB P sl it ov K cl (.slice (some ⟨b,o,none⟩) n cap) (.int .i64 (i : Nat)) (.slice (some ⟨vb,vo,none⟩) m mc) h = .ok (.slice (some ⟨b,o,none⟩) (n + m) cap) h' ∧ h'.next = h.next ∧ h'.get vb = h.get vb ∧
      h'.get b = some (.cells (c.take o ++ ((((c.drop o).take (n * P.cellsOf e)).take (i * P.cellsOf e) ++ (new ++ ((c.drop o).take (n * P.cellsOf e)).drop (i * P.cellsOf e))) ++ c.drop (o + (n * P.cellsOf e + m * P.cellsOf e)))) el 0 false) := by
  have hl := H.row_len q.rv
  have hin : i < n := by have := q.ni; omega
  have hlen := q.len
  have m0 := q.m0
  have by2 := q.by2
  have hm1 : (n + m) * P.cellsOf e = n * P.cellsOf e + m * P.cellsOf e := Nat.add_mul _ _ _
  have hm2 := Nat.mul_le_mul_right (P.cellsOf e) hfit
  have hm3 : (i + m) * P.cellsOf e = i * P.cellsOf e + m * P.cellsOf e := Nat.add_mul _ _ _
  have hm4 : (n - i) * P.cellsOf e = n * P.cellsOf e - i * P.cellsOf e := Nat.sub_mul _ _ _
  have hm5 := Nat.mul_le_mul_right (P.cellsOf e) q.ni
  obtain ⟨v1,e1⟩ := xslice_c_any (lo := some (.int .i64 (i : Nat))) (o := o) T.u T.sz q.gb (asNat_int i 0) q.ni q.nc
  have w1 : IntKind.i64.wrap ((n : Int) + m) = ((n + m : Nat) : Int) := by rw [wrap64 (by omega)]; omega
  have w2 : IntKind.i64.wrap ((i : Int) + m) = ((i + m : Nat) : Int) := by rw [wrap64 (by omega)]; omega
  have hC : h.row ⟨b,o + i * P.cellsOf e,none⟩ ((n - i) * P.cellsOf e) = some ((c.drop (o + i * P.cellsOf e)).take ((n - i) * P.cellsOf e)) := H.row_eq q.gb (by omega)
  have lC := H.row_len hC
  have hw1 : h.write ⟨b,o + (i + m) * P.cellsOf e,none⟩ ((c.drop (o + i * P.cellsOf e)).take ((n - i) * P.cellsOf e)) = some _ := H.write_eq q.gb (by omega) (ones_take (ones_drop q.c1 _) _)
  have g1 := H.put_self (x := .cells (c.take (o + (i + m) * P.cellsOf e) ++ ((c.drop (o + i * P.cellsOf e)).take ((n - i) * P.cellsOf e) ++ c.drop (o + (i + m) * P.cellsOf e + ((c.drop (o + i * P.cellsOf e)).take ((n - i) * P.cellsOf e)).length))) el 0 false) q.gb
  obtain ⟨h1,hh1⟩ : ∃ h1,h1 = h.put b (.cells (c.take (o + (i + m) * P.cellsOf e) ++ ((c.drop (o + i * P.cellsOf e)).take ((n - i) * P.cellsOf e) ++ c.drop (o + (i + m) * P.cellsOf e + ((c.drop (o + i * P.cellsOf e)).take ((n - i) * P.cellsOf e)).length))) el 0 false) := ⟨_,rfl⟩
  rw [← hh1] at hw1 g1
  have gv : h1.get vb = h.get vb := by rw [hh1,H.get_put _ _ _ _ (H.get_lt q.gb),if_neg (fun w => q.nv w.symm)]
  have rv1 : h1.row ⟨vb,vo,none⟩ (m * P.cellsOf e) = some new := by unfold H.row at *; simp only at *; rw [gv]; exact q.rv
  obtain ⟨c1,hc1⟩ : ∃ c1,c1 = c.take (o + (i + m) * P.cellsOf e) ++ ((c.drop (o + i * P.cellsOf e)).take ((n - i) * P.cellsOf e) ++ c.drop (o + (i + m) * P.cellsOf e + ((c.drop (o + i * P.cellsOf e)).take ((n - i) * P.cellsOf e)).length)) := ⟨_,rfl⟩
  rw [← hc1] at g1
  have lc1 : c1.length = c.length := by rw [hc1,List.length_append,List.length_append,List.length_take,List.length_drop,lC]; omega
  obtain ⟨h2,hh2,hw2⟩ : ∃ h2,h2 = h1.put b (.cells (c1.take (o + i * P.cellsOf e) ++ (new ++ c1.drop (o + i * P.cellsOf e + new.length))) el 0 false) ∧ h1.write ⟨b,o + i * P.cellsOf e,none⟩ new = some h2 := ⟨_,rfl,H.write_eq g1 (by omega) q.n1⟩
  have n1 : h1.next = h.next := by rw [hh1]; rfl
  have hcne : c ≠ [] := fun w => by
    have h1 := Nat.mul_le_mul_right (P.cellsOf e) (show 1 ≤ cap by omega)
    have h2 := T.pos
    rw [w,List.length_nil] at hlen
    omega
  have s41 := xslice_c (lo := none) (hi := some (.int .i64 ((n + m : Nat) : Int))) (o := o) (n := n) (cap := cap) T.u T.sz q.gb (l := 0) (u := n + m) rfl rfl (by omega) hfit (by omega)
  have s45 := fun hh (gg : ∃ cc,hh.get b = some (.cells cc el 0 false)) => xslice_c (lo := some (.int .i64 ((i + m : Nat) : Int))) (hi := none) (o := o) (n := n + m) (cap := cap) (h := hh) T.u T.sz gg.choose_spec (l := i + m) (u := n + m) rfl rfl (by omega) hfit (by omega)
  have s55 := fun hh (gg : ∃ cc,hh.get b = some (.cells cc el 0 false)) => xslice_c (lo := some (.int .i64 (i : Nat))) (hi := none) (o := o) (n := n + m) (cap := cap) (h := hh) T.u T.sz gg.choose_spec (l := i) (u := n + m) rfl rfl (by omega) hfit (by omega)
  have k1 : Nat.min (n + m - i) (n + m - (i + m)) = n - i := by show min _ _ = _; omega
  have k2 : Nat.min m (n + m - i) = m := by show min _ _ = _; omega
  have cp1 := xcopy_s (n := n + m - (i + m)) (cap := cap - (i + m)) (a := some ⟨b,o + i * P.cellsOf e,none⟩) (k := n + m - i) (cp := cap - i) T.el T.sz (show firstC h (P.cellsOf e) _ _ = some _ by rw [k1]; exact hC) (by rw [k1]; omega) hw1
  have cp2 := xcopy_s (n := n + m - i) (cap := cap - i) (a := some ⟨vb,vo,none⟩) (k := m) (cp := mc) T.el T.sz (show firstC h1 (P.cellsOf e) _ _ = some _ by rw [k2]; exact rv1) (by rw [k2]; exact m0) hw2
  have E : insB P sl it ov K cl (.slice (some ⟨b,o,none⟩) n cap) (.int .i64 (i : Nat)) (.slice (some ⟨vb,vo,none⟩) m mc) h = .ok (.slice (some ⟨b,o,none⟩) (n + m) cap) h2 := by
    unfold insB
    rw [e1,go_ok,xlen_s T.u,go_ok,xeql,go_ok,ifV_dec,if_neg (by omega),xlen_s T.u,go_ok,xeql,go_ok,ifV_dec,if_neg (by omega),xadd,go_ok,xcap_c T.u q.gb,go_ok,xgtr,go_ok,w1,ifV_dec,if_neg (by omega),xadd,go_ok,w1,s41,go_ok,
      xadd,go_ok,w2,Nat.zero_mul,Nat.add_zero,Nat.sub_zero,Nat.sub_zero,s45 h ⟨_,q.gb⟩,go_ok,q.ov hcne,go_ok,xun_not,go_ok,show (!false) = true from rfl,ifV_t,show plain2 (.int .i64 (i : Nat)) (.int .i64 (m : Nat)) = true from rfl,cond_true,xadd,Res.ok1_ok,w2,s45 h ⟨_,q.gb⟩,Res.ok1_ok,s55 h ⟨_,q.gb⟩,Res.ok1_ok,cp1,go_ok,s55 h1 ⟨_,g1⟩,go_ok,cp2,go_ok]
  refine ⟨h2,E,?_,?_,?_⟩
  · rw [hh2,H.next_put,n1]
  · rw [hh2,H.get_put _ _ _ _ (H.get_lt g1),if_neg (fun w => q.nv w.symm),gv]
  · rw [hh2,H.put_self g1,ins_in (c := c) hm5 hl (by omega) (C := (c.drop (o + i * P.cellsOf e)).take ((n - i) * P.cellsOf e)) (by rw [hm4]) (by rw [hc1,hm3])]
theorem ins_new_mid (q : InsH P e el ov cl h b o n cap i m vb vo mc c new) (hi : i ≠ n) (hfit : ¬ n + m ≤ cap) :
    ∃ h',insB P sl it ov K cl (.slice (some ⟨b,o,none⟩) n cap) (.int .i64 (i : Nat)) (.slice (some ⟨vb,vo,none⟩) m mc) h = .ok (.slice (some ⟨h.next,0,none⟩) (n + m) (n + m)) h' ∧ h'.next = h.next + 1 ∧ h'.get vb = h.get vb ∧ h'.get b = h.get b ∧
      h'.get h.next = some (.cells (((c.drop o).take (n * P.cellsOf e)).take (i * P.cellsOf e) ++ (new ++ ((c.drop o).take (n * P.cellsOf e)).drop (i * P.cellsOf e))) e 0 true) := by
  have hl := H.row_len q.rv
  have hin : i < n := by have := q.ni; omega
  have hlen := q.len
  have m0 := q.m0
  have nc := q.nc
  have by2 := q.by2
  have hvb : vb < h.next := by
    have := q.rv
    unfold H.row at this
    split at this
    · rename_i hg _; exact H.get_lt hg
    · cases this
  have hbb := H.get_lt q.gb
  have hm1 : (n + m) * P.cellsOf e = n * P.cellsOf e + m * P.cellsOf e := Nat.add_mul _ _ _
  have hm2 := Nat.mul_le_mul_right (P.cellsOf e) q.nc
  have hm3 : (i + m) * P.cellsOf e = i * P.cellsOf e + m * P.cellsOf e := Nat.add_mul _ _ _
  have hm4 : (n - i) * P.cellsOf e = n * P.cellsOf e - i * P.cellsOf e := Nat.sub_mul _ _ _
  have hm5 := Nat.mul_le_mul_right (P.cellsOf e) q.ni
  have hm6 : (n + m - i) * P.cellsOf e = m * P.cellsOf e + (n * P.cellsOf e - i * P.cellsOf e) := by rw [show n + m - i = m + (n - i) by omega,Nat.add_mul,hm4]
  obtain ⟨z,hz,hzs,hzo⟩ : ∃ z,zeroOf P e = some z ∧ z.cells.size = P.cellsOf e ∧ ones z.cells.toList = true := by
    have := q.zf
    unfold zeroFits at this
    split at this
    · rename_i z hz
      simp only [Bool.and_eq_true] at this
      exact ⟨z,hz,Nat.eq_of_beq_eq_true this.1,this.2⟩
    · cases this
  obtain ⟨v1,e1⟩ := xslice_c_any (lo := some (.int .i64 (i : Nat))) (o := o) T.u T.sz q.gb (asNat_int i 0) q.ni q.nc
  have w1 : IntKind.i64.wrap ((n : Int) + m) = ((n + m : Nat) : Int) := by rw [wrap64 (by omega)]; omega
  have w2 : IntKind.i64.wrap ((i : Int) + m) = ((i + m : Nat) : Int) := by rw [wrap64 (by omega)]; omega
  have w3 : IntKind.i64.wrap (((n + m : Nat) : Int) - i) = ((n + m - i : Nat) : Int) := by rw [wrap64 (by omega)]; omega
  have s19 := xslice_c (lo := none) (hi := some (.int .i64 (i : Nat))) (o := o) (n := n) (cap := cap) T.u T.sz q.gb (l := 0) (u := i) rfl rfl (by omega) (by omega) (by omega)
  rw [Nat.zero_mul,Nat.add_zero,Nat.sub_zero,Nat.sub_zero] at s19
  have hold : h.row ⟨b,o,none⟩ (i * P.cellsOf e) = some ((c.drop o).take (i * P.cellsOf e)) := H.row_eq q.gb (by omega)
  have lold := H.row_len hold
  have ha : appOk e h (some ⟨b,o,none⟩) = true := by unfold appOk; simp only [q.gb]
  have hlv : h.leave (some ⟨b,o,none⟩) = h := by unfold H.leave; simp only [q.gb]
  have ap := xapp_mk (k := n + m - i) (cap := cap) T.el T.sz T.isi q.zf hz hold (by omega) (by rw [show i + (n + m - i) = n + m by omega]; exact q.by1) (by omega) q.by3 ha
  rw [hlv,show i + (n + m - i) = n + m by omega] at ap
  have lz : (repeatL z.cells.toList (n + m - i)).length = (n + m - i) * P.cellsOf e := by
    have := repeat_range z.cells.toList (n + m - i)
    rw [← this]
    simp [hzs]
  obtain ⟨zz,hzz⟩ : ∃ zz,zz = repeatL z.cells.toList (n + m - i) := ⟨_,rfl⟩
  rw [← hzz] at ap lz
  obtain ⟨h1,hh1⟩ : ∃ h1,h1 = h.alloc (.cells ((c.drop o).take (i * P.cellsOf e) ++ zz) e 0 true) := ⟨_,rfl⟩
  rw [← hh1] at ap
  have g1 : h1.get h.next = some (.cells ((c.drop o).take (i * P.cellsOf e) ++ zz) e 0 true) := by rw [hh1]; exact H.alloc_self _ _
  have gv1 : h1.get vb = h.get vb := by rw [hh1,H.get_alloc,if_neg (by omega)]
  have gb1 : h1.get b = h.get b := by rw [hh1,H.get_alloc,if_neg (by omega)]
  have s27 := xslice_o (lo := some (.int .i64 (i : Nat))) (hi := none) (o := 0) (n := n + m) (cap := n + m) T.u T.sz g1 rfl (l := i) (u := n + m) rfl rfl (by omega) (by omega) (by omega)
  have k2 : Nat.min m (n + m - i) = m := by show min _ _ = _; omega
  have rv1 : h1.row ⟨vb,vo,none⟩ (m * P.cellsOf e) = some new := by unfold H.row at *; simp only at *; rw [gv1]; exact q.rv
  obtain ⟨c1,hc1⟩ : ∃ c1,c1 = ((c.drop o).take (i * P.cellsOf e) ++ zz).take (i * P.cellsOf e) ++ (new ++ ((c.drop o).take (i * P.cellsOf e) ++ zz).drop (i * P.cellsOf e + new.length)) := ⟨_,rfl⟩
  obtain ⟨h2,hh2,hw2⟩ : ∃ h2,h2 = h1.put h.next (.cells c1 e 0 true) ∧ h1.write ⟨h.next,i * P.cellsOf e,none⟩ new = some h2 := ⟨_,rfl,by rw [hc1]; exact H.write_eq g1 (by rw [List.length_append,lold,lz]; omega) q.n1⟩
  have lc1 : c1.length = (n + m) * P.cellsOf e := by rw [hc1]; simp only [List.length_append,List.length_take,List.length_drop,lold,lz]; omega
  have cp1 := xcopy_s (n := n + m - i) (cap := n + m - i) (a := some ⟨vb,vo,none⟩) (k := m) (cp := mc) T.el T.sz (show firstC h1 (P.cellsOf e) _ _ = some _ by rw [k2]; exact rv1) (by rw [k2]; exact m0) hw2
  have g2 : h2.get h.next = some (.cells c1 e 0 true) := by rw [hh2]; exact H.put_self g1
  have gv2 : h2.get vb = h.get vb := by rw [hh2,H.get_put _ _ _ _ (H.get_lt g1),if_neg (by omega),gv1]
  have gb2 : h2.get b = h.get b := by rw [hh2,H.get_put _ _ _ _ (H.get_lt g1),if_neg (by omega),gb1]
  have s33 := xslice_o (lo := some (.int .i64 ((i + m : Nat) : Int))) (hi := none) (o := 0) (n := n + m) (cap := n + m) T.u T.sz g2 rfl (l := i + m) (u := n + m) rfl rfl (by omega) (by omega) (by omega)
  have s35 := xslice_c (lo := some (.int .i64 (i : Nat))) (hi := none) (o := o) (n := n) (cap := cap) T.u T.sz (gb2.trans q.gb) (l := i) (u := n) rfl rfl (by omega) (by omega) (by omega)
  have hC : h2.row ⟨b,o + i * P.cellsOf e,none⟩ ((n - i) * P.cellsOf e) = some ((c.drop (o + i * P.cellsOf e)).take ((n - i) * P.cellsOf e)) := H.row_eq (gb2.trans q.gb) (by omega)
  have lC := H.row_len hC
  have k3 : Nat.min (n - i) (n + m - (i + m)) = n - i := by show min _ _ = _; omega
  obtain ⟨C,hCC⟩ : ∃ C,C = (c.drop (o + i * P.cellsOf e)).take ((n - i) * P.cellsOf e) := ⟨_,rfl⟩
  rw [← hCC] at hC lC
  obtain ⟨c2,hc2⟩ : ∃ c2,c2 = c1.take ((i + m) * P.cellsOf e) ++ (C ++ c1.drop ((i + m) * P.cellsOf e + C.length)) := ⟨_,rfl⟩
  obtain ⟨h3,hh3,hw3⟩ : ∃ h3,h3 = h2.put h.next (.cells c2 e 0 true) ∧ h2.write ⟨h.next,0 + (i + m) * P.cellsOf e,none⟩ C = some h3 := ⟨_,rfl,by rw [hc2,Nat.zero_add]; exact H.write_eq g2 (by omega) (by rw [hCC]; exact ones_take (ones_drop q.c1 _) _)⟩
  have cp2 := xcopy_s (n := n + m - (i + m)) (cap := n + m - (i + m)) (a := some ⟨b,o + i * P.cellsOf e,none⟩) (k := n - i) (cp := cap - i) T.el T.sz (show firstC h2 (P.cellsOf e) _ _ = some _ by rw [k3]; exact hC) (by rw [k3]; omega) hw3
  rw [Nat.zero_add] at s27
  have E : insB P sl it ov K cl (.slice (some ⟨b,o,none⟩) n cap) (.int .i64 (i : Nat)) (.slice (some ⟨vb,vo,none⟩) m mc) h = .ok (.slice (some ⟨h.next,0,none⟩) (n + m) (n + m)) h3 := by
    unfold insB
    rw [e1,go_ok,xlen_s T.u,go_ok,xeql,go_ok,ifV_dec,if_neg (by omega),xlen_s T.u,go_ok,xeql,go_ok,ifV_dec,if_neg (by omega),xadd,go_ok,xcap_c T.u q.gb,go_ok,xgtr,go_ok,w1,ifV_dec,if_pos (by omega),s19,go_ok,
      xadd,go_ok,w1,xsub,go_ok,w3,ap,go_ok,s27,go_ok,cp1,go_ok,show plain2 (.int .i64 (i : Nat)) (.int .i64 (m : Nat)) = true from rfl,cond_true,xadd,Res.ok1_ok,w2,s33,Res.ok1_ok,s35,Res.ok1_ok,cp2,go_ok]
  refine ⟨h3,E,?_,?_,?_,?_⟩
  · rw [hh3,hh2,hh1]; rfl
  · rw [hh3,H.get_put _ _ _ _ (H.get_lt g2),if_neg (by omega),gv2]
  · rw [hh3,H.get_put _ _ _ _ (H.get_lt g2),if_neg (by omega),gb2]
  · rw [hh3,H.put_self g2]
    have hfin : c2 = (c.drop o).take (i * P.cellsOf e) ++ (new ++ C) := ins_new lold hl (by rw [lz,lC]; omega) hc1 (by rw [hc2,hm3])
    have hd : ((c.drop o).take (n * P.cellsOf e)).drop (i * P.cellsOf e) = C := by rw [hCC,List.drop_take,List.drop_drop,hm4]
    rw [hfin,hd,List.take_take,Nat.min_eq_left hm5]
theorem ins_nil (m0 : m ≠ 0) (n1 : ones new = true) (rv : h.row ⟨vb,vo,none⟩ (m * P.cellsOf e) = some new) (by1 : m * bytesOf P e ≤ 35184372088832) (by2 : m ≤ 35184372088832) (by3 : bytesOf P e ≤ 1048576) (zf : zeroFits P e = true) :
    insB P sl it ov K cl (.slice none 0 0) (.int .i64 ((0 : Nat) : Int)) (.slice (some ⟨vb,vo,none⟩) m mc) h = .ok (.slice (some ⟨h.next,0,none⟩) m m) (h.alloc (.cells new e 0 true)) := by
  have e1 : xslice P sl (.slice none 0 0) (some (.int .i64 ((0 : Nat) : Int))) none none h = .ok (.slice none 0 0) h := by
    unfold xslice
    simp only [T.u,T.sz,cond_true]; rfl
  have e2 := xapp_new (k := m) (base := none) (n := 0) (cap := 0) T.el T.sz T.iss (x := .slice (some ⟨vb,vo,none⟩) m mc) (lenV_slice _ _ _) (show firstC h (P.cellsOf e) m (.slice (some ⟨vb,vo,none⟩) m mc) = some new from rv) (show firstC h (P.cellsOf e) 0 (.slice none 0 0) = some [] from rfl)
    (by omega) (by rw [Nat.zero_add]; exact by1) (by omega) by3 zf n1 rfl
  rw [Nat.zero_add] at e2
  unfold insB
  rw [e1,go_ok,xlen_s T.u,go_ok,xeql,go_ok,ifV_dec,if_neg (by omega),xlen_s T.u,go_ok,xeql,go_ok,ifV_dec,if_pos rfl,e2,go_ok]
  rfl
theorem ins_cut {b o : Nat} {c : List Value} (hg : h.get b = some (.cells c e 0 true)) (ho : o ≤ c.length) (m0 : m ≠ 0) (n1 : ones new = true) (rv : h.row ⟨vb,vo,none⟩ (m * P.cellsOf e) = some new) (by1 : m * bytesOf P e ≤ 35184372088832) (by2 : m ≤ 35184372088832) (by3 : bytesOf P e ≤ 1048576) (zf : zeroFits P e = true) :
    insB P sl it ov K cl (.slice (some ⟨b,o,some 1⟩) 0 0) (.int .i64 ((0 : Nat) : Int)) (.slice (some ⟨vb,vo,none⟩) m mc) h = .ok (.slice (some ⟨h.next,0,none⟩) m m) ((h.leave (some ⟨b,o,some 1⟩)).alloc (.cells new e 0 true)) := by
  have e1 : xslice P sl (.slice (some ⟨b,o,some 1⟩) 0 0) (some (.int .i64 ((0 : Nat) : Int))) none none h = .ok (.slice (some ⟨b,o,some 1⟩) 0 0) h := by
    unfold xslice
    simp only [T.u,T.sz]; rfl
  have hf : firstC h (P.cellsOf e) 0 (.slice (some ⟨b,o,some 1⟩) 0 0) = some [] := by
    show h.row ⟨b,o,none⟩ (0 * P.cellsOf e) = _
    rw [Nat.zero_mul,H.row_eq hg (by omega),List.take_zero]
  have ha : appOk e h (some ⟨b,o,some 1⟩) = true := by unfold appOk; simp only [hg,Nat.beq_refl,Bool.and_self]
  have e2 := xapp_new (k := m) (base := some ⟨b,o,some 1⟩) (n := 0) (cap := 0) T.el T.sz T.iss (x := .slice (some ⟨vb,vo,none⟩) m mc) (lenV_slice _ _ _) (show firstC h (P.cellsOf e) m (.slice (some ⟨vb,vo,none⟩) m mc) = some new from rv) hf
    (by omega) (by rw [Nat.zero_add]; exact by1) (by omega) by3 zf n1 ha
  rw [Nat.zero_add,List.nil_append] at e2
  unfold insB
  rw [e1,go_ok,xlen_s T.u,go_ok,xeql,go_ok,ifV_dec,if_neg (by omega),xlen_s T.u,go_ok,xeql,go_ok,ifV_dec,if_pos rfl,e2,go_ok]
end
def ovP (args : List Value) (h : H) : Res Value :=
  match args with
  | [.slice (some ⟨a,ao,none⟩) la ca,.slice (some ⟨b,bo,none⟩) lb cb] =>
    match h.get a,h.get b with
    | some (.cells _ _ 0 false),some (.cells (_ :: _) _ _ false) => bif Nat.beq a b then .bad else .ok (.bool false) h
    | _,_ => .bad
  | _ => .bad
end Go.Kx
