/- Proved here: PinsValues: for every input the call tells true, and what it was handed reads as it did. Conditions: none beyond those of the given row. -/
import Derived.Test.YtialpopmeamojaaGreatRows
import Derived.Test.YtialpopmeamojaaGreatPV30
namespace Go.Proofs.YtialpopmeamojaaGreat.K.Pt
open Go Go.Kx Go.Proofs.YtialpopmeamojaaGreat.K
set_option linter.unusedVariables false
set_option linter.unusedSimpArgs false
set_option maxRecDepth 20000
theorem nil100 (n c : Nat) (h : H) : xbin Tryz.prog .eql 100 (.slice none n c) (.slice none 0 0) h = .ok (.bool true) h := by kernel_rfl
theorem nonnil100 (a : Addr) (n c : Nat) (h : H) : xbin Tryz.prog .eql 100 (.slice (some a) n c) (.slice none 0 0) h = .ok (.bool false) h := by kernel_rfl
theorem bs100_0 (h : H) : xbuildSlice Tryz.prog 100 0 [] h = .ok (.slice (some ⟨h.next,0,none⟩) 0 0) (h.alloc (.cells [] 121 0 false)) := by kernel_rfl
def Src (h : H) (sl : Value) (rows : List Rw) (lo : Nat) : Prop :=
  ∃ ob n c,sl = .slice ob n c ∧ n = rows.length ∧ (rows ≠ [] → ∃ cb,ob = some ⟨cb,0,none⟩ ∧ lo ≤ cb ∧ h.get cb = some (.cells (rowsC rows) 121 0 true))
theorem clone67 {h : H} {a : Addr} {c : Nat} {rows : List Rw} (g : Good rows) (few : rows.length ≤ 1000000) (hf : firstC h 103 rows.length (.slice (some a) rows.length c) = some (rowsC rows)) (ha : ∀ b,a.block = b → b < h.next) :
    ∃ h' sl',Grow h h' ∧ CLM (.f 80) [.slice (some a) rows.length c] h = .ok sl' h' ∧ Src h' sl' rows h.next := by
  let h1 := h.alloc (.cells [] 121 0 false)
  have g1 : Grow h h1 := (Grow.refl h).alloc _
  have hb : h1.get h.next = some (.cells [] 121 0 false) := H.alloc_self _ _
  have hf1 : firstC h1 103 rows.length (.slice (some a) rows.length c) = some (rowsC rows) := by
    unfold firstC at hf ⊢
    exact g1.row hf
  rw [cM80,F80.eq]
  simp only [nonnil100,go_ok,ifV_f,bs100_0]
  rw [show h.alloc (.cells [] 121 0 false) = h1 from rfl]
  by_cases h0 : rows.length = 0
  · have hr : rows = [] := List.length_eq_zero_iff.1 h0
    subst hr
    rw [xapp_0 eo100 sz121 it100 (new := []) rfl (by rw [co121]; exact hf1) (Nat.le_refl _)]
    exact ⟨h1,_,g1,rfl,_,_,_,rfl,rfl,fun q => absurd rfl q⟩
  · have e := xapp_new (P := Tryz.prog) (t := 100) (e := 121) (xt := 100) (base := some ⟨h.next,0,none⟩) (n := 0) (cap := 0) (k := rows.length) (x := .slice (some a) rows.length c) (old := []) (new := rowsC rows) (h := h1) eo100 sz121 it100 rfl (by rw [co121]; exact hf1)
      (by show h1.row ⟨h.next,0,none⟩ (0 * _) = _; rw [H.row_all hb (by simp)]) (by omega)
      (by have := Nat.mul_le_mul (show 0 + rows.length ≤ 1000000 by omega) by81; omega) (by omega) (by have := by81; omega) zf81 (rowsC_ones g) (by unfold appOk; simp only [hb])
    rw [e]
    simp only [go_ok,Nat.zero_add,List.nil_append]
    have hlv : h1.leave (some ⟨h.next,0,none⟩) = h1 := by unfold H.leave; simp only [hb]
    rw [hlv]
    exact ⟨_,_,g1.alloc _,rfl,_,_,_,rfl,rfl,fun _ => ⟨h1.next,rfl,Nat.le_succ _,H.alloc_self _ _⟩⟩
structure Rounds (S : Nat → Prop) (b : Nat) (J : List Rw → H → Prop) (rows : List Rw) : Prop where
  grow : ∀ pre h h',J pre h → Grow h h' → J pre h'
  step : ∀ pre r h,J pre h → pre ++ [r] <+: rows → ∃ h',CLM (.y b) [.int .i64 r.1,.agg ⟨r.2⟩] h = .ok (.bool true) h' ∧ Upd S h h' ∧ J (pre ++ [r]) h'
theorem rounds_loop {S : Nat → Prop} {b : Nat} {J : List Rw → H → Prop} {rows : List Rw} (R : Rounds S b J rows) (g : Good rows) (few : rows.length ≤ 1000000) {lo : Nat} (hS : ∀ x,S x → x < lo) {sl : Value} :
    ∀ (d i : Nat) (h : H),rows.length - i = d → i ≤ rows.length → Src h sl rows lo → J (rows.take i) h →
      ∃ h',F79.l1 Tryz.prog CLM nu0 nu0 (.func (.yield b) ⟨[]⟩ ⟨[]⟩) sl (.int .i64 (rows.length : Nat)) (.int .i64 (i : Nat)) h = .ok (.tuple ⟨[]⟩) h' ∧ Upd S h h' ∧ J rows h' := by
  intro d
  induction d with
  | zero =>
    intro i h hd hi hs hj
    rw [F79.l1_eq,xlss,go_ok,F79.j2_eq,ifV_dec,if_neg (by omega)]
    rw [List.take_of_length_le (by omega)] at hj
    exact ⟨h,rfl,Upd.refl _ _,hj⟩
  | succ d ih =>
    intro i h hd hi hs hj
    have hlt : i < rows.length := by omega
    obtain ⟨ob,n,c,rfl,rfl,hne⟩ := hs
    obtain ⟨cb,rfl,hlo,hcb⟩ := hne (fun q => by rw [q] at hlt; simp at hlt)
    obtain ⟨r,hr⟩ : ∃ r,rows[i]? = some r := ⟨_,List.getElem?_eq_getElem hlt⟩
    have hgr := g _ (List.mem_of_getElem? hr)
    have hlen := rowsC_len g
    have hrow : h.row ⟨cb,0 + i * 103,none⟩ 103 = some (.int .i64 r.1 :: r.2) := by
      rw [H.row_eq hcb (by omega),Nat.zero_add]
      have := row_at g hr []
      rw [List.append_nil] at this
      rw [this]
    have hst : (Value.agg ⟨.int .i64 r.1 :: r.2⟩).cells.size = 103 := by rw [asz]; simp [hgr.1]
    have hone : ones (Value.int .i64 r.1 :: r.2) = true := by show (true && ones r.2) = true; rw [hgr.2]; rfl
    let h1 := h.alloc (.cells zc121 121 0 false)
    have hq : h1.get h.next = some (.cells zc121 121 0 false) := H.alloc_self _ _
    let h2 := h1.put h.next (.cells (.int .i64 r.1 :: r.2) 121 0 false)
    have hq2 : h2.get h.next = some (.cells (.int .i64 r.1 :: r.2) 121 0 false) := H.put_self hq
    have g2 : Grow h h2 := ((Grow.refl h).alloc _).put (Nat.le_refl _) (H.get_lt hq) _
    have w2 : h1.write ⟨h.next,0,none⟩ (.int .i64 r.1 :: r.2) = some h2 := H.write_all hq (by rw [zc121_len]; simp [hgr.1]) hone
    have hrow2 : h2.row ⟨h.next,0 + 1,none⟩ 102 = some r.2 := by
      rw [H.row_eq hq2 (by simp [hgr.1])]
      show some (r.2.take 102) = some r.2
      rw [take_all hgr.1]
    have hpre : rows.take i ++ [r] = rows.take (i + 1) := by rw [List.take_add_one,hr]; rfl
    obtain ⟨h3,e3,u3,j3⟩ := R.step (rows.take i) r h2 (R.grow _ _ _ hj g2) (by rw [hpre]; exact List.take_prefix _ _)
    rw [hpre] at j3
    have hw : IntKind.i64.wrap ((i : Int) + 1) = ((i + 1 : Nat) : Int) := by rw [wrap64 (by omega)]; omega
    have hcb3 : h3.get cb = some (.cells (rowsC rows) 121 0 true) := u3.old _ _ (fun q => by have := hS _ q; omega) (g2.old _ _ hcb)
    obtain ⟨h4,e4,u4,j4⟩ := ih (i + 1) h3 (by omega) (by omega) ⟨_,_,c,rfl,rfl,fun _ => ⟨cb,rfl,hlo,hcb3⟩⟩ j3
    refine ⟨h4,?_,(g2.upd S).trans (u3.trans u4),j4⟩
    rw [F79.l1_eq,xlss,go_ok,F79.j2_eq,ifV_dec,if_pos (by omega),F79.j2_1_eq,ia100 _ _ _ _ _ _ _ _ hlt,go_ok,ld121,hrow,ofA_some,go_ok,al121,go_ok,st121 _ _ _ hst,cells_agg]
    rw [show h.alloc (.cells zc121 121 0 false) = h1 from rfl,w2,ofU_some,go_ok,fa121_0,go_ok,ld3,H.cell_eq hq2,List.getElem?_cons_zero,ofO_some,go_ok,fa121_1,go_ok,ld86,hrow2,ofA_some,go_ok,xcallV_yield,e3,go_ok,xun_not,go_ok]
    rw [show (Value.bool !true) = .bool false from rfl,ifV_f,xadd,go_ok,hw]
    exact e4
theorem nilslice75 (h : H) : xslice Tryz.prog 100 (.slice none 0 0) (some (.int .i64 0)) none none h = .ok (.slice none 0 0) h := by kernel_rfl
theorem zero48 (h : H) : CLM (.f 56) [] h = .ok (.int .i64 0) h := by rw [cM56,F56.eq]
theorem rc_ptr (b : Nat) (h : H) : rc (.ok (.pointer (some ⟨b,0,none⟩)) h) (some (.pointer (some ⟨b,0,none⟩))) = true := by simp [rc,veq]
theorem clone67_nil (h : H) : CLM (.f 80) [.slice none 0 0] h = .ok (.slice none 0 0) h := by
  rw [cM80,F80.eq,nil100,go_ok,ifV_t]
theorem iter66 {S : Nat → Prop} {b : Nat} {J : List Rw → H → Prop} {rows : List Rw} {h : H} {bt p1 p3 : Nat} {br : Option Nat} (t : Tbl h bt br rows) (R : Rounds S b J rows) (h1 : h.get p1 = some (.cells [.pointer (some ⟨bt,0,none⟩)] 83 0 false))
    (h3 : h.get p3 = some (.cells [.func (.func 56) #[] #[]] 38 0 false)) (hS : ∀ x,S x → x < h.next) (hj : J [] h) :
    ∃ h',CLM (.f 79) [.func (.yield b) ⟨[]⟩ ⟨[]⟩,.pointer (some ⟨p1,0,none⟩),.pointer (some ⟨p3,0,none⟩)] h = .ok (.tuple ⟨[]⟩) h' ∧ Upd S h h' ∧ J rows h' := by
  obtain ⟨sl,q1,q2⟩ := t.sl
  have f48 : xcallV CLM (.func (.func 56) #[] #[]) [] h = .ok (.int .i64 0) h := zero48 h
  have hrc : rc (.ok sl h) (some sl) = true := by
    rcases q2 with ⟨_,rfl,_⟩ | ⟨b,sp,cap,_,rfl,_⟩
    · exact rc_nil _ _ _
    · exact rc_slice _ _ _ _
  have cut : ∃ x h2 sl2,xslice Tryz.prog 100 sl (some (.int .i64 0)) none none h = .ok x h ∧ CLM (.f 80) [x] h = .ok sl2 h2 ∧ Grow h h2 ∧ Src h2 sl2 rows h.next := by
    have nat0 : asNat? (some (.int .i64 0)) 0 = some 0 := rfl
    rcases q2 with ⟨_,rfl,rfl⟩ | ⟨b,sp,cap,_,rfl,hg,hl,ho⟩
    · exact ⟨_,_,_,nilslice75 h,clone67_nil h,Grow.refl h,_,_,_,rfl,rfl,fun q => absurd rfl q⟩
    · have hlen := rowsC_len t.good
      have hcap : rows.length ≤ cap := by rw [List.length_append] at hl; omega
      by_cases hc : cap = 0
      · subst hc
        have hr : rows = [] := List.length_eq_zero_iff.1 (by omega)
        subst hr
        have e := xslice_e (P := Tryz.prog) (t := 100) (o := 0) (n := 0) (cap := 0) (lo := some (.int .i64 0)) (hi := none) un100 sz121 hg rfl nat0 rfl
        obtain ⟨h2,sl2,g2,e2,s2⟩ := clone67 (h := h) (a := ⟨b,0,some 1⟩) (c := 0) (rows := []) t.good (by simp) (by
          show h.row ⟨b,0,none⟩ (0 * 103) = _
          rw [H.row_eq hg (by simp)]; simp [rowsC]) (fun x hx => by subst hx; exact H.get_lt hg)
        exact ⟨_,h2,sl2,e,e2,g2,s2⟩
      · have e := xslice_o (P := Tryz.prog) (t := 100) (o := 0) (n := rows.length) (cap := cap) (lo := some (.int .i64 0)) (hi := none) (l := 0) (u := rows.length) un100 sz121 hg rfl nat0 rfl (Nat.zero_le _) hcap (by omega)
        rw [Nat.zero_mul,Nat.add_zero,Nat.sub_zero,Nat.sub_zero] at e
        obtain ⟨h2,sl2,g2,e2,s2⟩ := clone67 (h := h) (a := ⟨b,0,none⟩) (c := cap) t.good t.few (by
          show h.row ⟨b,0,none⟩ (rows.length * 103) = _
          rw [H.row_eq hg (by rw [List.length_append]; omega),List.drop_zero]
          have := rowsC_take t.good (Nat.le_refl _) sp
          rw [List.take_length] at this
          rw [this]) (fun x hx => by subst hx; exact H.get_lt hg)
        exact ⟨_,h2,sl2,e,e2,g2,s2⟩
  obtain ⟨x,h2,sl2,ec,e2,g2,s2⟩ := cut
  obtain ⟨h4,e4,u4,j4⟩ := rounds_loop R t.good t.few (lo := h.next) hS rows.length 0 h2 (by omega) (Nat.zero_le _) s2 (R.grow _ _ _ hj g2)
  obtain ⟨ob,n,c,rfl,rfl,_⟩ := s2
  refine ⟨h4,?_,(g2.upd S).trans u4,j4⟩
  rw [cM79,F79.eq,ld83,H.cell_eq h1,List.getElem?_cons_zero,ofO_some,Res.ok1_ok,xnil_ptr,Res.ok1_ok,fa102_0,Res.ok1_ok,ld100,H.cell_eq q1,List.getElem?_cons_zero,ofO_some,Res.ok1_ok,ld38,H.cell_eq h3,List.getElem?_cons_zero,ofO_some,Res.ok1_ok,f48,go_ok,
    ld83,H.cell_eq h1,List.getElem?_cons_zero,ofO_some,rc_ptr,ld100,H.cell_eq q1,List.getElem?_cons_zero,ofO_some,hrc]
  rw [show (true && (true && true)) = true from rfl,cond_true,ec,Res.ok1_ok,e2,go_ok,lenV_slice,Option.isSome_some,cond_true,ln100,Res.ok1_ok]
  exact e4
theorem all33 (bt : Nat) (h : H) : CLM (.f 41) [.pointer (some ⟨bt,0,none⟩)] h = .ok (.func (.func 79) ⟨[]⟩ ⟨[.pointer (some ⟨h.next,0,none⟩),.pointer (some ⟨h.next + 1,0,none⟩)]⟩) ((h.alloc (.cells [.pointer (some ⟨bt,0,none⟩)] 83 0 false)).alloc (.cells [.func (.func 56) #[] #[]] 38 0 false)) := by
  rw [cM41,F41.eq,cM55,F55.eq]
  simp only [xbox_eq,cells_ptr,go_ok,cells_func,H.next_alloc]
theorem range66 {an : Ann} {ps : Array Tmp} {ac bo : Code} {K : Ex → H → Res Value} {kf : Fr} {S : Nat → Prop} {J : List Rw → H → Prop} {rows : List Rw} {h : H} {bt p1 p3 : Nat} {br : Option Nat} (hit : an.its.contains 79 = true) (t : Tbl h bt br rows)
    (R : Rounds (fun x => S x ∨ x = h.next) h.next J rows) (h1 : h.get p1 = some (.cells [.pointer (some ⟨bt,0,none⟩)] 83 0 false)) (h3 : h.get p3 = some (.cells [.func (.func 56) #[] #[]] 38 0 false)) (hS : ∀ x,S x → x < h.next)
    (hj : J [] (h.alloc (.loop ⟨.ready,none,ps.toList,ac,bo,an,kf⟩))) (hend : ∀ h',J rows h' → h'.get h.next = some (.loop ⟨.ready,none,ps.toList,ac,bo,an,kf⟩)) :
    ∃ h',rngV CLM an (.func (.func 79) ⟨[]⟩ ⟨[.pointer (some ⟨p1,0,none⟩),.pointer (some ⟨p3,0,none⟩)]⟩) ps ac bo K kf h = K .normal (h'.put h.next .dead) ∧ Upd S h (h'.put h.next .dead) ∧ J rows h' := by
  have g1 : Grow h (h.alloc (.loop ⟨.ready,none,ps.toList,ac,bo,an,kf⟩)) := (Grow.refl h).alloc _
  obtain ⟨h',e,u,j⟩ := iter66 (t.grow g1) R (g1.old _ _ h1) (g1.old _ _ h3) (fun x q => by rcases q with q | q; exact Nat.lt_succ_of_lt (hS x q); subst q; exact Nat.lt_succ_self _) hj
  have hl := hend h' j
  refine ⟨h',?_,?_,j⟩
  · unfold rngV
    simp only [hit,cond_true]
    rw [e]
    simp only [go_ok,kloop,hl]
  · refine ⟨by have := g1.next; have := u.next; simp only [H.next_put]; omega,fun b x n hb => ?_⟩
    rw [H.get_put _ _ _ _ (H.get_lt hl),if_neg (by have := H.get_lt hb; omega)]
    exact u.old b x (fun q => q.elim n fun q => by have := H.get_lt hb; omega) (g1.old b x hb)
theorem cMy (b : Nat) (args : List Value) (h : H) : CLM (.y b) args h = yldS Tryz.prog CLM b args h := clS_y b args h
end Go.Proofs.YtialpopmeamojaaGreat.K.Pt
namespace Go.Proofs.YtialpopmeamojaaGreat.K.Pt
open Go Go.Kx Go.Proofs.YtialpopmeamojaaGreat.K
set_option linter.unusedVariables false
set_option linter.unusedSimpArgs false
set_option maxRecDepth 20000
def Pnd (rows : List Rw) : Prop := ∀ r ∈ rows,∃ g l,r.2 = .int .i64 r.1 :: .int .i64 g :: l
def genOf (r : Rw) : Int := match r.2 with | _ :: .int _ g :: _ => g | _ => 0
theorem genOf_eq {r : Rw} {g : Int} {l : List Value} (h : r.2 = .int .i64 r.1 :: .int .i64 g :: l) : genOf r = g := by unfold genOf; rw [h]
def cnt (g : Int) (rows : List Rw) : Nat := (rows.filter fun r => decide (genOf r = g)).length
theorem cnt_le (g : Int) (rows : List Rw) : cnt g rows ≤ rows.length := List.length_filter_le _ _
noncomputable def lp20 (x3 x5 : Value) : LpB := ⟨.ready,none,[13,14],F24.s [1,1,0,1,0,0],F24.s [1,1,0,1,0,1],an24,[(3,x3),(5,x5)]⟩
structure J20 (b q3 q5 : Nat) (gen : Int) (pre : List Rw) (h : H) : Prop where
  lp : h.get b = some (.loop (lp20 (.pointer (some ⟨q3,0,none⟩)) (.pointer (some ⟨q5,0,none⟩))))
  vg : h.get q3 = some (.cells [.int .i64 gen] 3 0 false)
  vc : h.get q5 = some (.cells [.int .i64 (cnt gen pre : Nat)] 3 0 false)
theorem round20 {b q3 q5 : Nat} {gen : Int} {rows : List Rw} (g : Good rows) (hp : Pnd rows) (few : rows.length ≤ 1000000) (n1 : b ≠ q3) (n2 : b ≠ q5) (n3 : q3 ≠ q5) : Rounds (fun x => x = q5 ∨ x = b) b (J20 b q3 q5 gen) rows := by
  refine ⟨fun pre h h' j u => ⟨u.old _ _ j.lp,u.old _ _ j.vg,u.old _ _ j.vc⟩,fun pre r h j hpre => ?_⟩
  have hmem : r ∈ rows := hpre.subset (by simp)
  obtain ⟨gr,l,hr⟩ := hp r hmem
  have hgr := g r hmem
  have hgen := genOf_eq hr
  have hlen : pre.length + 1 ≤ rows.length := by have := hpre.length_le; simpa using this
  have hst : (Value.agg ⟨r.2⟩).cells.size = 102 := by rw [asz]; exact hgr.1
  let h1 := h.alloc (.cells zc86 86 0 false)
  have hq : h1.get h.next = some (.cells zc86 86 0 false) := H.alloc_self _ _
  let h2 := h1.put h.next (.cells r.2 86 0 false)
  have w2 : h1.write ⟨h.next,0,none⟩ r.2 = some h2 := H.write_all hq (by rw [zc86_len]; exact hgr.1) hgr.2
  have g2 : Grow h h2 := ((Grow.refl h).alloc _).put (Nat.le_refl _) (H.get_lt hq) _
  have hb2 := g2.old _ _ j.lp
  let h3 := h2.put b (.loop { lp20 (.pointer (some ⟨q3,0,none⟩)) (.pointer (some ⟨q5,0,none⟩)) with st := .busy })
  have hb3 : h3.get b = some (.loop { lp20 (.pointer (some ⟨q3,0,none⟩)) (.pointer (some ⟨q5,0,none⟩)) with st := .busy }) := H.put_self hb2
  have hne : h.next ≠ b := by have := H.get_lt j.lp; omega
  have hv3 : h3.get h.next = some (.cells r.2 86 0 false) := H.put_ne hb2 hne (H.put_self hq)
  have hg3 : h3.get q3 = some (.cells [.int .i64 gen] 3 0 false) := H.put_ne hb2 (Ne.symm n1) (g2.old _ _ j.vg)
  have hc3 : h3.get q5 = some (.cells [.int .i64 (cnt gen pre : Nat)] 3 0 false) := H.put_ne hb2 (Ne.symm n2) (g2.old _ _ j.vc)
  have u3 : Upd (fun x => x = q5 ∨ x = b) h h3 := (g2.upd _).put (.inl (.inr rfl)) (H.get_lt hb2) _
  have one : r.2[0 + 1]? = some (.int .i64 gr) := by rw [hr]; rfl
  rw [cMy]
  have e0 : yldS Tryz.prog CLM b [.int .i64 r.1,.agg ⟨r.2⟩] h = evS Tryz.prog CLM an24 (F24.s [1,1,0,1,0,0]) (kassign (begK b fun fr' h' => evS Tryz.prog CLM an24 (F24.s [1,1,0,1,0,1]) (kround b) fr' h')) [(14,.agg ⟨r.2⟩),(13,.int .i64 r.1),(3,.pointer (some ⟨q3,0,none⟩)),(5,.pointer (some ⟨q5,0,none⟩))] h := by
    unfold yldS
    rw [j.lp]
    rfl
  rw [e0,F24.y4,al86,go_ok,st86 _ _ _ hst,cells_agg]
  rw [show h.alloc (.cells zc86 86 0 false) = h1 from rfl,w2,ofU_some,go_ok]
  have e1 : ∀ body : H → Res Value,begV b body h2 = body h3 := fun body => by unfold begV; rw [hb2]; rfl
  rw [e1,fa86_1,go_ok,ld3,H.cell_eq hv3,one,ofO_some,go_ok,ld3,H.cell_eq hg3,List.getElem?_cons_zero,ofO_some,go_ok,xeql,go_ok,ifV_dec]
  have hcnt : cnt gen (pre ++ [r]) = cnt gen pre + if gr = gen then 1 else 0 := by
    unfold cnt
    rw [List.filter_append,List.length_append]
    congr 1
    by_cases q : gr = gen <;> simp [hgen,q]
  by_cases hq2 : gr = gen
  · rw [if_pos hq2,ld3,H.cell_eq hc3,List.getElem?_cons_zero,ofO_some,go_ok,xadd,go_ok]
    have hw : IntKind.i64.wrap ((cnt gen pre : Int) + 1) = ((cnt gen (pre ++ [r]) : Nat) : Int) := by
      have := cnt_le gen pre
      rw [wrap64 (by omega),hcnt,if_pos hq2]; omega
    have hsi : (Value.int .i64 ((cnt gen (pre ++ [r]) : Nat) : Int)).cells.size = 1 := rfl
    rw [hw,st3 _ _ _ hsi,cells_int,H.write_all hc3 (l := [.int .i64 ((cnt gen (pre ++ [r]) : Nat) : Int)]) rfl rfl,ofU_some,go_ok]
    have hb4 := H.put_ne hc3 (x := .cells [.int .i64 ((cnt gen (pre ++ [r]) : Nat) : Int)] 3 0 false) n2 hb3
    refine ⟨_,by unfold krV; rw [hb4]; rfl,(u3.put (.inl (.inl rfl)) (H.get_lt hc3) _).put (.inl (.inr rfl)) (H.get_lt hb4) _,⟨H.put_self hb4,H.put_ne hb4 (Ne.symm n1) (H.put_ne hc3 n3 hg3),H.put_ne hb4 (Ne.symm n2) (H.put_self hc3)⟩⟩
  · rw [if_neg hq2]
    refine ⟨_,by unfold krV; rw [hb3]; rfl,u3.put (.inl (.inr rfl)) (H.get_lt hb3) _,⟨H.put_self hb3,H.put_ne hb3 (Ne.symm n1) hg3,H.put_ne hb3 (Ne.symm n2) (by rw [hcnt,if_neg hq2]; exact hc3)⟩⟩
theorem of20 {h : H} {bp bt : Nat} {br : Option Nat} {rows : List Rw} {last : Nat} (p : Pns h bp bt br rows last) (hp : Pnd rows) (gen : Int) :
    ∃ h',Grow h h' ∧ CLM (.f 24) [.pointer (some ⟨bp,0,none⟩),.int .i64 gen] h = .ok (.int .i64 (cnt gen rows : Nat)) h' := by
  let h1 := h.alloc (.cells [.int .i64 gen] 3 0 false)
  have hz : zc3 = [.int .i64 0] := by kernel_rfl
  let h2 := h1.alloc (.cells zc3 3 0 false)
  have g2 : Grow h h2 := ((Grow.refl h).alloc _).alloc _
  have b1 : h2.get h.next = some (.cells [.int .i64 gen] 3 0 false) := H.alloc_old (H.alloc_self _ _)
  have b2 : h2.get (h.next + 1) = some (.cells zc3 3 0 false) := H.alloc_self h1 _
  let h3 := h2.put (h.next + 1) (.cells [.int .i64 0] 3 0 false)
  have c1 : h3.get h.next = some (.cells [.int .i64 gen] 3 0 false) := H.put_ne b2 (by omega) b1
  have c2 : h3.get (h.next + 1) = some (.cells [.int .i64 0] 3 0 false) := H.put_self b2
  have g3 : Grow h h3 := g2.put (by omega) (H.get_lt b2) _
  have p3 := p.grow g3
  let h4 := h3.alloc (.cells [.pointer (some ⟨bt,0,none⟩)] 83 0 false)
  let h5 := h4.alloc (.cells [.func (.func 56) #[] #[]] 38 0 false)
  have g5 : Grow h3 h5 := ((Grow.refl h3).alloc _).alloc _
  have d1 : h5.get h3.next = some (.cells [.pointer (some ⟨bt,0,none⟩)] 83 0 false) := H.alloc_old (H.alloc_self _ _)
  have d2 : h5.get (h3.next + 1) = some (.cells [.func (.func 56) #[] #[]] 38 0 false) := H.alloc_self h4 _
  have n3 : h3.next = h.next + 2 := rfl
  have n5 : h5.next = h.next + 4 := rfl
  have R := round20 (b := h5.next) (q3 := h.next) (q5 := h.next + 1) (gen := gen) p.tbl.good hp p.tbl.few (by omega) (by omega) (by omega)
  have hsi : (Value.int .i64 0).cells.size = 1 := rfl
  obtain ⟨h6,e6,u6,j6⟩ := range66 (an := an24) (ps := #[13,14]) (ac := F24.s [1,1,0,1,0,0]) (bo := F24.s [1,1,0,1,0,1]) (K := fun e hh => (F24.k2 Tryz.prog CLM nu0) e [(5,.pointer (some ⟨h.next + 1,0,none⟩))] hh) (S := fun x => x = h.next + 1)
    (kf := [(3,.pointer (some ⟨h.next,0,none⟩)),(5,.pointer (some ⟨h.next + 1,0,none⟩))]) (by kernel_rfl) (p3.tbl.grow g5) R d1 d2 (fun x q => by omega)
    ⟨H.alloc_self _ _,H.alloc_old (g5.old _ _ c1),by rw [show cnt gen [] = 0 from rfl]; exact H.alloc_old (g5.old _ _ c2)⟩ (fun h' j => j.lp)
  have hdead : (h6.put h5.next .dead).get (h.next + 1) = some (.cells [.int .i64 (cnt gen rows : Nat)] 3 0 false) := H.put_ne j6.lp (by omega) j6.vc
  have u : Upd (fun x => x = h.next + 1) h (h6.put h5.next .dead) := ((g3.trans g5).upd _).trans u6
  refine ⟨_,⟨u.next,fun b x hb => u.old b x (fun q => by have := H.get_lt hb; omega) hb⟩,?_⟩
  rw [cM24,F24.eq,xbox_eq,cells_int,go_ok]
  rw [show h.alloc (.cells [.int .i64 gen] 3 0 false) = h1 from rfl,al3,go_ok]
  rw [show h1.alloc (.cells zc3 3 0 false) = h2 from rfl,show h1.next = h.next + 1 from rfl,st3 _ _ _ hsi,cells_int,H.write_all b2 (l := [.int .i64 0]) (by rw [hz]) rfl,ofU_some,go_ok]
  rw [show h2.put (h.next + 1) (.cells [.int .i64 0] 3 0 false) = h3 from rfl,xnil_ptr,go_ok,fa88_0,go_ok,ld83,H.cell_eq p3.pin,List.getElem?_cons_zero,ofO_some,go_ok,all33,go_ok]
  rw [show (h3.alloc (.cells [.pointer (some ⟨bt,0,none⟩)] 83 0 false)).alloc (.cells [.func (.func 56) #[] #[]] 38 0 false) = h5 from rfl,e6]
  show F24.k2 Tryz.prog CLM nu0 .normal [(5,.pointer (some ⟨h.next + 1,0,none⟩))] _ = _
  rw [F24.r4_normal,ld3,H.cell_eq hdead,List.getElem?_cons_zero,ofO_some,go_ok]
end Go.Proofs.YtialpopmeamojaaGreat.K.Pt
namespace Go.Proofs.YtialpopmeamojaaGreat.K.Pt
open Go Go.Kx Go.Proofs.YtialpopmeamojaaGreat.K
set_option linter.unusedVariables false
set_option linter.unusedSimpArgs false
set_option maxRecDepth 20000
theorem mem_lb : ∀ {rows : List Rw} (s : Srt rows) {k : Int} {v : List Value},(k,v) ∈ rows → rows[lb rows k]? = some (k,v)
  | r :: l,s,k,v,h => by
    rcases List.mem_cons.1 h with rfl | h
    · rw [lb_cons_neg (by simp)]; rfl
    · have := s.1 _ h
      rw [lb_cons_pos this,List.getElem?_cons_succ]
      exact mem_lb s.2 h
theorem hasK_mem {rows : List Rw} (s : Srt rows) {k : Int} {v : List Value} (h : (k,v) ∈ rows) : hasK rows k ∧ valOf rows k = v := by
  have h1 := mem_lb s h
  have hl : lb rows k < rows.length := by
    rcases Nat.lt_or_ge (lb rows k) rows.length with q | q
    · exact q
    · rw [List.getElem?_eq_none q] at h1; cases h1
  have hk : hasK rows k := ⟨hl,by simp [key,h1]⟩
  exact ⟨hk,by unfold valOf; rw [if_pos hk,h1]; rfl⟩
theorem delR_sub {rows : List Rw} {k : Int} {q : Rw} (h : q ∈ delR rows k) : q ∈ rows := by
  unfold delR at h
  split at h
  · rcases List.mem_append.1 h with h | h
    · exact List.mem_of_mem_take h
    · exact List.mem_of_mem_drop h
  · exact h
theorem num7 (v : Value) (h : H) : CLM (.f 22) [v] h = .ok v h := by rw [cM22,F22.eq]
theorem nonnilP (a : Addr) (h : H) : xbin Tryz.prog .eql 61 (.pointer (some a)) (.pointer none) h = .ok (.bool false) h := by kernel_rfl
end Go.Proofs.YtialpopmeamojaaGreat.K.Pt
namespace Go.Proofs.YtialpopmeamojaaGreat.K.Pt
open Go Go.Kx Go.Proofs.YtialpopmeamojaaGreat.K
set_option maxRecDepth 20000
set_option linter.unusedVariables false
theorem bd59a (k n v : Int) (h : H) : xbuild Tryz.prog 59 [(0,(.int .i64 k)),(1,(.int .i64 n)),(4,(.int .i64 v))] h = .ok (.agg ⟨opR (k,n,v)⟩) h := by kernel_rfl
theorem bd59b (k n : Int) (h : H) : xbuild Tryz.prog 59 [(0,(.int .i64 k)),(1,(.int .i64 n))] h = .ok (.agg ⟨opR (k,n,0)⟩) h := by kernel_rfl
theorem bd59c (k : Int) (h : H) : xbuild Tryz.prog 59 [(0,(.int .i64 k))] h = .ok (.agg ⟨opR (k,0,0)⟩) h := by kernel_rfl
theorem bs60 (h : H) : xbuildSlice Tryz.prog 60 8 [(0,.agg ⟨opR (1,5,1)⟩),(1,.agg ⟨opR (1,2,2)⟩),(2,.agg ⟨opR (1,5,3)⟩),(3,.agg ⟨opR (5,0,0)⟩),(4,.agg ⟨opR (6,3,0)⟩),(5,.agg ⟨opR (3,2,0)⟩),(6,.agg ⟨opR (3,2,0)⟩),(7,.agg ⟨opR (4,0,0)⟩)] h =
    .ok (.slice (some ⟨h.next,0,none⟩) 8 8) (h.alloc (.cells (opsC ops8) 59 0 false)) := by kernel_rfl
noncomputable def zc68 : List Value := match xbuild Tryz.prog 68 [] H0 with | .ok (.agg l) _ => l.toList | _ => []
noncomputable def zc70 : List Value := match xbuild Tryz.prog 70 [] H0 with | .ok (.agg l) _ => l.toList | _ => []
theorem bd68 (h : H) : xbuild Tryz.prog 68 [] h = .ok (.agg ⟨zc68⟩) h := by kernel_rfl
theorem bd70 (h : H) : xbuild Tryz.prog 70 [] h = .ok (.agg ⟨zc70⟩) h := by kernel_rfl
theorem zc68_ok : zc68.length = 32 ∧ ones zc68 = true := ⟨by kernel_rfl,by kernel_rfl⟩
theorem zc70_ok : zc70.length = 34 ∧ ones zc70 = true := ⟨by kernel_rfl,by kernel_rfl⟩
end Go.Proofs.YtialpopmeamojaaGreat.K.Pt
namespace Go.Proofs.YtialpopmeamojaaGreat.K.Pt
open Go Go.Kx Go.Proofs.YtialpopmeamojaaGreat.K
set_option linter.unusedVariables false
set_option linter.unusedSimpArgs false
set_option maxRecDepth 20000
theorem ints19 {h : H} {b : Nat} (e : h.get b = some (.cells (opsC ops8) 59 0 false)) : CLM (.f 20) [.slice (some ⟨b,0,none⟩) 8 8] h = .ok (.bool true) h := by
  rw [cM20,pmI]
  have : ops8At [.slice (some ⟨b,0,none⟩) 8 8] h = true := by
    show (match h.get b with | some (.cells c 59 0 false) => isOps c ops8 | _ => false) = true
    rw [e]
    exact isOps_opsC ops8
  rw [this]; rfl
noncomputable def rows7 : Nat → List Rw
  | 0 => []
  | n + 1 => rows7 n ++ [(((n + 1 : Nat) : Int),pinC ((n + 1 : Nat) : Int) 7 zc68 zc70 zc70)]
theorem rows7_len : ∀ n,(rows7 n).length = n
  | 0 => rfl
  | n + 1 => by simp [rows7,rows7_len n]
theorem rows7_mem : ∀ n i,i < n → (((i + 1 : Nat) : Int),pinC ((i + 1 : Nat) : Int) 7 zc68 zc70 zc70) ∈ rows7 n
  | 0,i,h => absurd h (by omega)
  | n + 1,i,h => by
    by_cases e : i = n
    · subst e; exact List.mem_append.2 (.inr (by simp))
    · exact List.mem_append.2 (.inl (rows7_mem n i (by omega)))
theorem rows7_form : ∀ n r,r ∈ rows7 n → r.2 = pinC r.1 7 zc68 zc70 zc70
  | 0,r,h => by cases h
  | n + 1,r,h => by
    rcases List.mem_append.1 h with q | q
    · exact rows7_form n r q
    · simp only [List.mem_singleton] at q; subst q; rfl
theorem grow_upd {S : Nat → Prop} {h0 h h' : H} (g : Grow h0 h) (u : Upd S h h') (hS : ∀ x,S x → h0.next ≤ x) : Grow h0 h' :=
  ⟨Nat.le_trans g.next u.next,fun b x e => u.old b x (fun q => by have := hS b q; have := H.get_lt e; omega) (g.old b x e)⟩
theorem j11_end {h0 h : H} {bp bt : Nat} {br : Option Nat} (g : Grow h0 h) (p : Pns h bp bt br (rows7 64) 64) (f : ∀ x,Ft bp bt br x → h0.next ≤ x) :
    ∃ h',Grow h0 h' ∧ F13.j11 Tryz.prog CLM nu0 nu0 (.pointer (some ⟨bp,0,none⟩)) h = .ok (.bool true) h' := by
  obtain ⟨h1,g1,e1⟩ := pin6_full p (by rw [rows7_len]; exact Nat.le_refl _) 7 zc68 zc70 zc70
  have p1 := p.grow g1
  obtain ⟨h2,u2,e2,p2⟩ := unpin8 p1 30
  have hm := hasK_mem p.tbl.srt (rows7_mem 64 29 (by omega))
  have hh : hasK (rows7 64) 30 := hm.1
  rw [if_pos hh] at e2
  have hl : (delR (rows7 64) 30).length = 63 := by
    have := hh.1
    have h64 := rows7_len 64
    unfold delR
    rw [if_pos hh,List.length_append,List.length_take,List.length_drop]
    omega
  obtain ⟨h3,br3,u3,n3,e3,p3⟩ := pin6 p2 (by omega) (by omega) 8 zc68_ok zc70_ok zc70_ok
  have hp : Pnd (delR (rows7 64) 30 ++ [(((64 + 1 : Nat) : Int),pinC ((64 + 1 : Nat) : Int) 8 zc68 zc70 zc70)]) := by
    intro r hr
    rcases List.mem_append.1 hr with q | q
    · exact ⟨7,_,rows7_form 64 r (delR_sub q)⟩
    · simp only [List.mem_singleton] at q; subst q; exact ⟨8,_,rfl⟩
  obtain ⟨h4,g4,e4⟩ := of20 p3 hp 7
  have hc : cnt 7 (delR (rows7 64) 30 ++ [(((64 + 1 : Nat) : Int),pinC ((64 + 1 : Nat) : Int) 8 zc68 zc70 zc70)]) = 63 := by
    unfold cnt
    rw [List.filter_append,List.filter_eq_self.2,List.length_append,hl]
    · rfl
    · intro r hr
      have := rows7_form 64 r (delR_sub hr)
      exact decide_eq_true (genOf_eq (l := zc68 ++ (zc70 ++ zc70)) this)
  rw [hc] at e4
  have gg : Grow h0 h4 := (grow_upd (grow_upd (g.trans g1) u2 f) u3 f).trans g4
  refine ⟨h4,gg,?_⟩
  rw [F13.j11_eq,bd68,go_ok,bd70,go_ok,bd70,go_ok,e1,go_ok,xextract_0,go_ok,xextract_1,go_ok,e2,go_ok,bd68,go_ok,bd70,go_ok,bd70,go_ok,e3,go_ok,xextract_0,go_ok,xextract_1,go_ok,
    xeql,go_ok,ifV_dec,if_pos rfl,num7,go_ok,xeql,go_ok,ifV_dec,if_pos rfl,num7,go_ok,xeql,go_ok,ifV_dec,if_pos rfl,xeql,go_ok,ifV_dec,if_pos (by omega : ((64 + 1 : Nat) : Int) = 65),num7,go_ok,xeql,go_ok,ifV_dec,if_pos rfl,e4,go_ok,xeql,go_ok]
  rfl
theorem loop6 {h0 : H} {bp bt : Nat} : ∀ (d n : Nat) {h : H} {br : Option Nat},n + d = 64 → Grow h0 h → Pns h bp bt br (rows7 n) n → (∀ x,Ft bp bt br x → h0.next ≤ x) →
    ∃ h',Grow h0 h' ∧ F13.l6 Tryz.prog CLM nu0 nu0 (.pointer (some ⟨bp,0,none⟩)) (.int .i64 ((n + 1 : Nat) : Int)) h = .ok (.bool true) h' := by
  intro d
  induction d with
  | zero =>
    intro n h br hn g p f
    have : n = 64 := by omega
    subst this
    obtain ⟨h',g',e'⟩ := j11_end g p f
    refine ⟨h',g',?_⟩
    rw [F13.l6_eq,xleq,go_ok,ifV_dec,if_neg (by omega)]
    exact e'
  | succ d ih =>
    intro n h br hn g p f
    obtain ⟨h1,br1,u1,n1,e1,p1⟩ := pin6 p (by rw [rows7_len]; omega) (by omega) 7 zc68_ok zc70_ok zc70_ok
    have hg1 := grow_upd g u1 f
    have f1 : ∀ x,Ft bp bt (some br1) x → h0.next ≤ x := by
      intro x hx
      rcases hx with q | q | q
      · exact f x (.inl q)
      · exact f x (.inr (.inl q))
      · cases q; have := g.next; omega
    obtain ⟨h2,g2,e2⟩ := ih (n + 1) (by omega) hg1 p1 f1
    refine ⟨h2,g2,?_⟩
    have hw : IntKind.i64.wrap (((n + 1 : Nat) : Int) + 1) = ((n + 1 + 1 : Nat) : Int) := by rw [wrap64 (by omega)]; omega
    rw [F13.l6_eq,xleq,go_ok,ifV_dec,if_pos (by omega),F13.j8_eq,bd68,go_ok,bd70,go_ok,bd70,go_ok,e1,go_ok,xextract_0,go_ok,xextract_1,go_ok,xneq,go_ok,ifV_not,if_pos rfl,num7,go_ok,xneq,go_ok,ifV_not,if_pos rfl,xadd,go_ok,hw]
    exact e2
theorem started (h : H) : ∃ h',Grow h h' ∧ CLM (.f 13) [] h = .ok (.bool true) h' := by
  let h1 := h.alloc (.cells (opsC ops8) 59 0 false)
  have g1 : Grow h h1 := (Grow.refl h).alloc _
  have b1 : h1.get h.next = some (.cells (opsC ops8) 59 0 false) := H.alloc_self _ _
  obtain ⟨h2,g2,e2,p2,n2⟩ := new5 h1
  have n1 : h1.next = h.next + 1 := rfl
  obtain ⟨h3,g3,e3⟩ := loop6 (h0 := h) 64 0 (by omega) (g1.trans g2) p2 (fun x hx => by rcases hx with q | q | q; omega; omega; cases q)
  refine ⟨h3,g3,?_⟩
  rw [cM13,F13.eq,bd59a,go_ok,bd59a,go_ok,bd59a,go_ok,bd59c,go_ok,bd59b,go_ok,bd59b,go_ok,bd59b,go_ok,bd59c,go_ok,bs60,go_ok]
  rw [show h.alloc (.cells (opsC ops8) 59 0 false) = h1 from rfl,e2,go_ok,nonnilP,go_ok,ifV_f,ints19 (g2.old _ _ b1),go_ok,xun_not,go_ok,ifV_bool]
  show F13.j5 Tryz.prog CLM nu0 nu0 _ h2 = _
  rw [F13.j5_eq]
  exact e3
end Go.Proofs.YtialpopmeamojaaGreat.K.Pt
namespace Go.Proofs.YtialpopmeamojaaGreat.K
open Go Go.Kx Go.ChangeShapes Go.WideShapes Go.ChangeAt Go.RowKit
set_option maxRecDepth 100000
set_option linter.unusedVariables false
instance : Inhabited ByteArray := ⟨⟨#[]⟩⟩
section
variable {HH : Type} {enc : TypeId × Value → HH} {W : World}
theorem read_texts {v : Value} {d : DataW HH} {p : List MemPlace} {base : Nat} (hval : Value.okWide Tryz.prog W .any base 22 v) (h : DataW.Trod enc Tryz.prog W 0 (fun _ => true) true 22 v d p) :
    ∃ u ls,R (io W) u v ∧ Arg (hOf W) u ls := by
  obtain ⟨x,l,ob,c,hr,_,rfl,q⟩ := read_rows (E := 1) (α := ByteArray) (ok := fun _ => True) (C := fun s => [.string s]) Tryz.underlying22 (by kernel_rfl) (by omega) (fun {n cs x} q => by
    obtain ⟨s,e,_⟩ := DataW.trod_string Tryz.underlying9 q
    exact ⟨s,trivial,e⟩) (fun _ _ => rfl) hval h
  exact ⟨_,l,hr,ob,c,rfl,fun j s hs => let ⟨b,o,sp,e,_,r⟩ := q j s hs; ⟨b,o,sp,e,r⟩⟩
end
theorem laidOutV : laidOutB Tryz.prog = true := by kernel_rfl
theorem ownV : ownKnob Tryz.prog.godebug = none := by kernel_rfl
theorem trodAll_oneV {H : Type} {enc : TypeId × Value → H} {P : Program} {w : World} {base : Nat} {spare : Nat → Bool} {held : Bool} {t0 : TypeId} {args : Array Value} {ds : List (DataW H)} {ps : List MemPlace} (h : DataW.TrodAll enc P w base spare held [t0] args.toList ds ps) :
    ∃ v0 d0 p0,args = #[v0] ∧ ds = [d0] ∧ DataW.Trod enc P w base spare held t0 v0 d0 p0 := by
  obtain ⟨v0,vs,d0,ds',p0,q,hargs,rfl,rfl,hd,hrest⟩ := trodAll_cons h
  obtain ⟨rfl,rfl,rfl⟩ := trodAll_nil hrest
  exact ⟨v0,d0,p0,by cases args; simp_all,rfl,hd⟩
theorem contract3 (H : Type) (enc : TypeId × Value → H) (W : World) (base : Nat) (args : Array Value) (ds gs : List (DataW H)) (before : List MemPlace)
    (hval : ∀ (j : Nat) t v,Tryz.f3.params[j]? = some t → args[j]? = some v → Value.okWide Tryz.prog W .any base t v)
    (hW : DataW.Whole enc Tryz.prog Tryz.f3.params.toList Rows.pinsValuesSpec.vars false W args.toList ds gs before) :
    Calls Tryz.prog 3 args W fun e W' => ∃ v,e = .returned v ∧ Rows.pinsValuesSpec.post enc Tryz.prog Tryz.f3 false true false false W args v W' := by
  have hW' := hW
  obtain ⟨p,q,hA0,hV,rfl,hfz,hnd⟩ := hW
  have hA : DataW.TrodAll enc Tryz.prog W 0 (fun _ => true) true Tryz.f3.params.toList args.toList ds p := hA0
  rw [Tryz.params3] at hA hval
  obtain ⟨v0,d0,p0,rfl,rfl,h0⟩ := trodAll_oneV hA
  obtain ⟨u,ls,rx0,T⟩ := read_texts (hval 0 _ v0 rfl rfl) h0
  obtain ⟨h',hg,hr⟩ := values Pt.started T
  refine bare_true laidOutV ?_ rfl Tryz.func3 (by kernel_rfl) (by kernel_rfl) (tb := 4) (by kernel_rfl) Tryz.underlying4 rfl hW' CLM_ok ?_ hr hg
  · rw [Tryz.params3]
    intro t ht
    simp only [List.mem_cons,List.not_mem_nil,or_false] at ht
    rcases ht with rfl
    exact ⟨by kernel_rfl,of_decide_eq_true (by kernel_rfl)⟩
  · exact .cons rx0 .nil
theorem lifted3 (os : Os) (started : os.Started) (H : Type) (enc : TypeId × Value → H) :
    ReturnsInHanded {} Tryz.checked os 3 .any (Rows.pinsValuesSpec.pre6 enc Tryz.prog Tryz.f3 Rows.pinsValuesRow.domain false) (Rows.pinsValuesSpec.post enc Tryz.prog Tryz.f3 false true false false) := by
  refine returnsInHanded_of_change (C := Tryz.checked) ownV started (by kernel_rfl) Tryz.func3
    (ChangeSpec.witness6 (enc := enc) (C := Tryz.checked) false ⟨#[],#[.slice none 0 0],[]⟩ 8 (by kernel_rfl) (by kernel_rfl) (by kernel_rfl) (by kernel_rfl)) ?_
  intro W base args ds gs before hval hW _ _
  exact contract3 H enc W base args ds gs before hval hW
end Go.Proofs.YtialpopmeamojaaGreat.K
namespace Go.Proofs.YtialpopmeamojaaGreat
open Go
set_option maxRecDepth 100000
theorem pinsValues_holds : Rows.PinsValuesSaid :=
  OpenClaim.holds_of_wide 3 Tryz.f3 rfl rfl rfl rfl rfl rfl rfl ⟨rfl,rfl,rfl,rfl,rfl⟩ rfl rfl rfl rfl rfl (by kernel_rfl) Tryz.func3 (by kernel_rfl)
    (of_decide_eq_true (by kernel_rfl)) (by unfold Func.isWrapper; first | (rw [if_pos (by decide +kernel)]; kernel_rfl) | (rw [if_neg (by decide +kernel)]; exact ⟨rfl,rfl⟩))
    (fun os started H enc _ => K.lifted3 os started H enc)
end Go.Proofs.YtialpopmeamojaaGreat
#print axioms Go.Proofs.YtialpopmeamojaaGreat.pinsValues_holds
