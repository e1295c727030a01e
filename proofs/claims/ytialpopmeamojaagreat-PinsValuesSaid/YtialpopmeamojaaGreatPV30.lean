/- My texts for this claim, in one file: part 30. -/
import Derived.Test.YtialpopmeamojaaGreatPV29
namespace Go.Proofs.YtialpopmeamojaaGreat.K
open Go Go.Kx
set_option linter.unusedVariables false
set_option linter.unusedSimpArgs false
set_option maxRecDepth 20000
noncomputable def zcR : List Value := match zeroOf Tryz.prog 51 with | some z => z.cells.toList | none => []
theorem zcR_eq : zcR = [.string ⟨#[]⟩,.pointer none] := by kernel_rfl
theorem zcR_len : zcR.length = 2 := by rw [zcR_eq]; rfl
theorem zcR_ones : ones zcR = true := by rw [zcR_eq]; rfl
theorem zeroRA : ∃ z,zeroOf Tryz.prog 51 = some z ∧ z.cells.toList = zcR := by
  cases h : zeroOf Tryz.prog 51 with
  | none => exact absurd h (by intro q; have : (zeroOf Tryz.prog 51).isSome = true := by kernel_rfl
                               rw [q] at this; cases this)
  | some z => exact ⟨z,rfl,by unfold zcR; rw [h]⟩
theorem itSA : isIntT Tryz.prog 42 = some false := by kernel_rfl
def rC (rows : List Rw) : List Value := (rws rows).flatten
theorem rC_len {rows : List Rw} (g : Good rows) : (rC rows).length = rows.length * 2 := by unfold rC; rw [flat_len g.r,rws_len]
theorem rC_app (a b : List Rw) : rC (a ++ b) = rC a ++ rC b := by unfold rC rws; rw [List.map_append,List.flatten_append]
theorem rC_take {rows : List Rw} (g : Good rows) {m : Nat} (hm : m ≤ rows.length) (sp : List Value) : (rC rows ++ sp).take (m * 2) = rC (rows.take m) := by
  unfold rC; rw [flat_take g.r (by rw [rws_len]; exact hm)]; unfold rws; rw [List.map_take]
theorem rC_drop {rows : List Rw} (g : Good rows) {m : Nat} (hm : m ≤ rows.length) (sp : List Value) : (rC rows ++ sp).drop (m * 2) = rC (rows.drop m) ++ sp := by
  unfold rC; rw [flat_drop g.r (by rw [rws_len]; exact hm)]; unfold rws; rw [List.map_drop]
theorem rC_ones {rows : List Rw} (g : Good rows) : ones (rC rows) = true := flat_ones g.r
theorem Good.tk {rows : List Rw} (g : Good rows) (n : Nat) : Good (rows.take n) := fun r q => g r (List.mem_of_mem_take q)
theorem Good.dp {rows : List Rw} (g : Good rows) (n : Nat) : Good (rows.drop n) := fun r q => g r (List.mem_of_mem_drop q)
theorem del_cells {rows : List Rw} (g : Good rows) {i : Nat} (hi : i < rows.length) (sp : List Value) {zc : List Value} (hz : zc.length = 2) :
    let a := rC rows ++ sp
    let n := rC (rows.drop (i + 1))
    let b := a.take (i * 2) ++ (n ++ a.drop (i * 2 + n.length))
    n.length = (rows.length - (i + 1)) * 2 ∧ b.length = a.length ∧ b.take ((rows.length - 1) * 2) ++ (zc ++ b.drop ((rows.length - 1) * 2 + zc.length)) = rC (rows.take i ++ rows.drop (i + 1)) ++ (zc ++ sp) := by
  have ha := rC_len g
  have hn : (rC (rows.drop (i + 1))).length = (rows.length - (i + 1)) * 2 := by rw [rC_len (g.dp _),List.length_drop]
  have ht : (rC (rows.take i)).length = i * 2 := by rw [rC_len (g.tk _),List.length_take,Nat.min_eq_left (by omega)]
  have e1 : (rC rows ++ sp).take (i * 2) = rC (rows.take i) := rC_take g (by omega) sp
  have e2 : (rC rows ++ sp).drop (i * 2 + (rows.length - (i + 1)) * 2) = rC (rows.drop (rows.length - 1)) ++ sp := by
    rw [show i * 2 + (rows.length - (i + 1)) * 2 = (rows.length - 1) * 2 by omega]
    exact rC_drop g (by omega) sp
  have hlast : (rC (rows.drop (rows.length - 1))).length = 2 := by rw [rC_len (g.dp _),List.length_drop]; omega
  refine ⟨hn,?_,?_⟩
  · simp only [hn,e1,e2,List.length_append,ht,hlast,ha]
    omega
  · simp only [hn,e1,e2]
    have h1 : (rC (rows.take i) ++ (rC (rows.drop (i + 1)) ++ (rC (rows.drop (rows.length - 1)) ++ sp))) = rC (rows.take i ++ rows.drop (i + 1)) ++ (rC (rows.drop (rows.length - 1)) ++ sp) := by
      rw [rC_app,List.append_assoc]
    have h2 : (rC (rows.take i ++ rows.drop (i + 1))).length = (rows.length - 1) * 2 := by rw [rC_app,List.length_append,ht,hn]; omega
    have h3 : (rC (rows.take i ++ rows.drop (i + 1)) ++ (rC (rows.drop (rows.length - 1)) ++ sp)).drop ((rows.length - 1) * 2 + zc.length) = sp := by
      rw [← List.append_assoc]
      exact List.drop_left' (by rw [List.length_append,h2,hlast,hz])
    rw [h1,List.take_left' h2,h3]
theorem eDelS {h : H} {sl : Value} {br : Option Nat} {rows : List Rw} (l : Lst 51 2 h sl br (rws rows)) (hg : Good rows) (few : rows.length ≤ 1000000) {i : Nat} (hi : i < rows.length) :
    ∃ h' sl',Upd (fun b => some b = br) h h' ∧ CLM (.f 18) [sl,.int .i64 (i : Nat),.int .i64 ((i + 1 : Nat) : Int)] h = .ok sl' h' ∧ Lst 51 2 h' sl' br (rws (rows.take i ++ rows.drop (i + 1))) := by
  rcases l with ⟨_,_,w⟩ | ⟨br,spare,cap,rfl,rfl,hb,hl,ho⟩
  · have : rows = [] := List.map_eq_nil_iff.1 w
    subst this; simp at hi
  · rw [rws_len]
    have hlen := rC_len hg
    replace hb : h.get br = some (.cells (rC rows ++ spare) 51 0 true) := hb
    replace hl : (rC rows ++ spare).length = cap * 2 := hl
    have hcap : rows.length ≤ cap := by rw [List.length_append] at hl; omega
    have nat : ∀ (m d : Nat),asNat? (some (.int .i64 (m : Int))) d = some m := fun m d => rfl
    have non : ∀ (d : Nat),asNat? none d = some d := fun d => rfl
    obtain ⟨d1,d2,d3⟩ := del_cells hg hi spare zcR_len
    rw [cM18,F18.eq,ln42,go_ok,xslice_m un42 sz51 (nat i _) (nat (i + 1) _) (nat rows.length _) (by omega) (by omega) hcap,go_ok,xeql,go_ok,ifV_dec,if_neg (by omega),F18.j4_eq,ln42,go_ok,xslice_o un42 sz51 hb rfl (non 0) (nat i _) (Nat.zero_le _) (by omega) (by omega),Res.ok1_ok]
    simp only [Nat.zero_mul,Nat.add_zero,Nat.sub_zero]
    have fin : ∀ (h2 : H) (c : List Value),h2.get br = some (.cells c 51 0 true) → c.length = (rC rows ++ spare).length → Upd (fun b => some b = some br) h h2 →
        c.take ((rows.length - 1) * 2) ++ (zcR ++ c.drop ((rows.length - 1) * 2 + zcR.length)) = rC (rows.take i ++ rows.drop (i + 1)) ++ (zcR ++ spare) →
        ∃ h' sl',Upd (fun b => some b = some br) h h' ∧ ((xbuiltin Tryz.prog .len [42] [.slice (some ⟨br,0,none⟩) (rows.length - 1) cap] h2).go .pan fun t15 h16 => ((xslice Tryz.prog 42 (.slice (some ⟨br,0,none⟩) (rows.length - 1) cap) (some t15) (some (.int .i64 (rows.length : Nat))) none h16).go .pan fun t17 h18 => ((xbuiltin Tryz.prog .clear [42] [t17] h18).go .pan fun t19 h20 => (.ok (.slice (some ⟨br,0,none⟩) (rows.length - 1) cap) h20)))) = .ok sl' h' ∧
          Lst 51 2 h' sl' (some br) (rws (rows.take i ++ rows.drop (i + 1))) := by
      intro h2 c hc hcl u2 hfin
      obtain ⟨z,hz,hzc⟩ := zeroRA
      have hw : h2.write ⟨br,0 + (rows.length - 1) * 2,none⟩ (repeatL z.cells.toList 1) = some (h2.put br (.cells (rC (rows.take i ++ rows.drop (i + 1)) ++ (zcR ++ spare)) 51 0 true)) := by
        rw [hzc,show repeatL zcR 1 = zcR by simp [repeatL],H.write_eq hc (by rw [hcl,zcR_len,List.length_append]; omega) zcR_ones,Nat.zero_add,hfin]
      rw [ln42,go_ok,xslice_o un42 sz51 hc rfl (nat (rows.length - 1) _) (nat rows.length _) (by omega) hcap (by omega),go_ok,co51,xclear_eq un42 hz (by omega) (by rw [show rows.length - (rows.length - 1) = 1 by omega]; exact hw),go_ok]
      refine ⟨_,_,u2.put (.inl rfl) (H.get_lt hc) _,rfl,.inr ⟨br,zcR ++ spare,cap,rfl,?_,H.put_self hc,?_,ones_append zcR_ones ho⟩⟩
      · simp only [rws_len,List.length_append,List.length_take,List.length_drop]
        rw [show min i rows.length + (rows.length - (i + 1)) = rows.length - 1 by omega]
      · show (rC (rows.take i ++ rows.drop (i + 1)) ++ (zcR ++ spare)).length = _
        rw [← hfin]
        simp only [List.length_append,List.length_take,List.length_drop,zcR_len]
        rw [List.length_append] at hl hcl
        omega
    by_cases hlast : i + 1 = rows.length
    ·
      have hx : ∃ x,xslice Tryz.prog 42 (.slice (some ⟨br,0,none⟩) rows.length cap) (some (.int .i64 ((i + 1 : Nat) : Int))) none none h = .ok x h ∧ lenV x = some 0 ∧ firstC h (Tryz.prog.cellsOf 51) 0 x = some [] := by
        by_cases hc : rows.length = cap
        · refine ⟨_,xslice_e un42 sz51 hb rfl (by rw [← hc,← hlast]; exact nat _ _) (by rw [← hc]; exact non _),rfl,?_⟩
          show h.row ⟨br,0,none⟩ (0 * _) = _
          rw [H.row_eq hb (by rw [Nat.zero_mul]; omega),Nat.zero_mul]; simp
        · refine ⟨_,xslice_o un42 sz51 hb rfl (nat _ _) (non _) (by omega) hcap (by omega),by show some (rows.length - (i + 1)) = _; rw [hlast,Nat.sub_self],?_⟩
          show h.row ⟨br,0 + (i + 1) * _,none⟩ (0 * _) = _
          rw [H.row_eq hb (by rw [Nat.zero_mul,co51,List.length_append]; omega),Nat.zero_mul]; simp
      obtain ⟨x,x1,x2,x3⟩ := hx
      rw [x1,Res.ok1_ok,xapp_0 eo42 sz51 itSA x2 x3 (by omega),go_ok]
      have hn0 : rows.drop (i + 1) = [] := List.drop_eq_nil_of_le (by omega)
      have := fin h _ hb rfl (Upd.refl _ _) (by
        rw [← d3]
        simp only [hn0,rC,rws,List.map_nil,List.flatten_nil,List.nil_append,List.length_nil,Nat.add_zero,List.take_append_drop])
      rw [show i = rows.length - 1 by omega] at this ⊢
      exact this
    · have hrow : h.row ⟨br,0 + (i + 1) * 2,none⟩ ((rows.length - (i + 1)) * 2) = some (rC (rows.drop (i + 1))) := by
        rw [H.row_eq hb (by rw [List.length_append]; omega),Nat.zero_add,rC_drop hg (by omega),List.take_left' d1]
      rw [xslice_o un42 sz51 hb rfl (nat _ _) (non _) (by omega) hcap (by omega),Res.ok1_ok,co51]
      have hw : h.write ⟨br,0 + i * 2,none⟩ (rC (rows.drop (i + 1))) = some (h.put br (.cells ((rC rows ++ spare).take (i * 2) ++ (rC (rows.drop (i + 1)) ++ (rC rows ++ spare).drop (i * 2 + (rC (rows.drop (i + 1))).length))) 51 0 true)) := by
        rw [H.write_eq hb (by rw [d1,List.length_append]; omega) (rC_ones (hg.dp _)),Nat.zero_add]
      rw [xapp_in eo42 sz51 itSA (k := rows.length - (i + 1)) rfl (by rw [co51]; exact hrow) (by omega) (by omega) (by rw [co51]; exact hw),go_ok]
      have := fin _ _ (H.put_self hb) d2 ((Upd.refl (fun b => some b = some br) _).put (.inl rfl) (H.get_lt hb) _) d3
      rw [show i + (rows.length - (i + 1)) = rows.length - 1 by omega]
      exact this
theorem eDelA {h : H} {bt : Nat} {br : Option Nat} {rows : List Rw} (t : TbA.Tbl h bt br rows) (k : ByteArray) :
    ∃ h',Upd (fun b => b = bt ∨ some b = br) h h' ∧ CLM (.f 11) [.pointer (some ⟨bt,0,none⟩),.string k] h = .ok (.bool (decide (hasK rows k))) h' ∧ TbA.Tbl h' bt br (delR rows k) := by
  obtain ⟨h1,g1,e1⟩ := TbA.place t k
  have t1 := t.grow g1
  rw [cM11,F11.eq,e1,go_ok,xextract_0,go_ok,xextract_1,go_ok,ifV_dec]
  by_cases hk : hasK rows k
  · rw [if_pos hk]
    obtain ⟨sl,q1,q2⟩ := t1.sl
    obtain ⟨h2,sl',u2,e2,s2⟩ := eDelS q2 t.good t.few hk.1
    have hbt2 : h2.get bt = some (.cells [sl] 44 0 false) := u2.old _ _ t.ne q1
    have hfl : lb rows k < 2000000 := by have := t.few; have := hk.1; omega
    obtain ⟨o',c',hsl⟩ := s2.len
    have hst : sl'.cells = #[sl'] := by rw [hsl]; rfl
    have u : Upd (fun b => b = bt ∨ some b = br) h h2 := (g1.upd _).trans (u2.mono fun x _ q => .inr q)
    have hd : delR rows k = rows.take (lb rows k) ++ rows.drop (lb rows k + 1) := by unfold delR; rw [if_pos hk]
    refine ⟨h2.put bt (.cells [sl'] 44 0 false),u.put (.inl (.inl rfl)) (H.get_lt hbt2) _,?_,⟨⟨_,H.put_self hbt2,?_⟩,?_,?_,?_⟩⟩
    · rw [xnil_ptr,go_ok,fa44_0,go_ok,ld42,H.cell_eq q1,List.getElem?_cons_zero,ofO_some,go_ok,xadd,go_ok,wadd1 hfl,e2,go_ok,xnil_ptr,go_ok,fa44_0,go_ok,st42 _ _ _ (by rw [hst]; rfl),hst]
      rw [H.write_all hbt2 (l := [sl']) rfl (by rw [hsl]; rfl),ofU_some,go_ok]
    · rw [hd]
      exact s2.upd (S := fun x => x = bt) ((Upd.refl (fun x => x = bt) h2).put (.inl rfl) (H.get_lt hbt2) _) (fun b hb z => t.ne (by rw [hb,z]))
    · exact del_good t.good _
    · exact del_srt t.srt _
    · rw [del_len]; have := t.few; split <;> omega
  · rw [if_neg hk]
    exact ⟨h1,g1.upd _,rfl,by unfold delR; rw [if_neg hk]; exact t1⟩
end Go.Proofs.YtialpopmeamojaaGreat.K
namespace Go.Proofs.YtialpopmeamojaaGreat.K
open Go Go.Kx
set_option linter.unusedVariables false
set_option linter.unusedSimpArgs false
set_option maxRecDepth 20000
theorem xpsame {P : Program} {t : TypeId} {h : H} {b o : Nat} {c : List Value} {el : TypeId} {op : Bool} (hz : Nat.beq (ptrElem P t) 0 = false) (hg : h.get b = some (.cells c el 0 op)) :
    xbin P .neq t (.pointer (some ⟨b,o,none⟩)) (.pointer (some ⟨b,o,none⟩)) h = .ok (.bool false) h := by
  have hn : eqNil P t (.pointer (some ⟨b,o,none⟩)) (.pointer (some ⟨b,o,none⟩)) = none := by
    unfold eqNil
    split <;> first | rfl | simp_all
  have hs : samePtr h ⟨b,o,none⟩ ⟨b,o,none⟩ = some true := by
    unfold samePtr unmarked
    simp only [hg]
    simp
  unfold xbin
  simp only [flat,Bool.and_self,cond_false,known,cond_true,hn,hz,hs,Bool.not_true]
theorem plain_same (b o : Nat) : plain2 (.pointer (some ⟨b,o,none⟩)) (.pointer (some ⟨b,o,none⟩)) = true := by show Nat.beq b b = true; simp
theorem xbneq (a b : Bool) (h : H) : xbin Tryz.prog .neq 4 (.bool a) (.bool b) h = .ok (.bool (!(a == b))) h := by cases a <;> cases b <;> kernel_rfl
theorem xbeql (a b : Bool) (h : H) : xbin Tryz.prog .eql 4 (.bool a) (.bool b) h = .ok (.bool (a == b)) h := by cases a <;> cases b <;> kernel_rfl
def El (h : H) (b e : Nat) : Prop := ∃ c f o,h.get b = some (.cells c e f o)
theorem El.ne {h : H} {b c e d : Nat} (p : El h b e) (q : El h c d) (hn : e ≠ d) : b ≠ c := fun z => by
  obtain ⟨c1,f1,o1,g1⟩ := p
  obtain ⟨c2,f2,o2,g2⟩ := q
  rw [z,g2] at g1
  cases g1
  exact hn rfl
theorem El.of {h : H} {b e f : Nat} {c : List Value} {o : Bool} (g : h.get b = some (.cells c e f o)) : El h b e := ⟨c,f,o,g⟩
theorem lst_el {e E : Nat} {h : H} {sl : Value} {b : Nat} {rows : List (List Value)} (l : Lst e E h sl (some b) rows) : El h b e := by
  rcases l with ⟨z,_⟩ | ⟨b',sp,cap,e',_,hg,_⟩
  · cases z
  · cases e'; exact El.of hg
theorem outA {h : H} {bt : Nat} {br : Option Nat} {rows : List Rw} (t : TbA.Tbl h bt br rows) {b e : Nat} (q : El h b e) (h1 : e ≠ 44) (h2 : e ≠ 51) : ¬ (b = bt ∨ some b = br) := by
  obtain ⟨sl,g,l⟩ := t.sl
  rintro (z | z)
  · exact q.ne (El.of g) h1 z
  · subst z; exact q.ne (lst_el l) h2 rfl
theorem outB {h : H} {bt : Nat} {br : Option Nat} {rows : List Rw} (t : TbB.Tbl h bt br rows) {b e : Nat} (q : El h b e) (h1 : e ≠ 47) (h2 : e ≠ 54) : ¬ (b = bt ∨ some b = br) := by
  obtain ⟨sl,g,l⟩ := t.sl
  rintro (z | z)
  · exact q.ne (El.of g) h1 z
  · subst z; exact q.ne (lst_el l) h2 rfl
theorem TbB.Tbl.past {h h' : H} {bt bu : Nat} {brA brB : Option Nat} {rA rB : List Rw} (t : TbA.Tbl h bt brA rA) (u : TbB.Tbl h bu brB rB) (p : Upd (fun b => b = bt ∨ some b = brA) h h') : TbB.Tbl h' bu brB rB := by
  obtain ⟨sl,g,l⟩ := u.sl
  refine u.upd p (outA t (El.of g) (by decide) (by decide)) fun b hb => ?_
  subst hb
  exact outA t (lst_el l) (by decide) (by decide)
theorem TbA.Tbl.past {h h' : H} {bt bu : Nat} {brA brB : Option Nat} {rA rB : List Rw} (t : TbA.Tbl h bt brA rA) (u : TbB.Tbl h bu brB rB) (p : Upd (fun b => b = bu ∨ some b = brB) h h') : TbA.Tbl h' bt brA rA := by
  obtain ⟨sl,g,l⟩ := t.sl
  refine t.upd p (outB u (El.of g) (by decide) (by decide)) fun b hb => ?_
  subst hb
  exact outB u (lst_el l) (by decide) (by decide)
structure Lp (h0 h : H) (bt bu : Nat) (brA brB : Option Nat) (rA rB : List Rw) : Prop where
  g : Grow h0 h
  tA : TbA.Tbl h bt brA rA
  tB : TbB.Tbl h bu brB rB
  lt : h0.next ≤ bt ∧ h0.next ≤ bu
  oA : ∀ b,brA = some b → h0.next ≤ b
  oB : ∀ b,brB = some b → h0.next ≤ b
theorem Own.old {h0 h : H} {br br' : Option Nat} (o : Own h br br') (g : Grow h0 h) (q : ∀ b,br = some b → h0.next ≤ b) : ∀ b,br' = some b → h0.next ≤ b := by
  rcases o with rfl | ⟨b',rfl,hb⟩
  · exact q
  · intro b hb'; cases hb'; exact Nat.le_trans g.next hb
theorem grow_own {h0 h h' : H} {bt : Nat} {br : Option Nat} (g : Grow h0 h) (u : Upd (fun b => b = bt ∨ some b = br) h h') (h1 : h0.next ≤ bt) (h2 : ∀ b,br = some b → h0.next ≤ b) : Grow h0 h' := by
  refine ⟨Nat.le_trans g.next u.next,fun b x q => u.old b x ?_ (g.old b x q)⟩
  have hlt := H.get_lt q
  rintro (z | z)
  · omega
  · have := h2 b z.symm; omega
theorem Lp.grow {h0 h h' : H} {bt bu : Nat} {brA brB : Option Nat} {rA rB : List Rw} (l : Lp h0 h bt bu brA brB rA rB) (g : Grow h h') : Lp h0 h' bt bu brA brB rA rB := ⟨l.g.trans g,l.tA.grow g,l.tB.grow g,l.lt,l.oA,l.oB⟩
def Arg (h : H) (x0 : Value) (ls : List ByteArray) : Prop :=
  ∃ ob c,x0 = .slice ob ls.length c ∧ ∀ j s,ls[j]? = some s → ∃ b o sp,ob = some ⟨b,o,sp⟩ ∧ h.row ⟨b,o + j * 1,none⟩ 1 = some [.string s]
theorem Arg.at_ {h : H} {x0 : Value} {ls : List ByteArray} (a : Arg h x0 ls) {i : Nat} (hi : i < ls.length) :
    ∃ p : Addr,(∀ h2,xindexAddr Tryz.prog 22 x0 (.int .i64 (i : Nat)) h2 = .ok (.pointer (some p)) h2) ∧ ∀ h2,Grow h h2 → h2.cell p = some (.string ls[i]) := by
  obtain ⟨ob,c,rfl,q⟩ := a
  obtain ⟨b,o,sp,rfl,r⟩ := q i _ (List.getElem?_eq_getElem hi)
  refine ⟨⟨b,o + i * 1,none⟩,fun h2 => ia22 _ _ _ _ _ _ _ h2 hi,fun h2 g => ?_⟩
  have r2 := g.row r
  obtain ⟨n,hn⟩ : ∃ n,n = o + i * 1 := ⟨_,rfl⟩
  rw [← hn] at r2 ⊢
  unfold H.row at r2
  simp only at r2
  split at r2
  · rename_i c' el f op hg _
    rw [H.cell_eq hg]
    revert r2
    cases hle : Nat.ble (n + 1) c'.length <;> intro r2
    · cases r2
    · simp only [cond_true,Option.some.injEq] at r2
      have h1 : ((c'.drop n).take 1)[0]? = some (.string ls[i]) := by rw [r2]; rfl
      rw [List.getElem?_take_of_lt (by omega),List.getElem?_drop] at h1
      simpa using h1
  · cases r2
theorem Arg.len {h : H} {x0 : Value} {ls : List ByteArray} (a : Arg h x0 ls) (h2 : H) : xbuiltin Tryz.prog .len [22] [x0] h2 = .ok (.int .i64 (ls.length : Nat)) h2 := by
  obtain ⟨ob,c,rfl,_⟩ := a
  exact ln22 _ _ _ _
theorem bsI (n : Int) (h : H) : xbuildSlice Tryz.prog 28 1 [(0,.int .i64 n)] h = .ok (.slice (some ⟨h.next,0,none⟩) 1 1) (h.alloc (.cells [.int .i64 n] 3 0 false)) := by kernel_rfl
theorem bdX (b n c : Nat) (h : H) : xbuild Tryz.prog 30 [(0,.slice (some ⟨b,0,none⟩) n c)] h = .ok (.agg ⟨[.slice (some ⟨b,0,none⟩) n c]⟩) h := by kernel_rfl
theorem ia0 (b : Nat) (h : H) : xindexAddr Tryz.prog 28 (.slice (some ⟨b,0,none⟩) 1 1) (.int .i64 0) h = .ok (.pointer (some ⟨b,0,none⟩)) h := ia28 b 0 1 1 0 none .i64 h (by omega)
theorem pz1 : Nat.beq (ptrElem Tryz.prog 25) 0 = false := by kernel_rfl
theorem pz2 : Nat.beq (ptrElem Tryz.prog 37) 0 = false := by kernel_rfl
theorem has_put {rows : List Rw} (s : Srt rows) (k : ByteArray) (v : Value) : hasK (putR rows k v) k := (has_iff (put_srt s k v)).2 ⟨v,put_in rows k v⟩
theorem round8 {h0 h : H} {x0 : Value} {ls : List ByteArray} {bt bu : Nat} {brA brB : Option Nat} {rA rB : List Rw} (a : Arg h0 x0 ls) (l : Lp h0 h bt bu brA brB rA rB) {i : Nat} (hi : i < ls.length) (hi2 : i < 200) (fA : rA.length < 1000000) (fB : rB.length < 1000000) (x31 : Value) :
    ∃ h' brA' brB' vA vB,Lp h0 h' bt bu brA' brB' (putR rA ls[i] vA) (putR rB ls[i] vB) ∧
      F3.j8 Tryz.prog CLM nu0 nu0 x0 (.pointer (some ⟨bt,0,none⟩)) (.pointer (some ⟨bu,0,none⟩)) (.int .i64 (i : Nat)) (.int .i64 (i : Nat)) x31 h = F3.l6 Tryz.prog CLM nu0 nu0 x0 (.pointer (some ⟨bt,0,none⟩)) (.pointer (some ⟨bu,0,none⟩)) (.int .i64 ((i + 1 : Nat) : Int)) h' := by
  obtain ⟨p,ip,cp⟩ := a.at_ hi
  obtain ⟨s,hs⟩ : ∃ s,s = ls[i] := ⟨_,rfl⟩
  rw [← hs] at cp ⊢
  obtain ⟨h1,hh1⟩ : ∃ h1,h1 = h.alloc (.cells [.int .i64 (i : Nat)] 3 0 false) := ⟨_,rfl⟩
  have g1 : Grow h h1 := by rw [hh1]; exact (Grow.refl h).alloc _
  have b1 : h1.get h.next = some (.cells [.int .i64 (i : Nat)] 3 0 false) := by rw [hh1]; exact H.alloc_self _ _
  obtain ⟨h2,hh2⟩ : ∃ h2,h2 = h1.alloc (.cells [.slice (some ⟨h.next,0,none⟩) 1 1] 30 0 false) := ⟨_,rfl⟩
  have g2 : Grow h1 h2 := by rw [hh2]; exact (Grow.refl h1).alloc _
  have b2 : h2.get h1.next = some (.cells [.slice (some ⟨h.next,0,none⟩) 1 1] 30 0 false) := by rw [hh2]; exact H.alloc_self _ _
  have b12 := g2.old _ _ b1
  have l2 := l.grow (g1.trans g2)
  obtain ⟨h3,brA',xA,u3,e3,tA3,o3⟩ := ePutA l2.tA s (some ⟨h1.next,0,none⟩) fA
  have G3 := grow_own l2.g u3 l2.lt.1 l2.oA
  have b23 := u3.old _ _ (outA l2.tA (El.of b2) (by decide) (by decide)) b2
  have b13 := u3.old _ _ (outA l2.tA (El.of b12) (by decide) (by decide)) b12
  have tB3 := TbB.Tbl.past l2.tA l2.tB u3
  obtain ⟨h4,brB',xB,u4,e4,tB4,o4⟩ := ePutB tB3 s h.next 1 1 fB
  have G4 := grow_own G3 u4 l2.lt.2 l2.oB
  have b24 := u4.old _ _ (outB tB3 (El.of b23) (by decide) (by decide)) b23
  have b14 := u4.old _ _ (outB tB3 (El.of b13) (by decide) (by decide)) b13
  have tA4 := TbA.Tbl.past tA3 tB3 u4
  have l4 : Lp h0 h4 bt bu brA' brB' (putR rA s (.pointer (some ⟨h1.next,0,none⟩))) (putR rB s (.slice (some ⟨h.next,0,none⟩) 1 1)) :=
    ⟨G4,tA4,tB4,l2.lt,o3.old l2.g l2.oA,o4.old G3 l2.oB⟩
  have kA := has_put l2.tA.srt s (.pointer (some ⟨h1.next,0,none⟩))
  have kB := has_put l2.tB.srt s (.slice (some ⟨h.next,0,none⟩) 1 1)
  obtain ⟨h5,vA,g5,e5,m5⟩ := eGetA tA4 s
  have hvA := tA4.srt.uniq (m5 kA) (put_in _ _ _)
  subst hvA
  rw [decide_eq_true kA] at e5
  obtain ⟨h6,vB,g6,e6,m6⟩ := eGetB (tB4.grow g5) kB
  have hvB := tB4.srt.uniq m6 (put_in _ _ _)
  subst hvB
  obtain ⟨h7,hh7⟩ : ∃ h7,h7 = h6.alloc (.cells zc30 30 0 false) := ⟨_,rfl⟩
  have g7 : Grow h6 h7 := by rw [hh7]; exact (Grow.refl h6).alloc _
  have b7 : h7.get h6.next = some (.cells zc30 30 0 false) := by rw [hh7]; exact H.alloc_self _ _
  obtain ⟨h8,hh8⟩ : ∃ h8,h8 = h7.put h6.next (.cells [.slice (some ⟨h.next,0,none⟩) 1 1] 30 0 false) := ⟨_,rfl⟩
  have w8 : h7.write ⟨h6.next,0,none⟩ [.slice (some ⟨h.next,0,none⟩) 1 1] = some h8 := by rw [hh8]; exact H.write_all b7 (by rw [zc30_len]; rfl) rfl
  have g8 : Grow h6 h8 := by rw [hh8]; exact g7.put (Nat.le_refl _) (H.get_lt b7) _
  have b8 : h8.get h6.next = some (.cells [.slice (some ⟨h.next,0,none⟩) 1 1] 30 0 false) := by rw [hh8]; exact H.put_self b7
  have g48 : Grow h4 h8 := (g5.trans g6).trans g8
  have b18 := g48.old _ _ b14
  have b28 := g48.old _ _ b24
  have c2 : h2.cell p = some (.string s) := cp h2 l2.g
  have c3 : h3.cell p = some (.string s) := cp h3 G3
  have c4 : h4.cell p = some (.string s) := cp h4 G4
  have c5 : h5.cell p = some (.string s) := cp h5 (G4.trans g5)
  have r3 : h3.row ⟨h1.next,0,none⟩ 1 = some [.slice (some ⟨h.next,0,none⟩) 1 1] := H.row_all b23 rfl
  have y8 : h8.cell ⟨h6.next,0,none⟩ = some (.slice (some ⟨h.next,0,none⟩) 1 1) := by rw [H.cell_eq b8]; rfl
  have z8 : h8.cell ⟨h1.next,0,none⟩ = some (.slice (some ⟨h.next,0,none⟩) 1 1) := by rw [H.cell_eq b28]; rfl
  refine ⟨h8,brA',brB',_,_,l4.grow g48,?_⟩
  rw [F3.j8_eq,bsI,go_ok,bdX,go_ok,← hh1,xbox_eq,go_ok,cells_agg,← hh2,ip,go_ok,ld9,c2,ofO_some,go_ok,e3,go_ok,ip,Res.ok1_ok,ld9,c3,ofO_some,Res.ok1_ok,xnil_ptr,Res.ok1_ok,ld30,r3,ofA_some,Res.ok1_ok,e4,go_ok]
  rw [ip,go_ok,ld9,c4,ofO_some,go_ok,e5,go_ok,xextract_0,go_ok,xextract_1,go_ok,ip,go_ok,ld9,c5,ofO_some,go_ok,e6,go_ok,xextract_0,go_ok,xextract_1,go_ok,al30,go_ok,← hh7,st30 _ _ _ rfl,cells_agg,w8,ofU_some,go_ok]
  rw [xun_not,Res.ok1_ok,show (!true) = false from rfl,ifV_f,xun_not,Res.ok1_ok,show (!true) = false from rfl,ifV_f,plain_same,cond_true,xpsame pz1 b28,Res.ok1_ok,ifV_f]
  rw [fa30_0,Res.ok1_ok,ld28,y8,ofO_some,Res.ok1_ok,lenV_slice,show (some 1 : Option Nat).isSome = true from rfl,cond_true,ln28,Res.ok1_ok,plain2_int,cond_true,xneq,Res.ok1_ok,show (!decide (((1 : Nat) : Int) = 1)) = false from rfl,ifV_f]
  rw [fa30_0,Res.ok1_ok,ld28,y8,ofO_some,Res.ok1_ok,ia0,Res.ok1_ok,xnil_ptr,Res.ok1_ok,fa30_0,Res.ok1_ok,ld28,z8,ofO_some,Res.ok1_ok,ia0,Res.ok1_ok,plain_same,cond_true,xpsame pz2 b18,Res.ok1_ok,ifV_f,xadd,go_ok,wadd1 (by omega)]
structure Full (ls : List ByteArray) (i : Nat) (rA rB : List Rw) : Prop where
  lA : rA.length ≤ i
  lB : rB.length ≤ i
  inA : ∀ k v,(k,v) ∈ rA → ∃ j,j < i ∧ ls[j]? = some k
  hasB : ∀ j s,j < i → ls[j]? = some s → ∃ v,(s,v) ∈ rB
theorem Full.step {ls : List ByteArray} {i : Nat} {rA rB : List Rw} (f : Full ls i rA rB) (hi : i < ls.length) (sB : Srt rB) (vA vB : Value) : Full ls (i + 1) (putR rA ls[i] vA) (putR rB ls[i] vB) := by
  refine ⟨?_,?_,?_,?_⟩
  · have := put_len rA ls[i] vA; have := f.lA; omega
  · have := put_len rB ls[i] vB; have := f.lB; omega
  · intro k v hm
    rcases put_mem hm with e | e
    · cases e; exact ⟨i,by omega,List.getElem?_eq_getElem hi⟩
    · obtain ⟨j,h1,h2⟩ := f.inA k v e
      exact ⟨j,by omega,h2⟩
  · intro j s hj hs
    by_cases hji : j = i
    · subst hji
      rw [List.getElem?_eq_getElem hi,Option.some.injEq] at hs
      subst hs
      exact ⟨vB,put_in _ _ _⟩
    · obtain ⟨v,hv⟩ := f.hasB j s (by omega) hs
      exact put_old sB hv
theorem loop6 {h0 : H} {x0 : Value} {ls : List ByteArray} {bt bu : Nat} (a : Arg h0 x0 ls) :
    ∀ (d i : Nat) (h : H) (brA brB : Option Nat) (rA rB : List Rw),min ls.length 200 - i ≤ d → i ≤ min ls.length 200 → Lp h0 h bt bu brA brB rA rB → Full ls i rA rB →
      ∃ h' brA' brB' rA' rB',Lp h0 h' bt bu brA' brB' rA' rB' ∧ Full ls (min ls.length 200) rA' rB' ∧
        F3.l6 Tryz.prog CLM nu0 nu0 x0 (.pointer (some ⟨bt,0,none⟩)) (.pointer (some ⟨bu,0,none⟩)) (.int .i64 (i : Nat)) h = F3.j15 Tryz.prog CLM nu0 nu0 x0 (.pointer (some ⟨bt,0,none⟩)) (.pointer (some ⟨bu,0,none⟩)) h' := by
  intro d
  induction d with
  | zero =>
    intro i h brA brB rA rB hd hi l f
    have hie : i = min ls.length 200 := by omega
    refine ⟨h,brA,brB,rA,rB,l,by rw [← hie]; exact f,?_⟩
    rw [F3.l6_eq,a.len,go_ok,xlss,go_ok,ifV_dec]
    by_cases h1 : i < ls.length
    · rw [if_pos (by omega),xlss,go_ok,ifV_dec,if_neg (by omega)]
    · rw [if_neg (by omega)]
  | succ d ih =>
    intro i h brA brB rA rB hd hi l f
    by_cases h1 : i < ls.length ∧ i < 200
    · have q1 := f.lA
      have q2 := f.lB
      obtain ⟨h',brA',brB',vA,vB,l',e'⟩ := round8 a l h1.1 h1.2 (by omega) (by omega) (.bool (decide ((i : Int) < 200)))
      obtain ⟨h'',brA2,brB2,rA2,rB2,l2,f2,e2⟩ := ih (i + 1) h' brA' brB' _ _ (by omega) (by omega) l' (f.step h1.1 l.tB.srt vA vB)
      refine ⟨h'',brA2,brB2,rA2,rB2,l2,f2,?_⟩
      rw [F3.l6_eq,a.len,go_ok,xlss,go_ok,ifV_dec,if_pos (by omega),xlss,go_ok,ifV_dec,if_pos (by omega),e',e2]
    · have hie : i = min ls.length 200 := by omega
      exact ih i h brA brB rA rB (by omega) hi l f
end Go.Proofs.YtialpopmeamojaaGreat.K
namespace Go.Proofs.YtialpopmeamojaaGreat.K
open Go Go.Kx
set_option linter.unusedVariables false
set_option linter.unusedSimpArgs false
set_option maxRecDepth 20000
structure Left (ls : List ByteArray) (i M : Nat) (rA rB : List Rw) : Prop where
  inA : ∀ k v,(k,v) ∈ rA → ∃ j,i ≤ j ∧ j < M ∧ ls[j]? = some k
  hasB : ∀ j s,j < M → ls[j]? = some s → ∃ v,(s,v) ∈ rB
theorem Left.step {ls : List ByteArray} {i M : Nat} {rA rB : List Rw} (f : Left ls i M rA rB) (sA : Srt rA) (hi : i < ls.length) : Left ls (i + 1) M (delR rA ls[i]) rB := by
  refine ⟨fun k v hm => ?_,f.hasB⟩
  obtain ⟨j,h1,h2,h3⟩ := f.inA k v (del_mem hm)
  by_cases hji : j = i
  · subst hji
    rw [List.getElem?_eq_getElem hi,Option.some.injEq] at h3
    subst h3
    exact absurd hm (del_no sA)
  · exact ⟨j,by omega,h2,h3⟩
theorem round18 {h0 h : H} {x0 : Value} {ls : List ByteArray} {bt bu : Nat} {brA brB : Option Nat} {rA rB : List Rw} (a : Arg h0 x0 ls) (l : Lp h0 h bt bu brA brB rA rB) {i M : Nat} (f : Left ls i M rA rB) (hi : i < ls.length) (hi2 : i < M) (hM : M ≤ 200) (x107 : Value) :
    ∃ h',Lp h0 h' bt bu brA brB (delR rA ls[i]) rB ∧
      F3.j18 Tryz.prog CLM nu0 nu0 x0 (.pointer (some ⟨bt,0,none⟩)) (.pointer (some ⟨bu,0,none⟩)) (.int .i64 (i : Nat)) (.int .i64 (i : Nat)) x107 h = F3.l16 Tryz.prog CLM nu0 nu0 x0 (.pointer (some ⟨bt,0,none⟩)) (.pointer (some ⟨bu,0,none⟩)) (.int .i64 ((i + 1 : Nat) : Int)) h' := by
  obtain ⟨p,ip,cp⟩ := a.at_ hi
  obtain ⟨v0,hv0⟩ := f.hasB i ls[i] hi2 (List.getElem?_eq_getElem hi)
  obtain ⟨s,hs⟩ : ∃ s,s = ls[i] := ⟨_,rfl⟩
  rw [← hs] at cp hv0 ⊢
  have kB : hasK rB s := (has_iff l.tB.srt).2 ⟨_,hv0⟩
  obtain ⟨h1,vA,g1,e1,_⟩ := eGetA l.tA s
  have l1 := l.grow g1
  obtain ⟨h2,u2,e2,tA2⟩ := eDelA l1.tA s
  have G2 := grow_own l1.g u2 l1.lt.1 l1.oA
  have tB2 := TbB.Tbl.past l1.tA l1.tB u2
  obtain ⟨h3,vB,g3,e3,m3⟩ := eGetB tB2 kB
  have one := tB2.good _ m3
  obtain ⟨h4,hh4⟩ : ∃ h4,h4 = h3.alloc (.cells zc30 30 0 false) := ⟨_,rfl⟩
  have g4 : Grow h3 h4 := by rw [hh4]; exact (Grow.refl h3).alloc _
  have b4 : h4.get h3.next = some (.cells zc30 30 0 false) := by rw [hh4]; exact H.alloc_self _ _
  obtain ⟨h5,hh5⟩ : ∃ h5,h5 = h4.put h3.next (.cells [vB] 30 0 false) := ⟨_,rfl⟩
  have hone : ones [vB] = true := by show (vB.oneCell' && true) = true; rw [one]; rfl
  have w5 : h4.write ⟨h3.next,0,none⟩ [vB] = some h5 := by rw [hh5]; exact H.write_all b4 (by rw [zc30_len]; rfl) hone
  have g5 : Grow h3 h5 := by rw [hh5]; exact g4.put (Nat.le_refl _) (H.get_lt b4) _
  have g25 := g3.trans g5
  have c0 : h.cell p = some (.string s) := cp h l.g
  have c1 : h1.cell p = some (.string s) := cp h1 l1.g
  have c2 : h2.cell p = some (.string s) := cp h2 G2
  have hL := del_len rA s
  have few := l.tA.few
  have key : (decide (hasK rA s) == decide ((((delR rA s).length : Nat) : Int) = IntKind.i64.wrap (((rA.length : Nat) : Int) - 1))) = true := by
    rw [wrap64 (by omega),hL]
    by_cases hk : hasK rA s
    · have := hk.1
      rw [if_pos hk]
      simp only [hk,decide_true,beq_iff_eq]
      exact (decide_eq_true (by omega)).symm
    · rw [if_neg hk]
      simp only [hk,decide_false,beq_iff_eq]
      exact (decide_eq_false (by omega)).symm
  refine ⟨h5,⟨G2.trans g25,tA2.grow g25,tB2.grow g25,l.lt,l.oA,l.oB⟩,?_⟩
  rw [F3.j18_eq,TbA.eLen l.tA,go_ok,ip,go_ok,ld9,c0,ofO_some,go_ok,e1,go_ok,xextract_0,go_ok,xextract_1,go_ok,ip,go_ok,ld9,c1,ofO_some,go_ok,e2,go_ok]
  rw [xbneq,go_ok,beq_self_eq_true,Bool.not_true,ifV_f,TbA.eLen tA2,go_ok,xsub,go_ok,xeql,go_ok,xbneq,go_ok,key,Bool.not_true,ifV_f]
  rw [F3.j22_eq,ip,go_ok,ld9,c2,ofO_some,go_ok,e3,go_ok,xextract_0,go_ok,xextract_1,go_ok,al30,go_ok,← hh4,st30 _ _ _ rfl,cells_agg,w5,ofU_some,go_ok,xun_not,go_ok,Bool.not_true,ifV_f,xadd,go_ok,wadd1 (by omega)]
theorem loop16 {h0 : H} {x0 : Value} {ls : List ByteArray} {bt bu : Nat} {rB : List Rw} {brA brB : Option Nat} (a : Arg h0 x0 ls) :
    ∀ (d i : Nat) (h : H) (rA : List Rw),min ls.length 200 - i ≤ d → i ≤ min ls.length 200 → Lp h0 h bt bu brA brB rA rB → Left ls i (min ls.length 200) rA rB →
      ∃ h' rA',Lp h0 h' bt bu brA brB rA' rB ∧ Left ls (min ls.length 200) (min ls.length 200) rA' rB ∧
        F3.l16 Tryz.prog CLM nu0 nu0 x0 (.pointer (some ⟨bt,0,none⟩)) (.pointer (some ⟨bu,0,none⟩)) (.int .i64 (i : Nat)) h = F3.j25 Tryz.prog CLM nu0 nu0 x0 (.pointer (some ⟨bt,0,none⟩)) (.pointer (some ⟨bu,0,none⟩)) h' := by
  intro d
  induction d with
  | zero =>
    intro i h rA hd hi l f
    have hie : i = min ls.length 200 := by omega
    refine ⟨h,rA,l,hie ▸ (by rw [← hie] at f; exact f),?_⟩
    rw [F3.l16_eq,a.len,go_ok,xlss,go_ok,ifV_dec]
    by_cases h1 : i < ls.length
    · rw [if_pos (by omega),xlss,go_ok,ifV_dec,if_neg (by omega)]
    · rw [if_neg (by omega)]
  | succ d ih =>
    intro i h rA hd hi l f
    by_cases h1 : i < ls.length ∧ i < 200
    · obtain ⟨h',l',e'⟩ := round18 a l f h1.1 (by omega) (by omega) (.bool (decide ((i : Int) < 200)))
      obtain ⟨h'',rA2,l2,f2,e2⟩ := ih (i + 1) h' _ (by omega) (by omega) l' (f.step l.tA.srt h1.1)
      refine ⟨h'',rA2,l2,f2,?_⟩
      rw [F3.l16_eq,a.len,go_ok,xlss,go_ok,ifV_dec,if_pos (by omega),xlss,go_ok,ifV_dec,if_pos (by omega),e',e2]
    · exact ih i h rA (by omega) hi l f
theorem bdTA (h : H) : xbuild Tryz.prog 44 [] h = .ok (.agg ⟨[.slice none 0 0]⟩) h := by kernel_rfl
theorem bdTB (h : H) : xbuild Tryz.prog 47 [] h = .ok (.agg ⟨[.slice none 0 0]⟩) h := by kernel_rfl
theorem nzA (b : Nat) (h : H) : xbin Tryz.prog .eql 23 (.pointer (some ⟨b,0,none⟩)) (.pointer none) h = .ok (.bool false) h := by kernel_rfl
theorem nzB (b : Nat) (h : H) : xbin Tryz.prog .eql 26 (.pointer (some ⟨b,0,none⟩)) (.pointer none) h = .ok (.bool false) h := by kernel_rfl
theorem eNewA (h : H) : CLM (.f 4) [] h = .ok (.pointer (some ⟨h.next,0,none⟩)) (h.alloc (.cells [.slice none 0 0] 44 0 false)) := by
  rw [cM4,F4.eq,bdTA,go_ok,xbox_eq,go_ok,cells_agg]
theorem eNewB (h : H) : CLM (.f 5) [] h = .ok (.pointer (some ⟨h.next,0,none⟩)) (h.alloc (.cells [.slice none 0 0] 47 0 false)) := by
  rw [cM5,F5.eq,bdTB,go_ok,xbox_eq,go_ok,cells_agg]
theorem values (hst : ∀ h : H,∃ h',Grow h h' ∧ CLM (.f 13) [] h = .ok (.bool true) h') {h : H} {x0 : Value} {ls : List ByteArray} (a : Arg h x0 ls) :
    ∃ h',Grow h h' ∧ CLM (.f 3) [x0] h = .ok (.bool true) h' := by
  obtain ⟨h1,hh1⟩ : ∃ h1,h1 = h.alloc (.cells [.slice none 0 0] 44 0 false) := ⟨_,rfl⟩
  have g1 : Grow h h1 := by rw [hh1]; exact (Grow.refl h).alloc _
  have b1 : h1.get h.next = some (.cells [.slice none 0 0] 44 0 false) := by rw [hh1]; exact H.alloc_self _ _
  obtain ⟨h2,hh2⟩ : ∃ h2,h2 = h1.alloc (.cells [.slice none 0 0] 47 0 false) := ⟨_,rfl⟩
  have g2 : Grow h1 h2 := by rw [hh2]; exact (Grow.refl h1).alloc _
  have b2 : h2.get h1.next = some (.cells [.slice none 0 0] 47 0 false) := by rw [hh2]; exact H.alloc_self _ _
  have gd : Good [] := fun r hr => by cases hr
  have l2 : Lp h h2 h.next h1.next none none [] [] := ⟨g1.trans g2,⟨⟨_,g2.old _ _ b1,Lst.nil⟩,gd,trivial,Nat.zero_le _⟩,⟨⟨_,b2,Lst.nil⟩,gd,trivial,Nat.zero_le _⟩,⟨Nat.le_refl _,g1.next⟩,fun b hb => (by cases hb),fun b hb => (by cases hb)⟩
  have f2 : Full ls 0 [] [] := ⟨Nat.le_refl _,Nat.le_refl _,fun k v hm => by (cases hm),fun j s hj => absurd hj (Nat.not_lt_zero _)⟩
  obtain ⟨h3,brA,brB,rA,rB,l3,f3,e3⟩ := loop6 a _ 0 h2 none none [] [] (Nat.le_refl _) (Nat.zero_le _) l2 f2
  have q3 : Left ls 0 (min ls.length 200) rA rB := ⟨fun k v hm => let ⟨j,p1,p2⟩ := f3.inA k v hm; ⟨j,Nat.zero_le _,p1,p2⟩,f3.hasB⟩
  obtain ⟨h4,rA4,l4,q4,e4⟩ := loop16 a _ 0 h3 rA (Nat.le_refl _) (Nat.zero_le _) l3 q3
  have hz : rA4 = [] := by
    cases hr : rA4 with
    | nil => rfl
    | cons r l =>
      obtain ⟨j,p1,p2,_⟩ := q4.inA r.1 r.2 (by rw [hr]; exact List.mem_cons_self)
      omega
  subst hz
  have hB : decide (((0 : Nat) : Int) < ((rB.length : Nat) : Int)) = decide (((0 : Nat) : Int) < ((ls.length : Nat) : Int)) := by
    by_cases hl : 0 < ls.length
    · obtain ⟨v,hv⟩ := q4.hasB 0 ls[0] (by omega) (List.getElem?_eq_getElem hl)
      have := List.length_pos_of_mem hv
      rw [decide_eq_true (by omega),decide_eq_true (by omega)]
    · have := f3.lB
      rw [decide_eq_false (by omega),decide_eq_false (by omega)]
  obtain ⟨h5,g5,e5⟩ := hst h4
  refine ⟨h5,l4.g.trans g5,?_⟩
  rw [cM3,F3.eq,eNewA,go_ok,← hh1,eNewB,go_ok,← hh2,nzA,go_ok,ifV_f,nzB,go_ok,ifV_f,F3.j5_eq]
  show F3.l6 Tryz.prog CLM nu0 nu0 x0 (.pointer (some ⟨h.next,0,none⟩)) (.pointer (some ⟨h1.next,0,none⟩)) (.int .i64 ((0 : Nat) : Int)) h2 = _
  rw [e3,F3.j15_eq]
  show F3.l16 Tryz.prog CLM nu0 nu0 x0 (.pointer (some ⟨h.next,0,none⟩)) (.pointer (some ⟨h1.next,0,none⟩)) (.int .i64 ((0 : Nat) : Int)) h3 = _
  rw [e4,F3.j25_eq,TbA.eLen l4.tA,go_ok,xeql,go_ok,show decide ((([] : List Rw).length : Int) = 0) = true from rfl,ifV_t,TbB.eLen l4.tB,go_ok,xgtr,go_ok,a.len,go_ok,xgtr,go_ok,xbeql,go_ok]
  rw [show (decide ((0 : Int) < ((rB.length : Nat) : Int)) == decide ((0 : Int) < ((ls.length : Nat) : Int))) = true by rw [show decide ((0 : Int) < ((rB.length : Nat) : Int)) = decide ((0 : Int) < ((ls.length : Nat) : Int)) from hB]; exact beq_self_eq_true _,ifV_t,e5,go_ok]
end Go.Proofs.YtialpopmeamojaaGreat.K
namespace Go.Proofs.YtialpopmeamojaaGreat.K.Pt
open Go Go.Kx Go.Proofs.YtialpopmeamojaaGreat.K
set_option linter.unusedVariables false
set_option linter.unusedSimpArgs false
set_option maxRecDepth 20000
def cmpI (a b : Int) : Int := if a < b then -1 else if b < a then 1 else 0
theorem isNaN_int (a : Int) (h : H) : CLM (.f 88) [.int .i64 a] h = .ok (.bool false) h := by
  rw [cM88,F88.eq]
  simp [xneq]
theorem cmp_int (a b : Int) (h : H) : CLM (.f 76) [.int .i64 a,.int .i64 b] h = .ok (.int .i64 (cmpI a b)) h := by
  rw [cM76,F76.eq]
  simp only [isNaN_int,go_ok,ifV_f,xlss,xgtr,ifV_dec,cmpI]
  by_cases h1 : a < b
  · simp [h1]
  · by_cases h2 : b < a <;> simp [h1,h2]
theorem cmp_row (a b : Int) (v : List Value) (h : H) : CLM (.f 75) [.agg ⟨.int .i64 a :: v⟩,.int .i64 b] h = .ok (.int .i64 (cmpI a b)) (h.alloc (.cells (.int .i64 a :: v) 121 0 false)) := by
  rw [cM75,F75.eq]
  simp only [xbox_eq,cells_agg,go_ok,fa121_0,ld3,H.cell_eq (H.alloc_self _ _),List.getElem?_cons_zero,ofO_some,cmp_int]
def Rd (h : H) (b o n : Nat) (key : Nat → Int) : Prop := ∀ m,m < n → ∃ v,h.row ⟨b,o + m * 103,none⟩ 103 = some (.int .i64 (key m) :: v)
theorem Rd.grow {h h' : H} (g : Grow h h') {b o n : Nat} {key : Nat → Int} (r : Rd h b o n key) : Rd h' b o n key := fun m hm => let ⟨v,hv⟩ := r m hm; ⟨v,g.row hv⟩
theorem search_loop {b o n cap p : Nat} {sp : Option Nat} {key : Nat → Int} {k : Int} (hn : n ≤ 4611686018427387903) (hp : p ≤ n) (h1 : ∀ m,m < p → key m < k) (h2 : ∀ m,p ≤ m → m < n → k ≤ key m) (hsp : sp = none) :
    ∀ (d i j : Nat) (h : H),j - i ≤ d → i ≤ p → p ≤ j → j ≤ n → Rd h b o n key →
      ∃ h',Grow h h' ∧ F74.l3 Tryz.prog CLM nu0 nu0 (.slice (some ⟨b,o,sp⟩) n cap) (.int .i64 k) (.func (.func 75) #[] #[]) (.int .i64 n) (.int .i64 i) (.int .i64 j) h = .ok (.tuple ⟨[.int .i64 p,.bool (decide (p < n ∧ key p = k))]⟩) h' := by
  subst hsp
  intro d
  induction d with
  | zero =>
    intro i j h hd hi hj hjn hr
    obtain rfl : p = i := by omega
    obtain rfl : j = p := by omega
    rw [F74.l3_eq]
    simp only [xlss,go_ok,ifV_dec]
    rw [if_neg (by omega),F74.j8_eq]
    simp only [xlss,go_ok,ifV_dec]
    by_cases hlt : j < n
    · rw [if_pos (by omega)]
      obtain ⟨v,hv⟩ := hr j hlt
      rw [ia100 _ _ _ _ _ _ _ _ hlt]
      simp only [go_ok,ld121,hv,ofA_some,xcallV_func,List.nil_append,List.append_nil,List.cons_append,cmp_row,xeql]
      have e : decide (cmpI (key j) k = 0) = decide (j < n ∧ key j = k) := by
        have := h2 j (Nat.le_refl _) hlt
        unfold cmpI
        by_cases hk : key j = k
        · simp [hk,hlt]
        · have : k < key j := by omega
          rw [if_neg (by omega),if_pos this]
          simp [hk]
      rw [e]
      exact ⟨_,(Grow.refl h).alloc _,rfl⟩
    · rw [if_neg (by omega)]
      refine ⟨_,Grow.refl h,?_⟩
      simp [hlt]
  | succ d ih =>
    intro i j h hd hi hj hjn hr
    by_cases hij : i < j
    · rw [F74.l3_eq]
      simp only [xlss,go_ok,ifV_dec]
      rw [if_pos (by omega),F74.j4_eq]
      have e1 : IntKind.i64.wrap ((i : Int) + j) = ((i + j : Nat) : Int) := by rw [wrap64 (by omega)]; omega
      have e2 : IntKind.u64.wrap ((i + j : Nat) : Int) = ((i + j : Nat) : Int) := wrapu64 (by omega)
      have e3 : ((i + j : Nat) : Int).fdiv 2 = (((i + j) / 2 : Nat) : Int) := by
        rw [Int.fdiv_eq_ediv_of_nonneg _ (by omega)]; omega
      have e4 : IntKind.i64.wrap (((i + j) / 2 : Nat) : Int) = (((i + j) / 2 : Nat) : Int) := wrap64 (by omega)
      have hm : (i + j) / 2 < n := by omega
      obtain ⟨v,hv⟩ := hr _ hm
      simp only [xadd,go_ok,e1,cv3_99,e2,xshr1,e3,cv99_3,e4,ia100 _ _ _ _ _ _ _ _ hm,ld121,hv,ofA_some,xcallV_func,List.nil_append,List.append_nil,List.cons_append,cmp_row,xlss,ifV_dec]
      have g1 : Grow h (h.alloc (.cells (.int .i64 (key ((i + j) / 2)) :: v) 121 0 false)) := (Grow.refl h).alloc _
      by_cases hc : key ((i + j) / 2) < k
      · rw [if_pos (by unfold cmpI; rw [if_pos hc]; omega)]
        have e5 : IntKind.i64.wrap ((((i + j) / 2 : Nat) : Int) + 1) = (((i + j) / 2 + 1 : Nat) : Int) := by rw [wrap64 (by omega)]; omega
        rw [e5]
        have hle : (i + j) / 2 < p := by
          rcases Nat.lt_or_ge ((i + j) / 2) p with q | q
          · exact q
          · have := h2 _ q hm; omega
        obtain ⟨h',q1,q2⟩ := ih ((i + j) / 2 + 1) j _ (by omega) hle hj hjn (hr.grow g1)
        exact ⟨h',g1.trans q1,q2⟩
      · rw [if_neg (by unfold cmpI; rw [if_neg hc]; split <;> omega)]
        have hle : p ≤ (i + j) / 2 := by
          rcases Nat.lt_or_ge ((i + j) / 2) p with q | q
          · exact absurd (h1 _ q) hc
          · exact q
        obtain ⟨h',q1,q2⟩ := ih i ((i + j) / 2) _ (by omega) hi hle (by omega) (hr.grow g1)
        exact ⟨h',g1.trans q1,q2⟩
    · exact ih i j h (by omega) hi hj hjn hr
theorem search {b o n cap p : Nat} {key : Nat → Int} {k : Int} (hn : n ≤ 4611686018427387903) (hp : p ≤ n) (h1 : ∀ m,m < p → key m < k) (h2 : ∀ m,p ≤ m → m < n → k ≤ key m) {h : H} (hr : Rd h b o n key) :
    ∃ h',Grow h h' ∧ CLM (.f 74) [.slice (some ⟨b,o,none⟩) n cap,.int .i64 k,.func (.func 75) #[] #[]] h = .ok (.tuple ⟨[.int .i64 p,.bool (decide (p < n ∧ key p = k))]⟩) h' := by
  rw [cM74,F74.eq]
  simp only [ln100,go_ok]
  exact search_loop hn hp h1 h2 rfl n 0 n h (by omega) (Nat.zero_le _) hp (Nat.le_refl _) hr
theorem search_nil_loop {k : Int} (x : Value) (h : H) : F74.l3 Tryz.prog CLM nu0 nu0 x (.int .i64 k) (.func (.func 75) #[] #[]) (.int .i64 0) (.int .i64 0) (.int .i64 0) h = .ok (.tuple ⟨[.int .i64 0,.bool false]⟩) h := by
  rw [F74.l3_eq,xlss,go_ok,ifV_dec,if_neg (by omega),F74.j8_eq,xlss,go_ok,ifV_dec,if_neg (by omega)]
theorem search_nil {k : Int} (n : Nat) (h : H) : CLM (.f 74) [.slice none 0 n,.int .i64 k,.func (.func 75) #[] #[]] h = .ok (.tuple ⟨[.int .i64 0,.bool false]⟩) h := by
  have e : ((0 : Nat) : Int) = 0 := rfl
  rw [cM74,F74.eq]
  simp only [ln100,go_ok,e,search_nil_loop]
end Go.Proofs.YtialpopmeamojaaGreat.K.Pt
namespace Go.Proofs.YtialpopmeamojaaGreat.K.Pt
open Go Go.Kx Go.Proofs.YtialpopmeamojaaGreat.K
set_option linter.unusedVariables false
set_option linter.unusedSimpArgs false
set_option maxRecDepth 20000
abbrev Rw := Int × List Value
def rowsC : List Rw → List Value
  | [] => []
  | r :: l => .int .i64 r.1 :: (r.2 ++ rowsC l)
def Good (rows : List Rw) : Prop := ∀ r ∈ rows,r.2.length = 102 ∧ ones r.2 = true
def key (rows : List Rw) (m : Nat) : Int := ((rows[m]?).map (·.1)).getD 0
def Srt : List Rw → Prop
  | [] => True
  | r :: l => (∀ q ∈ l,r.1 < q.1) ∧ Srt l
theorem rowsC_len : ∀ {rows : List Rw},Good rows → (rowsC rows).length = rows.length * 103
  | [],_ => rfl
  | r :: l,g => by
    have h1 := (g r (by simp)).1
    have h2 := rowsC_len (rows := l) (fun q hq => g q (by simp [hq]))
    simp only [rowsC,List.length_cons,List.length_append,h1,h2]
    omega
theorem rowsC_ones : ∀ {rows : List Rw},Good rows → ones (rowsC rows) = true
  | [],_ => rfl
  | r :: l,g => by
    have h1 := (g r (by simp)).2
    have h2 := rowsC_ones (rows := l) (fun q hq => g q (by simp [hq]))
    show (true && ones (r.2 ++ rowsC l)) = true
    rw [ones_append h1 h2]; rfl
theorem rowsC_app : ∀ (a b : List Rw),rowsC (a ++ b) = rowsC a ++ rowsC b
  | [],_ => rfl
  | r :: l,b => by simp [rowsC,rowsC_app l b]
theorem Good.take {rows : List Rw} (g : Good rows) (n : Nat) : Good (rows.take n) := fun r hr => g r (List.mem_of_mem_take hr)
theorem Good.drop {rows : List Rw} (g : Good rows) (n : Nat) : Good (rows.drop n) := fun r hr => g r (List.mem_of_mem_drop hr)
theorem rowsC_drop {rows : List Rw} (g : Good rows) {m : Nat} (hm : m ≤ rows.length) (sp : List Value) : (rowsC rows ++ sp).drop (m * 103) = rowsC (rows.drop m) ++ sp := by
  have h1 : rowsC rows = rowsC (rows.take m) ++ rowsC (rows.drop m) := by rw [← rowsC_app,List.take_append_drop]
  have h2 := rowsC_len (g.take m)
  rw [List.length_take,Nat.min_eq_left hm] at h2
  rw [h1,List.append_assoc,← h2,List.drop_left]
theorem rowsC_take {rows : List Rw} (g : Good rows) {m : Nat} (hm : m ≤ rows.length) (sp : List Value) : (rowsC rows ++ sp).take (m * 103) = rowsC (rows.take m) := by
  have h1 : rowsC rows = rowsC (rows.take m) ++ rowsC (rows.drop m) := by rw [← rowsC_app,List.take_append_drop]
  have h2 := rowsC_len (g.take m)
  rw [List.length_take,Nat.min_eq_left hm] at h2
  rw [h1,List.append_assoc,← h2,List.take_left]
theorem row_at {rows : List Rw} (g : Good rows) {m : Nat} {r : Rw} (hr : rows[m]? = some r) (sp : List Value) : ((rowsC rows ++ sp).drop (m * 103)).take 103 = .int .i64 r.1 :: r.2 := by
  have hm : m < rows.length := by
    rcases Nat.lt_or_ge m rows.length with q | q
    · exact q
    · rw [List.getElem?_eq_none q] at hr; cases hr
  have hd : rows.drop m = r :: rows.drop (m + 1) := by
    rw [List.getElem?_eq_getElem hm] at hr
    cases hr
    exact List.drop_eq_getElem_cons hm
  rw [rowsC_drop g (by omega),hd]
  have h1 := (g r (List.mem_of_getElem? hr)).1
  simp only [rowsC,List.cons_append,List.take_succ_cons,List.append_assoc]
  rw [List.take_left' h1]
def lb (rows : List Rw) (k : Int) : Nat := (rows.takeWhile fun r => decide (r.1 < k)).length
theorem lb_le (rows : List Rw) (k : Int) : lb rows k ≤ rows.length := (List.takeWhile_prefix _).length_le
theorem lb_lo : ∀ (rows : List Rw) (k : Int) (m : Nat),m < lb rows k → key rows m < k
  | [],k,m,h => by simp [lb] at h
  | r :: l,k,m,h => by
    by_cases hr : r.1 < k
    · cases m with
      | zero => simpa [key] using hr
      | succ m =>
        have : m < lb l k := by
          unfold lb at h ⊢
          rw [List.takeWhile_cons_of_pos (by simpa using hr)] at h
          simpa using h
        simpa [key] using lb_lo l k m this
    · unfold lb at h
      rw [List.takeWhile_cons_of_neg (by simpa using hr)] at h
      simp at h
theorem lb_hi : ∀ {rows : List Rw} (s : Srt rows) (k : Int) (m : Nat),lb rows k ≤ m → m < rows.length → k ≤ key rows m
  | [],_,k,m,_,h => by simp at h
  | r :: l,s,k,m,h,hm => by
    by_cases hr : r.1 < k
    · unfold lb at h
      rw [List.takeWhile_cons_of_pos (by simpa using hr)] at h
      cases m with
      | zero => simp at h
      | succ m =>
        have := lb_hi s.2 k m (by unfold lb; simpa using h) (by simpa using hm)
        simpa [key] using this
    · cases m with
      | zero => simp only [key,List.getElem?_cons_zero,Option.map_some,Option.getD_some]; omega
      | succ m =>
        simp only [List.length_cons] at hm
        have hm' : m < l.length := by omega
        have := s.1 l[m] (List.getElem_mem hm')
        simp only [key,List.getElem?_cons_succ,List.getElem?_eq_getElem hm',Option.map_some,Option.getD_some]
        omega
def SlOk (h : H) (sl : Value) (br : Option Nat) (rows : List Rw) : Prop :=
  (br = none ∧ sl = .slice none 0 0 ∧ rows = []) ∨
  ∃ b spare cap,br = some b ∧ sl = .slice (some ⟨b,0,none⟩) rows.length cap ∧ h.get b = some (.cells (rowsC rows ++ spare) 121 0 true) ∧ (rowsC rows ++ spare).length = cap * 103 ∧ ones spare = true
structure Tbl (h : H) (bt : Nat) (br : Option Nat) (rows : List Rw) : Prop where
  sl : ∃ sl,h.get bt = some (.cells [sl] 102 0 false) ∧ SlOk h sl br rows
  ne : some bt ≠ br
  good : Good rows
  srt : Srt rows
  few : rows.length ≤ 1000000
theorem Tbl.upd {S : Nat → Prop} {h h' : H} (u : Upd S h h') {bt : Nat} {br : Option Nat} {rows : List Rw} (t : Tbl h bt br rows) (h1 : ¬ S bt) (h2 : ∀ b,br = some b → ¬ S b) : Tbl h' bt br rows := by
  obtain ⟨sl,q1,q2⟩ := t.sl
  refine ⟨⟨sl,u.old _ _ h1 q1,q2.imp id ?_⟩,t.ne,t.good,t.srt,t.few⟩
  rintro ⟨b,sp,cap,e,a,c,d,f⟩
  exact ⟨b,sp,cap,e,a,u.old _ _ (h2 b e) c,d,f⟩
theorem Tbl.grow {h h' : H} (g : Grow h h') {bt : Nat} {br : Option Nat} {rows : List Rw} (t : Tbl h bt br rows) : Tbl h' bt br rows := t.upd (g.upd fun _ => False) id fun _ _ => id
theorem Tbl.rd {h : H} {bt b : Nat} {br : Option Nat} {rows : List Rw} (t : Tbl h bt br rows) {spare : List Value} (hg : h.get b = some (.cells (rowsC rows ++ spare) 121 0 true)) : Rd h b 0 rows.length (key rows) := by
  intro m hm
  have hl := rowsC_len t.good
  refine ⟨rows[m].2,?_⟩
  have hr : rows[m]? = some rows[m] := List.getElem?_eq_getElem hm
  rw [H.row_eq hg (by rw [List.length_append]; omega),Nat.zero_add,row_at t.good hr]
  simp [key,hr]
def hasK (rows : List Rw) (k : Int) : Prop := lb rows k < rows.length ∧ key rows (lb rows k) = k
instance (rows : List Rw) (k : Int) : Decidable (hasK rows k) := by unfold hasK; exact inferInstance
theorem place {h : H} {bt : Nat} {br : Option Nat} {rows : List Rw} (t : Tbl h bt br rows) (k : Int) :
    ∃ h',Grow h h' ∧ CLM (.f 52) [.pointer (some ⟨bt,0,none⟩),.int .i64 k] h = .ok (.tuple ⟨[.int .i64 (lb rows k : Nat),.bool (decide (hasK rows k))]⟩) h' := by
  obtain ⟨sl,q1,q2⟩ := t.sl
  rw [cM52,F52.eq]
  simp only [xnil_ptr,go_ok,fa102_0,ld100,H.cell_eq q1,List.getElem?_cons_zero,ofO_some]
  rcases q2 with ⟨rfl,rfl,rfl⟩ | ⟨b,spare,cap,rfl,rfl,hg,hl,ho⟩
  · simp only [search_nil,go_ok,xextract_0,xextract_1]
    exact ⟨h,Grow.refl h,rfl⟩
  · obtain ⟨h',g,e⟩ := search (cap := cap) (k := k) (by have := t.few; omega) (lb_le rows k) (lb_lo rows k) (lb_hi t.srt k) (t.rd hg)
    simp only [e,go_ok,xextract_0,xextract_1]
    exact ⟨h',g,rfl⟩
theorem len {h : H} {bt : Nat} {br : Option Nat} {rows : List Rw} (t : Tbl h bt br rows) : CLM (.f 38) [.pointer (some ⟨bt,0,none⟩)] h = .ok (.int .i64 (rows.length : Nat)) h := by
  obtain ⟨sl,q1,q2⟩ := t.sl
  rw [cM38,F38.eq]
  simp only [xnil_ptr,go_ok,fa102_0,ld100,H.cell_eq q1,List.getElem?_cons_zero,ofO_some]
  rcases q2 with ⟨rfl,rfl,rfl⟩ | ⟨b,spare,cap,rfl,rfl,hg,hl,ho⟩ <;> simp only [ln100,go_ok] <;> rfl
end Go.Proofs.YtialpopmeamojaaGreat.K.Pt
namespace Go.Proofs.YtialpopmeamojaaGreat.K.Pt
open Go Go.Kx Go.Proofs.YtialpopmeamojaaGreat.K
set_option linter.unusedVariables false
set_option linter.unusedSimpArgs false
set_option maxRecDepth 20000
noncomputable def valOf (rows : List Rw) (k : Int) : List Value := if hasK rows k then ((rows[lb rows k]?).map (·.2)).getD [] else zc86
end Go.Proofs.YtialpopmeamojaaGreat.K.Pt
namespace Go.Proofs.YtialpopmeamojaaGreat.K.Pt
open Go Go.Kx Go.Proofs.YtialpopmeamojaaGreat.K
set_option linter.unusedVariables false
set_option linter.unusedSimpArgs false
set_option maxRecDepth 20000
def ifO (b : Bool) (l : List Value) : Option (List Value) := bif b then some l else none
def okA (o : Option (List Value)) (h : H) : Res Value := match o with | some l => .ok (.agg ⟨l⟩) h | none => .bad
def okS (o : Option (List Value)) (n : Nat) (el : TypeId) (h : H) : Res Value := match o with | some l => .ok (.slice (some ⟨h.next,0,none⟩) n n) (h.alloc (.cells l el 0 false)) | none => .bad
theorem bd121 {v : List Value} (hv : v.length = 102) (k : Int) (h : H) : xbuild Tryz.prog 121 [(0,.int .i64 k),(1,.agg ⟨v⟩)] h = .ok (.agg ⟨.int .i64 k :: v⟩) h := by
  have e : xbuild Tryz.prog 121 [(0,.int .i64 k),(1,.agg ⟨v⟩)] h = okA (ifO (Nat.beq (Value.agg ⟨v⟩).cells.size 102 && Nat.ble (1 + 102) (zc121.take 0 ++ ([Value.int .i64 k] ++ zc121.drop 1)).length) ((zc121.take 0 ++ ([Value.int .i64 k] ++ zc121.drop 1)).take 1 ++ (v ++ (zc121.take 0 ++ ([Value.int .i64 k] ++ zc121.drop 1)).drop (1 + 102)))) h := by kernel_rfl
  rw [e]
  have h1 : (zc121.take 0 ++ ([Value.int .i64 k] ++ zc121.drop 1)).length = 103 := by simp [zc121_len]
  have h2 : (Value.agg ⟨v⟩).cells.size = 102 := by rw [asz]; exact hv
  have h3 : (zc121.take 0 ++ ([Value.int .i64 k] ++ zc121.drop 1)).take 1 = [.int .i64 k] := by simp
  have h4 : (zc121.take 0 ++ ([Value.int .i64 k] ++ zc121.drop 1)).drop (1 + 102) = [] := List.drop_eq_nil_of_le (by rw [h1]; omega)
  rw [h1,h2,h3,h4]
  simp [ifO,okA,show Nat.ble 103 103 = true from rfl,show Nat.ble (1 + 102) 103 = true from rfl]
theorem bs100 {l : List Value} (hl : l.length = 103) (h : H) : xbuildSlice Tryz.prog 100 1 [(0,.agg ⟨l⟩)] h = .ok (.slice (some ⟨h.next,0,none⟩) 1 1) (h.alloc (.cells l 121 0 false)) := by
  have e : xbuildSlice Tryz.prog 100 1 [(0,.agg ⟨l⟩)] h = okS (ifO (Nat.beq (Value.agg ⟨l⟩).cells.size 103 && Nat.ble (0 + 103) (zc121 ++ []).length) ((zc121 ++ []).take 0 ++ (l ++ (zc121 ++ []).drop (0 + 103)))) 1 121 h := by kernel_rfl
  rw [e]
  have h1 : (zc121 ++ []).length = 103 := by simp [zc121_len]
  have h2 : (Value.agg ⟨l⟩).cells.size = 103 := by rw [asz]; exact hl
  have h4 : (zc121 ++ []).drop (0 + 103) = [] := List.drop_eq_nil_of_le (by rw [h1]; omega)
  rw [h1,h2,h4]
  simp [ifO,okS,show Nat.ble 103 103 = true from rfl,show Nat.ble (0 + 103) 103 = true from rfl]
def insR (rows : List Rw) (k : Int) (v : List Value) : List Rw := rows.take (lb rows k) ++ (k,v) :: rows.drop (lb rows k)
theorem zf81 : zeroFits Tryz.prog 121 = true := by kernel_rfl
theorem by81 : bytesOf Tryz.prog 121 ≤ 4096 := by
  have : Nat.ble (bytesOf Tryz.prog 121) 4096 = true := by kernel_rfl
  exact Nat.le_of_ble_eq_true this
theorem ins28 {h : H} {sl : Value} {br : Option Nat} {vb : Nat} {rows : List Rw} {r : Rw} (hs : SlOk h sl br rows) (hg : Good rows) (hr : r.2.length = 102 ∧ ones r.2 = true) (few : rows.length ≤ 1000000)
    (hv : h.get vb = some (.cells (.int .i64 r.1 :: r.2) 121 0 false)) {i : Nat} (hi : i ≤ rows.length) :
    ∃ h',Upd (fun b => some b = br) h h' ∧ CLM (.f 53) [sl,.int .i64 (i : Nat),.slice (some ⟨vb,0,none⟩) 1 1] h = .ok (.slice (some ⟨h.next,0,none⟩) (rows.length + 1) (rows.length + 1)) h' ∧
      h.next < h'.next ∧ h'.get h.next = some (.cells (rowsC (rows.take i ++ r :: rows.drop i)) 121 0 true) := by
  have hone : ones (Value.int .i64 r.1 :: r.2) = true := by show (true && ones r.2) = true; rw [hr.2]; rfl
  have hrow : h.row ⟨vb,0,none⟩ (1 * 103) = some (.int .i64 r.1 :: r.2) := H.row_all hv (by simp [hr.1])
  have hb1 : Nat.ble ((rows.length + 1) * bytesOf Tryz.prog 121) 35184372088832 = true := Nat.ble_eq_true_of_le (by
    have := Nat.mul_le_mul (show rows.length + 1 ≤ 1000001 by omega) by81
    omega)
  have hb2 : Nat.ble (rows.length + 1) 35184372088832 = true := Nat.ble_eq_true_of_le (by omega)
  have hb3 : Nat.ble (bytesOf Tryz.prog 121) 1048576 = true := Nat.ble_eq_true_of_le (by have := by81; omega)
  have hlist : (rowsC rows).take (i * 103) ++ ((.int .i64 r.1 :: r.2) ++ (rowsC rows).drop (i * 103)) = rowsC (rows.take i ++ r :: rows.drop i) := by
    have h1 := rowsC_take hg hi []
    have h2 := rowsC_drop hg hi []
    simp only [List.append_nil] at h1 h2
    rw [h1,h2,rowsC_app]
    simp [rowsC]
  rw [cM53]
  rcases hs with ⟨rfl,rfl,rfl⟩ | ⟨br,spare,cap,rfl,rfl,hb,hl,ho⟩
  · have hi0 : i = 0 := by simpa using hi
    subst hi0
    have e : primM 53 [.slice none 0 0,.int .i64 ((0 : Nat) : Int),.slice (some ⟨vb,0,none⟩) 1 1] h = .ok (.slice (some ⟨h.next,0,none⟩) 1 1) (h.alloc (.cells (.int .i64 r.1 :: r.2) 121 0 true)) := by
      rw [pmC]
      unfold insP
      simp only [eo100,co121,firstC,hrow,insOk,hv,hone,zf81]
      simp only [List.length_nil,Nat.zero_add] at hb1 hb2
      simp [hb1,hb2,hb3,H.leave]
      rfl
    rw [e]
    exact ⟨_,(Upd.refl _ h).alloc _,rfl,Nat.lt_succ_self _,by rw [H.alloc_self]; simp [rowsC]⟩
  · have hne : br ≠ vb := fun q => by subst q; rw [hb] at hv; simp at hv
    have hlen := rowsC_len hg
    have hfirst : h.row ⟨br,0,none⟩ (rows.length * 103) = some (rowsC rows) := by
      rw [H.row_eq hb (by rw [List.length_append]; omega),List.drop_zero]
      have := rowsC_take hg (Nat.le_refl _) spare
      rw [List.take_length] at this
      rw [this]
    have hcap : rows.length ≤ cap := by rw [List.length_append] at hl; omega
    have e : primM 53 [.slice (some ⟨br,0,none⟩) rows.length cap,.int .i64 (i : Int),.slice (some ⟨vb,0,none⟩) 1 1] h = .ok (.slice (some ⟨h.next,0,none⟩) (rows.length + 1) (rows.length + 1)) ((h.put br .dead).alloc (.cells (rowsC (rows.take i ++ r :: rows.drop i)) 121 0 true)) := by
      rw [pmC]
      unfold insP
      simp only [eo100,co121,firstC,hrow,hfirst,insOk,hb,hv,hone,zf81,ones_append (rowsC_ones hg) ho]
      have hbq : Nat.beq br vb = false := beqF hne
      have c1 : Nat.ble i rows.length = true := Nat.ble_eq_true_of_le hi
      have c2 : Nat.ble rows.length cap = true := Nat.ble_eq_true_of_le hcap
      have c3 : Nat.beq (r.2.length + 1) 0 = false := by rw [hr.1]; rfl
      have hlist' : (rowsC rows).take (i * 103) ++ .int .i64 r.1 :: (r.2 ++ (rowsC rows).drop (i * 103)) = rowsC (rows.take i ++ r :: rows.drop i) := by simpa using hlist
      simp [hb1,hb2,hb3,H.leave,hb,hbq,c1,c2,c3,hlist',show Nat.blt 0 1 = true from rfl,show Nat.ble 1 1 = true from rfl]
    rw [e]
    exact ⟨_,((Upd.refl (fun b => some b = some br) h).put (.inl rfl) (H.get_lt hb) _).alloc _,rfl,Nat.lt_succ_self _,H.alloc_self _ _⟩
theorem lb_cons_pos {r : Rw} {l : List Rw} {k : Int} (h : r.1 < k) : lb (r :: l) k = lb l k + 1 := by
  unfold lb
  rw [List.takeWhile_cons_of_pos (by simpa using h)]
  simp
theorem lb_cons_neg {r : Rw} {l : List Rw} {k : Int} (h : ¬ r.1 < k) : lb (r :: l) k = 0 := by
  unfold lb
  rw [List.takeWhile_cons_of_neg (by simpa using h)]
  simp
theorem ins_len (rows : List Rw) (k : Int) (v : List Value) : (insR rows k v).length = rows.length + 1 := by
  have := lb_le rows k
  simp only [insR,List.length_append,List.length_cons,List.length_take,List.length_drop]
  omega
theorem ins_good {rows : List Rw} (g : Good rows) {k : Int} {v : List Value} (hv : v.length = 102 ∧ ones v = true) : Good (insR rows k v) := by
  intro r hr
  rcases List.mem_append.1 hr with h | h
  · exact g r (List.mem_of_mem_take h)
  · rcases List.mem_cons.1 h with rfl | h
    · exact hv
    · exact g r (List.mem_of_mem_drop h)
theorem ins_mem {rows : List Rw} {k : Int} {v : List Value} {q : Rw} (h : q ∈ insR rows k v) : q = (k,v) ∨ q ∈ rows := by
  rcases List.mem_append.1 h with h | h
  · exact .inr (List.mem_of_mem_take h)
  · rcases List.mem_cons.1 h with rfl | h
    · exact .inl rfl
    · exact .inr (List.mem_of_mem_drop h)
theorem ins_srt : ∀ {rows : List Rw} (s : Srt rows) {k : Int} (v : List Value),¬ hasK rows k → Srt (insR rows k v)
  | [],_,k,v,_ => ⟨fun q hq => by simp at hq,trivial⟩
  | r :: l,s,k,v,hk => by
    by_cases hr : r.1 < k
    · have e : insR (r :: l) k v = r :: insR l k v := by unfold insR; rw [lb_cons_pos hr]; rfl
      have hk' : ¬ hasK l k := fun q => hk ⟨by rw [lb_cons_pos hr]; simpa using q.1,by rw [lb_cons_pos hr]; simpa [key] using q.2⟩
      rw [e]
      refine ⟨fun q hq => ?_,ins_srt s.2 v hk'⟩
      rcases ins_mem hq with rfl | hq
      · exact hr
      · exact s.1 q hq
    · have e : insR (r :: l) k v = (k,v) :: r :: l := by unfold insR; rw [lb_cons_neg hr]; rfl
      have hne : r.1 ≠ k := fun q => hk ⟨by rw [lb_cons_neg hr]; simp,by rw [lb_cons_neg hr]; simpa [key] using q⟩
      have hlt : k < r.1 := by omega
      rw [e]
      refine ⟨fun q hq => ?_,s⟩
      rcases List.mem_cons.1 hq with rfl | hq
      · exact hlt
      · have := s.1 q hq
        show k < q.1
        omega
theorem rc_slice (b n c : Nat) (h : H) : rc (.ok (.slice (some ⟨b,0,none⟩) n c) h) (some (.slice (some ⟨b,0,none⟩) n c)) = true := by simp [rc,veq]
theorem rc_nil (n c : Nat) (h : H) : rc (.ok (.slice none n c) h) (some (.slice none n c)) = true := by simp [rc,veq]
theorem put16 {h : H} {bt : Nat} {br : Option Nat} {rows : List Rw} (t : Tbl h bt br rows) {k : Int} (hk : ¬ hasK rows k) {v : List Value} (hv : v.length = 102 ∧ ones v = true) (few : rows.length < 1000000) :
    ∃ h' br',Upd (fun b => b = bt ∨ some b = br) h h' ∧ h.next ≤ br' ∧ CLM (.f 39) [.pointer (some ⟨bt,0,none⟩),.int .i64 k,.agg ⟨v⟩] h = .ok (.bool false) h' ∧ Tbl h' bt (some br') (insR rows k v) := by
  let h1 := h.alloc (.cells v 86 0 false)
  have g1 : Grow h h1 := (Grow.refl h).alloc _
  obtain ⟨h2,g2,e2⟩ := place (t.grow g1) k
  have g12 := g1.trans g2
  have hA : h2.get h.next = some (.cells v 86 0 false) := g2.old _ _ (H.alloc_self _ _)
  have t2 := t.grow g12
  obtain ⟨sl,q1,q2⟩ := t2.sl
  have hl : (Value.int .i64 k :: v).length = 103 := by simp [hv.1]
  let h3 := h2.alloc (.cells (.int .i64 k :: v) 121 0 false)
  have g3 : Grow h2 h3 := (Grow.refl h2).alloc _
  have q2' : SlOk h3 sl br rows := by
    refine q2.imp id ?_
    rintro ⟨b,sp,cap,e,a,c,d,f⟩
    exact ⟨b,sp,cap,e,a,g3.old _ _ c,d,f⟩
  obtain ⟨h4,u4,e4,n4,b4⟩ := ins28 (r := (k,v)) q2' t.good hv t.few (H.alloc_self h2 _) (lb_le rows k)
  have hbt3 : h3.get bt = some (.cells [sl] 102 0 false) := g3.old _ _ q1
  have hbt4 : h4.get bt = some (.cells [sl] 102 0 false) := u4.old _ _ t.ne hbt3
  have hst : (Value.slice (some ⟨h3.next,0,none⟩) (rows.length + 1) (rows.length + 1)).cells.size = 1 := rfl
  have hbtlt := H.get_lt hbt4
  have hnext3 : h2.next + 1 = h3.next := rfl
  have hbt2 : bt < h2.next := H.get_lt q1
  have hrc : (rc (xload Tryz.prog 100 (.pointer (some ⟨bt,0,none⟩)) h3) (some sl) && true) = true := by
    rw [ld100,H.cell_eq hbt3,List.getElem?_cons_zero,ofO_some]
    rcases q2 with ⟨_,rfl,_⟩ | ⟨b,sp,cap,_,rfl,_⟩
    · rw [rc_nil]; rfl
    · rw [rc_slice]; rfl
  rw [cM39,F39.eq]
  simp only [xbox_eq,cells_agg,go_ok]
  rw [show h.alloc (.cells v 86 0 false) = h1 from rfl,e2]
  simp only [go_ok,xextract_0,xextract_1,ifV_dec]
  rw [if_neg hk,F39.j5_eq]
  simp only [xnil_ptr,Res.ok1_ok,fa102_0,ld100,H.cell_eq q1,List.getElem?_cons_zero,ofO_some,ld86,H.row_all hA hv.1,ofA_some,bd121 hv.1,bs100 hl,go_ok]
  rw [show h2.alloc (.cells (.int .i64 k :: v) 121 0 false) = h3 from rfl]
  simp only [ld100] at hrc
  rw [hrc]
  simp only [cond_true]
  rw [show (Value.slice (some ⟨h2.next,0,none⟩) 1 1) = .slice (some ⟨h2.next,0,none⟩) 1 1 from rfl,e4]
  simp only [go_ok,xnil_ptr,Res.ok1_ok,fa102_0,st100 _ _ _ hst,cells_slice,H.write_all hbt4 (l := [.slice (some ⟨h3.next,0,none⟩) (rows.length + 1) (rows.length + 1)]) rfl rfl,ofU_some]
  have u : Upd (fun b => b = bt ∨ some b = br) h h4 := ((g12.trans g3).upd _).trans (u4.mono fun x _ q => .inr q)
  refine ⟨_,h3.next,u.put (.inl (.inl rfl)) hbtlt _,?_,rfl,⟨⟨_,H.put_self hbt4,.inr ⟨_,[],rows.length + 1,rfl,?_,?_,?_,rfl⟩⟩,?_,ins_good t.good hv,ins_srt t.srt v hk,by rw [ins_len]; omega⟩⟩
  · exact Nat.le_trans g12.next g3.next
  · rw [ins_len]
  · rw [List.append_nil]; exact H.put_ne hbt4 (by omega) b4
  · rw [List.append_nil,rowsC_len (ins_good t.good hv),ins_len]
  · intro q; have := Option.some.inj q; omega
end Go.Proofs.YtialpopmeamojaaGreat.K.Pt
namespace Go.Proofs.YtialpopmeamojaaGreat.K.Pt
open Go Go.Kx Go.Proofs.YtialpopmeamojaaGreat.K
set_option linter.unusedVariables false
set_option linter.unusedSimpArgs false
set_option maxRecDepth 20000
theorem zero121 : ∃ z,zeroOf Tryz.prog 121 = some z ∧ z.cells.toList = zc121 := by
  cases h : zeroOf Tryz.prog 121 with
  | none => exact absurd h (by intro q; have : (zeroOf Tryz.prog 121).isSome = true := by kernel_rfl
                               rw [q] at this; cases this)
  | some z => exact ⟨z,rfl,by unfold zc121; rw [h]⟩
theorem it100 : isIntT Tryz.prog 100 = some false := by kernel_rfl
theorem del_cells {rows : List Rw} (g : Good rows) {i : Nat} (hi : i < rows.length) (sp : List Value) :
    let a := rowsC rows ++ sp
    let n := rowsC (rows.drop (i + 1))
    let b := a.take (i * 103) ++ (n ++ a.drop (i * 103 + n.length))
    n.length = (rows.length - (i + 1)) * 103 ∧ b.length = a.length ∧ b.take ((rows.length - 1) * 103) ++ (zc121 ++ b.drop ((rows.length - 1) * 103 + zc121.length)) = rowsC (rows.take i ++ rows.drop (i + 1)) ++ (zc121 ++ sp) := by
  have ha := rowsC_len g
  have hn : (rowsC (rows.drop (i + 1))).length = (rows.length - (i + 1)) * 103 := by rw [rowsC_len (g.drop _),List.length_drop]
  have ht : (rowsC (rows.take i)).length = i * 103 := by rw [rowsC_len (g.take _),List.length_take,Nat.min_eq_left (by omega)]
  have e1 : (rowsC rows ++ sp).take (i * 103) = rowsC (rows.take i) := rowsC_take g (by omega) sp
  have e2 : (rowsC rows ++ sp).drop (i * 103 + (rows.length - (i + 1)) * 103) = rowsC (rows.drop (rows.length - 1)) ++ sp := by
    rw [show i * 103 + (rows.length - (i + 1)) * 103 = (rows.length - 1) * 103 by omega]
    exact rowsC_drop g (by omega) sp
  have hlast : (rowsC (rows.drop (rows.length - 1))).length = 103 := by rw [rowsC_len (g.drop _),List.length_drop]; omega
  refine ⟨hn,?_,?_⟩
  · simp only [hn,e1,e2,List.length_append,ht,hlast,ha]
    omega
  · simp only [hn,e1,e2]
    have h1 : (rowsC (rows.take i) ++ (rowsC (rows.drop (i + 1)) ++ (rowsC (rows.drop (rows.length - 1)) ++ sp))) = rowsC (rows.take i ++ rows.drop (i + 1)) ++ (rowsC (rows.drop (rows.length - 1)) ++ sp) := by
      rw [rowsC_app,List.append_assoc]
    have h2 : (rowsC (rows.take i ++ rows.drop (i + 1))).length = (rows.length - 1) * 103 := by rw [rowsC_app,List.length_append,ht,hn]; omega
    have h3 : (rowsC (rows.take i ++ rows.drop (i + 1)) ++ (rowsC (rows.drop (rows.length - 1)) ++ sp)).drop ((rows.length - 1) * 103 + zc121.length) = sp := by
      rw [← List.append_assoc]
      exact List.drop_left' (by rw [List.length_append,h2,hlast,zc121_len])
    rw [h1,List.take_left' h2,h3]
theorem del29 {h : H} {sl : Value} {br : Option Nat} {rows : List Rw} (hs : SlOk h sl br rows) (hg : Good rows) (few : rows.length ≤ 1000000) {i : Nat} (hi : i < rows.length) :
    ∃ h' sl',Upd (fun b => some b = br) h h' ∧ CLM (.f 54) [sl,.int .i64 (i : Nat),.int .i64 ((i + 1 : Nat) : Int)] h = .ok sl' h' ∧ SlOk h' sl' br (rows.take i ++ rows.drop (i + 1)) ∧ (∃ o n c,sl' = .slice o n c) := by
  rcases hs with ⟨rfl,rfl,rfl⟩ | ⟨br,spare,cap,rfl,rfl,hb,hl,ho⟩
  · simp at hi
  · have hlen := rowsC_len hg
    have hcap : rows.length ≤ cap := by rw [List.length_append] at hl; omega
    have nat : ∀ (m d : Nat),asNat? (some (.int .i64 (m : Int))) d = some m := fun m d => rfl
    have non : ∀ (d : Nat),asNat? none d = some d := fun d => rfl
    obtain ⟨d1,d2,d3⟩ := del_cells hg hi spare
    rw [cM54,F54.eq]
    simp only [ln100,go_ok]
    rw [xslice_m un100 sz121 (nat i _) (nat (i + 1) _) (nat rows.length _) (by omega) (by omega) hcap]
    simp only [go_ok,xeql,ifV_dec]
    rw [if_neg (by omega),F54.j4_eq]
    simp only [ln100,go_ok]
    rw [xslice_o un100 sz121 hb rfl (non 0) (nat i _) (Nat.zero_le _) (by omega) (by omega)]
    simp only [Res.ok1_ok,Nat.zero_mul,Nat.add_zero,Nat.sub_zero]
    have fin : ∀ (h2 : H) (c : List Value),h2.get br = some (.cells c 121 0 true) → c.length = (rowsC rows ++ spare).length → Upd (fun b => some b = some br) h h2 →
        c.take ((rows.length - 1) * 103) ++ (zc121 ++ c.drop ((rows.length - 1) * 103 + zc121.length)) = rowsC (rows.take i ++ rows.drop (i + 1)) ++ (zc121 ++ spare) →
        ∃ h' sl',Upd (fun b => some b = some br) h h' ∧ ((xbuiltin Tryz.prog .len [100] [.slice (some ⟨br,0,none⟩) (rows.length - 1) cap] h2).go .pan fun t15 h16 => ((xslice Tryz.prog 100 (.slice (some ⟨br,0,none⟩) (rows.length - 1) cap) (some t15) (some (.int .i64 (rows.length : Nat))) none h16).go .pan fun t17 h18 => ((xbuiltin Tryz.prog .clear [100] [t17] h18).go .pan fun t19 h20 => (.ok (.slice (some ⟨br,0,none⟩) (rows.length - 1) cap) h20)))) = .ok sl' h' ∧
          SlOk h' sl' (some br) (rows.take i ++ rows.drop (i + 1)) ∧ (∃ o n c,sl' = .slice o n c) := by
      intro h2 c hc hcl u2 hfin
      obtain ⟨z,hz,hzc⟩ := zero121
      have hw : h2.write ⟨br,0 + (rows.length - 1) * 103,none⟩ (repeatL z.cells.toList 1) = some (h2.put br (.cells (rowsC (rows.take i ++ rows.drop (i + 1)) ++ (zc121 ++ spare)) 121 0 true)) := by
        rw [hzc,show repeatL zc121 1 = zc121 by simp [repeatL],H.write_eq hc (by rw [hcl,zc121_len,List.length_append]; omega) zc121_ones,Nat.zero_add,hfin]
      simp only [ln100,go_ok]
      rw [xslice_o un100 sz121 hc rfl (nat (rows.length - 1) _) (nat rows.length _) (by omega) hcap (by omega)]
      simp only [go_ok,co121]
      rw [xclear_eq un100 hz (by omega) (by rw [show rows.length - (rows.length - 1) = 1 by omega]; exact hw)]
      simp only [go_ok]
      refine ⟨_,_,u2.put (.inl rfl) (H.get_lt hc) _,rfl,.inr ⟨br,zc121 ++ spare,cap,rfl,?_,H.put_self hc,?_,ones_append zc121_ones ho⟩,_,_,_,rfl⟩
      · simp only [List.length_append,List.length_take,List.length_drop]
        rw [show min i rows.length + (rows.length - (i + 1)) = rows.length - 1 by omega]
      · rw [← hfin]
        simp only [List.length_append,List.length_take,List.length_drop,zc121_len]
        rw [List.length_append] at hl hcl
        omega
    by_cases hlast : i + 1 = rows.length
    ·
      have hx : ∃ x,xslice Tryz.prog 100 (.slice (some ⟨br,0,none⟩) rows.length cap) (some (.int .i64 ((i + 1 : Nat) : Int))) none none h = .ok x h ∧ lenV x = some 0 ∧ firstC h (Tryz.prog.cellsOf 121) 0 x = some [] := by
        by_cases hc : rows.length = cap
        · refine ⟨_,xslice_e un100 sz121 hb rfl (by rw [← hc,← hlast]; exact nat _ _) (by rw [← hc]; exact non _),rfl,?_⟩
          show h.row ⟨br,0,none⟩ (0 * _) = _
          rw [H.row_eq hb (by rw [Nat.zero_mul]; omega),Nat.zero_mul]; simp
        · refine ⟨_,xslice_o un100 sz121 hb rfl (nat _ _) (non _) (by omega) hcap (by omega),by show some (rows.length - (i + 1)) = _; rw [hlast,Nat.sub_self],?_⟩
          show h.row ⟨br,0 + (i + 1) * _,none⟩ (0 * _) = _
          rw [H.row_eq hb (by rw [Nat.zero_mul,co121,List.length_append]; omega),Nat.zero_mul]; simp
      obtain ⟨x,x1,x2,x3⟩ := hx
      rw [x1]
      simp only [Res.ok1_ok]
      rw [xapp_0 eo100 sz121 it100 x2 x3 (by omega)]
      simp only [go_ok]
      have hn0 : rows.drop (i + 1) = [] := List.drop_eq_nil_of_le (by omega)
      have := fin h _ hb rfl (Upd.refl _ _) (by
        rw [← d3]
        simp only [hn0,rowsC,List.nil_append,List.length_nil,Nat.add_zero,List.take_append_drop])
      rw [show i = rows.length - 1 by omega] at this ⊢
      exact this
    · have hrow : h.row ⟨br,0 + (i + 1) * 103,none⟩ ((rows.length - (i + 1)) * 103) = some (rowsC (rows.drop (i + 1))) := by
        rw [H.row_eq hb (by rw [List.length_append]; omega),Nat.zero_add,rowsC_drop hg (by omega),List.take_left' d1]
      rw [xslice_o un100 sz121 hb rfl (nat _ _) (non _) (by omega) hcap (by omega)]
      simp only [Res.ok1_ok,co121]
      have hw : h.write ⟨br,0 + i * 103,none⟩ (rowsC (rows.drop (i + 1))) = some (h.put br (.cells ((rowsC rows ++ spare).take (i * 103) ++ (rowsC (rows.drop (i + 1)) ++ (rowsC rows ++ spare).drop (i * 103 + (rowsC (rows.drop (i + 1))).length))) 121 0 true)) := by
        rw [H.write_eq hb (by rw [d1,List.length_append]; omega) (rowsC_ones (hg.drop _)),Nat.zero_add]
      rw [xapp_in eo100 sz121 it100 (k := rows.length - (i + 1)) rfl (by rw [co121]; exact hrow) (by omega) (by omega) (by rw [co121]; exact hw)]
      simp only [go_ok]
      have := fin _ _ (H.put_self hb) d2 ((Upd.refl (fun b => some b = some br) _).put (.inl rfl) (H.get_lt hb) _) d3
      rw [show i + (rows.length - (i + 1)) = rows.length - 1 by omega]
      exact this
def delR (rows : List Rw) (k : Int) : List Rw := if hasK rows k then rows.take (lb rows k) ++ rows.drop (lb rows k + 1) else rows
theorem Srt.append : ∀ {a b : List Rw},Srt (a ++ b) → Srt a ∧ Srt b ∧ ∀ p ∈ a,∀ q ∈ b,p.1 < q.1
  | [],b,h => ⟨trivial,h,fun p hp => by cases hp⟩
  | r :: a,b,h => by
    obtain ⟨h1,h2,h3⟩ := Srt.append h.2
    refine ⟨⟨fun q hq => h.1 q (List.mem_append.2 (.inl hq)),h1⟩,h2,fun p hp q hq => ?_⟩
    rcases List.mem_cons.1 hp with rfl | hp
    · exact h.1 q (List.mem_append.2 (.inr hq))
    · exact h3 p hp q hq
theorem Srt.of_append : ∀ {a b : List Rw},Srt a → Srt b → (∀ p ∈ a,∀ q ∈ b,p.1 < q.1) → Srt (a ++ b)
  | [],b,_,h,_ => h
  | r :: a,b,h,hb,hx => ⟨fun q hq => (List.mem_append.1 hq).elim (h.1 q) (hx r (by simp) q),Srt.of_append h.2 hb fun p hp => hx p (by simp [hp])⟩
theorem Srt.drop1 : ∀ {a : List Rw} (n : Nat),Srt a → Srt (a.drop n)
  | _,0,h => by simpa using h
  | [],n + 1,h => by simpa using h
  | _ :: l,n + 1,h => by simpa using Srt.drop1 (a := l) n h.2
theorem del_srt {rows : List Rw} (s : Srt rows) (i : Nat) : Srt (rows.take i ++ rows.drop (i + 1)) := by
  rw [← List.take_append_drop i rows] at s
  obtain ⟨h1,h2,h3⟩ := s.append
  rw [show rows.drop (i + 1) = (rows.drop i).drop 1 by rw [List.drop_drop]]
  exact h1.of_append (h2.drop1 1) fun p hp q hq => h3 p hp q (List.mem_of_mem_drop hq)
theorem del_good {rows : List Rw} (g : Good rows) (i : Nat) : Good (rows.take i ++ rows.drop (i + 1)) := fun r hr => by
  rcases List.mem_append.1 hr with h | h
  · exact g r (List.mem_of_mem_take h)
  · exact g r (List.mem_of_mem_drop h)
theorem delete17 {h : H} {bt : Nat} {br : Option Nat} {rows : List Rw} (t : Tbl h bt br rows) (k : Int) :
    ∃ h',Upd (fun b => b = bt ∨ some b = br) h h' ∧ CLM (.f 40) [.pointer (some ⟨bt,0,none⟩),.int .i64 k] h = .ok (.bool (decide (hasK rows k))) h' ∧ Tbl h' bt br (delR rows k) := by
  obtain ⟨h1,g1,e1⟩ := place t k
  have t1 := t.grow g1
  rw [cM40,F40.eq]
  simp only [e1,go_ok,xextract_0,xextract_1,ifV_dec]
  by_cases hk : hasK rows k
  · rw [if_pos hk]
    obtain ⟨sl,q1,q2⟩ := t1.sl
    have hw : IntKind.i64.wrap ((lb rows k : Int) + 1) = ((lb rows k + 1 : Nat) : Int) := by
      have := t.few; have := hk.1
      rw [wrap64 (by omega)]; omega
    obtain ⟨h2,sl',u2,e2,s2,o',n',c',rfl⟩ := del29 q2 t.good t.few hk.1
    have hbt2 : h2.get bt = some (.cells [sl] 102 0 false) := u2.old _ _ t.ne q1
    have hst : (Value.slice o' n' c').cells.size = 1 := rfl
    simp only [xnil_ptr,go_ok,fa102_0,ld100,H.cell_eq q1,List.getElem?_cons_zero,ofO_some,xadd,hw,e2,st100 _ _ _ hst,cells_slice,H.write_all hbt2 (l := [.slice o' n' c']) rfl rfl,ofU_some]
    have u : Upd (fun b => b = bt ∨ some b = br) h h2 := (g1.upd _).trans (u2.mono fun x _ q => .inr q)
    have hd : delR rows k = rows.take (lb rows k) ++ rows.drop (lb rows k + 1) := by unfold delR; rw [if_pos hk]
    refine ⟨_,u.put (.inl (.inl rfl)) (H.get_lt hbt2) _,rfl,⟨⟨_,H.put_self hbt2,?_⟩,t.ne,?_,?_,?_⟩⟩
    · rw [hd]
      refine s2.imp id ?_
      rintro ⟨b,sp,cap,e,a,c,d,f⟩
      exact ⟨b,sp,cap,e,a,H.put_ne hbt2 (fun q => t.ne (by rw [e,q])) c,d,f⟩
    · rw [hd]; exact del_good t.good _
    · rw [hd]; exact del_srt t.srt _
    · rw [hd]
      have := t.few
      simp only [List.length_append,List.length_take,List.length_drop]; omega
  · rw [if_neg hk]
    exact ⟨h1,g1.upd _,rfl,by unfold delR; rw [if_neg hk]; exact t1⟩
end Go.Proofs.YtialpopmeamojaaGreat.K.Pt
namespace Go.Proofs.YtialpopmeamojaaGreat.K.Pt
open Go Go.Kx Go.Proofs.YtialpopmeamojaaGreat.K
set_option linter.unusedVariables false
set_option linter.unusedSimpArgs false
set_option maxRecDepth 20000
theorem bd102 (h : H) : xbuild Tryz.prog 102 [] h = .ok (.agg ⟨[.slice none 0 0]⟩) h := by kernel_rfl
theorem bd88 (a : Addr) (h : H) : xbuild Tryz.prog 88 [(0,.pointer (some a))] h = .ok (.agg ⟨[.pointer (some a),.int .i64 0]⟩) h := by kernel_rfl
def pa (l : List Value) (o n : Nat) (p : List Value) : List Value := l.take o ++ (p ++ l.drop (o + n))
theorem pa_app {x y z p : List Value} {o n : Nat} (hx : x.length = o) (hy : y.length = n) : pa (x ++ (y ++ z)) o n p = x ++ (p ++ z) := by
  unfold pa
  rw [List.take_left' hx,← List.drop_drop,List.drop_left' hx,List.drop_left' hy]
theorem split_at (l : List Value) (n m : Nat) (h : l.length = n + m) : ∃ a b,l = a ++ b ∧ a.length = n ∧ b.length = m := ⟨l.take n,l.drop n,(List.take_append_drop n l).symm,by simp; omega,by simp; omega⟩
theorem bd86 {k r m : List Value} (hk : k.length = 32) (hr : r.length = 34) (hm : m.length = 34) (a b : Int) (h : H) :
    xbuild Tryz.prog 86 [(0,.int .i64 a),(1,.int .i64 b),(2,.agg ⟨k⟩),(3,.agg ⟨r⟩),(4,.agg ⟨m⟩)] h = .ok (.agg ⟨.int .i64 a :: .int .i64 b :: (k ++ (r ++ m))⟩) h := by
  have e : xbuild Tryz.prog 86 [(0,.int .i64 a),(1,.int .i64 b),(2,.agg ⟨k⟩),(3,.agg ⟨r⟩),(4,.agg ⟨m⟩)] h =
      okA (bif Nat.beq (Value.agg ⟨k⟩).cells.size 32 && Nat.ble (2 + 32) (pa (pa zc86 0 1 [Value.int .i64 a]) 1 1 [Value.int .i64 b]).length then
        (bif Nat.beq (Value.agg ⟨r⟩).cells.size 34 && Nat.ble (34 + 34) (pa (pa (pa zc86 0 1 [Value.int .i64 a]) 1 1 [Value.int .i64 b]) 2 32 k).length then
          (bif Nat.beq (Value.agg ⟨m⟩).cells.size 34 && Nat.ble (68 + 34) (pa (pa (pa (pa zc86 0 1 [Value.int .i64 a]) 1 1 [Value.int .i64 b]) 2 32 k) 34 34 r).length then
            some (pa (pa (pa (pa (pa zc86 0 1 [Value.int .i64 a]) 1 1 [Value.int .i64 b]) 2 32 k) 34 34 r) 68 34 m) else none) else none) else none) h := by kernel_rfl
  obtain ⟨z1,y1,h1,l1,m1⟩ := split_at zc86 1 101 zc86_len
  obtain ⟨z2,y2,h2,l2,m2⟩ := split_at y1 1 100 m1
  obtain ⟨z3,y3,h3,l3,m3⟩ := split_at y2 32 68 m2
  obtain ⟨z4,z5,h4,l4,l5⟩ := split_at y3 34 34 m3
  have p1 : pa zc86 0 1 [Value.int .i64 a] = [Value.int .i64 a] ++ y1 := by rw [h1]; exact pa_app (x := []) rfl l1
  have p2 : pa ([Value.int .i64 a] ++ y1) 1 1 [Value.int .i64 b] = [Value.int .i64 a] ++ ([Value.int .i64 b] ++ y2) := by rw [h2]; exact pa_app rfl l2
  have p3 : pa ([Value.int .i64 a] ++ ([.int .i64 b] ++ y2)) 2 32 k = [Value.int .i64 a,.int .i64 b] ++ (k ++ y3) := by rw [h3]; exact pa_app (x := [Value.int .i64 a,.int .i64 b]) rfl l3
  have p4 : pa ([Value.int .i64 a,.int .i64 b] ++ (k ++ y3)) 34 34 r = ([Value.int .i64 a,.int .i64 b] ++ k) ++ (r ++ z5) := by
    rw [h4,← List.append_assoc]; exact pa_app (by simp [hk]) l4
  have p5 : pa (([Value.int .i64 a,.int .i64 b] ++ k) ++ (r ++ z5)) 68 34 m = (([Value.int .i64 a,.int .i64 b] ++ k) ++ r) ++ (m ++ []) := by
    rw [← List.append_assoc,show z5 = z5 ++ [] by simp]; exact pa_app (by simp [hk,hr]) l5
  have q2 : ([Value.int .i64 a] ++ ([Value.int .i64 b] ++ y2)).length = 102 := by simp [m2]
  have q3 : ([Value.int .i64 a,.int .i64 b] ++ (k ++ y3)).length = 102 := by simp [hk,m3]
  have q4 : (([Value.int .i64 a,.int .i64 b] ++ k) ++ (r ++ z5)).length = 102 := by simp [hk,hr,l5]
  rw [e,p1,p2,p3,p4,p5,q2,q3,q4,asz,asz,asz,hk,hr,hm]
  simp [okA,show Nat.ble (2 + 32) 102 = true from rfl,show Nat.ble (34 + 34) 102 = true from rfl,show Nat.ble (68 + 34) 102 = true from rfl,show Nat.ble 34 102 = true from rfl,show Nat.ble 68 102 = true from rfl,show Nat.ble 102 102 = true from rfl]
structure Pns (h : H) (bp bt : Nat) (br : Option Nat) (rows : List Rw) (last : Nat) : Prop where
  pin : h.get bp = some (.cells [.pointer (some ⟨bt,0,none⟩),.int .i64 (last : Nat)] 88 0 false)
  tbl : Tbl h bt br rows
  ne1 : bp ≠ bt
  ne2 : some bp ≠ br
  keys : ∀ r ∈ rows,r.1 ≤ (last : Int)
def Ft (bp bt : Nat) (br : Option Nat) (b : Nat) : Prop := b = bp ∨ b = bt ∨ some b = br
theorem Pns.upd {S : Nat → Prop} {h h' : H} (u : Upd S h h') {bp bt : Nat} {br : Option Nat} {rows : List Rw} {last : Nat} (p : Pns h bp bt br rows last) (hs : ∀ b,Ft bp bt br b → ¬ S b) : Pns h' bp bt br rows last :=
  ⟨u.old _ _ (hs _ (.inl rfl)) p.pin,p.tbl.upd u (hs _ (.inr (.inl rfl))) fun b e => hs _ (.inr (.inr e.symm)),p.ne1,p.ne2,p.keys⟩
theorem Pns.grow {h h' : H} (g : Grow h h') {bp bt : Nat} {br : Option Nat} {rows : List Rw} {last : Nat} (p : Pns h bp bt br rows last) : Pns h' bp bt br rows last := p.upd (g.upd fun _ => False) fun _ _ => id
theorem new5 (h : H) : ∃ h',Grow h h' ∧ CLM (.f 19) [] h = .ok (.pointer (some ⟨h.next + 1,0,none⟩)) h' ∧ Pns h' (h.next + 1) h.next none [] 0 ∧ h'.next = h.next + 2 := by
  have e14 : CLM (.f 34) [] h = .ok (.pointer (some ⟨h.next,0,none⟩)) (h.alloc (.cells [.slice none 0 0] 102 0 false)) := by
    rw [cM34,F34.eq]
    simp only [bd102,go_ok,xbox_eq,cells_agg]
  rw [cM19,F19.eq]
  simp only [e14,go_ok,bd88,xbox_eq,cells_agg]
  have g1 : Grow h (h.alloc (.cells [.slice none 0 0] 102 0 false)) := (Grow.refl h).alloc _
  have hb : ((h.alloc (.cells [.slice none 0 0] 102 0 false)).alloc (.cells [.pointer (some ⟨h.next,0,none⟩),.int .i64 0] 88 0 false)).get h.next = some (.cells [.slice none 0 0] 102 0 false) := H.alloc_old (H.alloc_self _ _)
  refine ⟨_,g1.alloc _,rfl,⟨H.alloc_self (h.alloc _) _,⟨⟨_,hb,.inl ⟨rfl,rfl,rfl⟩⟩,by simp,fun r hr => by simp at hr,trivial,by simp⟩,by omega,by simp,fun r hr => by simp at hr⟩,rfl⟩
theorem unpin8 {h : H} {bp bt : Nat} {br : Option Nat} {rows : List Rw} {last : Nat} (p : Pns h bp bt br rows last) (k : Int) :
    ∃ h',Upd (Ft bp bt br) h h' ∧ CLM (.f 23) [.pointer (some ⟨bp,0,none⟩),.int .i64 k] h = .ok (.int .i64 (if hasK rows k then 0 else 191)) h' ∧ Pns h' bp bt br (delR rows k) last := by
  obtain ⟨h1,u1,e1,t1⟩ := delete17 p.tbl k
  rw [cM23,F23.eq]
  simp only [xnil_ptr,go_ok,fa88_0,ld83,H.cell_eq p.pin,List.getElem?_cons_zero,ofO_some,e1,xun_not,ifV_not]
  have hp := u1.old _ _ (fun q => q.elim p.ne1 p.ne2) p.pin
  have hk : ∀ r ∈ delR rows k,r.1 ≤ (last : Int) := fun r hr => by
    unfold delR at hr
    split at hr
    · rcases List.mem_append.1 hr with q | q
      · exact p.keys r (List.mem_of_mem_take q)
      · exact p.keys r (List.mem_of_mem_drop q)
    · exact p.keys r hr
  refine ⟨h1,u1.mono fun x _ q => .inr q,?_,⟨hp,t1,p.ne1,p.ne2,hk⟩⟩
  split <;> rfl
def pinC (n gen : Int) (k r m : List Value) : List Value := .int .i64 n :: .int .i64 gen :: (k ++ (r ++ m))
theorem pinC_ok {k r m : List Value} (hk : k.length = 32 ∧ ones k = true) (hr : r.length = 34 ∧ ones r = true) (hm : m.length = 34 ∧ ones m = true) (n gen : Int) : (pinC n gen k r m).length = 102 ∧ ones (pinC n gen k r m) = true := by
  refine ⟨by simp [pinC,hk.1,hr.1,hm.1],?_⟩
  show (true && (true && ones (k ++ (r ++ m)))) = true
  rw [ones_append hk.2 (ones_append hr.2 hm.2)]; rfl
theorem lb_all : ∀ {rows : List Rw} {k : Int},(∀ r ∈ rows,r.1 < k) → lb rows k = rows.length
  | [],_,_ => rfl
  | r :: l,k,h => by rw [lb_cons_pos (h r (by simp)),lb_all (fun q hq => h q (by simp [hq]))]; rfl
theorem hasK_all {rows : List Rw} {k : Int} (h : ∀ r ∈ rows,r.1 < k) : ¬ hasK rows k := fun q => by have := q.1; rw [lb_all h] at this; omega
theorem insR_all {rows : List Rw} {k : Int} (h : ∀ r ∈ rows,r.1 < k) (v : List Value) : insR rows k v = rows ++ [(k,v)] := by
  unfold insR
  rw [lb_all h]
  simp
theorem pin6_full {h : H} {bp bt : Nat} {br : Option Nat} {rows : List Rw} {last : Nat} (p : Pns h bp bt br rows last) (hf : 64 ≤ rows.length) (gen : Int) (k r m : List Value) :
    ∃ h',Grow h h' ∧ CLM (.f 21) [.pointer (some ⟨bp,0,none⟩),.int .i64 gen,.agg ⟨k⟩,.agg ⟨r⟩,.agg ⟨m⟩] h = .ok (.tuple ⟨[.int .i64 0,.int .i64 190]⟩) h' := by
  let h3 := ((h.alloc (.cells k 68 0 false)).alloc (.cells r 70 0 false)).alloc (.cells m 70 0 false)
  have g3 : Grow h h3 := (((Grow.refl h).alloc _).alloc _).alloc _
  have p3 := p.grow g3
  rw [cM21,F21.eq]
  simp only [xbox_eq,cells_agg,go_ok,H.next_alloc]
  rw [show ((h.alloc (.cells k 68 0 false)).alloc (.cells r 70 0 false)).alloc (.cells m 70 0 false) = h3 from rfl]
  simp only [xnil_ptr,go_ok,fa88_0,ld83,H.cell_eq p3.pin,List.getElem?_cons_zero,ofO_some,len p3.tbl,xgeq,ifV_dec]
  rw [if_pos (by omega)]
  exact ⟨h3,g3,rfl⟩
theorem pin6 {h : H} {bp bt : Nat} {br : Option Nat} {rows : List Rw} {last : Nat} (p : Pns h bp bt br rows last) (hf : rows.length < 64) (hlast : last < 4611686018427387904) (gen : Int) {k r m : List Value}
    (hk : k.length = 32 ∧ ones k = true) (hr : r.length = 34 ∧ ones r = true) (hm : m.length = 34 ∧ ones m = true) :
    ∃ h' br',Upd (Ft bp bt br) h h' ∧ h.next ≤ br' ∧ CLM (.f 21) [.pointer (some ⟨bp,0,none⟩),.int .i64 gen,.agg ⟨k⟩,.agg ⟨r⟩,.agg ⟨m⟩] h = .ok (.tuple ⟨[.int .i64 ((last + 1 : Nat) : Int),.int .i64 0]⟩) h' ∧
      Pns h' bp bt (some br') (rows ++ [(((last + 1 : Nat) : Int),pinC ((last + 1 : Nat) : Int) gen k r m)]) (last + 1) := by
  let h1 := h.alloc (.cells k 68 0 false)
  let h2 := h1.alloc (.cells r 70 0 false)
  let h3 := h2.alloc (.cells m 70 0 false)
  have g3 : Grow h h3 := (((Grow.refl h).alloc _).alloc _).alloc _
  have p3 := p.grow g3
  have b1 : h3.get h.next = some (.cells k 68 0 false) := H.alloc_old (H.alloc_old (H.alloc_self _ _))
  have b2 : h3.get (h.next + 1) = some (.cells r 70 0 false) := H.alloc_old (H.alloc_self h1 _)
  have b3 : h3.get (h.next + 1 + 1) = some (.cells m 70 0 false) := H.alloc_self h2 _
  have hw : IntKind.i64.wrap ((last : Int) + 1) = ((last + 1 : Nat) : Int) := by rw [wrap64 (by omega)]; omega
  let h4 := h3.put bp (.cells [.pointer (some ⟨bt,0,none⟩),.int .i64 ((last + 1 : Nat) : Int)] 88 0 false)
  have w4 : h3.write ⟨bp,0 + 1,none⟩ [.int .i64 ((last + 1 : Nat) : Int)] = some h4 := by
    rw [H.write_eq p3.pin (by simp) rfl]; rfl
  have hlt := H.get_lt p.pin
  have b4 : h4.get bp = some (.cells [.pointer (some ⟨bt,0,none⟩),.int .i64 ((last + 1 : Nat) : Int)] 88 0 false) := H.put_self p3.pin
  have u4 : Upd (fun b => b = bp) h3 h4 := (Upd.refl (fun b => b = bp) _).put (.inl rfl) (H.get_lt p3.pin) _
  have t4 : Tbl h4 bt br rows := p3.tbl.upd u4 (fun q => p.ne1 q.symm) fun b e q => p.ne2 (by rw [e,q])
  have c1 : h4.get h.next = some (.cells k 68 0 false) := u4.old _ _ (by omega) b1
  have c2 : h4.get (h.next + 1) = some (.cells r 70 0 false) := u4.old _ _ (by omega) b2
  have c3 : h4.get (h.next + 1 + 1) = some (.cells m 70 0 false) := u4.old _ _ (by omega) b3
  have hall : ∀ q ∈ rows,q.1 < ((last + 1 : Nat) : Int) := fun q hq => by have := p.keys q hq; omega
  obtain ⟨h5,br',u5,n5,e5,t5⟩ := put16 t4 (hasK_all hall) (pinC_ok hk hr hm ((last + 1 : Nat) : Int) gen) (by omega)
  rw [insR_all hall] at t5
  have hn4 : h4.next = h.next + 3 := rfl
  have b5 : h5.get bp = some (.cells [.pointer (some ⟨bt,0,none⟩),.int .i64 ((last + 1 : Nat) : Int)] 88 0 false) := u5.old _ _ (fun q => q.elim p.ne1 p.ne2) b4
  have hst : (Value.int .i64 ((last + 1 : Nat) : Int)).cells.size = 1 := rfl
  have one : ([Value.pointer (some ⟨bt,0,none⟩),.int .i64 ((last + 1 : Nat) : Int)] : List Value)[0 + 1]? = some (.int .i64 ((last + 1 : Nat) : Int)) := rfl
  have one3 : ([Value.pointer (some ⟨bt,0,none⟩),.int .i64 (last : Int)] : List Value)[0 + 1]? = some (.int .i64 (last : Int)) := rfl
  rw [cM21,F21.eq]
  simp only [xbox_eq,cells_agg,go_ok,H.next_alloc]
  rw [show ((h.alloc (.cells k 68 0 false)).alloc (.cells r 70 0 false)).alloc (.cells m 70 0 false) = h3 from rfl]
  simp only [xnil_ptr,go_ok,fa88_0,ld83,H.cell_eq p3.pin,List.getElem?_cons_zero,ofO_some,len p3.tbl,xgeq,ifV_dec]
  rw [if_neg (by omega),F21.j3_eq]
  simp only [xnil_ptr,go_ok,fa88_1,ld3,H.cell_eq p3.pin,one3,ofO_some,xadd,hw,st3 _ _ _ hst,cells_int,w4,ofU_some,Res.ok1_ok,fa88_0,ld83,H.cell_eq b4,List.getElem?_cons_zero,one,ld68,H.row_all c1 hk.1,ofA_some,ld70,H.row_all c2 hr.1,H.row_all c3 hm.1,bd86 hk.1 hr.1 hm.1]
  rw [show (Value.int .i64 ((last + 1 : Nat) : Int) :: .int .i64 gen :: (k ++ (r ++ m))) = pinC ((last + 1 : Nat) : Int) gen k r m from rfl,e5]
  simp only [go_ok,xnil_ptr,fa88_1,ld3,H.cell_eq b5,one,ofO_some]
  have u : Upd (Ft bp bt br) h h5 := (g3.upd _).trans ((u4.mono fun x _ q => .inl q).trans (u5.mono fun x _ q => .inr q))
  refine ⟨h5,br',u,by omega,rfl,⟨b5,t5,p.ne1,fun q => ?_,fun q hq => ?_⟩⟩
  · have := Option.some.inj q; omega
  · rcases List.mem_append.1 hq with q1 | q1
    · have := p.keys q q1; omega
    · simp only [List.mem_singleton] at q1; subst q1; exact Int.le_refl _
end Go.Proofs.YtialpopmeamojaaGreat.K.Pt
