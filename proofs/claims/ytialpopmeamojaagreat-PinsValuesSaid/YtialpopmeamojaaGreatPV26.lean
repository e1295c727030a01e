/- My texts for this claim, in one file: part 26. -/
import Derived.Test.YtialpopmeamojaaGreatPV25
namespace Go.Kx
open Go
set_option linter.unusedVariables false
set_option linter.unusedSimpArgs false
structure LsT (P : Program) (t e E : Nat) : Prop where
  u : P.underlying t = some (.slice e)
  el : elemOf? P t = some e
  sz : szOk P e = true
  iss : isIntT P t = some false
  ce : P.cellsOf e = E
  pos : 0 < E
  zf : zeroFits P e = true
  by_ : bytesOf P e ≤ 4096
def GoodR (E : Nat) (rows : List (List Value)) : Prop := ∀ r ∈ rows,r.length = E ∧ ones r = true
theorem GoodR.nil {E : Nat} : GoodR E [] := fun r h => by cases h
theorem GoodR.append {E : Nat} {a b : List (List Value)} (h : GoodR E a) (k : GoodR E b) : GoodR E (a ++ b) := fun r q => (List.mem_append.1 q).elim (h r) (k r)
theorem GoodR.one {E : Nat} {r : List Value} (h : r.length = E) (k : ones r = true) : GoodR E [r] := fun q hq => by simp only [List.mem_singleton] at hq; subst hq; exact ⟨h,k⟩
theorem GoodR.take {E : Nat} {a : List (List Value)} (h : GoodR E a) (n : Nat) : GoodR E (a.take n) := fun r q => h r (List.mem_of_mem_take q)
theorem GoodR.drop {E : Nat} {a : List (List Value)} (h : GoodR E a) (n : Nat) : GoodR E (a.drop n) := fun r q => h r (List.mem_of_mem_drop q)
theorem GoodR.set {E : Nat} {a : List (List Value)} (h : GoodR E a) {r : List Value} (h1 : r.length = E) (h2 : ones r = true) (i : Nat) : GoodR E (a.set i r) := fun q hq => by
  rcases List.mem_or_eq_of_mem_set hq with w | w
  · exact h q w
  · subst w; exact ⟨h1,h2⟩
theorem flat_len {E : Nat} : ∀ {rows : List (List Value)},GoodR E rows → rows.flatten.length = rows.length * E
  | [],_ => by simp
  | r :: l,g => by
    have h1 := (g r (by simp)).1
    have h2 := flat_len (rows := l) (fun q hq => g q (by simp [hq]))
    rw [List.flatten_cons,List.length_append,h1,h2,List.length_cons,Nat.add_mul,Nat.one_mul,Nat.add_comm]
theorem flat_ones {E : Nat} : ∀ {rows : List (List Value)},GoodR E rows → ones rows.flatten = true
  | [],_ => rfl
  | r :: l,g => by
    rw [List.flatten_cons]
    exact ones_append (g r (by simp)).2 (flat_ones (rows := l) (fun q hq => g q (by simp [hq])))
theorem flat_drop {E : Nat} {rows : List (List Value)} (g : GoodR E rows) {m : Nat} (hm : m ≤ rows.length) (sp : List Value) : (rows.flatten ++ sp).drop (m * E) = (rows.drop m).flatten ++ sp := by
  have h1 : rows.flatten = (rows.take m).flatten ++ (rows.drop m).flatten := by rw [← List.flatten_append,List.take_append_drop]
  have h2 := flat_len (g.take m)
  rw [List.length_take,Nat.min_eq_left hm] at h2
  rw [h1,List.append_assoc,← h2,List.drop_left]
theorem flat_take {E : Nat} {rows : List (List Value)} (g : GoodR E rows) {m : Nat} (hm : m ≤ rows.length) (sp : List Value) : (rows.flatten ++ sp).take (m * E) = (rows.take m).flatten := by
  have h1 : rows.flatten = (rows.take m).flatten ++ (rows.drop m).flatten := by rw [← List.flatten_append,List.take_append_drop]
  have h2 := flat_len (g.take m)
  rw [List.length_take,Nat.min_eq_left hm] at h2
  rw [h1,List.append_assoc,← h2,List.take_left]
theorem flat_at {E : Nat} {rows : List (List Value)} (g : GoodR E rows) {m : Nat} {r : List Value} (hr : rows[m]? = some r) (sp : List Value) : ((rows.flatten ++ sp).drop (m * E)).take E = r := by
  obtain ⟨hm,he⟩ := List.getElem?_eq_some_iff.1 hr
  rw [flat_drop g (by omega),List.drop_eq_getElem_cons hm,he,List.flatten_cons,List.append_assoc]
  exact List.take_left' (g r (List.mem_of_getElem? hr)).1
def Lst (e E : Nat) (h : H) (sl : Value) (br : Option Nat) (rows : List (List Value)) : Prop :=
  (br = none ∧ sl = .slice none 0 0 ∧ rows = []) ∨
  ∃ b sp cap,br = some b ∧ sl = .slice (some ⟨b,0,none⟩) rows.length cap ∧ h.get b = some (.cells (rows.flatten ++ sp) e 0 true) ∧ (rows.flatten ++ sp).length = cap * E ∧ ones sp = true
theorem Lst.upd {S : Nat → Prop} {h h' : H} (u : Upd S h h') {e E : Nat} {sl : Value} {br : Option Nat} {rows : List (List Value)} (l : Lst e E h sl br rows) (hS : ∀ b,br = some b → ¬ S b) : Lst e E h' sl br rows := by
  refine l.imp id ?_
  rintro ⟨b,sp,cap,q,a,c,d⟩
  exact ⟨b,sp,cap,q,a,u.old _ _ (hS b q) c,d⟩
theorem Lst.grow {h h' : H} (g : Grow h h') {e E : Nat} {sl : Value} {br : Option Nat} {rows : List (List Value)} (l : Lst e E h sl br rows) : Lst e E h' sl br rows := l.upd (g.upd fun _ => False) fun _ _ => id
theorem Lst.nil {e E : Nat} {h : H} : Lst e E h (.slice none 0 0) none [] := .inl ⟨rfl,rfl,rfl⟩
theorem Lst.lt {e E : Nat} {h : H} {sl : Value} {br : Option Nat} {rows : List (List Value)} (l : Lst e E h sl br rows) {b : Nat} (hb : br = some b) : b < h.next := by
  rcases l with ⟨q,_⟩ | ⟨b',_,_,q,_,q2,_⟩
  · rw [q] at hb; cases hb
  · rw [q] at hb; cases hb; exact H.get_lt q2
theorem Lst.len {e E : Nat} {h : H} {sl : Value} {br : Option Nat} {rows : List (List Value)} (l : Lst e E h sl br rows) : ∃ x c,sl = .slice x rows.length c := by
  rcases l with ⟨_,q,w⟩ | ⟨b,sp,cap,_,q,_⟩
  · subst w; exact ⟨_,_,q⟩
  · exact ⟨_,_,q⟩
theorem Lst.at_ {e E : Nat} {h : H} {sl : Value} {br : Option Nat} {rows : List (List Value)} (l : Lst e E h sl br rows) (g : GoodR E rows) {i : Nat} {r : List Value} (hr : rows[i]? = some r) :
    ∃ b cap c,br = some b ∧ sl = .slice (some ⟨b,0,none⟩) rows.length cap ∧ h.get b = some (.cells c e 0 true) ∧ i * E + E ≤ c.length ∧ h.row ⟨b,i * E,none⟩ E = some r ∧ ∀ j,j < E → h.cell ⟨b,i * E + j,none⟩ = r[j]? := by
  obtain ⟨hi,he⟩ := List.getElem?_eq_some_iff.1 hr
  rcases l with ⟨_,_,w⟩ | ⟨b,sp,cap,q1,q2,q3,q4,q5⟩
  · subst w; simp at hi
  · have hl := flat_len g
    have hm := Nat.mul_le_mul_right E (show i + 1 ≤ rows.length by omega)
    rw [Nat.add_mul,Nat.one_mul] at hm
    have hle : i * E + E ≤ (rows.flatten ++ sp).length := by rw [List.length_append]; omega
    refine ⟨b,cap,_,q1,q2,q3,hle,by rw [H.row_eq q3 hle,flat_at g hr],fun j hj => ?_⟩
    rw [H.cell_eq q3,← flat_at g hr sp,List.getElem?_take,if_pos hj,List.getElem?_drop]
section
variable {P : Program} {t e E : Nat} (T : LsT P t e E) {h : H} {sl : Value} {br : Option Nat} {rows : List (List Value)}
include T
omit T in
end
end Go.Kx
