/- My texts for this claim, in one file: part 27. -/
import Derived.OpenShut
import Derived.Deep.Strs
import Derived.Deep.Slices
import Derived.Test.YtialpopmeamojaaGreatPV26
namespace Go.Kx
open Go Go.ChangeShapes Go.WideShapes Go.ChangeAt Go.RowKit
set_option maxRecDepth 100000
set_option linter.unusedVariables false
mutual
theorem cv_flat (L : Nat → Bool) : ∀ (v : Value),flat v = true → cv L v = some v
  | .bool b,_ => rfl
  | .int k n,_ => rfl
  | .float k n,_ => rfl
  | .complex k n m,_ => rfl
  | .string s,_ => rfl
  | .pointer none,_ => rfl
  | .pointer (some _),f => by simp [flat] at f
  | .slice none n c,_ => rfl
  | .slice (some _) _ _,f => by simp [flat] at f
  | .map none,_ => rfl
  | .map (some _),f => by simp [flat] at f
  | .chan _,f => by simp [flat] at f
  | .func _ _ _,f => by simp [flat] at f
  | .nilFunc,_ => rfl
  | .iface t v,f => by simp only [cv,cv_flat L v (by simpa [flat] using f)]
  | .nilIface,_ => rfl
  | .agg ⟨l⟩,f => by simp only [cv,cvL_flat L l (by simpa [flat] using f)]
  | .tuple ⟨l⟩,f => by simp only [cv,cvL_flat L l (by simpa [flat] using f)]
theorem cvL_flat (L : Nat → Bool) : ∀ (l : List Value),flatL l = true → cvL L l = some l
  | [],_ => rfl
  | v :: l,f => by
    simp only [flatL,Bool.and_eq_true] at f
    simp only [cvL,cv_flat L v f.1,cvL_flat L l f.2]
end
theorem cvC_flat (L : Nat → Bool) : ∀ (l : List Value),flatL l = true → l.map (cvC L) = l
  | [],_ => rfl
  | v :: l,f => by
    simp only [flatL,Bool.and_eq_true] at f
    rw [List.map_cons,cvC_flat L l f.2]
    unfold cvC
    rw [cv_flat L v f.1]
theorem row_of_cells {W : World} {base : Nat} {a : Addr} {n : Nat} {cs : List Value} (hn : 0 < n) (h : W.cells? base a n = some cs) (ha : a.spot = none) (hf : flatL cs = true) (hl : lv W a.block = true) : (hOf W).row ⟨a.block,a.off,none⟩ n = some cs := by
  obtain ⟨_,hlen,hc⟩ := World.cells?_some h
  unfold lv lvO at hl
  split at hl
  · rename_i l el lh hb
    have hg : (hOf W).get a.block = some (.cells (l.map (cvC (lv W))) el (if lh.2 ≤ lh.1 then 0 else if l.length ≤ lh.1 then 1 else 2) false) := by rw [hOf_get,hb]; rfl
    have hat : ∀ i,i < n → l[a.off + i]? = cs[i]? := by
      intro i hi
      rw [← hc i hi]
      unfold World.cell?
      have : (a.add i).block = a.block ∧ (a.add i).off = a.off + i ∧ (a.add i).spot = none := by
        unfold Addr.add
        split
        · rename_i h0; subst h0; exact ⟨rfl,rfl,ha⟩
        · exact ⟨rfl,rfl,rfl⟩
      rw [this.1,hb,this.2.1,this.2.2]
      simp
    have hle : a.off + n ≤ l.length := by
      have := hat (n - 1) (by omega)
      rw [List.getElem?_eq_getElem (by omega : n - 1 < cs.length)] at this
      have := (List.getElem?_eq_some_iff.1 this).1
      omega
    have hc1 : (l.drop a.off).take n = cs := by
      apply List.ext_getElem?
      intro i
      rw [List.getElem?_take]
      split
      · rename_i hi; rw [List.getElem?_drop]; exact hat i hi
      · rename_i hi; rw [List.getElem?_eq_none (by omega)]
    rw [H.row_eq hg (by rw [List.length_map]; exact hle),← List.map_drop,← List.map_take,hc1,cvC_flat _ _ hf]
  · cases hl
theorem read_rows {P : Program} {t e E : Nat} {α : Type} [Inhabited α] {ok : α → Prop} {C : α → List Value} (hu : P.underlying t = some (.slice e)) (hE : P.cellsOf e = E) (hpos : 0 < E) {HH : Type} {enc : TypeId × Value → HH} {W : World}
    (rd : ∀ {n cs x},DataW.trod enc P W 0 (fun _ => true) true n e cs = some x → ∃ a,ok a ∧ cs = C a) (fl : ∀ a,ok a → flatL (C a) = true)
    {v : Value} {d : DataW HH} {p : List MemPlace} {base : Nat} (hval : Value.okWide P W .any base t v) (h : DataW.Trod enc P W 0 (fun _ => true) true t v d p) :
    ∃ (x : Value) (l : List α) (ob : Option Addr) (c : Nat),R (io W) x v ∧ (∀ a ∈ l,ok a) ∧ x = .slice ob l.length c ∧ ∀ j a,l[j]? = some a → ∃ b o sp,ob = some ⟨b,o,sp⟩ ∧ b < (hOf W).next ∧ (hOf W).row ⟨b,o + j * E,none⟩ E = some (C a) := by
  obtain ⟨fuel,h⟩ := h
  have hsl : ∃ o l c,v = .slice o l c := by
    have hv := hval
    unfold Value.okWide at hv
    rw [hu] at hv
    cases v <;> first | exact ⟨_,_,_,rfl⟩ | (simp [Cell.okWide,hu,Cell.ok] at hv)
  obtain ⟨so,sl,sc,rfl⟩ := hsl
  rcases Go.Deep.open_slice hu h with ⟨hc,hx⟩ | ⟨a,len,cap,m,n,D,Pl,hc,hb,hl,hm,hmm,hx,hall⟩
  · have hv : Value.slice so sl sc = .slice none 0 0 := by simpa [Value.cells] using hc
    rw [hv]
    exact ⟨.slice none 0 0,[],none,0,.slc0 _ _,fun a ha => (by cases ha),rfl,fun j a ha => by simp at ha⟩
  · have hv : Value.slice so sl sc = .slice (some a) len cap := by simpa [Value.cells] using hc
    rw [hv] at hval ⊢
    have hok : a.spot = none ∧ lv W a.block = true := by
      unfold Value.okWide at hval
      rw [hu] at hval
      simp only [Cell.okWide,hu,Cell.ok] at hval
      obtain ⟨_,_,_,hs,row,cells,hsh,_⟩ := hval
      refine ⟨hs,?_⟩
      unfold World.shape? at hsh
      unfold lv lvO
      split at hsh
      · rename_i c el fz hb
        rw [hb]
      · cases hsh
    obtain ⟨hs,hlv⟩ := hok
    simp only [if_true] at hmm
    rw [hmm,hE] at hall
    obtain ⟨F,hF⟩ := Go.Deep.choose_lt (α := α) (n := len) (p := fun i t => ok t ∧ (hOf W).row ⟨a.block,a.off + i * E,none⟩ E = some (C t)) (fun i hi => by
      obtain ⟨cs',h1,h2⟩ := hall i (by omega)
      obtain ⟨t,ht,rfl⟩ := rd h2
      refine ⟨t,ht,?_⟩
      have hadd : (a.add (i * E)).block = a.block ∧ (a.add (i * E)).off = a.off + i * E ∧ (a.add (i * E)).spot = none := by
        unfold Addr.add
        split
        · rename_i h0; rw [h0]; exact ⟨rfl,rfl,hs⟩
        · exact ⟨rfl,rfl,rfl⟩
      have := row_of_cells hpos h1 hadd.2.2 (fl t ht) (by rw [hadd.1]; exact hlv)
      rw [hadd.1,hadd.2.1] at this
      exact this)
    obtain ⟨ab,ao,asp⟩ := a
    simp only at hs hlv
    subst hs
    obtain ⟨e',he1,he2,he3⟩ := io_lv hlv
    refine ⟨.slice (some ⟨ab,ao,some 0⟩) len cap,(List.range len).map F,some ⟨ab,ao,some 0⟩,cap,?_,?_,by simp,?_⟩
    · have := R.slcX (ι := io W) (o := ao) (n := len) (c := cap) he1
      rw [he2,he3] at this
      exact this
    · intro t ht
      obtain ⟨i,hi,rfl⟩ := List.mem_map.1 ht
      exact (hF i (List.mem_range.1 hi)).1
    · intro j t ht
      rw [List.getElem?_map] at ht
      cases hr : (List.range len)[j]? with
      | none => rw [hr] at ht; cases ht
      | some i =>
        have hi : j < len ∧ i = j := by
          obtain ⟨h1,h2⟩ := List.getElem?_eq_some_iff.1 hr
          simp at h1 h2
          exact ⟨h1,h2.symm⟩
        rw [hr,hi.2] at ht
        simp only [Option.map_some,Option.some.injEq] at ht
        subst ht
        refine ⟨ab,ao,some 0,rfl,?_,(hF j hi.1).2⟩
        rw [hOf_next]
        obtain ⟨_,_,_,_,l,el,lh,hw,_⟩ := io_some he1
        rcases Nat.lt_or_ge ab W.heap.size with q | q
        · exact q
        · rw [Array.getElem?_eq_none q] at hw; cases hw
end Go.Kx
