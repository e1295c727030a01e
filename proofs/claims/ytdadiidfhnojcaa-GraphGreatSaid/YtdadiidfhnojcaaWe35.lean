/- My texts for this claim, in one file: part 35. -/
import Derived.Test.YtdadiidfhnojcaaWe34
namespace Go.Proofs.Ytdadiidfhnojcaa.K
set_option linter.unusedVariables false
set_option linter.unusedSimpArgs false
inductive Path (g : Nat → List Nat) : Nat → Nat → Prop
  | one {a b : Nat} : b ∈ g a → Path g a b
  | cons {a b c : Nat} : b ∈ g a → Path g b c → Path g a c
theorem Path.trans {g : Nat → List Nat} {a b c : Nat} (p : Path g a b) (q : Path g b c) : Path g a c := by
  induction p with
  | one h => exact .cons h q
  | cons h _ ih => exact .cons h (ih q)
theorem Path.snoc {g : Nat → List Nat} {a b c : Nat} (p : Path g a b) (h : c ∈ g b) : Path g a c := p.trans (.one h)
theorem Path.rev {g r : Nat → List Nat} (h : ∀ a b,b ∈ g a → a ∈ r b) {a b : Nat} (p : Path g a b) : Path r b a := by
  induction p with
  | one e => exact .one (h _ _ e)
  | cons e _ ih => exact ih.snoc (h _ _ e)
def OnC (g : Nat → List Nat) (i : Nat) : Prop := Path g i i
theorem OnC.next {g : Nat → List Nat} {i : Nat} (h : OnC g i) : ∃ b,b ∈ g i ∧ OnC g b := by
  cases h with
  | one e => exact ⟨i,e,.one e⟩
  | cons e p => exact ⟨_,e,p.snoc e⟩
structure Dfs (g : Nat → List Nat) (i : Nat) (seen : Nat → Bool) (todo : List Nat) : Prop where
  p : ∀ k ∈ todo,Path g i k
  s : ∀ k ∈ g i,k ∈ todo ∨ seen k = true
  c : ∀ k,seen k = true → k ≠ i ∧ ∀ j ∈ g k,j ∈ todo ∨ seen j = true
theorem Dfs.init (g : Nat → List Nat) (i : Nat) : Dfs g i (fun _ => false) (g i) := ⟨fun k h => .one h,fun k h => .inl h,fun k h => by cases h⟩
theorem Dfs.yes {g : Nat → List Nat} {i : Nat} {seen : Nat → Bool} {todo : List Nat} (d : Dfs g i seen (todo ++ [i])) : OnC g i := d.p i (by simp)
theorem Dfs.no {g : Nat → List Nat} {i : Nat} {seen : Nat → Bool} (d : Dfs g i seen []) : ¬ OnC g i := by
  intro h
  have all : ∀ {a b},Path g a b → (a = i ∨ seen a = true) → seen b = true := by
    intro a b p
    induction p with
    | one e =>
      rintro (rfl | h)
      · exact (d.s _ e).elim (fun z => by cases z) id
      · exact ((d.c _ h).2 _ e).elim (fun z => by cases z) id
    | cons e _ ih =>
      rintro (rfl | h)
      · exact ih (.inr ((d.s _ e).elim (fun z => by cases z) id))
      · exact ih (.inr (((d.c _ h).2 _ e).elim (fun z => by cases z) id))
  exact (d.c i (all h (.inl rfl))).1 rfl
theorem Dfs.skip {g : Nat → List Nat} {i j : Nat} {seen : Nat → Bool} {todo : List Nat} (d : Dfs g i seen (todo ++ [j])) (h : seen j = true) : Dfs g i seen todo := by
  have aux : ∀ k,k ∈ todo ++ [j] ∨ seen k = true → k ∈ todo ∨ seen k = true := by
    rintro k (z | z)
    · rcases List.mem_append.1 z with z | z
      · exact .inl z
      · rw [List.mem_singleton] at z; subst z; exact .inr h
    · exact .inr z
  exact ⟨fun k hk => d.p k (by simp [hk]),fun k hk => aux k (d.s k hk),fun k hk => ⟨(d.c k hk).1,fun j' hj => aux j' ((d.c k hk).2 j' hj)⟩⟩
theorem Dfs.mark {g : Nat → List Nat} {i j : Nat} {seen seen' : Nat → Bool} {todo : List Nat} (d : Dfs g i seen (todo ++ [j])) (hne : j ≠ i) (hs : ∀ k,seen' k = true ↔ k = j ∨ seen k = true) : Dfs g i seen' (todo ++ g j) := by
  have aux : ∀ k,k ∈ todo ++ [j] ∨ seen k = true → k ∈ todo ++ g j ∨ seen' k = true := by
    rintro k (z | z)
    · rcases List.mem_append.1 z with z | z
      · exact .inl (by simp [z])
      · rw [List.mem_singleton] at z; exact .inr ((hs k).2 (.inl z))
    · exact .inr ((hs k).2 (.inr z))
  refine ⟨fun k hk => ?_,fun k hk => aux k (d.s k hk),fun k hk => ?_⟩
  · rcases List.mem_append.1 hk with z | z
    · exact d.p k (by simp [z])
    · exact (d.p j (by simp)).snoc z
  · rcases (hs k).1 hk with z | z
    · subst z; exact ⟨hne,fun b hb => .inl (by simp [hb])⟩
    · exact ⟨(d.c k z).1,fun b hb => aux b ((d.c k z).2 b hb)⟩
def cntN (f : Nat → List Nat) (R : List Nat) (j : Nat) : Nat := ((f j).filter fun k => decide (k ∉ R)).length
theorem cntN_nil (f : Nat → List Nat) (j : Nat) : cntN f [] j = (f j).length := by
  unfold cntN
  rw [List.filter_eq_self.2 fun a _ => by simp]
theorem cntN_zero {f : Nat → List Nat} {R : List Nat} {j : Nat} : cntN f R j = 0 ↔ ∀ k ∈ f j,k ∈ R := by
  unfold cntN
  rw [List.length_eq_zero_iff,List.filter_eq_nil_iff]
  exact ⟨fun h k hk => by have := h k hk; simpa using this,fun h k hk => by have := h k hk; simpa using this⟩
theorem cntN_other {f : Nat → List Nat} {R : List Nat} {i j : Nat} (h : i ∉ f j) : cntN f (R ++ [i]) j = cntN f R j := by
  unfold cntN
  congr 1
  refine List.filter_congr fun k hk => ?_
  have : k ≠ i := fun z => h (z ▸ hk)
  simp [this]
theorem filter_one : ∀ (l : List Nat) (R : List Nat) (i : Nat),l.Nodup → i ∈ l → i ∉ R → (l.filter fun k => decide (k ∉ R)).length = (l.filter fun k => decide (k ∉ R ++ [i])).length + 1
  | [],R,i,_,h,_ => by cases h
  | a :: l,R,i,hn,h,hR => by
    obtain ⟨h1,h2⟩ := List.nodup_cons.1 hn
    rcases List.mem_cons.1 h with e | e
    · subst e
      have : (l.filter fun k => decide (k ∉ R ++ [i])) = l.filter fun k => decide (k ∉ R) := List.filter_congr fun k hk => by
        have : k ≠ i := fun z => h1 (z ▸ hk)
        simp [this]
      rw [List.filter_cons_of_pos (by simp [hR]),List.filter_cons_of_neg (by simp),this,List.length_cons]
    · have ih := filter_one l R i h2 e hR
      have hai : a ≠ i := fun z => h1 (z ▸ e)
      by_cases ha : a ∈ R
      · rw [List.filter_cons_of_neg (by simp [ha]),List.filter_cons_of_neg (by simp [ha]),ih]
      · rw [List.filter_cons_of_pos (by simp [ha]),List.filter_cons_of_pos (by simp [ha,hai]),List.length_cons,List.length_cons,ih]
theorem cntN_mem {f : Nat → List Nat} {R : List Nat} {i j : Nat} (hn : (f j).Nodup) (h : i ∈ f j) (hR : i ∉ R) : cntN f R j = cntN f (R ++ [i]) j + 1 := filter_one _ _ _ hn h hR
structure Gr (n : Nat) (f t : Nat → List Nat) : Prop where
  ft : ∀ i j,i < n → j < n → (j ∈ t i ↔ i ∈ f j)
  fn : ∀ j,j < n → (f j).Nodup
  tn : ∀ j,j < n → (t j).Nodup
  fl : ∀ i j,i < n → j ∈ f i → j < n
  tl : ∀ i j,i < n → j ∈ t i → j < n
structure Kahn (n : Nat) (f : Nat → List Nat) (R F : List Nat) : Prop where
  nod : (R ++ F).Nodup
  lt : ∀ j ∈ R ++ F,j < n
  z : ∀ j,j < n → (cntN f R j = 0 ↔ j ∈ R ++ F)
theorem Kahn.len {n : Nat} {f : Nat → List Nat} {R F : List Nat} (k : Kahn n f R F) : (R ++ F).length ≤ n := by
  have h := List.Nodup.length_le_of_subset k.nod (l₂ := List.range n) fun j hj => List.mem_range.2 (k.lt j hj)
  simpa using h
theorem Kahn.perm {n : Nat} {f : Nat → List Nat} {R F F' : List Nat} (k : Kahn n f R F) (p : F'.Perm F) : Kahn n f R F' :=
  ⟨((List.Perm.append_left R p).nodup_iff).2 k.nod,fun j hj => k.lt j (((List.Perm.append_left R p).mem_iff).1 hj),fun j hj => (k.z j hj).trans ((List.Perm.append_left R p).mem_iff).symm⟩
theorem Kahn.init {n : Nat} {f : Nat → List Nat} : Kahn n f [] ((List.range n).filter fun j => decide ((f j).length = 0)) := by
  refine ⟨(List.nodup_range).filter _,fun j hj => List.mem_range.1 (List.mem_filter.1 hj).1,fun j hj => ?_⟩
  rw [cntN_nil,List.nil_append,List.mem_filter,List.mem_range]
  simp [hj]
def newZ (f t : Nat → List Nat) (R : List Nat) (i q : Nat) : List Nat := ((t i).take q).filter fun j => decide (cntN f (R ++ [i]) j = 0)
theorem Kahn.step {n : Nat} {f t : Nat → List Nat} (g : Gr n f t) {R F : List Nat} {i : Nat} (k : Kahn n f R (F ++ [i])) : Kahn n f (R ++ [i]) (F ++ newZ f t R i (t i).length) := by
  have hi : i < n := k.lt i (by simp)
  have nd := k.nod
  have hiR : i ∉ R := fun z => by
    rw [List.nodup_append] at nd
    exact nd.2.2 i z i (by simp) rfl
  have hz : ∀ j,j ∈ newZ f t R i (t i).length ↔ j ∈ t i ∧ cntN f (R ++ [i]) j = 0 := fun j => by
    unfold newZ; rw [List.take_length,List.mem_filter,decide_eq_true_iff]
  have pos : ∀ j,j ∈ t i → j ∉ R ++ (F ++ [i]) := fun j hj z => by
    have hjn := g.tl i j hi hj
    have h1 := (k.z j hjn).2 z
    have h2 := (g.ft i j hi hjn).1 hj
    exact hiR (cntN_zero.1 h1 i h2)
  refine ⟨?_,fun j hj => ?_,fun j hj => ?_⟩
  · rw [show R ++ [i] ++ (F ++ newZ f t R i (t i).length) = (R ++ ([i] ++ F)) ++ newZ f t R i (t i).length by simp,List.nodup_append]
    have hp : (R ++ ([i] ++ F)).Perm (R ++ (F ++ [i])) := List.Perm.append_left R List.perm_append_comm
    refine ⟨hp.nodup_iff.2 nd,?_,fun a ha b hb e => ?_⟩
    · unfold newZ; rw [List.take_length]; exact (g.tn i hi).filter _
    · subst e
      exact pos a ((hz a).1 hb).1 (hp.mem_iff.1 ha)
  · simp only [List.mem_append,List.mem_singleton] at hj
    rcases hj with (hj | hj) | hj | hj
    · exact k.lt j (by simp [hj])
    · subst hj; exact hi
    · exact k.lt j (by simp [hj])
    · exact g.tl i j hi ((hz j).1 hj).1
  · have hk := k.z j hj
    by_cases hji : i ∈ f j
    · have h1 := (g.ft i j hi hj).2 hji
      constructor
      · intro h
        have := (hz j).2 ⟨h1,h⟩
        simp [this]
      · intro h
        simp only [List.mem_append,List.mem_singleton] at h
        rcases h with (h | h) | h | h
        · exact absurd (by simp [h]) (pos j h1)
        · exact absurd (by simp [h]) (pos j h1)
        · exact absurd (by simp [h]) (pos j h1)
        · exact ((hz j).1 h).2
    · rw [cntN_other hji,hk]
      simp only [List.mem_append,List.mem_singleton]
      constructor
      · rintro (h | h | h)
        · exact .inl (.inl h)
        · exact .inr (.inl h)
        · exact .inl (.inr h)
      · rintro ((h | h) | h | h)
        · exact .inl h
        · exact .inr (.inr h)
        · exact .inr (.inl h)
        · exact absurd ((g.ft i j hi hj).1 ((hz j).1 h).1) hji
def lefQ (f t : Nat → List Nat) (R : List Nat) (i q : Nat) : Nat → Nat := fun j => if j ∈ (t i).take q then cntN f (R ++ [i]) j else cntN f R j
theorem lefQ_zero (f t : Nat → List Nat) (R : List Nat) (i : Nat) : lefQ f t R i 0 = cntN f R := by funext j; unfold lefQ; simp
theorem lefQ_end {n : Nat} {f t : Nat → List Nat} (g : Gr n f t) {R : List Nat} {i : Nat} (hi : i < n) {j : Nat} (hj : j < n) : lefQ f t R i (t i).length j = cntN f (R ++ [i]) j := by
  unfold lefQ
  rw [List.take_length]
  split
  · rfl
  · rename_i h
    rw [cntN_other fun z => h ((g.ft i j hi hj).2 z)]
theorem lefQ_step {n : Nat} {f t : Nat → List Nat} (g : Gr n f t) {R : List Nat} {i q j : Nat} (hi : i < n) (hiR : i ∉ R) (hj : (t i)[q]? = some j) :
    lefQ f t R i q j = cntN f (R ++ [i]) j + 1 ∧ (∀ x,lefQ f t R i (q + 1) x = if x = j then cntN f (R ++ [i]) j else lefQ f t R i q x) ∧
      newZ f t R i (q + 1) = newZ f t R i q ++ (if cntN f (R ++ [i]) j = 0 then [j] else []) := by
  have hjm := List.mem_of_getElem? hj
  have hjn := g.tl i j hi hjm
  have hnot : j ∉ (t i).take q := fun z => by
    obtain ⟨a,e⟩ := List.mem_iff_getElem?.1 z
    have ha := (List.getElem?_eq_some_iff.1 e).1
    rw [List.length_take] at ha
    rw [List.getElem?_take_of_lt (by omega)] at e
    have := (List.pairwise_iff_getElem.1 (g.tn i hi)) a q (List.getElem?_eq_some_iff.1 e).1 (List.getElem?_eq_some_iff.1 hj).1 (by omega)
    rw [(List.getElem?_eq_some_iff.1 e).2,(List.getElem?_eq_some_iff.1 hj).2] at this
    exact this rfl
  refine ⟨?_,fun x => ?_,?_⟩
  · unfold lefQ
    rw [if_neg hnot]
    exact cntN_mem (g.fn j hjn) ((g.ft i j hi hjn).1 hjm) hiR
  · unfold lefQ
    rw [List.take_add_one,hj]
    by_cases e : x = j
    · subst e; simp
    · have : x ∈ (t i).take q ++ (some j).toList ↔ x ∈ (t i).take q := by
        simp only [Option.toList_some,List.mem_append,List.mem_singleton]
        exact ⟨fun h => h.elim id fun z => absurd z e,.inl⟩
      rw [if_neg e]
      simp only [this]
  · unfold newZ
    rw [List.take_add_one,hj,List.filter_append]
    congr 1
    by_cases h : cntN f (R ++ [i]) j = 0 <;> simp [h]
theorem Kahn.stay {n : Nat} {f : Nat → List Nat} {R F : List Nat} (k : Kahn n f R F) (fl : ∀ i j,i < n → j ∈ f i → j < n) (hR : ∀ j ∈ R,¬ OnC f j) : ∀ j ∈ R ++ F,¬ OnC f j := by
  intro j hj h
  obtain ⟨b,hb,hc⟩ := h.next
  exact hR b (cntN_zero.1 ((k.z j (k.lt j hj)).2 hj) b hb) hc
end Go.Proofs.Ytdadiidfhnojcaa.K
namespace Go.Proofs.Ytdadiidfhnojcaa.K
open Go Go.Kx
set_option linter.unusedVariables false
set_option linter.unusedSimpArgs false
set_option maxRecDepth 20000
theorem nil_sortC (cv : Value) (h : H) : CLM (.f 39) [.slice none 0 0,cv] h = .ok (.tuple ⟨[]⟩) h := by
  obtain ⟨c,c1,c2,c3,c4,c5⟩ := len_j10 (x := 0) (k := 0) (by omega) (by omega) h
  rw [show len8[0]? = some 0 from rfl] at c1
  cases c1
  have e1 : CLM (.f 50) [.int .u64 ((0 : Nat) : Int)] h = .ok (.int .i64 ((0 : Nat) : Int)) h := by
    rw [cM50,F50.eq,cM70,F70.eq,xgeq,go_ok,ifV_dec,if_neg (by omega),F70.j4_eq,xgeq,go_ok,ifV_dec,if_neg (by omega),F70.j7_eq,xgeq,go_ok,ifV_dec,if_neg (by omega)]
    rw [show (Value.int .i64 0) = .int .i64 ((0 : Nat) : Int) from rfl,c2,go_ok]
    rfl
  have w0 : IntKind.i64.wrap (((0 : Nat) : Int) - 0) = 0 := by rw [wrap64 (by omega)]; rfl
  have w1 : IntKind.i64.wrap (0 + 1) = 1 := by rw [wrap64 (by omega)]; rfl
  rw [cM39,F39.eq,ln27,go_ok,cv3_95,go_ok,wun (by omega),e1,go_ok,cM49,F49.eq,F49.l2_eq,xsub,go_ok,w0,xleq,go_ok,ifV_dec,if_pos (by omega),cM61,F61.eq,xadd,go_ok,w1,F61.l1_eq,xlss,go_ok,ifV_dec,if_neg (by omega),go_ok,go_ok]
def aheadV (g : Nat) : Value := .func (.func 40) ⟨[.pointer (some ⟨g,0,none⟩)]⟩ ⟨[]⟩
theorem callA {h : H} {g : Nat} {vt : Value} {ts : List TK} (N : Net h g ts vt) {i j : Nat} (hi : i < ts.length) (hj : j < ts.length) :
    ∃ h',Grow h h' ∧ xcallV CLM (aheadV g) [.int .i64 (i : Nat),.int .i64 (j : Nat)] h = .ok (.int .i64 (if aLt ts i j then -1 else if aLt ts j i then 1 else 0)) h' := by
  obtain ⟨vn,vu,n,T,_,_⟩ := N
  obtain ⟨h',g',e⟩ := eAhead n T hi hj
  refine ⟨h',g',?_⟩
  unfold aheadV
  rw [xcallV_func]
  exact e
theorem lessA {hN h : H} {g b : Nat} {vt : Value} {ts : List TK} (N : Net hN g ts vt) (hb : hN.next ≤ b) (hh : hN.next ≤ h.next) :
    SrtC.LessOk b (fun x => Grow hN x) (aheadV g) (aLt ts) (fun z => ∃ k : Nat,z = k ∧ k < ts.length) h := by
  refine ⟨fun h1 x y J ⟨i,ex,hi⟩ ⟨j,ey,hj⟩ => ?_,fun h1 h2 J u => grow_then J u fun c hc => hc.elim (fun z => z ▸ hb) fun z => Nat.le_trans hh z⟩
  subst ex ey
  obtain ⟨h',g',e⟩ := callA (N.grow J) hi hj
  refine ⟨h',g',J.trans g',fun K => ?_⟩
  rw [e,go_ok,plain2_int,cond_true,xlss,Res.ok1_ok]
  refine congrArg (fun z => K (Value.bool z) h') ?_
  cases q : aLt ts i j with
  | true => rw [if_pos rfl]; rfl
  | false =>
    rw [if_neg (by simp)]
    split <;> rfl
theorem nl_of : ∀ {l : List Int},(∀ z ∈ l,∃ k : Nat,z = k) → ∃ m : List Nat,l = nl m
  | [],_ => ⟨[],rfl⟩
  | z :: l,h => by
    obtain ⟨k,e⟩ := h z List.mem_cons_self
    obtain ⟨m,em⟩ := nl_of (l := l) fun y hy => h y (List.mem_cons_of_mem _ hy)
    exact ⟨k :: m,by rw [e,em]; rfl⟩
theorem nl_toNat : ∀ l : List Nat,(nl l).map Int.toNat = l
  | [] => rfl
  | a :: l => by
    show Int.toNat (a : Int) :: (nl l).map Int.toNat = _
    rw [nl_toNat l,Int.toNat_natCast]
theorem nl_perm {a b : List Nat} (h : (nl a).Perm (nl b)) : a.Perm b := by
  have := h.map Int.toNat
  rwa [nl_toNat,nl_toNat] at this
theorem eSortA {hN h : H} {g : Nat} {vt : Value} {ts : List TK} (N : Net hN g ts vt) (J : Grow hN h) {v : Value} {br : Option Nat} {l : List Nat} (q : OL h v br (nl l)) (hb : ∀ b,br = some b → hN.next ≤ b) (hl : ∀ k ∈ l,k < ts.length) (few : l.length < 65536) :
    ∃ h' l',Upd (fun x => some x = br) h h' ∧ OL h' v br (nl l') ∧ l'.Perm l ∧ l'.Pairwise (fun i j : Nat => aLt ts (j : Int) (i : Int) = false) ∧ CLM (.f 39) [v,aheadV g] h = .ok (.tuple ⟨[]⟩) h' := by
  rcases q with ⟨rfl,rfl,e⟩ | ⟨b,sp,cap,rfl,rfl,hg,e3,e4⟩
  · have : l = [] := by cases l with
      | nil => rfl
      | cons a l => cases e
    subst this
    exact ⟨h,[],Upd.refl _ _,OL.nil,List.Perm.refl _,List.Pairwise.nil,nil_sortC _ _⟩
  · have hd : SrtC.ar (nl l).toArray = iv (nl l) := rfl
    obtain ⟨h',d',u,g',sz,p,s,_,e⟩ := SrtC.eTop (cap := cap) (sp := sp) (n := (nl l).length) (aLt_swo ts) (lessA N (hb b rfl) J.next) (by rw [nl_len]; exact few) (d := (nl l).toArray) (by rw [hd]; exact hg) (by simp)
      (fun i hi => by
        rw [getElem!_pos _ i (by simpa using hi),List.getElem_toArray]
        obtain ⟨k,hk,e⟩ := nl_mem.1 (List.getElem_mem hi)
        exact ⟨k,e.symm,hl k hk⟩) J
    have hsz : d'.toList.length = (nl l).length := by simpa using sz
    have hperm : d'.toList.Perm (nl l) := by
      have hp := p.2.2
      have ee : d'.toList.take (nl l).length = d'.toList := by rw [← hsz,List.take_length]
      simpa [ee] using hp
    obtain ⟨l',el⟩ := nl_of (l := d'.toList) fun z hz => by
      obtain ⟨k,hk,e⟩ := nl_mem.1 (hperm.mem_iff.1 hz)
      exact ⟨k,e.symm⟩
    have hd' : SrtC.ar d' = iv (nl l') := by rw [← el]; rfl
    have hll : l'.length = l.length := by have := congrArg List.length el; rw [hsz,nl_len,nl_len] at this; exact this.symm
    refine ⟨h',l',u.mono fun x _ q => by rw [q],.inr ⟨b,sp,cap,rfl,by simp only [nl_len,hll],by rw [← hd']; exact g',by rw [nl_len,hll,← nl_len l]; exact e3,e4⟩,nl_perm (el ▸ hperm),?_,e⟩
    refine List.pairwise_iff_getElem.2 fun i j hi hj hij => ?_
    have hj' : j < d'.size := by rw [← Array.length_toList,hsz,nl_len,← hll]; exact hj
    have hi' : i < d'.size := by omega
    have h1 := s i j (Nat.zero_le _) hij (by rw [← hsz,Array.length_toList]; exact hj')
    rw [getElem!_pos d' j hj',getElem!_pos d' i hi'] at h1
    have at_ : ∀ (k : Nat) (hk : k < d'.size) (hk2 : k < l'.length),d'[k] = (l'[k] : Int) := fun k hk hk2 => by
      have : d'.toList[k]? = (nl l')[k]? := by rw [el]
      unfold nl at this
      rw [List.getElem?_map,List.getElem?_eq_getElem hk2,List.getElem?_eq_getElem (by simpa using hk)] at this
      simpa using this
    rw [at_ j hj' hj,at_ i hi' hi] at h1
    exact h1
def tb {α : Type} (n : Nat) (f : Nat → α) : List α := (List.range n).map f
theorem tb_len {α : Type} (n : Nat) (f : Nat → α) : (tb n f).length = n := by simp [tb]
theorem tb_at {α : Type} {n k : Nat} (f : Nat → α) (hk : k < n) : (tb n f)[k]? = some (f k) := by simp [tb,hk]
theorem tb_set {α : Type} {n k : Nat} (f : Nat → α) (hk : k < n) (x : α) : (tb n f).set k x = tb n (updN f k x) := by
  apply List.ext_getElem?
  intro j
  rw [List.getElem?_set]
  by_cases hj : j < n
  · rw [tb_at _ hj,tb_at _ hj]
    by_cases e : k = j
    · subst e; rw [if_pos rfl,if_pos (by rw [tb_len]; exact hk),updN_eq]
    · rw [if_neg e,updN_ne (fun z => e z.symm)]
  · rw [List.getElem?_eq_none (by rw [tb_len]; omega),List.getElem?_eq_none (by rw [tb_len]; omega)]
    split <;> simp_all [tb_len]
theorem tb_congr {α : Type} {n : Nat} {f g : Nat → α} (h : ∀ k,k < n → f k = g k) : tb n f = tb n g := List.map_congr_left fun k hk => h k (List.mem_range.1 hk)
def AL (h : H) (b n : Nat) (op : Bool) (L : Nat → Nat) : Prop := h.get b = some (.cells (tb n fun j => .int .i64 (L j : Nat)) 3 0 op)
def BL (h : H) (b n : Nat) (op : Bool) (B : Nat → Bool) : Prop := h.get b = some (.cells (tb n fun j => .bool (B j)) 4 0 op)
theorem AL.ld {h : H} {b n : Nat} {op : Bool} {L : Nat → Nat} (q : AL h b n op L) {j m cap : Nat} (hj : j < n) (hm : j < m) :
    (∀ h',xindexAddr Try.prog 27 (.slice (some ⟨b,0,none⟩) m cap) (.int .i64 (j : Nat)) h' = .ok (.pointer (some ⟨b,0 + j * 1,none⟩)) h') ∧ xload Try.prog 3 (.pointer (some ⟨b,0 + j * 1,none⟩)) h = .ok (.int .i64 (L j : Nat)) h := by
  refine ⟨fun h' => ia27 _ _ _ _ _ _ _ h' hm,?_⟩
  rw [ld3,H.cell_eq q,Nat.zero_add,Nat.mul_one,tb_at _ hj,ofO_some]
theorem AL.st {h : H} {b n : Nat} {op : Bool} {L : Nat → Nat} (q : AL h b n op L) {j : Nat} (hj : j < n) (x : Nat) :
    ∃ h',xstore Try.prog 3 (.pointer (some ⟨b,0 + j * 1,none⟩)) (.int .i64 (x : Nat)) h = .ok undef h' ∧ Upd (fun y => y = b) h h' ∧ AL h' b n op (updN L j x) := by
  have hs : (Value.int .i64 (x : Nat)).cells.size = 1 := rfl
  refine ⟨h.put b (.cells (tb n fun i => .int .i64 (updN L j x i : Nat)) 3 0 op),?_,(Upd.refl (fun y => y = b) h).put (.inl rfl) (H.get_lt q) _,H.put_self q⟩
  rw [st3 _ _ _ hs,cells_int,Nat.zero_add,Nat.mul_one,write_cell' q (by rw [tb_len]; exact hj) rfl,tb_set _ hj,ofU_some]
  congr 3
  refine tb_congr fun k _ => ?_
  unfold updN
  split <;> rfl
theorem BL.ld {h : H} {b n : Nat} {op : Bool} {B : Nat → Bool} (q : BL h b n op B) {j m cap : Nat} (hj : j < n) (hm : j < m) :
    (∀ h',xindexAddr Try.prog 83 (.slice (some ⟨b,0,none⟩) m cap) (.int .i64 (j : Nat)) h' = .ok (.pointer (some ⟨b,0 + j * 1,none⟩)) h') ∧ xload Try.prog 4 (.pointer (some ⟨b,0 + j * 1,none⟩)) h = .ok (.bool (B j)) h := by
  refine ⟨fun h' => ia83 _ _ _ _ _ _ _ h' hm,?_⟩
  rw [ld4,H.cell_eq q,Nat.zero_add,Nat.mul_one,tb_at _ hj,ofO_some]
theorem BL.st {h : H} {b n : Nat} {op : Bool} {B : Nat → Bool} (q : BL h b n op B) {j : Nat} (hj : j < n) (x : Bool) :
    ∃ h',xstore Try.prog 4 (.pointer (some ⟨b,0 + j * 1,none⟩)) (.bool x) h = .ok undef h' ∧ Upd (fun y => y = b) h h' ∧ BL h' b n op (updN B j x) := by
  have hs : (Value.bool x).cells.size = 1 := rfl
  refine ⟨h.put b (.cells (tb n fun i => .bool (updN B j x i)) 4 0 op),?_,(Upd.refl (fun y => y = b) h).put (.inl rfl) (H.get_lt q) _,H.put_self q⟩
  rw [st4 _ _ _ hs,cells_bool,Nat.zero_add,Nat.mul_one,write_cell' q (by rw [tb_len]; exact hj) rfl,tb_set _ hj,ofU_some]
  congr 3
  refine tb_congr fun k _ => ?_
  unfold updN
  split <;> rfl
theorem AL.upd {S : Nat → Prop} {h h' : H} {b n : Nat} {op : Bool} {L : Nat → Nat} (q : AL h b n op L) (u : Upd S h h') (hS : ¬ S b) : AL h' b n op L := u.old _ _ hS q
theorem BL.upd {S : Nat → Prop} {h h' : H} {b n : Nat} {op : Bool} {B : Nat → Bool} (q : BL h b n op B) (u : Upd S h h') (hS : ¬ S b) : BL h' b n op B := u.old _ _ hS q
theorem AL.congr {h : H} {b n : Nat} {op : Bool} {L L' : Nat → Nat} (q : AL h b n op L) (e : ∀ k,k < n → L k = L' k) : AL h b n op L' := by
  unfold AL at *
  rw [q]
  congr 2
  exact tb_congr fun k hk => by rw [e k hk]
theorem BL.congr {h : H} {b n : Nat} {op : Bool} {B B' : Nat → Bool} (q : BL h b n op B) (e : ∀ k,k < n → B k = B' k) : BL h b n op B' := by
  unfold BL at *
  rw [q]
  congr 2
  exact tb_congr fun k hk => by rw [e k hk]
theorem AL.new {n : Nat} (hn : n ≤ 65536) (h : H) : ∃ h',xmakeSlice Try.prog 27 (.int .i64 (n : Nat)) (.int .i64 (n : Nat)) h = .ok (.slice (some ⟨h.next,0,none⟩) n n) h' ∧ Grow h h' ∧ AL h' h.next n false (fun _ => 0) ∧ h'.next = h.next + 1 := by
  refine ⟨_,mkI hn h,(Grow.refl h).alloc _,?_,rfl⟩
  unfold AL
  rw [H.alloc_self]
  congr 2
  unfold iv tb
  rw [List.map_const',List.length_range,List.map_replicate]
  rfl
theorem BL.new {n : Nat} (hn : n ≤ 65536) (h : H) : ∃ h',xmakeSlice Try.prog 83 (.int .i64 (n : Nat)) (.int .i64 (n : Nat)) h = .ok (.slice (some ⟨h.next,0,none⟩) n n) h' ∧ Grow h h' ∧ BL h' h.next n false (fun _ => false) ∧ h'.next = h.next + 1 := by
  refine ⟨_,mkB hn h,(Grow.refl h).alloc _,?_,rfl⟩
  unfold BL
  rw [H.alloc_self]
  congr 2
  unfold tb
  rw [List.map_const',List.length_range]
theorem OL.pop {h : H} {v : Value} {br : Option Nat} {l : List Nat} {x : Nat} (q : OL h v br (nl (l ++ [x]))) :
    (∀ h',xbuiltin Try.prog .len [27] [v] h' = .ok (.int .i64 ((l.length + 1 : Nat) : Int)) h') ∧
    (∃ a,xindexAddr Try.prog 27 v (.int .i64 (l.length : Nat)) h = .ok (.pointer (some a)) h ∧ xload Try.prog 3 (.pointer (some a)) h = .ok (.int .i64 (x : Nat)) h) ∧
    ∃ v',xslice Try.prog 27 v none (some (.int .i64 (l.length : Nat))) none h = .ok v' h ∧ OL h v' br (nl l) := by
  have hl : (nl (l ++ [x])).length = l.length + 1 := by rw [nl_len]; simp
  refine ⟨fun h' => by rw [q.il.len,hl],q.il.at_ (by rw [nl_append,List.getElem?_append_right (by rw [nl_len]; exact Nat.le_refl _),nl_len,Nat.sub_self]; rfl),?_⟩
  rcases q with ⟨_,_,e⟩ | ⟨b,sp,cap,e1,rfl,hg,e3,e4⟩
  · exact absurd (congrArg List.length e) (by rw [hl]; simp)
  · rw [hl] at e3
    have T := xslice_o (P := Try.prog) (t := 27) (lo := none) (hi := some (.int .i64 (l.length : Nat))) (o := 0) (n := (nl (l ++ [x])).length) (cap := cap) un27 sz3 hg rfl (l := 0) (u := l.length) rfl rfl (by omega) (by omega) (by omega)
    rw [Nat.zero_mul,Nat.zero_add,Nat.sub_zero,Nat.sub_zero] at T
    refine ⟨_,T,.inr ⟨b,.int .i64 (x : Nat) :: sp,cap,e1,by rw [nl_len],?_,by rw [nl_len,List.length_cons]; omega,by show (true && ones sp) = true; rw [e4]; rfl⟩⟩
    rw [hg,nl_append,iv_append,List.append_assoc]
    rfl
theorem OL.ne2 {h : H} {v : Value} {br : Option Nat} {l : List Int} (q : OL h v br l) {b n : Nat} {op : Bool} {B : Nat → Bool} (hg : BL h b n op B) : br ≠ some b := by
  intro z
  rcases q with ⟨w,_⟩ | ⟨b',sp,cap,w,_,hg',_⟩
  · rw [w] at z; cases z
  · rw [w] at z; cases z; unfold BL at hg; rw [hg] at hg'
    simp only [Option.some.injEq,Blk.cells.injEq] at hg'
    exact absurd hg'.2.1 (by decide)
end Go.Proofs.Ytdadiidfhnojcaa.K
namespace Go.Proofs.Ytdadiidfhnojcaa.K
open Go Go.Kx
set_option linter.unusedVariables false
set_option linter.unusedSimpArgs false
set_option maxRecDepth 20000
theorem sumN_succ (n : Nat) (f : Nat → Nat) : sumN (n + 1) f = sumN n f + f n := by unfold sumN; rw [List.range_succ,List.map_append,List.sum_append]; simp
theorem sumN_congr {f f' : Nat → Nat} : ∀ {n : Nat},(∀ k,k < n → f' k = f k) → sumN n f' = sumN n f
  | 0,_ => rfl
  | n + 1,h => by rw [sumN_succ,sumN_succ,sumN_congr fun k hk => h k (by omega),h n (by omega)]
theorem sumN_upd {f f' : Nat → Nat} {j : Nat} (h : ∀ k,k ≠ j → f' k = f k) : ∀ {n : Nat},j < n → sumN n f' + f j = sumN n f + f' j
  | 0,hj => absurd hj (Nat.not_lt_zero _)
  | n + 1,hj => by
    rw [sumN_succ,sumN_succ]
    by_cases e : j = n
    · subst e
      rw [sumN_congr fun k hk => h k (by omega)]; omega
    · have := sumN_upd h (n := n) (by omega)
      rw [h n (fun z => e z.symm)]; omega
theorem sumN_le {f f' : Nat → Nat} : ∀ {n : Nat},(∀ k,k < n → f' k ≤ f k) → sumN n f' ≤ sumN n f
  | 0,_ => Nat.le_refl _
  | n + 1,h => by
    rw [sumN_succ,sumN_succ]
    have := sumN_le (n := n) fun k hk => h k (by omega)
    have := h n (by omega)
    omega
theorem snoc_cases {α : Type} (l : List α) : l = [] ∨ ∃ t x,l = t ++ [x] := by
  rcases List.eq_nil_or_concat l with h | ⟨t,x,h⟩
  · exact .inl h
  · exact .inr ⟨t,x,by simpa using h⟩
structure CiS (h0 h : H) (n bs : Nat) (seen : Nat → Bool) (v : Value) (br : Option Nat) (todo : List Nat) : Prop where
  gr : Grow h0 h
  s : BL h bs n false seen
  t : OL h v br (nl todo)
  fs : h0.next ≤ bs
  ft : ∀ b,br = some b → h0.next ≤ b
theorem ci_loop {h0 : H} {g : Nat} {ts : List TK} {vt : Value} (N0 : Net h0 g ts vt) (F : Few ts) {i : Nat} (hi : i < ts.length) : ∀ (m : Nat) {h : H} {bs : Nat} {seen : Nat → Bool} {v : Value} {br : Option Nat} {todo : List Nat},
    todo.length + sumN ts.length (fun k => if seen k then 0 else (nd ts k).length) = m → m ≤ 100000 → CiS h0 h ts.length bs seen v br todo → Dfs (nd ts) i seen todo → (∀ k ∈ todo,k < ts.length) →
    ∃ h' r,Grow h0 h' ∧ (r = true ↔ OnC (nd ts) i) ∧ F45.l3 Try.prog CLM nu0 nu0 (.pointer (some ⟨g,0,none⟩)) (.int .i64 (i : Nat)) (.slice (some ⟨bs,0,none⟩) ts.length ts.length) v h = .ok (.bool r) h' := by
  intro m
  induction m using Nat.strongRecOn with
  | ind m ih =>
  intro h bs seen v br todo hm hb s d hlt
  have hn := F.n
  rcases snoc_cases todo with rfl | ⟨t,j,rfl⟩
  · refine ⟨h,false,s.gr,⟨(fun z => by cases z),fun z => absurd z d.no⟩,?_⟩
    have hl : (nl ([] : List Nat)).length = 0 := rfl
    rw [F45.l3_eq,s.t.il.len,go_ok,xgtr,go_ok,hl,ifV_dec,if_neg (by omega),F45.j11_eq]
  · obtain ⟨p1,⟨a,p2,p3⟩,v',p4,p5⟩ := s.t.pop
    have hjn : j < ts.length := hlt j (by simp)
    rw [List.length_append,List.length_singleton] at hm
    by_cases hji : j = i
    · subst hji
      refine ⟨h,true,s.gr,⟨fun _ => d.yes,fun _ => rfl⟩,?_⟩
      rw [F45.l3_eq,p1,go_ok,xgtr,go_ok,ifV_dec,if_pos (by omega),F45.j4_eq,p1,go_ok,xsub,go_ok,wsub1 (by omega) (by omega),Nat.add_sub_cancel,p2,go_ok,p3,go_ok,p1,go_ok,xsub,go_ok,wsub1 (by omega) (by omega),Nat.add_sub_cancel,p4,go_ok,xeql,go_ok,ifV_dec,if_pos rfl]
    · obtain ⟨b1,b2⟩ := s.s.ld (m := ts.length) (cap := ts.length) hjn hjn
      have hE : F45.l3 Try.prog CLM nu0 nu0 (.pointer (some ⟨g,0,none⟩)) (.int .i64 (i : Nat)) (.slice (some ⟨bs,0,none⟩) ts.length ts.length) v h = F45.j8 Try.prog CLM nu0 nu0 (.pointer (some ⟨g,0,none⟩)) (.int .i64 (i : Nat)) (.slice (some ⟨bs,0,none⟩) ts.length ts.length) v' (.int .i64 (j : Nat)) h := by
        rw [F45.l3_eq,p1,go_ok,xgtr,go_ok,ifV_dec,if_pos (by omega),F45.j4_eq,p1,go_ok,xsub,go_ok,wsub1 (by omega) (by omega),Nat.add_sub_cancel,p2,go_ok,p3,go_ok,p1,go_ok,xsub,go_ok,wsub1 (by omega) (by omega),Nat.add_sub_cancel,p4,go_ok,xeql,go_ok,ifV_dec,if_neg (by omega)]
      rw [hE,F45.j8_eq,b1,go_ok,b2,go_ok,xun_not,go_ok]
      cases hs : seen j with
      | true =>
        rw [show (!true) = false from rfl,ifV_f]
        exact ih (t.length + sumN ts.length (fun k => if seen k then 0 else (nd ts k).length)) (by omega) rfl (by omega) ⟨s.gr,s.s,p5,s.fs,s.ft⟩ (d.skip hs) (fun k hk => hlt k (by simp [hk]))
      | false =>
        rw [show (!false) = true from rfl,ifV_t]
        obtain ⟨h1,e1,u1,B1⟩ := s.s.st hjn true
        have G1 : Grow h0 h1 := grow_then s.gr u1 fun b hb => hb ▸ s.fs
        have t1 : OL h1 v' br (nl t) := p5.upd u1 fun b hb z => p5.ne2 s.s (by rw [hb,z])
        obtain ⟨vn,vu,nn,T,LN,LU⟩ := N0.grow G1
        obtain ⟨a1,u,a2,a3,I⟩ := LN.at_ hjn
        have hsum := sumN_upd (f := fun k => if seen k then 0 else (nd ts k).length) (f' := fun k => if updN seen j true k then 0 else (nd ts k).length) (j := j) (fun k hk => by simp only [updN_ne hk]) hjn
        simp only [hs,updN_eq,if_true,Bool.false_eq_true,if_false] at hsum
        obtain ⟨v2,br2,h2,e2,u2,t2,nb2⟩ := t1.app (by rw [nl_len,show (ndL ts j).length = (nd ts j).length from nl_len _]; omega) I.1
        have G2 : Grow h0 h2 := grow_then G1 u2 fun b hb => s.ft b hb.symm
        have B2 : BL h2 bs ts.length false (updN seen j true) := B1.upd u2 fun z => t1.ne2 B1 z.symm
        rw [show nl t ++ ndL ts j = nl (t ++ nd ts j) by rw [nl_append]; rfl] at t2
        obtain ⟨h3,r,g3,hr,e3⟩ := ih ((t ++ nd ts j).length + sumN ts.length (fun k => if updN seen j true k then 0 else (nd ts k).length)) (by rw [List.length_append]; omega) rfl (by rw [List.length_append]; omega)
          ⟨G2,B2,t2,s.fs,fun b hb => by
            rcases nb2 with z | ⟨b',z,z2⟩
            · exact s.ft b (z ▸ hb)
            · rw [z] at hb; cases hb; exact Nat.le_trans G1.next z2⟩
          (d.mark hji fun k => by
            by_cases e : k = j
            · subst e; simp [updN_eq]
            · simp [updN_ne e,e])
          (fun k hk => by
            rcases List.mem_append.1 hk with z | z
            · exact hlt k (by simp [z])
            · exact nd_lt z)
        refine ⟨h3,r,g3,hr,?_⟩
        rw [b1,go_ok,e1,go_ok,xnil_ptr,go_ok,fa79_1,go_ok,ld33,nn.n,ofO_some,go_ok,a2,go_ok,a3 _ (Grow.refl _),go_ok,e2,go_ok]
        exact e3
theorem eCircles {h0 : H} {g : Nat} {ts : List TK} {vt : Value} (N0 : Net h0 g ts vt) (F : Few ts) {i : Nat} (hi : i < ts.length) :
    ∃ h' r,Grow h0 h' ∧ (r = true ↔ OnC (nd ts) i) ∧ CLM (.f 45) [.pointer (some ⟨g,0,none⟩),.int .i64 (i : Nat)] h0 = .ok (.bool r) h' := by
  have hn := F.n
  obtain ⟨vn,vu,nn,T,LN,LU⟩ := id N0
  obtain ⟨h1,e1,g1,B1,n1⟩ := BL.new (n := ts.length) (by omega) h0
  obtain ⟨a,u,a2,a3,I⟩ := LN.at_ hi
  obtain ⟨h2,v,br,g2,o2,f2,e2⟩ := eClone (I.grow g1) (by rw [show (ndL ts i).length = (nd ts i).length from nl_len _]; have := nd_len ts i; omega)
  have G := g1.trans g2
  have hs : sumN ts.length (fun k => if false = true then 0 else (nd ts k).length) ≤ 60000 := F.e
  have hd := nd_len ts i
  obtain ⟨h3,r,g3,hr,e3⟩ := ci_loop N0 F hi _ (h := h2) (bs := h0.next) (seen := fun _ => false) (v := v) (br := br) (todo := nd ts i) rfl (by omega)
    ⟨G,g2.old _ _ B1,o2,Nat.le_refl _,fun b hb => Nat.le_trans g1.next (f2 b hb)⟩ (Dfs.init _ _) (fun k hk => nd_lt hk)
  refine ⟨h3,r,g3,hr,?_⟩
  have n1 := nn.grow g1
  rw [cM45,F45.eq,xnil_ptr,go_ok,fa79_0,go_ok,ld22,nn.t,ofO_some,go_ok,T.len,go_ok,e1,go_ok,xnil_ptr,go_ok,fa79_1,go_ok,ld33,n1.n,ofO_some,go_ok,a2,go_ok,a3 _ g1,go_ok,e2,go_ok]
  exact e3
structure PeS (h0 h : H) (n bl bs : Nat) (L : Nat → Nat) (B : Nat → Bool) (v : Value) (br : Option Nat) (F : List Nat) : Prop where
  gr : Grow h0 h
  l : AL h bl n false L
  s : BL h bs n false B
  f : OL h v br (nl F)
  fl : h0.next ≤ bl
  fs : h0.next ≤ bs
  ff : ∀ b,br = some b → h0.next ≤ b ∧ b ≠ bl
theorem AB_ne {h : H} {b c n m : Nat} {op op' : Bool} {L : Nat → Nat} {B : Nat → Bool} (p : AL h b n op L) (q : BL h c m op' B) : b ≠ c := fun z => by
  unfold AL at p; unfold BL at q
  rw [z,q] at p
  simp only [Option.some.injEq,Blk.cells.injEq] at p
  exact absurd p.2.1 (by decide)
section
variable {h0 h : H} {n bl bs : Nat} {L : Nat → Nat} {B : Nat → Bool} {v : Value} {br : Option Nat} {F : List Nat}
theorem PeS.setL (s : PeS h0 h n bl bs L B v br F) {j : Nat} (hj : j < n) (x : Nat) :
    ∃ h',xstore Try.prog 3 (.pointer (some ⟨bl,0 + j * 1,none⟩)) (.int .i64 (x : Nat)) h = .ok undef h' ∧ PeS h0 h' n bl bs (updN L j x) B v br F := by
  obtain ⟨h',e,u,l'⟩ := s.l.st hj x
  exact ⟨h',e,grow_then s.gr u fun b hb => hb ▸ s.fl,l',s.s.upd u fun z => AB_ne s.l s.s z.symm,s.f.upd u fun b hb z => (s.ff b hb).2 z,s.fl,s.fs,s.ff⟩
theorem PeS.setB (s : PeS h0 h n bl bs L B v br F) {j : Nat} (hj : j < n) (x : Bool) :
    ∃ h',xstore Try.prog 4 (.pointer (some ⟨bs,0 + j * 1,none⟩)) (.bool x) h = .ok undef h' ∧ PeS h0 h' n bl bs L (updN B j x) v br F := by
  obtain ⟨h',e,u,b'⟩ := s.s.st hj x
  exact ⟨h',e,grow_then s.gr u fun b hb => hb ▸ s.fs,s.l.upd u fun z => AB_ne s.l s.s z,b',s.f.upd u fun b hb z => s.f.ne2 s.s (by rw [hb,z]),s.fl,s.fs,s.ff⟩
theorem PeS.push (s : PeS h0 h n bl bs L B v br F) (few : F.length < 1000000) (j : Nat) :
    ∃ h' v' br',PeS h0 h' n bl bs L B v' br' (F ++ [j]) ∧ ∀ K : Value → H → Res Value,((xbuildSlice Try.prog 27 1 [(0,.int .i64 (j : Nat))] h).go .pan fun t h2 => ((xbuiltin Try.prog .append [27,27] [v,t] h2).go .pan K)) = K v' h' := by
  obtain ⟨v',br',h',u,o,nb,e⟩ := s.f.push (by rw [nl_len]; exact few) (j : Int)
  refine ⟨h',v',br',⟨grow_then s.gr u fun b hb => (s.ff b hb.symm).1,s.l.upd u fun z => (s.ff bl z.symm).2 rfl,s.s.upd u fun z => s.f.ne2 s.s z.symm,by rw [nl_append]; exact o,s.fl,s.fs,fun b hb => ?_⟩,e⟩
  rcases nb with z | ⟨b2,z,z2⟩
  · exact s.ff b (z ▸ hb)
  · rw [z] at hb; cases hb
    have := H.get_lt s.l
    exact ⟨Nat.le_trans s.gr.next z2,by omega⟩
theorem PeS.congr (s : PeS h0 h n bl bs L B v br F) {L' : Nat → Nat} {B' : Nat → Bool} (h1 : ∀ k,k < n → L k = L' k) (h2 : ∀ k,k < n → B k = B' k) : PeS h0 h n bl bs L' B' v br F :=
  ⟨s.gr,s.l.congr h1,s.s.congr h2,s.f,s.fl,s.fs,s.ff⟩
end
theorem pe_init {h0 : H} {vf vx : Value} {n bl bs : Nat} {f : Nat → List Nat} (LF : LLv h0 vf n fun j => nl (f j)) (hn : n ≤ 3000) (hf : ∀ j,j < n → (f j).length ≤ 3000) :
    ∀ (m i : Nat) {h : H} {v : Value} {br : Option Nat},n - i = m → i ≤ n → PeS h0 h n bl bs (fun j => if j < i then (f j).length else 0) (fun j => decide (j < i)) v br ((List.range i).filter fun j => decide ((f j).length = 0)) →
      ∃ h' v' br',PeS h0 h' n bl bs (cntN f []) (fun _ => true) v' br' ((List.range n).filter fun j => decide ((f j).length = 0)) ∧
        F44.l5 Try.prog CLM nu0 nu0 vx (.slice (some ⟨bl,0,none⟩) n n) (.slice (some ⟨bs,0,none⟩) n n) v vf (.int .i64 (n : Nat)) (.int .i64 (i : Nat)) h = F44.l11 Try.prog CLM nu0 nu0 vx (.slice (some ⟨bl,0,none⟩) n n) (.slice (some ⟨bs,0,none⟩) n n) v' h' := by
  intro m
  induction m with
  | zero =>
    intro i h v br hm hi s
    have : i = n := by omega
    subst this
    refine ⟨h,v,br,s.congr (fun k hk => by rw [if_pos hk,cntN_nil]) (fun k hk => decide_eq_true hk),?_⟩
    rw [F44.l5_eq,xlss,go_ok,F44.j6_eq,ifV_dec,if_neg (by omega),F44.j11_eq]
  | succ m ih =>
    intro i h v br hm hi s
    have hil : i < n := by omega
    have hfl := hf i hil
    obtain ⟨a,u,a1,a2,I⟩ := LF.at_ hil
    obtain ⟨l1,_⟩ := s.l.ld (m := n) (cap := n) hil hil
    obtain ⟨b1,_⟩ := s.s.ld (m := n) (cap := n) hil hil
    obtain ⟨h1,e1,s1⟩ := s.setL hil (f i).length
    obtain ⟨h2,e2,s2⟩ := s1.setB hil true
    have hL : ∀ k,k < n → updN (fun j => if j < i then (f j).length else 0) i (f i).length k = if k < i + 1 then (f k).length else 0 := fun k hk => by
      by_cases e : k = i
      · subst e; rw [updN_eq,if_pos (by omega)]
      · rw [updN_ne e]
        by_cases q : k < i
        · rw [if_pos q,if_pos (by omega)]
        · rw [if_neg q,if_neg (by omega)]
    have hB : ∀ k,k < n → updN (fun j => decide (j < i)) i true k = decide (k < i + 1) := fun k hk => by
      by_cases e : k = i
      · subst e; rw [updN_eq]; simp
      · rw [updN_ne e,decide_eq_decide]; omega
    have s3 := s2.congr hL hB
    have hlen : (nl (f i)).length = (f i).length := nl_len _
    have hE : F44.l5 Try.prog CLM nu0 nu0 vx (.slice (some ⟨bl,0,none⟩) n n) (.slice (some ⟨bs,0,none⟩) n n) v vf (.int .i64 (n : Nat)) (.int .i64 (i : Nat)) h =
        if (((f i).length : Nat) : Int) = 0 then ((xbuildSlice Try.prog 27 1 [(0,.int .i64 (i : Nat))] h2).go .pan fun t h3 => ((xbuiltin Try.prog .append [27,27] [v,t] h3).go .pan fun t33 h34 => ((xbin Try.prog .add 3 (.int .i64 (i : Nat)) (.int .i64 1) h34).go .pan fun t35 h36 => F44.l5 Try.prog CLM nu0 nu0 vx (.slice (some ⟨bl,0,none⟩) n n) (.slice (some ⟨bs,0,none⟩) n n) t33 vf (.int .i64 (n : Nat)) t35 h36)))
        else ((xbin Try.prog .add 3 (.int .i64 (i : Nat)) (.int .i64 1) h2).go .pan fun t37 h38 => F44.l5 Try.prog CLM nu0 nu0 vx (.slice (some ⟨bl,0,none⟩) n n) (.slice (some ⟨bs,0,none⟩) n n) v vf (.int .i64 (n : Nat)) t37 h38) := by
      rw [F44.l5_eq,xlss,go_ok,F44.j6_eq,ifV_dec,if_pos (by omega),F44.j6_1_eq,a1,go_ok,a2 _ s.gr,go_ok,I.1.len,go_ok,hlen,l1,go_ok,e1,go_ok,b1,go_ok,e2,go_ok,I.1.len,go_ok,hlen,xeql,go_ok,ifV_dec]
    rw [hE]
    by_cases hz : (f i).length = 0
    · rw [if_pos (by omega)]
      obtain ⟨h3,v3,br3,s4,e3⟩ := s3.push (by have := List.length_filter_le (fun j => decide ((f j).length = 0)) (List.range i); rw [List.length_range] at this; omega) i
      obtain ⟨h',v',br',s',e'⟩ := ih (i + 1) (by omega) (by omega) (v := v3) (br := br3) (h := h3) (by rw [List.range_succ,List.filter_append,show [i].filter (fun j => decide ((f j).length = 0)) = [i] from List.filter_cons_of_pos (decide_eq_true hz)]; exact s4)
      refine ⟨h',v',br',s',?_⟩
      rw [e3,xadd,go_ok,wadd1 (by omega)]
      exact e'
    · rw [if_neg (by omega)]
      obtain ⟨h',v',br',s',e'⟩ := ih (i + 1) (by omega) (by omega) (v := v) (br := br) (h := h2) (by rw [List.range_succ,List.filter_append,show [i].filter (fun j => decide ((f j).length = 0)) = [] from List.filter_cons_of_neg (by rw [decide_eq_true_iff]; exact hz),List.append_nil]; exact s3)
      refine ⟨h',v',br',s',?_⟩
      rw [xadd,go_ok,wadd1 (by omega)]
      exact e'
theorem newZ_len {f t : Nat → List Nat} {R : List Nat} {i q : Nat} : (newZ f t R i q).length ≤ (t i).length := by
  unfold newZ
  refine Nat.le_trans (List.length_filter_le _ _) ?_
  rw [List.length_take]; omega
theorem pe_inner {h0 : H} {vx u : Value} {n bl bs i : Nat} {f t : Nat → List Nat} {R F : List Nat} {B : Nat → Bool} (g : Gr n f t) (hn : n ≤ 3000) (hi : i < n) (hiR : i ∉ R) (hF : F.length ≤ 3000) (I : IL h0 u (nl (t i))) (ht : (t i).length ≤ 3000) :
    ∀ (m q : Nat) {h : H} {v : Value} {br : Option Nat},(t i).length - q = m → q ≤ (t i).length → PeS h0 h n bl bs (lefQ f t R i q) B v br (F ++ newZ f t R i q) →
      ∃ h' v' br',PeS h0 h' n bl bs (cntN f (R ++ [i])) B v' br' (F ++ newZ f t R i (t i).length) ∧
        F44.l16 Try.prog CLM nu0 nu0 vx (.slice (some ⟨bl,0,none⟩) n n) (.slice (some ⟨bs,0,none⟩) n n) v u (.int .i64 ((t i).length : Nat)) (.int .i64 (q : Nat)) h = F44.l11 Try.prog CLM nu0 nu0 vx (.slice (some ⟨bl,0,none⟩) n n) (.slice (some ⟨bs,0,none⟩) n n) v' h' := by
  intro m
  induction m with
  | zero =>
    intro q h v br hm hq s
    have : q = (t i).length := by omega
    subst this
    refine ⟨h,v,br,s.congr (fun k hk => lefQ_end g hi hk) (fun _ _ => rfl),?_⟩
    rw [F44.l16_eq,xlss,go_ok,F44.j17_eq,ifV_dec,if_neg (by omega)]
  | succ m ih =>
    intro q h v br hm hq s
    have hql : q < (t i).length := by omega
    have hj : (t i)[q]? = some (t i)[q] := List.getElem?_eq_getElem hql
    obtain ⟨j,hjd⟩ : ∃ j,j = (t i)[q] := ⟨_,rfl⟩
    rw [← hjd] at hj
    have hjn : j < n := g.tl i j hi (List.mem_of_getElem? hj)
    obtain ⟨z1,z2,z3⟩ := lefQ_step g hi hiR hj
    obtain ⟨a,a1,a2⟩ := (I.grow s.gr).at_ (show (nl (t i))[q]? = some (j : Int) by unfold nl; rw [List.getElem?_map,hj]; rfl)
    obtain ⟨l1,l2⟩ := s.l.ld (m := n) (cap := n) hjn hjn
    rw [z1] at l2
    obtain ⟨h1,e1,s1⟩ := s.setL hjn (cntN f (R ++ [i]) j)
    obtain ⟨_,l3⟩ := s1.l.ld (m := n) (cap := n) hjn hjn
    rw [updN_eq] at l3
    have s2 := s1.congr (L' := lefQ f t R i (q + 1)) (fun k _ => by rw [z2 k]; rfl) (fun _ _ => rfl)
    have hc : cntN f (R ++ [i]) j < 100000 := by
      unfold cntN
      have := List.length_filter_le (fun k => decide (k ∉ R ++ [i])) (f j)
      have h2 := List.Nodup.length_le_of_subset (g.fn j hjn) (l₂ := List.range n) fun k hk => List.mem_range.2 (g.fl j k hjn hk)
      simp at h2
      omega
    have hE : F44.l16 Try.prog CLM nu0 nu0 vx (.slice (some ⟨bl,0,none⟩) n n) (.slice (some ⟨bs,0,none⟩) n n) v u (.int .i64 ((t i).length : Nat)) (.int .i64 (q : Nat)) h =
        if ((cntN f (R ++ [i]) j : Nat) : Int) = 0 then ((xbuildSlice Try.prog 27 1 [(0,.int .i64 (j : Nat))] h1).go .pan fun t' h3 => ((xbuiltin Try.prog .append [27,27] [v,t'] h3).go .pan fun t33 h34 => ((xbin Try.prog .add 3 (.int .i64 (q : Nat)) (.int .i64 1) h34).go .pan fun t35 h36 => F44.l16 Try.prog CLM nu0 nu0 vx (.slice (some ⟨bl,0,none⟩) n n) (.slice (some ⟨bs,0,none⟩) n n) t33 u (.int .i64 ((t i).length : Nat)) t35 h36)))
        else ((xbin Try.prog .add 3 (.int .i64 (q : Nat)) (.int .i64 1) h1).go .pan fun t37 h38 => F44.l16 Try.prog CLM nu0 nu0 vx (.slice (some ⟨bl,0,none⟩) n n) (.slice (some ⟨bs,0,none⟩) n n) v u (.int .i64 ((t i).length : Nat)) t37 h38) := by
      rw [F44.l16_eq,xlss,go_ok,F44.j17_eq,ifV_dec,if_pos (by omega),F44.j17_1_eq,a1,go_ok,a2,go_ok,l1,go_ok,l2,go_ok,xsub,go_ok,wsub1 (by omega) (by omega),Nat.add_sub_cancel,l1,go_ok,e1,go_ok,l1,go_ok,l3,go_ok,xeql,go_ok,ifV_dec]
    rw [hE]
    by_cases hz : cntN f (R ++ [i]) j = 0
    · rw [if_pos (by omega)]
      rw [if_pos hz] at z3
      have hfew : (F ++ newZ f t R i q).length < 1000000 := by
        have hzl := newZ_len (f := f) (t := t) (R := R) (i := i) (q := q)
        rw [List.length_append]; omega
      obtain ⟨h3,v3,br3,s4,e3⟩ := s2.push hfew j
      obtain ⟨h',v',br',s',e'⟩ := ih (q + 1) (by omega) (by omega) (v := v3) (br := br3) (h := h3) (by rw [z3,← List.append_assoc]; exact s4)
      refine ⟨h',v',br',s',?_⟩
      rw [e3,xadd,go_ok,wadd1 (by omega)]
      exact e'
    · rw [if_neg (by omega)]
      rw [if_neg hz,List.append_nil] at z3
      obtain ⟨h',v',br',s',e'⟩ := ih (q + 1) (by omega) (by omega) (v := v) (br := br) (h := h1) (by rw [z3]; exact s2)
      refine ⟨h',v',br',s',?_⟩
      rw [xadd,go_ok,wadd1 (by omega)]
      exact e'
theorem pe_main {h0 : H} {vx : Value} {n bl bs : Nat} {f t : Nat → List Nat} (g : Gr n f t) (hn : n ≤ 3000) (LT : LLv h0 vx n fun j => nl (t j)) :
    ∀ (m : Nat) {h : H} {v : Value} {br : Option Nat} {R F : List Nat},n - R.length = m → PeS h0 h n bl bs (cntN f R) (fun j => decide (j ∉ R)) v br F → Kahn n f R F → (∀ j ∈ R,¬ OnC f j) →
      ∃ h' B,Grow h0 h' ∧ BL h' bs n false B ∧ (∀ j,j < n → OnC f j → B j = true) ∧
        F44.l11 Try.prog CLM nu0 nu0 vx (.slice (some ⟨bl,0,none⟩) n n) (.slice (some ⟨bs,0,none⟩) n n) v h = .ok (.slice (some ⟨bs,0,none⟩) n n) h' := by
  intro m
  induction m with
  | zero =>
    intro h v br R F hm s k hR
    have hl := k.len
    rw [List.length_append] at hl
    have hF : F = [] := List.length_eq_zero_iff.1 (by omega)
    subst hF
    refine ⟨h,_,s.gr,s.s,fun j hj ho => decide_eq_true fun z => hR j z ho,?_⟩
    rw [F44.l11_eq,s.f.il.len,go_ok,xgtr,go_ok,show (nl ([] : List Nat)).length = 0 from rfl,ifV_dec,if_neg (by omega),F44.j22_eq]
  | succ m ih =>
    intro h v br R F hm s k hR
    rcases snoc_cases F with rfl | ⟨F,i,rfl⟩
    · refine ⟨h,_,s.gr,s.s,fun j hj ho => decide_eq_true fun z => hR j z ho,?_⟩
      rw [F44.l11_eq,s.f.il.len,go_ok,xgtr,go_ok,show (nl ([] : List Nat)).length = 0 from rfl,ifV_dec,if_neg (by omega),F44.j22_eq]
    · have hl := k.len
      rw [List.length_append,List.length_append,List.length_singleton] at hl
      have hi : i < n := k.lt i (by simp)
      have hiR : i ∉ R := fun z => by
        have := k.nod
        rw [List.nodup_append] at this
        exact this.2.2 i z i (by simp) rfl
      obtain ⟨p1,⟨a,p2,p3⟩,v',p4,p5⟩ := s.f.pop
      obtain ⟨b1,_⟩ := s.s.ld (m := n) (cap := n) hi hi
      have s1 : PeS h0 h n bl bs (cntN f R) (fun j => decide (j ∉ R)) v' br F := ⟨s.gr,s.l,s.s,p5,s.fl,s.fs,s.ff⟩
      obtain ⟨h1,e1,s2⟩ := s1.setB hi false
      have s3 := s2.congr (L' := lefQ f t R i 0) (B' := fun j => decide (j ∉ R ++ [i])) (fun k _ => by rw [lefQ_zero]) (fun k _ => by
        by_cases e : k = i
        · subst e; rw [updN_eq]; simp
        · rw [updN_ne e]; simp [e])
      obtain ⟨a',u,a1,a2,I⟩ := LT.at_ hi
      have hti : (t i).length ≤ 3000 := by
        have h2 := List.Nodup.length_le_of_subset (g.tn i hi) (l₂ := List.range n) fun k hk => List.mem_range.2 (g.tl i k hi hk)
        simp at h2; omega
      obtain ⟨h2,v2,br2,s4,e2⟩ := pe_inner (vx := vx) (bl := bl) (bs := bs) (F := F) (B := fun j => decide (j ∉ R ++ [i])) g hn hi hiR (by omega) I.1 hti _ 0 rfl (Nat.zero_le _) (h := h1) (v := v') (br := br) (by
        rw [show newZ f t R i 0 = [] by unfold newZ; simp,List.append_nil]; exact s3)
      have k2 := k.step g
      obtain ⟨h',B,g',b',o',e'⟩ := ih (by rw [List.length_append,List.length_singleton]; omega) s4 k2 (fun j hj => by
        have := k.stay g.fl hR
        rcases List.mem_append.1 hj with z | z
        · exact hR j z
        · rw [List.mem_singleton] at z; subst z; exact this j (by simp))
      refine ⟨h',B,g',b',o',?_⟩
      rw [F44.l11_eq,p1,go_ok,xgtr,go_ok,ifV_dec,if_pos (by omega),F44.j12_eq,p1,go_ok,xsub,go_ok,wsub1 (by omega) (by omega),Nat.add_sub_cancel,p2,go_ok,p3,go_ok,p1,go_ok,xsub,go_ok,wsub1 (by omega) (by omega),Nat.add_sub_cancel,p4,go_ok,b1,go_ok,e1,go_ok,a1,go_ok,a2 _ s3.gr,go_ok,I.1.len,go_ok,nl_len,
        show (Value.int .i64 0) = .int .i64 ((0 : Nat) : Int) from rfl,e2]
      exact e'
theorem ePeeled {h0 : H} {vf vx : Value} {n : Nat} {f t : Nat → List Nat} (g : Gr n f t) (hn : n ≤ 3000) (LF : LLv h0 vf n fun j => nl (f j)) (LT : LLv h0 vx n fun j => nl (t j)) :
    ∃ h' bs B,Grow h0 h' ∧ BL h' bs n false B ∧ (∀ j,j < n → OnC f j → B j = true) ∧ CLM (.f 44) [vf,vx] h0 = .ok (.slice (some ⟨bs,0,none⟩) n n) h' := by
  have hf : ∀ j,j < n → (f j).length ≤ 3000 := fun j hj => by
    have h2 := List.Nodup.length_le_of_subset (g.fn j hj) (l₂ := List.range n) fun k hk => List.mem_range.2 (g.fl j k hj hk)
    simp at h2; omega
  obtain ⟨h1,e1,g1,A1,n1⟩ := AL.new (n := n) (by omega) h0
  obtain ⟨h2,e2,g2,B2,n2⟩ := BL.new (n := n) (by omega) h1
  obtain ⟨h3,v3,br3,s3,e3⟩ := pe_init (h0 := h0) (vx := vx) (bl := h0.next) (bs := h1.next) LF hn hf _ 0 rfl (Nat.zero_le _) (h := h2) (v := .slice none 0 0) (br := none)
    ⟨g1.trans g2,AL.congr (g2.old _ _ A1) (fun k _ => by simp),B2.congr (fun k _ => by simp),OL.nil,Nat.le_refl _,g1.next,fun b z => by cases z⟩
  obtain ⟨h4,B,g4,b4,o4,e4⟩ := pe_main (vx := vx) g hn LT _ rfl (s3.congr (fun _ _ => rfl) (fun k _ => by simp)) Kahn.init (fun j hj => by cases hj)
  refine ⟨h4,h1.next,B,g4,b4,o4,?_⟩
  rw [cM44,F44.eq,LF.len,go_ok,e1,go_ok,LF.len,go_ok,e2,go_ok,LF.len,go_ok,show (Value.int .i64 0) = .int .i64 ((0 : Nat) : Int) from rfl,e3]
  exact e4
end Go.Proofs.Ytdadiidfhnojcaa.K
namespace Go.Proofs.Ytdadiidfhnojcaa.K
open Go Go.Kx
set_option linter.unusedVariables false
set_option linter.unusedSimpArgs false
set_option maxRecDepth 20000
theorem LLv.rc {h h' : H} {v : Value} {n : Nat} {f : Nat → List Int} (q : LLv h v n f) : rc (.ok v h') (some v) = true := by
  obtain ⟨b,op,vs,rfl,_⟩ := q
  exact rc_slc _ _ _ _
theorem needGr (ts : List TK) : Gr ts.length (nd ts) (us ts) :=
  ⟨fun i j hi hj => by rw [us_mem,nd_mem]; simp [hi,hj],fun j _ => (nd_rise ts j).imp fun h => by omega,fun j _ => (us_rise ts j).imp fun h => by omega,fun i j _ h => nd_lt h,fun i j _ h => (us_mem.1 h).1⟩
theorem userGr (ts : List TK) : Gr ts.length (us ts) (nd ts) :=
  ⟨fun i j hi hj => by rw [us_mem,nd_mem]; simp [hi,hj],fun j _ => (us_rise ts j).imp fun h => by omega,fun j _ => (nd_rise ts j).imp fun h => by omega,fun i j _ h => (us_mem.1 h).1,fun i j _ h => nd_lt h⟩
theorem need_out {ts : List TK} {i k : Nat} (h : need ts i k = true) : i < ts.length := by
  apply Classical.byContradiction
  intro q
  unfold need insAt at h
  rw [List.getElem?_eq_none (by omega)] at h
  simp at h
theorem OnC_lt {ts : List TK} {i : Nat} (h : OnC (nd ts) i) : i < ts.length := by
  obtain ⟨b,hb,_⟩ := h.next
  exact need_out (nd_mem.1 hb).2
theorem OnC_us {ts : List TK} {i : Nat} : OnC (nd ts) i → OnC (us ts) i := fun h => Path.rev (fun a b hb => us_mem.2 ⟨need_out (nd_mem.1 hb).2,(nd_mem.1 hb).2⟩) h
def CycR (ts : List TK) (c : Int) : Prop := (c = -1 ∧ ∀ k,¬ OnC (nd ts) k) ∨ ∃ k : Nat,c = k ∧ k < ts.length ∧ OnC (nd ts) k ∧ ∀ j : Nat,OnC (nd ts) j → aLt ts (j : Int) (k : Int) = false
theorem cy_pick {h0 : H} {g n ba bb : Nat} {A B : Nat → Bool} (hn : n ≤ 3000) (QA : BL h0 ba n false A) (QB : BL h0 bb n false B) : ∀ (m i : Nat) {h : H} {v : Value} {br : Option Nat},n - i = m → i ≤ n → Grow h0 h → OL h v br (nl ((List.range i).filter fun j => A j && B j)) → (∀ b,br = some b → h0.next ≤ b) →
    ∃ h' v' br',Grow h0 h' ∧ OL h' v' br' (nl ((List.range n).filter fun j => A j && B j)) ∧ (∀ b,br' = some b → h0.next ≤ b) ∧
      F33.l4 Try.prog CLM nu0 nu0 (.pointer (some ⟨g,0,none⟩)) (.slice (some ⟨ba,0,none⟩) n n) (.slice (some ⟨bb,0,none⟩) n n) v (.int .i64 (n : Nat)) (.int .i64 (i : Nat)) h = F33.j9 Try.prog CLM nu0 nu0 (.pointer (some ⟨g,0,none⟩)) v' h' := by
  intro m
  induction m with
  | zero =>
    intro i h v br hm hi G o f
    have : i = n := by omega
    subst this
    refine ⟨h,v,br,G,o,f,?_⟩
    rw [F33.l4_eq,xlss,go_ok,F33.j5_eq,ifV_dec,if_neg (by omega)]
  | succ m ih =>
    intro i h v br hm hi G o f
    have hil : i < n := by omega
    obtain ⟨a1,a2⟩ := BL.ld (G.old _ _ QA) (m := n) (cap := n) hil hil
    obtain ⟨b1,b2⟩ := BL.ld (G.old _ _ QB) (m := n) (cap := n) hil hil
    have skip : (A i && B i) = false → ∃ h' v' br',Grow h0 h' ∧ OL h' v' br' (nl ((List.range n).filter fun j => A j && B j)) ∧ (∀ b,br' = some b → h0.next ≤ b) ∧
        ((xbin Try.prog .add 3 (.int .i64 (i : Nat)) (.int .i64 1) h).go .pan fun t h' => F33.l4 Try.prog CLM nu0 nu0 (.pointer (some ⟨g,0,none⟩)) (.slice (some ⟨ba,0,none⟩) n n) (.slice (some ⟨bb,0,none⟩) n n) v (.int .i64 (n : Nat)) t h') = F33.j9 Try.prog CLM nu0 nu0 (.pointer (some ⟨g,0,none⟩)) v' h' := fun hz => by
      obtain ⟨h',v',br',r1,r2,r3,r4⟩ := ih (i + 1) (h := h) (v := v) (br := br) (by omega) (by omega) G (by
        rw [List.range_succ,List.filter_append,show [i].filter (fun j => A j && B j) = [] from List.filter_cons_of_neg (by rw [hz]; simp),List.append_nil]; exact o) f
      refine ⟨h',v',br',r1,r2,r3,?_⟩
      rw [xadd,go_ok,wadd1 (by omega)]
      exact r4
    rw [F33.l4_eq,xlss,go_ok,F33.j5_eq,ifV_dec,if_pos (by omega),F33.j5_1_eq,a1,go_ok,a2,go_ok]
    cases hA : A i with
    | false =>
      rw [ifV_f]
      exact skip (by rw [hA]; rfl)
    | true =>
      rw [ifV_t,b1,go_ok,b2,go_ok]
      cases hB : B i with
      | false =>
        rw [ifV_f]
        exact skip (by rw [hA,hB]; rfl)
      | true =>
        rw [ifV_t]
        have hfl : ((List.range i).filter fun j => A j && B j).length ≤ i := by have := List.length_filter_le (fun j => A j && B j) (List.range i); rwa [List.length_range] at this
        obtain ⟨v',br',h1,u,o1,nb,e⟩ := o.push (by rw [nl_len]; omega) (i : Int)
        obtain ⟨h',v'',br'',r1,r2,r3,r4⟩ := ih (i + 1) (h := h1) (v := v') (br := br') (by omega) (by omega) (grow_then G u fun b hb => f b hb.symm) (by
          rw [List.range_succ,List.filter_append,show [i].filter (fun j => A j && B j) = [i] from List.filter_cons_of_pos (by rw [hA,hB]; rfl),nl_append]; exact o1) (fun b hb => by
          rcases nb with z | ⟨b2,z,z2⟩
          · exact f b (z ▸ hb)
          · rw [z] at hb; cases hb; exact Nat.le_trans G.next z2)
        refine ⟨h',v'',br'',r1,r2,r3,?_⟩
        rw [e,xadd,go_ok,wadd1 (by omega)]
        exact r4
theorem cy_find {h0 h1 : H} {g : Nat} {ts : List TK} {vt v : Value} (N0 : Net h0 g ts vt) (F : Few ts) {l : List Nat} (hl : ∀ k ∈ l,k < ts.length) (hlen : l.length ≤ 3000) (G1 : Grow h0 h1) (I : IL h1 v (nl l)) : ∀ (m i : Nat) {h : H},l.length - i = m → i ≤ l.length → Grow h1 h → (∀ j ∈ l.take i,¬ OnC (nd ts) j) →
    ∃ (h' : H) (c : Int),Grow h0 h' ∧ ((c = -1 ∧ ∀ k ∈ l,¬ OnC (nd ts) k) ∨ ∃ (q : Nat) (k : Nat),l[q]? = some k ∧ c = k ∧ OnC (nd ts) k ∧ ∀ j ∈ l.take q,¬ OnC (nd ts) j) ∧
      F33.l11 Try.prog CLM nu0 nu0 (.pointer (some ⟨g,0,none⟩)) v (.int .i64 (l.length : Nat)) (.int .i64 (i : Nat)) h = .ok (.int .i64 c) h' := by
  intro m
  induction m with
  | zero =>
    intro i h hm hi G no
    refine ⟨h,-1,G1.trans G,.inl ⟨rfl,by rw [List.take_of_length_le (by omega)] at no; exact no⟩,?_⟩
    rw [F33.l11_eq,xlss,go_ok,F33.j12_eq,ifV_dec,if_neg (by omega),F33.j16_eq]
  | succ m ih =>
    intro i h hm hi G no
    have hil : i < l.length := by omega
    have hq : l[i]? = some l[i] := List.getElem?_eq_getElem hil
    obtain ⟨k,hk⟩ : ∃ k,k = l[i] := ⟨_,rfl⟩
    rw [← hk] at hq
    obtain ⟨a,a1,a2⟩ := (I.grow G).at_ (show (nl l)[i]? = some (k : Int) by unfold nl; rw [List.getElem?_map,hq]; rfl)
    obtain ⟨h2,r,g2,hr,e2⟩ := eCircles (N0.grow (G1.trans G)) F (hl k (List.mem_of_getElem? hq))
    have hE : F33.l11 Try.prog CLM nu0 nu0 (.pointer (some ⟨g,0,none⟩)) v (.int .i64 (l.length : Nat)) (.int .i64 (i : Nat)) h = ifV (.bool r) (.ok (.int .i64 (k : Nat)) h2) ((xbin Try.prog .add 3 (.int .i64 (i : Nat)) (.int .i64 1) h2).go .pan fun t h' => F33.l11 Try.prog CLM nu0 nu0 (.pointer (some ⟨g,0,none⟩)) v (.int .i64 (l.length : Nat)) t h') := by
      rw [F33.l11_eq,xlss,go_ok,F33.j12_eq,ifV_dec,if_pos (by omega),F33.j12_1_eq,a1,go_ok,a2,go_ok,e2,go_ok]
    rw [hE]
    cases r with
    | true => exact ⟨h2,(k : Int),(G1.trans G).trans g2,.inr ⟨i,k,hq,rfl,hr.1 rfl,no⟩,by rw [ifV_t]⟩
    | false =>
      have hno : ¬ OnC (nd ts) k := fun z => by have := hr.2 z; cases this
      obtain ⟨h',c,r1,r2,r3⟩ := ih (i + 1) (by omega) (by omega) (G.trans g2) (fun j hj => by
        rw [List.take_add_one,hq,List.mem_append] at hj
        rcases hj with hj | hj
        · exact no j hj
        · simp at hj; exact hj ▸ hno)
      refine ⟨h',c,r1,r2,?_⟩
      rw [ifV_f,xadd,go_ok,wadd1 (by omega)]
      exact r3
theorem eCycle {h0 : H} {g : Nat} {ts : List TK} {vt : Value} (N0 : Net h0 g ts vt) (F : Few ts) : ∃ h' c,Grow h0 h' ∧ CycR ts c ∧ CLM (.f 33) [.pointer (some ⟨g,0,none⟩)] h0 = .ok (.int .i64 c) h' := by
  have hn := F.n
  obtain ⟨vn,vu,nn,T,LN,LU⟩ := id N0
  obtain ⟨h1,ba,A,g1,QA,oA,e1⟩ := ePeeled (needGr ts) hn LN LU
  obtain ⟨h2,bb,B,g2,QB,oB,e2⟩ := ePeeled (userGr ts) hn (LU.grow g1) (LN.grow g1)
  have n1 := nn.grow g1
  have n2 := n1.grow g2
  have G2 := g1.trans g2
  obtain ⟨h3,v3,br3,g3,o3,f3,e3⟩ := cy_pick (g := g) hn (g2.old _ _ QA) QB _ 0 rfl (Nat.zero_le _) (Grow.refl h2) (v := .slice none 0 0) (br := none) OL.nil (fun b z => by cases z)
  have hfl : ((List.range ts.length).filter fun j => A j && B j).length ≤ ts.length := by have := List.length_filter_le (fun j => A j && B j) (List.range ts.length); rwa [List.length_range] at this
  obtain ⟨h4,l,u4,o4,p4,s4,e4⟩ := eSortA (N0.grow G2) g3 o3 f3 (fun k hk => List.mem_range.1 (List.mem_filter.1 hk).1) (by omega)
  have G4 : Grow h2 h4 := grow_then g3 u4 fun b hb => f3 b hb.symm
  have hll := p4.length_eq
  have hmem : ∀ k,k ∈ l ↔ k < ts.length ∧ (A k && B k) = true := fun k => by rw [p4.mem_iff,List.mem_filter,List.mem_range]
  obtain ⟨h5,c,g5,hc,e5⟩ := cy_find N0 F (fun k hk => ((hmem k).1 hk).1) (by omega) (G2.trans G4) o4.il _ 0 rfl (Nat.zero_le _) (Grow.refl h4) (fun j hj => by simp at hj)
  have hall : ∀ k,OnC (nd ts) k → k ∈ l := fun k hk => (hmem k).2 ⟨OnC_lt hk,by rw [oA k (OnC_lt hk) hk,oB k (OnC_lt hk) (OnC_us hk)]; rfl⟩
  refine ⟨h5,c,g5,?_,?_⟩
  · rcases hc with ⟨hc,no⟩ | ⟨q,k,hq,hc,ok,no⟩
    · exact .inl ⟨hc,fun k hk => no k (hall k hk) hk⟩
    · refine .inr ⟨k,hc,OnC_lt ok,ok,fun j hj => ?_⟩
      obtain ⟨p,hp⟩ := List.mem_iff_getElem?.1 (hall j hj)
      have hpl := (List.getElem?_eq_some_iff.1 hp).1
      have hql := (List.getElem?_eq_some_iff.1 hq).1
      by_cases hpq : p < q
      · exact absurd hj (no j (List.mem_iff_getElem?.2 ⟨p,by rw [List.getElem?_take_of_lt hpq]; exact hp⟩))
      · by_cases e : p = q
        · subst e; rw [hp] at hq; cases hq; exact aLt_irrefl _ _
        · have := (List.pairwise_iff_getElem.1 s4) q p hql hpl (by omega)
          rw [(List.getElem?_eq_some_iff.1 hp).2,(List.getElem?_eq_some_iff.1 hq).2] at this
          exact this
  · have f1 : xload Try.prog 33 (.pointer (some ⟨g,0 + 1,none⟩)) h0 = .ok vn h0 := by rw [ld33,nn.n,ofO_some]
    have f2 : xload Try.prog 33 (.pointer (some ⟨g,0 + 2,none⟩)) h0 = .ok vu h0 := by rw [ld33,nn.u,ofO_some]
    have f3' : xload Try.prog 33 (.pointer (some ⟨g,0 + 1,none⟩)) h1 = .ok vn h1 := by rw [ld33,n1.n,ofO_some]
    have f4 : xload Try.prog 33 (.pointer (some ⟨g,0 + 2,none⟩)) h1 = .ok vu h1 := by rw [ld33,n1.u,ofO_some]
    rw [cM33,F33.eq,xnil_ptr,Res.ok1_ok,fa79_1,Res.ok1_ok,f1,Res.ok1_ok,xnil_ptr,Res.ok1_ok,fa79_2,Res.ok1_ok,f2,Res.ok1_ok,xnil_ptr,Res.ok1_ok,fa79_2,Res.ok1_ok,f2,Res.ok1_ok,xnil_ptr,Res.ok1_ok,fa79_1,Res.ok1_ok,f1,Res.ok1_ok,e1,go_ok,
      f4,LU.rc,f3',LN.rc,Bool.and_self,Bool.and_self,cond_true,e2,go_ok,xnil_ptr,go_ok,fa79_0,go_ok,ld22,n2.t,ofO_some,go_ok,T.len,go_ok,show (Value.int .i64 0) = .int .i64 ((0 : Nat) : Int) from rfl,e3,F33.j9_eq]
    show ((CLM (.f 39) [v3,aheadV g] h3).go .pan _) = _
    rw [e4,go_ok,o4.il.len,go_ok,nl_len]
    exact e5
end Go.Proofs.Ytdadiidfhnojcaa.K
namespace Go.Proofs.Ytdadiidfhnojcaa.K
open Go Go.Kx
set_option linter.unusedVariables false
set_option linter.unusedSimpArgs false
set_option maxRecDepth 20000
def ML (h : H) (v : Value) (br : Option Nat) (l : List Nat) : Prop :=
  (br = none ∧ v = .slice none 0 0 ∧ l = []) ∨
  ∃ b o c,br = some b ∧ h.get b = some (.cells c 3 0 true) ∧ ones c = true ∧ o ≤ c.length ∧
    ((v = .slice (some ⟨b,o,none⟩) l.length l.length ∧ l ≠ [] ∧ c.drop o = iv (nl l)) ∨ (v = .slice (some ⟨b,o,some 1⟩) 0 0 ∧ l = []))
theorem ML.nil {h : H} : ML h (.slice none 0 0) none [] := .inl ⟨rfl,rfl,rfl⟩
theorem ML.upd {S : Nat → Prop} {h h' : H} (u : Upd S h h') {v : Value} {br : Option Nat} {l : List Nat} (q : ML h v br l) (hS : ∀ b,br = some b → ¬ S b) : ML h' v br l := by
  refine q.imp id ?_
  rintro ⟨b,o,c,e,hg,r⟩
  exact ⟨b,o,c,e,u.old _ _ (hS b e) hg,r⟩
theorem ML.grow {h h' : H} (g : Grow h h') {v : Value} {br : Option Nat} {l : List Nat} (q : ML h v br l) : ML h' v br l := q.upd (g.upd fun _ => False) fun _ _ => id
theorem ML.len {h : H} {v : Value} {br : Option Nat} {l : List Nat} (q : ML h v br l) (h' : H) : xbuiltin Try.prog .len [27] [v] h' = .ok (.int .i64 (l.length : Nat)) h' := by
  rcases q with ⟨_,rfl,rfl⟩ | ⟨b,o,c,_,_,_,_,⟨rfl,_,_⟩ | ⟨rfl,rfl⟩⟩
  · exact ln27 _ _ _ _
  · exact ln27 _ _ _ _
  · exact ln27 _ _ _ _
theorem ML.at_ {h : H} {v : Value} {br : Option Nat} {l : List Nat} (q : ML h v br l) {i k : Nat} (hk : l[i]? = some k) : ∃ a,(∀ h',xindexAddr Try.prog 27 v (.int .i64 (i : Nat)) h' = .ok (.pointer (some a)) h') ∧ ∀ h',Grow h h' → xload Try.prog 3 (.pointer (some a)) h' = .ok (.int .i64 (k : Nat)) h' := by
  have hi := (List.getElem?_eq_some_iff.1 hk).1
  rcases q with ⟨_,rfl,rfl⟩ | ⟨b,o,c,_,hg,_,_,⟨rfl,_,e⟩ | ⟨rfl,rfl⟩⟩
  · simp at hi
  · refine ⟨⟨b,o + i * 1,none⟩,fun h' => ia27 _ _ _ _ _ _ _ h' hi,fun h' g => ?_⟩
    have hc : c[o + i]? = some (.int .i64 (k : Nat)) := by
      have := congrArg (fun x => x[i]?) e
      simp only [List.getElem?_drop,iv,nl,List.getElem?_map,hk,Option.map_some] at this
      exact this
    rw [ld3,H.cell_eq (g.old _ _ hg),Nat.mul_one,hc,ofO_some]
  · simp at hi
theorem ML.lt {h : H} {v : Value} {br : Option Nat} {l : List Nat} (q : ML h v br l) {b : Nat} (hb : br = some b) : b < h.next := by
  rcases q with ⟨e,_⟩ | ⟨b',o,c,e,hg,_⟩
  · rw [e] at hb; cases hb
  · rw [e] at hb; cases hb; exact H.get_lt hg
theorem insT_by (n : Nat) (h : n ≤ 60001) : Nat.ble (n * bytesOf Try.prog 3) 35184372088832 = true ∧ Nat.ble n 35184372088832 = true ∧ Nat.ble (bytesOf Try.prog 3) 1048576 = true := by
  have hb : bytesOf Try.prog 3 = 8 := by kernel_rfl
  rw [hb]
  exact ⟨Nat.ble_eq_true_of_le (by omega),Nat.ble_eq_true_of_le (by omega),rfl⟩
theorem eIns1 {h : H} {v : Value} {br : Option Nat} {l : List Nat} (q : ML h v br l) (few : l.length ≤ 60000) {i : Nat} (hi : i ≤ l.length) {vb x : Nat} (hv : h.get vb = some (.cells [.int .i64 (x : Nat)] 3 0 false)) :
    ∃ h' v',Upd (fun y => some y = br) h h' ∧ ML h' v' (some h.next) (l.take i ++ x :: l.drop i) ∧ CLM (.f 47) [v,.int .i64 (i : Nat),.slice (some ⟨vb,0,none⟩) 1 1] h = .ok v' h' := by
  have hce : Try.prog.cellsOf 3 = 1 := by kernel_rfl
  have hrow : h.row ⟨vb,0,none⟩ (1 * 1) = some [.int .i64 (x : Nat)] := H.row_all hv rfl
  have hone : ones [Value.int .i64 (x : Nat)] = true := rfl
  obtain ⟨c1,c2,c3⟩ := insT_by (l.length + 1) (by omega)
  have hzf : zeroFits Try.prog 3 = true := LI.zf
  have hlist : (iv (nl l)).take (i * 1) ++ ([Value.int .i64 (x : Nat)] ++ (iv (nl l)).drop (i * 1)) = iv (nl (l.take i ++ x :: l.drop i)) := by
    rw [Nat.mul_one]
    unfold iv nl
    simp only [List.map_append,List.map_take,List.map_cons,List.map_drop]
    rfl
  have hlen : (l.take i ++ x :: l.drop i).length = l.length + 1 := by simp; omega
  have fin : ∀ h2 : H,h2.next = h.next → ML (h2.alloc (.cells (iv (nl (l.take i ++ x :: l.drop i))) 3 0 true)) (.slice (some ⟨h.next,0,none⟩) (l.length + 1) (l.length + 1)) (some h.next) (l.take i ++ x :: l.drop i) := fun h2 e => by
    have hg := H.alloc_self h2 (.cells (iv (nl (l.take i ++ x :: l.drop i))) 3 0 true)
    rw [e] at hg
    exact .inr ⟨h.next,0,_,rfl,hg,iv_ones _,Nat.zero_le _,.inl ⟨by rw [hlen],by simp,rfl⟩⟩
  rw [cM47,pmInsert]
  rcases q with ⟨rfl,rfl,rfl⟩ | ⟨b,o,c,rfl,hg,hc,ho,⟨rfl,hne,e⟩ | ⟨rfl,rfl⟩⟩
  · have hi0 : i = 0 := by simpa using hi
    subst hi0
    have e : insP Try.prog 27 [.slice none 0 0,.int .i64 ((0 : Nat) : Int),.slice (some ⟨vb,0,none⟩) 1 1] h = .ok (.slice (some ⟨h.next,0,none⟩) (0 + 1) (0 + 1)) (h.alloc (.cells (iv (nl [x])) 3 0 true)) := by
      unfold insP
      simp only [LI.el,hce,firstC,hrow,insOk,hv,hone,hzf]
      simp only [List.length_nil,Nat.zero_add] at c1 c2
      simp [c1,c2,c3,H.leave]
      rfl
    exact ⟨_,_,(Upd.refl _ h).alloc _,fin h rfl,e⟩
  · have hbv : b ≠ vb := fun z => by subst z; rw [hg] at hv; simp at hv
    have hcl : c.length = o + l.length := by
      have := congrArg List.length e
      rw [List.length_drop,iv_len,nl_len] at this
      have : l.length ≠ 0 := fun z => hne (List.length_eq_zero_iff.1 z)
      omega
    have hfirst : h.row ⟨b,o,none⟩ (l.length * 1) = some (iv (nl l)) := by
      rw [H.row_eq hg (by omega),e,List.take_of_length_le (by rw [iv_len,nl_len]; omega)]
    have hbq : Nat.beq b vb = false := beqF hbv
    have k1 : Nat.ble i l.length = true := Nat.ble_eq_true_of_le hi
    have k2 : Nat.ble l.length l.length = true := Nat.ble_eq_true_of_le (Nat.le_refl _)
    have E : insP Try.prog 27 [.slice (some ⟨b,o,none⟩) l.length l.length,.int .i64 (i : Int),.slice (some ⟨vb,0,none⟩) 1 1] h = .ok (.slice (some ⟨h.next,0,none⟩) (l.length + 1) (l.length + 1)) ((h.put b .dead).alloc (.cells (iv (nl (l.take i ++ x :: l.drop i))) 3 0 true)) := by
      have hlist' := hlist
      unfold insP
      simp only [LI.el,hce,firstC,hrow,hfirst,insOk,hg,hv,hone,hzf,hc]
      rw [← hlist]
      simp [c1,c2,c3,H.leave,hg,hbq,k1,k2,show Nat.blt 0 1 = true from rfl,show Nat.ble 1 1 = true from rfl]
      rfl
    exact ⟨_,_,((Upd.refl (fun y => some y = some b) h).put (.inl rfl) (H.get_lt hg) _).alloc _,fin _ rfl,E⟩
  · have hi0 : i = 0 := by simpa using hi
    subst hi0
    have hbv : b ≠ vb := fun z => by subst z; rw [hg] at hv; simp at hv
    have hbq : Nat.beq b vb = false := beqF hbv
    have hfirst : h.row ⟨b,o,none⟩ (0 * 1) = some [] := by rw [H.row_eq hg (by omega)]; simp
    have E : insP Try.prog 27 [.slice (some ⟨b,o,some 1⟩) 0 0,.int .i64 ((0 : Nat) : Int),.slice (some ⟨vb,0,none⟩) 1 1] h = .ok (.slice (some ⟨h.next,0,none⟩) (0 + 1) (0 + 1)) ((h.put b .dead).alloc (.cells (iv (nl [x])) 3 0 true)) := by
      unfold insP
      simp only [LI.el,hce,firstC,hrow,hfirst,insOk,hg,hv,hone,hzf,hc]
      simp only [List.length_nil,Nat.zero_add] at c1 c2
      simp [c1,c2,c3,H.leave,hg,hbq]
      rfl
    exact ⟨_,_,((Upd.refl (fun y => some y = some b) h).put (.inl rfl) (H.get_lt hg) _).alloc _,fin _ rfl,E⟩
theorem ML.pop {h : H} {v : Value} {br : Option Nat} {x : Nat} {l : List Nat} (q : ML h v br (x :: l)) :
    (∃ a,(∀ h',xindexAddr Try.prog 27 v (.int .i64 0) h' = .ok (.pointer (some a)) h') ∧ xload Try.prog 3 (.pointer (some a)) h = .ok (.int .i64 (x : Nat)) h) ∧
    ∃ v',xslice Try.prog 27 v (some (.int .i64 1)) none none h = .ok v' h ∧ ML h v' br l := by
  refine ⟨?_,?_⟩
  · obtain ⟨a,a1,a2⟩ := q.at_ (i := 0) rfl
    exact ⟨a,a1,a2 _ (Grow.refl h)⟩
  rcases q with ⟨_,_,e⟩ | ⟨b,o,c,rfl,hg,hc,ho,⟨rfl,hne,e⟩ | ⟨_,e⟩⟩
  · cases e
  · have hcl : c.length = o + (l.length + 1) := by
      have := congrArg List.length e
      rw [List.length_drop,iv_len,nl_len,List.length_cons] at this
      omega
    rw [List.length_cons]
    cases l with
    | nil =>
      have T := xslice_e (P := Try.prog) (t := 27) (lo := some (.int .i64 1)) (hi := none) (o := o) (n := 1) (cap := 1) un27 sz3 hg rfl rfl rfl
      exact ⟨_,T,.inr ⟨b,o,c,rfl,hg,hc,ho,.inr ⟨rfl,rfl⟩⟩⟩
    | cons y l =>
      have T := xslice_o (P := Try.prog) (t := 27) (lo := some (.int .i64 1)) (hi := none) (o := o) (n := (y :: l).length + 1) (cap := (y :: l).length + 1) un27 sz3 hg rfl (l := 1) (u := (y :: l).length + 1) rfl rfl (by omega) (by omega) (by simp)
      rw [show Try.prog.cellsOf 3 = 1 by kernel_rfl] at T
      refine ⟨_,T,.inr ⟨b,o + 1,c,rfl,hg,hc,by rw [hcl]; simp only [List.length_cons]; omega,.inl ⟨by simp,by simp,?_⟩⟩⟩
      rw [← List.drop_drop,e]
      rfl
  · cases e
theorem bs_loop {hN h0 : H} {g : Nat} {vt v : Value} {ts : List TK} {br : Option Nat} {l : List Nat} {x : Nat} (N : Net hN g ts vt) (J : Grow hN h0) (q : ML h0 v br l) (hx : x < ts.length) (hl : ∀ k ∈ l,k < ts.length) (few : l.length ≤ 60000)
    (hs : l.Pairwise fun i j : Nat => aLt ts (i : Int) (j : Int) = true) : ∀ (m lo hi : Nat) {h : H},hi - lo = m → lo ≤ hi → hi ≤ l.length → Grow h0 h → (∀ p k,p < lo → l[p]? = some k → aLt ts (k : Int) (x : Int) = true) → (∀ p k,hi ≤ p → l[p]? = some k → aLt ts (k : Int) (x : Int) = false) →
    ∃ (h' : H) (at' : Nat) (fd : Bool),Grow h0 h' ∧ at' ≤ l.length ∧ (∀ p k,p < at' → l[p]? = some k → aLt ts (k : Int) (x : Int) = true) ∧ (∀ p k,at' ≤ p → l[p]? = some k → aLt ts (k : Int) (x : Int) = false) ∧
      F46.l3 Try.prog CLM nu0 nu0 v (.int .i64 (x : Nat)) (aheadV g) (.int .i64 (l.length : Nat)) (.int .i64 (lo : Nat)) (.int .i64 (hi : Nat)) h = .ok (.tuple ⟨[.int .i64 (at' : Nat),.bool fd]⟩) h' := by
  intro m
  induction m using Nat.strongRecOn with
  | ind m ih =>
  intro lo hi h hm h1 h2 G p1 p2
  by_cases hlt : lo < hi
  · obtain ⟨mid,hmid⟩ : ∃ mid,mid = (lo + hi) / 2 := ⟨_,rfl⟩
    have hmlo : lo ≤ mid := by omega
    have hmhi : mid < hi := by omega
    have hk : l[mid]? = some l[mid] := List.getElem?_eq_getElem (by omega)
    obtain ⟨k,hkd⟩ : ∃ k,k = l[mid] := ⟨_,rfl⟩
    rw [← hkd] at hk
    obtain ⟨a,a1,a2⟩ := q.at_ hk
    obtain ⟨h3,g3,e3⟩ := callA (N.grow (J.trans G)) (hl k (List.mem_of_getElem? hk)) hx
    have w1 : IntKind.u64.wrap ((lo + hi : Nat) : Int) = ((lo + hi : Nat) : Int) := wun (by omega)
    have w2 : (((lo + hi : Nat) : Int)).fdiv 2 = ((mid : Nat) : Int) := by rw [Int.fdiv_eq_ediv_of_nonneg _ (by omega)]; omega
    have hE : F46.l3 Try.prog CLM nu0 nu0 v (.int .i64 (x : Nat)) (aheadV g) (.int .i64 (l.length : Nat)) (.int .i64 (lo : Nat)) (.int .i64 (hi : Nat)) h =
        if aLt ts (k : Int) (x : Int) = true then F46.l3 Try.prog CLM nu0 nu0 v (.int .i64 (x : Nat)) (aheadV g) (.int .i64 (l.length : Nat)) (.int .i64 ((mid + 1 : Nat) : Int)) (.int .i64 (hi : Nat)) h3
        else F46.l3 Try.prog CLM nu0 nu0 v (.int .i64 (x : Nat)) (aheadV g) (.int .i64 (l.length : Nat)) (.int .i64 (lo : Nat)) (.int .i64 (mid : Nat)) h3 := by
      rw [F46.l3_eq,xlss,go_ok,ifV_dec,if_pos (by omega),F46.j4_eq,xadd,go_ok,wadd (by omega),cv3_95,go_ok,w1,xshr1,go_ok,w2,cv95_3,go_ok,wn (by omega),a1,go_ok,a2 _ G,go_ok,e3,go_ok,xlss,go_ok,ifV_dec]
      cases hq : aLt ts (k : Int) (x : Int) with
      | true =>
        have hc : (if true = true then (-1 : Int) else if aLt ts (x : Int) (k : Int) = true then 1 else 0) < 0 := by rw [if_pos rfl]; omega
        rw [if_pos hc,if_pos rfl,xadd,go_ok,wadd1 (by omega)]
      | false =>
        have hc : ¬ (if false = true then (-1 : Int) else if aLt ts (x : Int) (k : Int) = true then 1 else 0) < 0 := by
          rw [if_neg (by simp)]; split <;> omega
        rw [if_neg hc,if_neg (by simp)]
    rw [hE]
    cases hq : aLt ts (k : Int) (x : Int) with
    | true =>
      rw [if_pos rfl]
      refine ih (hi - (mid + 1)) (by omega) (mid + 1) hi rfl (by omega) h2 (G.trans g3) (fun p y hp hy => ?_) p2
      by_cases e : p = mid
      · subst e; rw [hk] at hy; cases hy; exact hq
      · have hpl := (List.getElem?_eq_some_iff.1 hy).1
        have := (List.pairwise_iff_getElem.1 hs) p mid hpl (by omega) (by omega)
        rw [(List.getElem?_eq_some_iff.1 hy).2,← hkd] at this
        exact aLt_trans this hq
    | false =>
      rw [if_neg (by simp)]
      refine ih (mid - lo) (by omega) lo mid rfl hmlo (by omega) (G.trans g3) p1 (fun p y hp hy => ?_)
      by_cases e : p = mid
      · subst e; rw [hk] at hy; cases hy; exact hq
      · have hpl := (List.getElem?_eq_some_iff.1 hy).1
        have := (List.pairwise_iff_getElem.1 hs) mid p (by omega) hpl (by omega)
        rw [(List.getElem?_eq_some_iff.1 hy).2,← hkd] at this
        cases hz : aLt ts (y : Int) (x : Int) with
        | false => rfl
        | true => have := aLt_trans this hz; rw [hq] at this; cases this
  · have : lo = hi := by omega
    subst this
    by_cases hend : lo < l.length
    · have hk : l[lo]? = some l[lo] := List.getElem?_eq_getElem hend
      obtain ⟨k,hkd⟩ : ∃ k,k = l[lo] := ⟨_,rfl⟩
      rw [← hkd] at hk
      obtain ⟨a,a1,a2⟩ := q.at_ hk
      obtain ⟨h3,g3,e3⟩ := callA (N.grow (J.trans G)) (hl k (List.mem_of_getElem? hk)) hx
      refine ⟨h3,lo,decide ((if aLt ts (k : Int) (x : Int) = true then (-1 : Int) else if aLt ts (x : Int) (k : Int) = true then 1 else 0) = 0),G.trans g3,h2,p1,p2,?_⟩
      rw [F46.l3_eq,xlss,go_ok,ifV_dec,if_neg (by omega),F46.j8_eq,xlss,go_ok,ifV_dec,if_pos (by omega),a1,go_ok,a2 _ G,go_ok,e3,go_ok,xeql,go_ok]
    · refine ⟨h,lo,false,G,h2,p1,p2,?_⟩
      rw [F46.l3_eq,xlss,go_ok,ifV_dec,if_neg (by omega),F46.j8_eq,xlss,go_ok,ifV_dec,if_neg (by omega)]
theorem eInsert {hN h : H} {g : Nat} {vt v : Value} {ts : List TK} {br : Option Nat} {l : List Nat} {x : Nat} (N : Net hN g ts vt) (J : Grow hN h) (q : ML h v br l) (hx : x < ts.length) (hl : ∀ k ∈ l,k < ts.length) (few : l.length ≤ 60000)
    (hs : l.Pairwise fun i j : Nat => aLt ts (i : Int) (j : Int) = true) (hxl : x ∉ l) :
    ∃ h' v' b' l',Upd (fun y => some y = br) h h' ∧ ML h' v' (some b') l' ∧ h.next ≤ b' ∧ l'.Perm (x :: l) ∧ (l'.Pairwise fun i j : Nat => aLt ts (i : Int) (j : Int) = true) ∧
      CLM (.f 34) [.pointer (some ⟨g,0,none⟩),v,.int .i64 (x : Nat)] h = .ok v' h' := by
  obtain ⟨h1,i,fd,G1,hi,p1,p2,e1⟩ := bs_loop N J q hx hl few hs (l.length - 0) 0 l.length rfl (Nat.zero_le _) (Nat.le_refl _) (Grow.refl h) (fun p k hp => absurd hp (Nat.not_lt_zero _)) (fun p k hp hk => by have := (List.getElem?_eq_some_iff.1 hk).1; omega)
  have hb : h1.next ≤ h1.next := Nat.le_refl _
  have G2 : Grow h1 (h1.alloc (.cells [.int .i64 (x : Nat)] 3 0 false)) := (Grow.refl h1).alloc _
  obtain ⟨h',v',u,ml,e2⟩ := eIns1 (q.grow (G1.trans G2)) few hi (H.alloc_self h1 (.cells [.int .i64 (x : Nat)] 3 0 false))
  refine ⟨h',v',_,_,((G1.trans G2).upd _).trans u,ml,Nat.le_trans G1.next (Nat.le_succ _),?_,?_,?_⟩
  · refine (List.perm_middle).trans (List.Perm.cons x ?_)
    rw [List.take_append_drop]
  · have hat : ∀ k ∈ l.take i,aLt ts (k : Int) (x : Int) = true := fun k hk => by
      obtain ⟨p,hp⟩ := List.mem_iff_getElem?.1 hk
      have hpi := (List.getElem?_eq_some_iff.1 hp).1
      rw [List.length_take] at hpi
      rw [List.getElem?_take_of_lt (by omega)] at hp
      exact p1 p k (by omega) hp
    have hbt : ∀ k ∈ l.drop i,aLt ts (x : Int) (k : Int) = true := fun k hk => by
      obtain ⟨p,hp⟩ := List.mem_iff_getElem?.1 hk
      rw [List.getElem?_drop] at hp
      have h2 := p2 (i + p) k (by omega) hp
      rcases aLt_tri ts (k : Int) (x : Int) with z | z | z
      · rw [h2] at z; cases z
      · have : k = x := by omega
        exact absurd (this ▸ List.mem_of_getElem? hp) hxl
      · exact z
    rw [List.pairwise_append,List.pairwise_cons]
    refine ⟨hs.sublist (List.take_sublist _ _),⟨hbt,hs.sublist (List.drop_sublist _ _)⟩,fun a ha b hb => ?_⟩
    rcases List.mem_cons.1 hb with z | z
    · subst z; exact hat a ha
    · exact aLt_trans (hat a ha) (hbt b z)
  · have eb : xbuildSlice Try.prog 27 1 [(0,.int .i64 (x : Nat))] h1 = .ok (.slice (some ⟨h1.next,0,none⟩) 1 1) (h1.alloc (.cells [.int .i64 (x : Nat)] 3 0 false)) := by kernel_rfl
    have ec : CLM (.f 46) [v,.int .i64 (x : Nat),aheadV g] h = .ok (.tuple ⟨[.int .i64 (i : Nat),.bool fd]⟩) h1 := by
      rw [cM46,F46.eq,q.len,go_ok]
      exact e1
    rw [cM34,F34.eq]
    show ((CLM (.f 46) [v,.int .i64 (x : Nat),aheadV g] h).go .pan _) = _
    rw [ec,go_ok,xextract_0,go_ok,xextract_1,go_ok,eb,go_ok,e2,go_ok]
end Go.Proofs.Ytdadiidfhnojcaa.K
namespace Go.Proofs.Ytdadiidfhnojcaa.K
open Go Go.Kx
set_option linter.unusedVariables false
set_option linter.unusedSimpArgs false
set_option maxRecDepth 20000
theorem cyc_ex {f : Nat → List Nat} : ∀ (m : Nat) (U : List Nat),U.length ≤ m → U ≠ [] → (∀ u ∈ U,∃ v ∈ U,v ∈ f u) → ∃ c,OnC f c := by
  intro m
  induction m with
  | zero => intro U h1 h2 _; exact absurd (List.length_eq_zero_iff.1 (by omega)) h2
  | succ m ih =>
    intro U h1 h2 h3
    obtain ⟨u,hu⟩ : ∃ u,u ∈ U := List.exists_mem_of_ne_nil _ h2
    by_cases hc : OnC f u
    · exact ⟨u,hc⟩
    · classical
      obtain ⟨v,hv,hv2⟩ := h3 u hu
      refine ih (U.filter fun w => decide (Path f u w)) ?_ (List.ne_nil_of_mem (List.mem_filter.2 ⟨hv,decide_eq_true (Path.one hv2)⟩)) fun w hw => ?_
      · have hlt : (U.filter fun w => decide (Path f u w)).length < U.length := by
          refine Nat.lt_of_le_of_ne (List.length_filter_le _ _) fun e => ?_
          have := List.length_filter_eq_length_iff.1 e u hu
          exact hc (of_decide_eq_true this)
        omega
      · obtain ⟨hw1,hw2⟩ := List.mem_filter.1 hw
        obtain ⟨x,hx,hx2⟩ := h3 w hw1
        exact ⟨x,List.mem_filter.2 ⟨hx,decide_eq_true ((of_decide_eq_true hw2).snoc hx2)⟩,hx2⟩
def NoC (ts : List TK) : Prop := ∀ k,¬ OnC (nd ts) k
def Ready (ts : List TK) (R : List Nat) (j : Nat) : Prop := j < ts.length ∧ j ∉ R ∧ ∀ k ∈ nd ts j,k ∈ R
def Pick (ts : List TK) (R : List Nat) (x : Nat) : Prop := Ready ts R x ∧ ∀ j,Ready ts R j → j = x ∨ aLt ts (x : Int) (j : Int) = true
def IsOrd (ts : List TK) (out : List Nat) : Prop := ∀ k x,out[k]? = some x → Pick ts (out.take k) x
theorem ready_ex {ts : List TK} (h : NoC ts) {R : List Nat} (hR : R.length < ts.length) : ∃ j,Ready ts R j := by
  apply Classical.byContradiction
  intro no
  have hU : (List.range ts.length).filter (fun j => decide (j ∉ R)) ≠ [] := fun e => by
    rw [List.filter_eq_nil_iff] at e
    have : (List.range ts.length).Nodup := List.nodup_range
    have hl := List.Nodup.length_le_of_subset this (l₂ := R) fun j hj => by have := e j hj; simpa using this
    rw [List.length_range] at hl; omega
  obtain ⟨c,hc⟩ := cyc_ex (f := nd ts) _ _ (Nat.le_refl _) hU fun u hu => by
    obtain ⟨h1,h2⟩ := List.mem_filter.1 hu
    have h3 : u ∉ R := of_decide_eq_true h2
    apply Classical.byContradiction
    intro hn
    refine no ⟨u,List.mem_range.1 h1,h3,fun k hk => ?_⟩
    apply Classical.byContradiction
    intro hkR
    exact hn ⟨k,List.mem_filter.2 ⟨List.mem_range.2 (nd_lt hk),decide_eq_true hkR⟩,hk⟩
  exact h c hc
theorem Kahn.ready {ts : List TK} {R F : List Nat} (k : Kahn ts.length (nd ts) R F) {j : Nat} : Ready ts R j ↔ j ∈ F := by
  have nd' := k.nod
  rw [List.nodup_append] at nd'
  constructor
  · rintro ⟨h1,h2,h3⟩
    exact ((List.mem_append.1 ((k.z j h1).1 (cntN_zero.2 h3))).elim (fun z => absurd z h2) id)
  · intro h
    have hj := k.lt j (by simp [h])
    exact ⟨hj,fun z => nd'.2.2 j z j h rfl,cntN_zero.1 ((k.z j hj).2 (by simp [h]))⟩
theorem Kahn.done {ts : List TK} {R : List Nat} (k : Kahn ts.length (nd ts) R []) (h : NoC ts) : R.length = ts.length := by
  have hl := k.len
  rw [List.append_nil] at hl
  apply Classical.byContradiction
  intro hne
  obtain ⟨j,hj⟩ := ready_ex h (R := R) (by omega)
  have := k.ready.1 hj
  simp at this
theorem Kahn.pick {ts : List TK} {R F : List Nat} {x : Nat} (k : Kahn ts.length (nd ts) R (x :: F)) (hs : (x :: F).Pairwise fun i j : Nat => aLt ts (i : Int) (j : Int) = true) : Pick ts R x :=
  ⟨k.ready.2 (by simp),fun j hj => by
    rcases List.mem_cons.1 (k.ready.1 hj) with z | z
    · exact .inl z
    · exact .inr ((List.pairwise_cons.1 hs).1 j z)⟩
theorem Pick.uniq {ts : List TK} {R : List Nat} {x y : Nat} (p : Pick ts R x) (q : Pick ts R y) : x = y := by
  rcases p.2 y q.1 with h | h
  · exact h.symm
  · rcases q.2 x p.1 with h2 | h2
    · exact h2
    · have := aLt_asymm h; rw [h2] at this; cases this
theorem IsOrd.nil (ts : List TK) : IsOrd ts [] := fun k x h => by simp at h
theorem IsOrd.snoc {ts : List TK} {R : List Nat} {x : Nat} (h : IsOrd ts R) (p : Pick ts R x) : IsOrd ts (R ++ [x]) := fun k y hk => by
  have hl := (List.getElem?_eq_some_iff.1 hk).1
  rw [List.length_append,List.length_singleton] at hl
  by_cases e : k = R.length
  · subst e
    rw [List.getElem?_append_right (Nat.le_refl _),Nat.sub_self] at hk
    simp only [List.getElem?_cons_zero,Option.some.injEq] at hk
    subst hk
    rw [List.take_left]; exact p
  · rw [List.getElem?_append_left (by omega)] at hk
    rw [List.take_append_of_le_length (by omega)]
    exact h k y hk
theorem IsOrd.uniq {ts : List TK} {a b : List Nat} (p : IsOrd ts a) (q : IsOrd ts b) (hl : a.length = b.length) : a = b := by
  have h : ∀ k,k ≤ a.length → a.take k = b.take k := by
    intro k
    induction k with
    | zero => intro _; simp
    | succ k ih =>
      intro hk
      have e := ih (by omega)
      have h1 := p k _ (List.getElem?_eq_getElem (by omega))
      have h2 := q k _ (List.getElem?_eq_getElem (show k < b.length by omega))
      rw [← e] at h2
      rw [List.take_add_one,List.take_add_one,e,List.getElem?_eq_getElem (show k < a.length by omega),List.getElem?_eq_getElem (show k < b.length by omega),h1.uniq h2]
  have := h a.length (Nat.le_refl _)
  rwa [List.take_length,hl,List.take_length] at this
theorem IsOrd.nodup {ts : List TK} {a : List Nat} (p : IsOrd ts a) : a.Nodup := by
  rw [List.Nodup,List.pairwise_iff_getElem]
  intro i j hi hj hij e
  have h := (p j _ (List.getElem?_eq_getElem hj)).1.2.1
  apply h
  rw [← e]
  exact List.mem_iff_getElem?.2 ⟨i,by rw [List.getElem?_take_of_lt hij]; exact List.getElem?_eq_getElem hi⟩
theorem IsOrd.lt {ts : List TK} {a : List Nat} (p : IsOrd ts a) {x : Nat} (h : x ∈ a) : x < ts.length := by
  obtain ⟨k,hk⟩ := List.mem_iff_getElem?.1 h
  exact (p k x hk).1.1
theorem IsOrd.mem {ts : List TK} {a : List Nat} (p : IsOrd ts a) (hl : a.length = ts.length) {x : Nat} (h : x < ts.length) : x ∈ a := by
  apply Classical.byContradiction
  intro hn
  have hnd : (x :: a).Nodup := List.nodup_cons.2 ⟨hn,p.nodup⟩
  have := List.Nodup.length_le_of_subset hnd (l₂ := List.range ts.length) fun j hj => List.mem_range.2 ((List.mem_cons.1 hj).elim (fun z => z ▸ h) fun z => p.lt z)
  rw [List.length_cons,List.length_range] at this
  omega
theorem IsOrd.before {ts : List TK} {a : List Nat} (p : IsOrd ts a) {k x y : Nat} (hk : a[k]? = some x) (hy : y ∈ nd ts x) : y ∈ a.take k := (p k x hk).1.2.2 y hy
def lvS (ts : List TK) (L : Nat → Nat) (i : Nat) : Nat := (nd ts i).foldl (fun a j => max a (L j + 1)) 0
def IsLev (ts : List TK) (L : Nat → Nat) : Prop := ∀ i,i < ts.length → L i = lvS ts L i
theorem foldl_max {L : Nat → Nat} : ∀ (l : List Nat) (a : Nat),a ≤ l.foldl (fun a j => max a (L j + 1)) a ∧ (∀ j ∈ l,L j < l.foldl (fun a j => max a (L j + 1)) a) ∧ (l.foldl (fun a j => max a (L j + 1)) a = a ∨ ∃ j ∈ l,l.foldl (fun a j => max a (L j + 1)) a = L j + 1)
  | [],a => ⟨Nat.le_refl _,(fun j hj => by cases hj),.inl rfl⟩
  | x :: l,a => by
    obtain ⟨h1,h2,h3⟩ := foldl_max l (max a (L x + 1))
    have m1 := Nat.le_max_left a (L x + 1)
    have m2 := Nat.le_max_right a (L x + 1)
    rw [List.foldl_cons]
    refine ⟨Nat.le_trans m1 h1,fun j hj => ?_,?_⟩
    · rcases List.mem_cons.1 hj with z | z
      · subst z; exact Nat.lt_of_lt_of_le (Nat.lt_succ_self _) (Nat.le_trans m2 h1)
      · exact h2 j z
    · rcases h3 with z | ⟨j,hj,z⟩
      · by_cases e : L x + 1 ≤ a
        · exact .inl (z.trans (Nat.max_eq_left e))
        · exact .inr ⟨x,by simp,z.trans (Nat.max_eq_right (by omega))⟩
      · exact .inr ⟨j,by simp [hj],z⟩
theorem lv_lt {ts : List TK} {L : Nat → Nat} (h : IsLev ts L) {i j : Nat} (hi : i < ts.length) (hj : j ∈ nd ts i) : L j < L i := by
  rw [h i hi]; exact (foldl_max (nd ts i) 0).2.1 j hj
theorem lv_uniq {ts : List TK} {L M : Nat → Nat} (h : IsLev ts L) (k : IsLev ts M) : ∀ (m i : Nat),i < ts.length → L i ≤ m → L i = M i := by
  intro m
  induction m with
  | zero =>
    intro i hi hm
    have hn : nd ts i = [] := by
      cases e : nd ts i with
      | nil => rfl
      | cons a l => have := lv_lt h hi (j := a) (by rw [e]; simp); omega
    rw [h i hi,k i hi]; unfold lvS; rw [hn]; rfl
  | succ m ih =>
    intro i hi hm
    rw [h i hi,k i hi]
    unfold lvS
    have : ∀ j ∈ nd ts i,L j = M j := fun j hj => ih j (nd_lt hj) (by have := lv_lt h hi hj; omega)
    have aux : ∀ (l : List Nat) (a : Nat),(∀ j ∈ l,L j = M j) → l.foldl (fun a j => max a (L j + 1)) a = l.foldl (fun a j => max a (M j + 1)) a := by
      intro l
      induction l with
      | nil => intro a _; rfl
      | cons x l ih => intro a ha; rw [List.foldl_cons,List.foldl_cons,ha x (by simp)]; exact ih _ fun j hj => ha j (by simp [hj])
    exact aux _ _ this
structure IsLevs (ts : List TK) (L : Nat → Nat) (ls : List (List Nat)) : Prop where
  lv : IsLev ts L
  s : ∀ l ∈ ls,l.Pairwise fun i j : Nat => aLt ts (i : Int) (j : Int) = true
  m : ∀ k l,ls[k]? = some l → ∀ i,i ∈ l ↔ i < ts.length ∧ L i = k
  a : ∀ i,i < ts.length → L i < ls.length
  ne : ∀ l ∈ ls,l ≠ []
theorem sorted_eq {ts : List TK} : ∀ {l m : List Nat},(l.Pairwise fun i j : Nat => aLt ts (i : Int) (j : Int) = true) → (m.Pairwise fun i j : Nat => aLt ts (i : Int) (j : Int) = true) → (∀ z,z ∈ l ↔ z ∈ m) → l = m
  | [],[],_,_,_ => rfl
  | [],b :: m,_,_,h => absurd ((h b).2 List.mem_cons_self) List.not_mem_nil
  | a :: l,[],_,_,h => absurd ((h a).1 List.mem_cons_self) List.not_mem_nil
  | a :: l,b :: m,hl,hm,h => by
    have hl' := List.pairwise_cons.1 hl
    have hm' := List.pairwise_cons.1 hm
    have irr : ∀ x : Nat,¬ aLt ts (x : Int) (x : Int) = true := fun x z => by rw [aLt_irrefl] at z; cases z
    have e : a = b := by
      rcases List.mem_cons.1 ((h a).1 List.mem_cons_self) with e | e
      · exact e
      · rcases List.mem_cons.1 ((h b).2 List.mem_cons_self) with e2 | e2
        · exact e2.symm
        · exact absurd (aLt_trans (hl'.1 b e2) (hm'.1 a e)) (irr a)
    subst e
    refine congrArg (a :: ·) (sorted_eq hl'.2 hm'.2 fun z => ⟨fun hz => ?_,fun hz => ?_⟩)
    · rcases List.mem_cons.1 ((h z).1 (List.mem_cons_of_mem _ hz)) with e | e
      · exact absurd (e ▸ hl'.1 z hz) (irr a)
      · exact e
    · rcases List.mem_cons.1 ((h z).2 (List.mem_cons_of_mem _ hz)) with e | e
      · exact absurd (e ▸ hm'.1 z hz) (irr a)
      · exact e
theorem IsLevs.uniq {ts : List TK} {L M : Nat → Nat} {a b : List (List Nat)} (p : IsLevs ts L a) (q : IsLevs ts M b) : a = b := by
  have hLM : ∀ i,i < ts.length → L i = M i := fun i hi => lv_uniq p.lv q.lv _ i hi (Nat.le_refl _)
  have one : ∀ {L M : Nat → Nat} {a b : List (List Nat)},IsLevs ts L a → IsLevs ts M b → (∀ i,i < ts.length → L i = M i) → b.length ≤ a.length := by
    intro L M a b p q h
    apply Classical.byContradiction
    intro hlt
    have hk := List.getElem?_eq_getElem (show a.length < b.length by omega)
    obtain ⟨i,hi⟩ := List.exists_mem_of_ne_nil _ (q.ne _ (List.mem_of_getElem? hk))
    obtain ⟨h1,h2⟩ := (q.m _ _ hk i).1 hi
    have := p.a i h1
    rw [h i h1,h2] at this
    omega
  have hlen : a.length = b.length := Nat.le_antisymm (one q p fun i hi => (hLM i hi).symm) (one p q hLM)
  refine List.ext_getElem hlen fun k h1 h2 => ?_
  have e1 := List.getElem?_eq_getElem h1
  have e2 := List.getElem?_eq_getElem h2
  refine sorted_eq (p.s _ (List.mem_of_getElem? e1)) (q.s _ (List.mem_of_getElem? e2)) fun z => ?_
  rw [p.m _ _ e1,q.m _ _ e2]
  constructor
  · rintro ⟨x,y⟩; exact ⟨x,by rw [← hLM z x]; exact y⟩
  · rintro ⟨x,y⟩; exact ⟨x,by rw [hLM z x]; exact y⟩
end Go.Proofs.Ytdadiidfhnojcaa.K
