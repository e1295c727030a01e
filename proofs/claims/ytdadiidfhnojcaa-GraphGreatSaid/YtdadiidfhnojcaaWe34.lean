/- My texts for this claim, in one file: part 34. -/
import Derived.Test.YtdadiidfhnojcaaWe33
namespace Go.Proofs.Ytdadiidfhnojcaa.K
open Go Go.Kx
set_option linter.unusedVariables false
set_option linter.unusedSimpArgs false
set_option maxRecDepth 20000
def Row (h : H) (b o : Nat) (r : List Value) : Prop := ∃ c el f op,h.get b = some (.cells c el f op) ∧ o + r.length ≤ c.length ∧ (c.drop o).take r.length = r
theorem Row.grow {h h' : H} (g : Grow h h') {b o : Nat} {r : List Value} (q : Row h b o r) : Row h' b o r := by
  obtain ⟨c,el,f,op,hg,h1,h2⟩ := q
  exact ⟨c,el,f,op,g.old _ _ hg,h1,h2⟩
theorem Row.upd {S : Nat → Prop} {h h' : H} (u : Upd S h h') {b o : Nat} {r : List Value} (q : Row h b o r) (hS : ¬ S b) : Row h' b o r := by
  obtain ⟨c,el,f,op,hg,h1,h2⟩ := q
  exact ⟨c,el,f,op,u.old _ _ hS hg,h1,h2⟩
theorem Row.row {h : H} {b o : Nat} {r : List Value} (q : Row h b o r) {n : Nat} (hn : r.length = n) : h.row ⟨b,o,none⟩ n = some r := by
  obtain ⟨c,el,f,op,hg,h1,h2⟩ := q
  subst hn
  rw [H.row_eq hg h1,h2]
theorem Row.cell {h : H} {b o : Nat} {r : List Value} (q : Row h b o r) {j : Nat} {v : Value} (hv : r[j]? = some v) : h.cell ⟨b,o + j,none⟩ = some v := by
  obtain ⟨c,el,f,op,hg,h1,h2⟩ := q
  have hj := (List.getElem?_eq_some_iff.1 hv).1
  rw [H.cell_eq hg]
  rw [← h2,List.getElem?_take_of_lt hj,List.getElem?_drop] at hv
  exact hv
theorem Row.sub {h : H} {b o : Nat} {r : List Value} (q : Row h b o r) {k m : Nat} (hk : k + m ≤ r.length) : Row h b (o + k) ((r.drop k).take m) := by
  obtain ⟨c,el,f,op,hg,h1,h2⟩ := q
  have hl : ((r.drop k).take m).length = m := by rw [List.length_take,List.length_drop]; omega
  obtain ⟨n,hn⟩ : ∃ n,n = r.length := ⟨_,rfl⟩
  rw [← hn] at h1 h2 hk
  refine ⟨c,el,f,op,hg,by rw [hl]; omega,?_⟩
  rw [hl,← h2,List.drop_take,List.take_take,Nat.min_eq_left (by omega),List.drop_drop]
theorem Row.lt {h : H} {b o : Nat} {r : List Value} (q : Row h b o r) : b < h.next := by
  obtain ⟨c,el,f,op,hg,h1,h2⟩ := q
  exact H.get_lt hg
def Nul (v : Value) : Prop := v = .slice none 0 0 ∨ ∃ b o k,v = .slice (some ⟨b,o,some (k + 2)⟩) 0 0
theorem Nul.nil : Nul (.slice none 0 0) := .inl rfl
theorem Nul.val {v : Value} (q : Nul v) : ∃ a,v = .slice a 0 0 := by
  rcases q with rfl | ⟨b,o,k,rfl⟩
  · exact ⟨_,rfl⟩
  · exact ⟨_,rfl⟩
def Sl (E : Nat) (h : H) (v : Value) (rows : List (List Value)) : Prop :=
  GoodR E rows ∧ ((Nul v ∧ rows = []) ∨ ∃ b o sp cap,v = .slice (some ⟨b,o,sp⟩) rows.length cap ∧ Row h b o rows.flatten)
theorem Sl.grow {E : Nat} {h h' : H} (g : Grow h h') {v : Value} {rows : List (List Value)} (q : Sl E h v rows) : Sl E h' v rows := by
  refine ⟨q.1,q.2.imp id ?_⟩
  rintro ⟨b,o,sp,cap,e,r⟩
  exact ⟨b,o,sp,cap,e,r.grow g⟩
theorem Sl.val {E : Nat} {h : H} {v : Value} {rows : List (List Value)} (q : Sl E h v rows) : ∃ a cap,v = .slice a rows.length cap := by
  rcases q.2 with ⟨e,rfl⟩ | ⟨b,o,sp,cap,e,_⟩
  · obtain ⟨a,e⟩ := e.val
    exact ⟨_,_,e⟩
  · exact ⟨_,_,e⟩
theorem Sl.at_ {E : Nat} {h : H} {v : Value} {rows : List (List Value)} (q : Sl E h v rows) {i : Nat} {r : List Value} (hr : rows[i]? = some r) :
    ∃ b o sp cap,v = .slice (some ⟨b,o,sp⟩) rows.length cap ∧ Row h b (o + i * E) r ∧ r.length = E ∧ ones r = true := by
  obtain ⟨hi,he⟩ := List.getElem?_eq_some_iff.1 hr
  rcases q.2 with ⟨_,e⟩ | ⟨b,o,sp,cap,e,row⟩
  · subst e; cases hr
  · have gr := q.1 r (List.mem_of_getElem? hr)
    have hl := flat_len q.1
    have h1 := Nat.mul_le_mul_right E (show i + 1 ≤ rows.length by omega)
    rw [Nat.add_mul,Nat.one_mul] at h1
    have := row.sub (k := i * E) (m := E) (by omega)
    rw [show (rows.flatten.drop (i * E)).take E = r by have := flat_at q.1 hr []; rwa [List.append_nil] at this] at this
    exact ⟨b,o,sp,cap,e,this,gr⟩
structure TK where
  name : ByteArray
  bud : Int
  ins : List ByteArray
  outs : List ByteArray
def StrSl (h : H) (v : Value) (l : List ByteArray) : Prop := Sl 1 h v (l.map fun s => [.string s])
def OutSl (h : H) (v : Value) (l : List ByteArray) : Prop := ∃ rows,Sl 6 h v rows ∧ rows.map (·.head?) = l.map fun s => some (.string s)
def TaskR (h : H) (t : TK) (r : List Value) : Prop := ∃ vi vo,r = [.string t.name,.int .i64 t.bud,vi,vo] ∧ StrSl h vi t.ins ∧ OutSl h vo t.outs
def Tasks (h : H) (v : Value) (ts : List TK) : Prop := ∃ rows,Sl 4 h v rows ∧ rows.length = ts.length ∧ ∀ (i : Nat) (t : TK),ts[i]? = some t → ∃ r,rows[i]? = some r ∧ TaskR h t r
theorem StrSl.grow {h h' : H} (g : Grow h h') {v : Value} {l : List ByteArray} (q : StrSl h v l) : StrSl h' v l := Sl.grow g q
theorem OutSl.grow {h h' : H} (g : Grow h h') {v : Value} {l : List ByteArray} (q : OutSl h v l) : OutSl h' v l := by
  obtain ⟨rows,s,e⟩ := q
  exact ⟨rows,s.grow g,e⟩
theorem TaskR.grow {h h' : H} (g : Grow h h') {t : TK} {r : List Value} (q : TaskR h t r) : TaskR h' t r := by
  obtain ⟨vi,vo,e,s,u⟩ := q
  exact ⟨vi,vo,e,s.grow g,u.grow g⟩
theorem Tasks.grow {h h' : H} (g : Grow h h') {v : Value} {ts : List TK} (q : Tasks h v ts) : Tasks h' v ts := by
  obtain ⟨rows,s,e,f⟩ := q
  exact ⟨rows,s.grow g,e,fun i t ht => by obtain ⟨r,e1,e2⟩ := f i t ht; exact ⟨r,e1,e2.grow g⟩⟩
theorem Tasks.val {h : H} {v : Value} {ts : List TK} (q : Tasks h v ts) : ∃ a cap,v = .slice a ts.length cap := by
  obtain ⟨rows,s,e,f⟩ := q
  rw [← e]; exact s.val
theorem StrSl.val {h : H} {v : Value} {l : List ByteArray} (q : StrSl h v l) : ∃ a cap,v = .slice a l.length cap := by
  have := Sl.val q
  rwa [List.length_map] at this
theorem OutSl.val {h : H} {v : Value} {l : List ByteArray} (q : OutSl h v l) : ∃ a cap,v = .slice a l.length cap := by
  obtain ⟨rows,s,e⟩ := q
  have h1 : rows.length = l.length := by have := congrArg List.length e; simpa using this
  rw [← h1]; exact s.val
theorem Tasks.len {h : H} {v : Value} {ts : List TK} (q : Tasks h v ts) (h' : H) : xbuiltin Try.prog .len [22] [v] h' = .ok (.int .i64 (ts.length : Nat)) h' := by
  obtain ⟨a,cap,rfl⟩ := q.val
  exact ln22 _ _ _ _
theorem StrSl.len {h : H} {v : Value} {l : List ByteArray} (q : StrSl h v l) (h' : H) : xbuiltin Try.prog .len [52] [v] h' = .ok (.int .i64 (l.length : Nat)) h' := by
  obtain ⟨a,cap,rfl⟩ := q.val
  exact ln52 _ _ _ _
theorem OutSl.len {h : H} {v : Value} {l : List ByteArray} (q : OutSl h v l) (h' : H) : xbuiltin Try.prog .len [53] [v] h' = .ok (.int .i64 (l.length : Nat)) h' := by
  obtain ⟨a,cap,rfl⟩ := q.val
  exact ln53 _ _ _ _
theorem Tasks.at_ {h : H} {v : Value} {ts : List TK} (q : Tasks h v ts) {i : Nat} {t : TK} (ht : ts[i]? = some t) :
    ∃ b o vi vo,(∀ h',xindexAddr Try.prog 22 v (.int .i64 (i : Nat)) h' = .ok (.pointer (some ⟨b,o,none⟩)) h') ∧ Row h b o [.string t.name,.int .i64 t.bud,vi,vo] ∧ StrSl h vi t.ins ∧ OutSl h vo t.outs ∧ ones [.string t.name,.int .i64 t.bud,vi,vo] = true := by
  obtain ⟨rows,s,e,f⟩ := q
  obtain ⟨r,hr,vi,vo,rfl,q1,q2⟩ := f i t ht
  have hi := (List.getElem?_eq_some_iff.1 hr).1
  obtain ⟨b,o,sp,cap,rfl,row,_,ho⟩ := s.at_ hr
  exact ⟨b,o + i * 4,vi,vo,fun h' => ia22 _ _ _ _ _ _ _ h' hi,row,q1,q2,ho⟩
theorem StrSl.at_ {h : H} {v : Value} {l : List ByteArray} (q : StrSl h v l) {i : Nat} {s : ByteArray} (hs : l[i]? = some s) :
    ∃ a,xindexAddr Try.prog 52 v (.int .i64 (i : Nat)) h = .ok (.pointer (some a)) h ∧ xload Try.prog 9 (.pointer (some a)) h = .ok (.string s) h := by
  have hr : (l.map fun s => [Value.string s])[i]? = some [.string s] := by rw [List.getElem?_map,hs]; rfl
  have hi := (List.getElem?_eq_some_iff.1 hr).1
  obtain ⟨b,o,sp,cap,rfl,row,_,ho⟩ := Sl.at_ q hr
  refine ⟨_,ia52 _ _ _ _ _ _ _ _ hi,?_⟩
  rw [ld9,show (⟨b,o + i * 1,none⟩ : Addr) = ⟨b,o + i * 1 + 0,none⟩ from rfl,row.cell (j := 0) rfl,ofO_some]
theorem OutSl.at_ {h : H} {v : Value} {l : List ByteArray} (q : OutSl h v l) {i : Nat} {s : ByteArray} (hs : l[i]? = some s) :
    ∃ b o r,(∀ h',xindexAddr Try.prog 53 v (.int .i64 (i : Nat)) h' = .ok (.pointer (some ⟨b,o,none⟩)) h') ∧ Row h b o (.string s :: r) ∧ r.length = 5 ∧ ones (.string s :: r) = true := by
  obtain ⟨rows,sl,e⟩ := q
  have h1 := congrArg (fun x => x[i]?) e
  simp only [List.getElem?_map,hs,Option.map_some] at h1
  cases hr : rows[i]? with
  | none => rw [hr] at h1; cases h1
  | some r =>
    rw [hr] at h1
    have hi := (List.getElem?_eq_some_iff.1 hr).1
    obtain ⟨b,o,sp,cap,rfl,row,hl,ho⟩ := sl.at_ hr
    match r,h1,hl with
    | x :: r,h1,hl =>
      simp only [Option.map_some,List.head?_cons,Option.some.injEq] at h1
      subst h1
      exact ⟨b,o + i * 6,r,fun h' => ia53 _ _ _ _ _ _ _ h' hi,row,by simpa using hl,ho⟩
def nm (ts : List TK) (i : Int) : ByteArray := ((ts[i.toNat]?).map TK.name).getD ⟨#[]⟩
def aLt (ts : List TK) (i j : Int) : Bool := sLt (nm ts i) (nm ts j) || (decide (nm ts i = nm ts j) && decide (i < j))
theorem nm_at {ts : List TK} {i : Nat} {t : TK} (h : ts[i]? = some t) : nm ts (i : Int) = t.name := by unfold nm; rw [Int.toNat_natCast,h]; rfl
theorem sLt_irrefl (a : ByteArray) : sLt a a = false := by rw [sLt_iff]; exact decide_eq_false (List.lt_irrefl _)
theorem sLt_trans {a b c : ByteArray} (h1 : sLt a b = true) (h2 : sLt b c = true) : sLt a c = true := by
  rw [sLt_iff,decide_eq_true_iff] at *
  exact List.lt_trans h1 h2
theorem toList_inj {a b : ByteArray} (h : a.toList = b.toList) : a = b := by
  by_cases q : a = b
  · exact q
  · exact absurd h (toList_ne q)
theorem sLt_tri (a b : ByteArray) : sLt a b = true ∨ a = b ∨ sLt b a = true := by
  rw [sLt_iff,sLt_iff,decide_eq_true_iff,decide_eq_true_iff]
  by_cases h1 : a.toList < b.toList
  · exact .inl h1
  · by_cases h2 : b.toList < a.toList
    · exact .inr (.inr h2)
    · exact .inr (.inl (toList_inj (List.le_antisymm (List.not_lt.1 h2) (List.not_lt.1 h1))))
theorem sLt_asymm {a b : ByteArray} (h : sLt a b = true) : sLt b a = false := by
  cases q : sLt b a with
  | false => rfl
  | true => have := sLt_trans h q; rw [sLt_irrefl] at this; cases this
theorem aLt_irrefl (ts : List TK) (i : Int) : aLt ts i i = false := by unfold aLt; simp [sLt_irrefl]
theorem aLt_trans {ts : List TK} {i j k : Int} (h1 : aLt ts i j = true) (h2 : aLt ts j k = true) : aLt ts i k = true := by
  unfold aLt at *
  simp only [Bool.or_eq_true,Bool.and_eq_true,decide_eq_true_eq] at *
  rcases h1 with h1 | ⟨e1,h1⟩ <;> rcases h2 with h2 | ⟨e2,h2⟩
  · exact .inl (sLt_trans h1 h2)
  · rw [← e2]; exact .inl h1
  · rw [e1]; exact .inl h2
  · exact .inr ⟨e1.trans e2,by omega⟩
theorem aLt_tri (ts : List TK) (i j : Int) : aLt ts i j = true ∨ i = j ∨ aLt ts j i = true := by
  unfold aLt
  simp only [Bool.or_eq_true,Bool.and_eq_true,decide_eq_true_eq]
  rcases sLt_tri (nm ts i) (nm ts j) with h | h | h
  · exact .inl (.inl h)
  · rcases Int.lt_trichotomy i j with q | q | q
    · exact .inl (.inr ⟨h,q⟩)
    · exact .inr (.inl q)
    · exact .inr (.inr (.inr ⟨h.symm,q⟩))
  · exact .inr (.inr (.inl h))
theorem aLt_asymm {ts : List TK} {i j : Int} (h : aLt ts i j = true) : aLt ts j i = false := by
  cases q : aLt ts j i with
  | false => rfl
  | true => have := aLt_trans h q; rw [aLt_irrefl] at this; cases this
theorem aLt_swo (ts : List TK) : Go.Sort.SWO (aLt ts) := ⟨aLt_irrefl ts,fun _ _ _ => aLt_trans,fun x y z h1 h2 => by
  cases q : aLt ts x z with
  | false => rfl
  | true =>
    rcases aLt_tri ts x y with a | a | a
    · rw [h1] at a; cases a
    · subst a; rw [h2] at q; cases q
    · have := aLt_trans a q; rw [h2] at this; cases this⟩
def NetR (h : H) (g : Nat) (vt vn vu : Value) : Prop := ∃ op,h.get g = some (.cells [vt,vn,vu] 79 0 op)
theorem NetR.grow {h h' : H} (w : Grow h h') {g : Nat} {vt vn vu : Value} (q : NetR h g vt vn vu) : NetR h' g vt vn vu := by
  obtain ⟨op,e⟩ := q
  exact ⟨op,w.old _ _ e⟩
theorem NetR.upd {S : Nat → Prop} {h h' : H} (u : Upd S h h') {g : Nat} {vt vn vu : Value} (q : NetR h g vt vn vu) (hS : ¬ S g) : NetR h' g vt vn vu := by
  obtain ⟨op,e⟩ := q
  exact ⟨op,u.old _ _ hS e⟩
theorem NetR.t {h : H} {g : Nat} {vt vn vu : Value} (q : NetR h g vt vn vu) : h.cell ⟨g,0,none⟩ = some vt := by obtain ⟨op,e⟩ := q; rw [H.cell_eq e]; rfl
theorem NetR.n {h : H} {g : Nat} {vt vn vu : Value} (q : NetR h g vt vn vu) : h.cell ⟨g,0 + 1,none⟩ = some vn := by obtain ⟨op,e⟩ := q; rw [H.cell_eq e]; rfl
theorem NetR.u {h : H} {g : Nat} {vt vn vu : Value} (q : NetR h g vt vn vu) : h.cell ⟨g,0 + 2,none⟩ = some vu := by obtain ⟨op,e⟩ := q; rw [H.cell_eq e]; rfl
theorem eOr {h : H} {v : Value} {a b : Int} (q : IL h v [a,b]) : CLM (.f 51) [v] h = .ok (.int .i64 (if a = 0 then b else a)) h := by
  have i0 : (Value.int .i64 0) = .int .i64 ((0 : Nat) : Int) := rfl
  have i1 : (Value.int .i64 1) = .int .i64 ((1 : Nat) : Int) := rfl
  have w1 : IntKind.i64.wrap (0 + 1) = 1 := by rw [wrap64 (by omega)]; rfl
  have w2 : IntKind.i64.wrap (1 + 1) = 2 := by rw [wrap64 (by omega)]; rfl
  have l1 : ∀ K : Value → H → Res Value,((xindexAddr Try.prog 27 v (.int .i64 0) h).go .pan fun t h' => ((xload Try.prog 3 t h').go .pan K)) = K (.int .i64 a) h := fun K => by rw [i0]; exact q.ld rfl K
  have l2 : ∀ K : Value → H → Res Value,((xindexAddr Try.prog 27 v (.int .i64 1) h).go .pan fun t h' => ((xload Try.prog 3 t h').go .pan K)) = K (.int .i64 b) h := fun K => by rw [i1]; exact q.ld rfl K
  have L : ((([a,b].length : Nat) : Int)) = 2 := rfl
  rw [cM51,F51.eq,q.len,go_ok,L,F51.l3_eq,xlss,go_ok,F51.j4_eq,ifV_dec,if_pos (by omega),F51.j4_1_eq,l1,xneq,go_ok,ifV_not]
  by_cases ha : a = 0
  · rw [if_pos ha,if_pos ha,xadd,go_ok,w1,F51.l3_eq,xlss,go_ok,F51.j4_eq,ifV_dec,if_pos (by omega),F51.j4_1_eq,l2,xneq,go_ok,ifV_not]
    by_cases hb : b = 0
    · rw [if_pos hb,xadd,go_ok,w2,F51.l3_eq,xlss,go_ok,F51.j4_eq,ifV_dec,if_neg (by omega),F51.j8_eq,hb]
    · rw [if_neg hb]
  · rw [if_neg ha,if_neg ha]
theorem eAhead {h : H} {g : Nat} {vt vn vu : Value} {ts : List TK} (q : NetR h g vt vn vu) (T : Tasks h vt ts) {i j : Nat} (hi : i < ts.length) (hj : j < ts.length) :
    ∃ h',Grow h h' ∧ CLM (.f 40) [.pointer (some ⟨g,0,none⟩),.int .i64 (i : Nat),.int .i64 (j : Nat)] h = .ok (.int .i64 (if aLt ts i j then -1 else if aLt ts j i then 1 else 0)) h' := by
  obtain ⟨b1,o1,vi1,vo1,a1,r1,-⟩ := T.at_ (List.getElem?_eq_getElem hi)
  obtain ⟨b2,o2,vi2,vo2,a2,r2,-⟩ := T.at_ (List.getElem?_eq_getElem hj)
  have c1 := r1.cell (j := 0) rfl
  have c2 := r2.cell (j := 0) rfl
  rw [Nat.add_zero] at c1 c2
  have n1 := nm_at (List.getElem?_eq_getElem hi)
  have n2 := nm_at (List.getElem?_eq_getElem hj)
  rw [← n1] at c1
  rw [← n2] at c2
  have eb : ∀ x y : Int,xbuildSlice Try.prog 27 2 [(0,.int .i64 x),(1,.int .i64 y)] h = .ok (.slice (some ⟨h.next,0,none⟩) 2 2) (h.alloc (.cells [.int .i64 x,.int .i64 y] 3 0 false)) := fun x y => by kernel_rfl
  have er : ∀ x y : Int,CLM (.f 51) [.slice (some ⟨h.next,0,none⟩) 2 2] (h.alloc (.cells [.int .i64 x,.int .i64 y] 3 0 false)) = .ok (.int .i64 (if x = 0 then y else x)) (h.alloc (.cells [.int .i64 x,.int .i64 y] 3 0 false)) := fun x y => eOr (.inr ⟨h.next,none,2,[],false,rfl,H.alloc_self _ _⟩)
  refine ⟨h.alloc (.cells [.int .i64 (if sLt (nm ts i) (nm ts j) then -1 else if nm ts i = nm ts j then 0 else 1),.int .i64 (if (i : Int) < j then -1 else if (j : Int) < i then 1 else 0)] 3 0 false),(Grow.refl h).alloc _,?_⟩
  rw [cM40,F40.eq,xnil_ptr,Res.ok1_ok,fa79_0,Res.ok1_ok,ld22,q.t,ofO_some,Res.ok1_ok,a1,Res.ok1_ok,fa55_0,Res.ok1_ok,ld9,c1,ofO_some,Res.ok1_ok,xnil_ptr,Res.ok1_ok,fa79_0,Res.ok1_ok,ld22,q.t,ofO_some,Res.ok1_ok,a2,Res.ok1_ok,fa55_0,Res.ok1_ok,ld9,c2,ofO_some,Res.ok1_ok,
    eCmpStr,go_ok,eCmpInt,go_ok,eb,go_ok,er,go_ok]
  refine congrArg (fun z => Res.ok (Value.int .i64 z) _) ?_
  unfold aLt
  rcases sLt_tri (nm ts i) (nm ts j) with s | s | s
  · simp [s]
  · rw [s]
    simp only [sLt_irrefl,Bool.false_or,decide_true,Bool.true_and,decide_eq_true_eq,if_true,Bool.false_eq_true,if_false]
  · have s2 := sLt_asymm s
    have s3 : nm ts i ≠ nm ts j := fun z => by rw [z,sLt_irrefl] at s; cases s
    simp [s,s2,s3]
end Go.Proofs.Ytdadiidfhnojcaa.K
namespace Go.Proofs.Ytdadiidfhnojcaa.K
open Go Go.Kx
set_option linter.unusedVariables false
set_option linter.unusedSimpArgs false
set_option maxRecDepth 20000
theorem bytes_beq (a b : ByteArray) : (a == b) = decide (a = b) := by
  have e : (a == b) = (a.data == b.data) := rfl
  rw [e]
  by_cases h : a = b
  · subst h; simp
  · have : ¬ a.data = b.data := fun q => h (ByteArray.ext q)
    simp [h,this]
instance : LawfulBEq ByteArray where
  eq_of_beq {a b} h := by rw [bytes_beq] at h; exact of_decide_eq_true h
  rfl {a} := by rw [bytes_beq]; exact decide_eq_true rfl
abbrev MkE := ByteArray × Value × Option Nat
def mkC (ms : List MkE) : List (Value × Value) := ms.map fun x => (.string x.1,x.2.1)
def esC (es : List MapEntry) : List (Value × Value) := es.map fun e => (e.key,e.val)
theorem findK_no (s : ByteArray) : ∀ (ms : List MkE) (es : List MapEntry) (i : Nat),esC es = mkC ms → s ∉ ms.map (·.1) → findK (.string s) es i = some none
  | [],[],i,_,_ => rfl
  | [],e :: es,i,h,_ => by cases h
  | x :: ms,[],i,h,_ => by cases h
  | x :: ms,e :: es,i,h,hs => by
    have h1 : (e.key,e.val) = (Value.string x.1,x.2.1) := (List.cons.inj h).1
    have h2 : esC es = mkC ms := (List.cons.inj h).2
    have hk : e.key = .string x.1 := (Prod.mk.inj h1).1
    have hn : ¬ s = x.1 := fun z => hs (by rw [z]; exact List.mem_cons_self)
    have ih := findK_no s ms es (i + 1) h2 (fun z => hs (List.mem_cons_of_mem _ z))
    unfold findK
    rw [hk]
    show (bif s == x.1 then _ else findK (.string s) es (i + 1)) = _
    rw [bytes_beq,decide_eq_false hn,cond_false,ih]
theorem findK_yes (s : ByteArray) (v : Value) (br : Option Nat) (post : List MkE) : ∀ (pre : List MkE) (es : List MapEntry) (i : Nat),esC es = mkC (pre ++ (s,v,br) :: post) → s ∉ pre.map (·.1) → findK (.string s) es i = some (some (i + pre.length,v))
  | [],[],i,h,_ => by cases h
  | [],e :: es,i,h,_ => by
    have h1 : (e.key,e.val) = (Value.string s,v) := (List.cons.inj h).1
    have hk : e.key = .string s := (Prod.mk.inj h1).1
    have hv : e.val = v := (Prod.mk.inj h1).2
    unfold findK
    rw [hk]
    show (bif s == s then some (some (i,e.val)) else _) = _
    rw [bytes_beq,decide_eq_true rfl,cond_true,hv]; rfl
  | x :: pre,[],i,h,_ => by cases h
  | x :: pre,e :: es,i,h,hs => by
    have h1 : (e.key,e.val) = (Value.string x.1,x.2.1) := (List.cons.inj h).1
    have h2 : esC es = mkC (pre ++ (s,v,br) :: post) := (List.cons.inj h).2
    have hk : e.key = .string x.1 := (Prod.mk.inj h1).1
    have hn : ¬ s = x.1 := fun z => hs (by rw [z]; exact List.mem_cons_self)
    have ih := findK_yes s v br post pre es (i + 1) h2 (fun z => hs (List.mem_cons_of_mem _ z))
    unfold findK
    rw [hk]
    show (bif s == x.1 then _ else findK (.string s) es (i + 1)) = _
    rw [bytes_beq,decide_eq_false hn,cond_false,ih,List.length_cons,show i + 1 + pre.length = i + (pre.length + 1) by omega]
structure MkR (h0 h : H) (m : Nat) (f : ByteArray → List Int) (ms : List MkE) : Prop where
  g : ∃ es clock,h.get m = some (.map es clock) ∧ esC es = mkC ms
  mf : h0.next ≤ m
  nd : (ms.map (·.1)).Nodup
  ol : ∀ x ∈ ms,OL h x.2.1 x.2.2 (f x.1) ∧ ∀ b,x.2.2 = some b → h0.next ≤ b
  no : ∀ s,s ∉ ms.map (·.1) → f s = []
  ap : ms.Pairwise fun x y => ∀ b,x.2.2 = some b → y.2.2 ≠ some b
theorem OL.cells {h : H} {v : Value} {br : Option Nat} {l : List Int} (q : OL h v br l) {b : Nat} (hb : br = some b) : ∃ c el f op,h.get b = some (.cells c el f op) := by
  rcases q with ⟨e,_⟩ | ⟨b',sp,cap,e,_,hg,_⟩
  · rw [e] at hb; cases hb
  · rw [e] at hb; cases hb; exact ⟨_,_,_,_,hg⟩
def HasM (ms : List MkE) (s : ByteArray) (v : Value) (br : Option Nat) : Prop :=
  (s ∉ ms.map (·.1) ∧ v = .slice none 0 0 ∧ br = none) ∨ ∃ pre post,ms = pre ++ (s,v,br) :: post ∧ s ∉ pre.map (·.1) ∧ s ∉ post.map (·.1)
theorem MkR.get {h0 h : H} {m : Nat} {f : ByteArray → List Int} {ms : List MkE} (q : MkR h0 h m f ms) (s : ByteArray) :
    ∃ v br,xlookup Try.prog 98 (.map (some m)) (.string s) false h = .ok v h ∧ HasM ms s v br ∧ OL h v br (f s) ∧ (∀ b,br = some b → h0.next ≤ b ∧ b ≠ m) := by
  obtain ⟨es,clock,hg,he⟩ := q.g
  have hu : Try.prog.underlying 98 = some (.map 9 27) := by kernel_rfl
  have hk : keyOk Try.prog 9 (.string s) = true := by kernel_rfl
  have hz : zeroOf Try.prog 27 = some (.slice none 0 0) := by kernel_rfl
  by_cases hs : s ∈ ms.map (·.1)
  · obtain ⟨x,hx,hxs⟩ := List.mem_map.1 hs
    obtain ⟨pre,post,e⟩ := List.append_of_mem hx
    obtain ⟨s',v,br⟩ := x
    simp only at hxs
    subst hxs
    have hnd := q.nd
    rw [e,List.map_append,List.map_cons,List.nodup_append] at hnd
    have h1 : s' ∉ pre.map (·.1) := fun z => hnd.2.2 _ z _ List.mem_cons_self rfl
    have h2 : s' ∉ post.map (·.1) := (List.nodup_cons.1 hnd.2.1).1
    refine ⟨v,br,?_,.inr ⟨pre,post,e,h1,h2⟩,(q.ol _ hx).1,fun b hb => ⟨(q.ol _ hx).2 b hb,fun z => ?_⟩⟩
    · have hf := findK_yes s' v br post pre es 0 (by rw [he,e]) h1
      unfold xlookup
      simp only [hu,hk,cond_true,hg,hf,cond_false]
    · obtain ⟨c,el,ff,op,hc⟩ := (q.ol _ hx).1.cells hb
      rw [z,hg] at hc; cases hc
  · refine ⟨.slice none 0 0,none,?_,.inl ⟨hs,rfl,rfl⟩,by rw [q.no s hs]; exact OL.nil,fun b hb => by cases hb⟩
    have hf := findK_no s ms es 0 he hs
    unfold xlookup
    simp only [hu,hk,cond_true,hg,hf,hz,show flat (.slice none 0 0) = true from rfl,cond_false]
def updF (f : ByteArray → List Int) (s : ByteArray) (l : List Int) : ByteArray → List Int := fun x => if x = s then l else f x
theorem updF_ne {f : ByteArray → List Int} {s x : ByteArray} {l : List Int} (h : x ≠ s) : updF f s l x = f x := if_neg h
theorem updF_eq {f : ByteArray → List Int} {s : ByteArray} {l : List Int} : updF f s l s = l := if_pos rfl
theorem MkR.put {h0 h h' : H} {m : Nat} {f : ByteArray → List Int} {ms : List MkE} (q : MkR h0 h m f ms) (hn : h0.next ≤ h.next) {s : ByteArray} {v v' : Value} {br br' : Option Nat} {l' : List Int} (hs : HasM ms s v br) (hb : ∀ b,br = some b → h0.next ≤ b ∧ b ≠ m)
    (u : Upd (fun x => some x = br) h h') (o : OL h' v' br' l') (nb : NewBr h br br') :
    ∃ h'' ms',xmapUpdate Try.prog 98 (.map (some m)) (.string s) v' h' = .ok undef h'' ∧ Upd (fun x => x = m ∨ some x = br) h h'' ∧ MkR h0 h'' m (updF f s l') ms' := by
  obtain ⟨es,clock,hg,he⟩ := q.g
  have hu : Try.prog.underlying 98 = some (.map 9 27) := by kernel_rfl
  have hk : keyOk Try.prog 9 (.string s) = true := by kernel_rfl
  have hg' : h'.get m = some (.map es clock) := u.old _ _ (fun z => (hb m z.symm).2 rfl) hg
  have hm := H.get_lt hg
  have hbr' : ∀ b,br' = some b → h0.next ≤ b := fun b e => by
    rcases nb with z | ⟨b2,z,z2⟩
    · rw [z] at e; exact (hb b e).1
    · rw [z] at e; cases e; omega
  have hbm : ∀ b,br' = some b → b ≠ m := fun b e z => by
    obtain ⟨c,el,ff,op,hc⟩ := o.cells e
    rw [z,hg'] at hc; cases hc
  rcases hs with ⟨h1,-,h2⟩ | ⟨pre,post,e,h1,h2⟩
  ·
    subst h2
    have hf := findK_no s ms es 0 he h1
    refine ⟨h'.put m (.map (es ++ [⟨.string s,v',clock⟩]) (clock + 1)),ms ++ [(s,v',br')],?_,?_,?_⟩
    · unfold xmapUpdate
      simp only [hu,hk,cond_true,hg',hf]
    · exact (u.mono fun x _ z => .inr z).put (.inl (.inl rfl)) (H.get_lt hg') _
    · have U : Upd (fun x => x = m) h' (h'.put m (.map (es ++ [⟨.string s,v',clock⟩]) (clock + 1))) := (Upd.refl (fun x => x = m) h').put (.inl rfl) (H.get_lt hg') _
      refine ⟨⟨_,_,H.put_self hg',?_⟩,q.mf,?_,?_,?_,?_⟩
      · show (es ++ [_]).map _ = (ms ++ [_]).map _
        rw [List.map_append,List.map_append]
        exact congrArg (· ++ _) he
      · rw [List.map_append,List.nodup_append]
        exact ⟨q.nd,List.pairwise_singleton _ _,fun a ha b hb2 => by
          simp only [List.map_cons,List.map_nil,List.mem_singleton] at hb2
          subst hb2; exact fun z => h1 (z ▸ ha)⟩
      · intro x hx
        rcases List.mem_append.1 hx with hx | hx
        · have hne : x.1 ≠ s := fun z => h1 (z ▸ List.mem_map_of_mem hx)
          refine ⟨?_,(q.ol x hx).2⟩
          rw [updF_ne hne]
          refine ((q.ol x hx).1.upd u fun b e z => by cases z).upd U fun b e z => ?_
          obtain ⟨c,el,ff,op,hc⟩ := (q.ol x hx).1.cells e
          rw [z,hg] at hc; cases hc
        · simp only [List.mem_singleton] at hx
          subst hx
          refine ⟨?_,hbr'⟩
          rw [updF_eq]
          exact o.upd U fun b e z => hbm b e z
      · intro x hx
        rw [List.map_append,List.mem_append] at hx
        have : x ≠ s := fun z => hx (.inr (by simp [z]))
        rw [updF_ne this]
        exact q.no x fun z => hx (.inl z)
      · rw [List.pairwise_append]
        refine ⟨q.ap,List.pairwise_singleton _ _,fun x hx y hy b e => ?_⟩
        simp only [List.mem_singleton] at hy
        subst hy
        intro z
        rcases nb with w | ⟨b2,w,w2⟩
        · rw [w] at z; cases z
        · simp only at z
          rw [w] at z
          cases z
          have := (q.ol x hx).1.lt e
          omega
  ·
    subst e
    have hf := findK_yes s v br post pre es 0 he h1
    have hlen : pre.length < es.length := by
      have := congrArg List.length he
      simp [esC,mkC] at this
      omega
    have ap := q.ap
    rw [List.pairwise_append,List.pairwise_cons] at ap
    refine ⟨h'.put m (.map (modE (0 + pre.length) (fun e => { e with val := v' }) es) clock),pre ++ (s,v',br') :: post,?_,?_,?_⟩
    · unfold xmapUpdate
      simp only [hu,hk,cond_true,hg',hf]
    · exact (u.mono fun x _ z => .inr z).put (.inl (.inl rfl)) (H.get_lt hg') _
    · have U : Upd (fun x => x = m) h' (h'.put m (.map (modE (0 + pre.length) (fun e => { e with val := v' }) es) clock)) := (Upd.refl (fun x => x = m) h').put (.inl rfl) (H.get_lt hg') _
      have oth : ∀ x,(x ∈ pre ∨ x ∈ post) → x.1 ≠ s ∧ x ∈ pre ++ (s,v,br) :: post ∧ (∀ b,x.2.2 = some b → br ≠ some b) := by
        rintro x (hx | hx)
        · exact ⟨fun z => h1 (z ▸ List.mem_map_of_mem hx),by simp [hx],fun b e => ap.2.2 x hx _ List.mem_cons_self b e⟩
        · exact ⟨fun z => h2 (z ▸ List.mem_map_of_mem hx),by simp [hx],fun b e z => ap.2.1.1 x hx b z e⟩
      refine ⟨⟨_,_,H.put_self hg',?_⟩,q.mf,?_,?_,?_,?_⟩
      · apply List.ext_getElem?
        intro i
        have hi := congrArg (fun x => x[i]?) he
        simp only [esC,mkC,List.getElem?_map,modE,List.getElem?_modify,Nat.zero_add] at hi ⊢
        by_cases hp : pre.length = i
        · subst hp
          rw [List.getElem?_append_right (Nat.le_refl _),Nat.sub_self] at hi ⊢
          cases hq : es[pre.length]? with
          | none => rw [hq] at hi; cases hi
          | some en =>
            rw [hq] at hi
            simp only [Option.map_some,List.getElem?_cons_zero,Option.some.injEq,Prod.mk.injEq] at hi
            simp [hi.1]
        · rw [show (pre ++ (s,v',br') :: post)[i]? = (pre ++ (s,v,br) :: post)[i]? by
            rw [List.getElem?_append,List.getElem?_append]
            split
            · rfl
            · obtain ⟨k,hk⟩ : ∃ k,i - pre.length = k + 1 := ⟨i - pre.length - 1,by omega⟩
              rw [hk,List.getElem?_cons_succ,List.getElem?_cons_succ],← hi]
          cases es[i]? <;> simp [hp]
      · have := q.nd
        rw [List.map_append,List.map_cons] at this ⊢
        exact this
      · intro x hx
        rcases List.mem_append.1 hx with hx | hx
        · obtain ⟨w1,w2,w3⟩ := oth x (.inl hx)
          refine ⟨?_,(q.ol x w2).2⟩
          rw [updF_ne w1]
          refine ((q.ol x w2).1.upd u fun b e z => w3 b e z.symm).upd U fun b e z => ?_
          obtain ⟨c,el,ff,op,hc⟩ := (q.ol x w2).1.cells e
          rw [z,hg] at hc; cases hc
        · rcases List.mem_cons.1 hx with hx | hx
          · subst hx
            refine ⟨?_,hbr'⟩
            rw [updF_eq]
            exact o.upd U fun b e z => hbm b e z
          · obtain ⟨w1,w2,w3⟩ := oth x (.inr hx)
            refine ⟨?_,(q.ol x w2).2⟩
            rw [updF_ne w1]
            refine ((q.ol x w2).1.upd u fun b e z => w3 b e z.symm).upd U fun b e z => ?_
            obtain ⟨c,el,ff,op,hc⟩ := (q.ol x w2).1.cells e
            rw [z,hg] at hc; cases hc
      · intro x hx
        have hx' : x ∉ (pre ++ (s,v,br) :: post).map (·.1) := by
          rw [List.map_append,List.map_cons] at hx ⊢
          exact hx
        have : x ≠ s := fun z => hx' (by simp [z])
        rw [updF_ne this]
        exact q.no x hx'
      · rw [List.pairwise_append,List.pairwise_cons]
        have fresh : ∀ x,(x ∈ pre ∨ x ∈ post) → ∀ b,x.2.2 = some b → br' ≠ some b := fun x hx b e z => by
          obtain ⟨w1,w2,w3⟩ := oth x hx
          rcases nb with w | ⟨b2,w,w3'⟩
          · exact w3 b e (w ▸ z)
          · rw [w] at z; cases z
            have := (q.ol x w2).1.lt e
            omega
        refine ⟨ap.1,⟨fun y hy b e z => fresh y (.inr hy) b z e,ap.2.1.2⟩,fun x hx y hy b e => ?_⟩
        rcases List.mem_cons.1 hy with hy | hy
        · subst hy; exact fresh x (.inl hx) b e
        · exact ap.2.2 x hx y (List.mem_cons_of_mem _ hy) b e
theorem MkR.upd {S : Nat → Prop} {h0 h h' : H} {m : Nat} {f : ByteArray → List Int} {ms : List MkE} (q : MkR h0 h m f ms) (u : Upd S h h') (hm : ¬ S m) (hS : ∀ x ∈ ms,∀ b,x.2.2 = some b → ¬ S b) : MkR h0 h' m f ms := by
  obtain ⟨es,clock,hg,he⟩ := q.g
  exact ⟨⟨es,clock,u.old _ _ hm hg,he⟩,q.mf,q.nd,fun x hx => ⟨(q.ol x hx).1.upd u (hS x hx),(q.ol x hx).2⟩,q.no,q.ap⟩
theorem MkR.grow {h0 h h' : H} {m : Nat} {f : ByteArray → List Int} {ms : List MkE} (q : MkR h0 h m f ms) (g : Grow h h') : MkR h0 h' m f ms := q.upd (g.upd fun _ => False) id fun _ _ _ _ => id
end Go.Proofs.Ytdadiidfhnojcaa.K
namespace Go.Proofs.Ytdadiidfhnojcaa.K
open Go Go.Kx
set_option linter.unusedVariables false
set_option linter.unusedSimpArgs false
set_option maxRecDepth 20000
theorem rc_str (s : ByteArray) (h : H) : rc (.ok (.string s) h) (some (.string s)) = true := by
  unfold rc
  simp [veq]
theorem OL.rc {h h' : H} {v : Value} {br : Option Nat} {l : List Int} (q : OL h v br l) : rc (.ok v h') (some v) = true := by
  rcases q with ⟨_,rfl,_⟩ | ⟨_,_,_,_,rfl,_⟩ <;> simp [Go.Kx.rc,veq]
theorem grow_then {S : Nat → Prop} {h0 h h' : H} (g : Grow h0 h) (u : Upd S h h') (hS : ∀ b,S b → h0.next ≤ b) : Grow h0 h' :=
  ⟨Nat.le_trans g.next u.next,fun b x e => u.old b x (fun z => by have := hS b z; have := H.get_lt e; omega) (g.old b x e)⟩
theorem repeat_one (z : Value) : ∀ n,repeatL [z] n = List.replicate n z
  | 0 => rfl
  | n + 1 => by show z :: repeatL [z] n = _; rw [repeat_one z n]; rfl
theorem mkI {n : Nat} (hn : n ≤ 65536) (h : H) : xmakeSlice Try.prog 27 (.int .i64 (n : Nat)) (.int .i64 (n : Nat)) h = .ok (.slice (some ⟨h.next,0,none⟩) n n) (h.alloc (.cells (iv (List.replicate n 0)) 3 0 false)) := by
  have hz : zeroOf Try.prog 3 = some (.int .i64 0) := by kernel_rfl
  have hb : bytesOf Try.prog 3 = 8 := by kernel_rfl
  have hc : Try.prog.cellsOf 3 = 1 := by kernel_rfl
  have hm : Nat.ble (8 * n) 140737488355328 = true := Nat.ble_eq_true_of_le (by omega)
  have hm2 : Nat.ble n 9223372036854775807 = true := Nat.ble_eq_true_of_le (by omega)
  unfold xmakeSlice
  simp only [LI.el,hz,Int.ofNat_eq_natCast]
  show (bif Nat.ble n n && Nat.ble (bytesOf Try.prog 3 * n) 140737488355328 && Nat.ble n 9223372036854775807 && Nat.beq (Value.int .i64 0).cells.size (Try.prog.cellsOf 3) then _ else _) = _
  rw [hb,hc,Nat.ble_eq_true_of_le (Nat.le_refl n),hm,hm2,show Nat.beq (Value.int .i64 0).cells.size 1 = true from rfl]
  simp only [Bool.and_true,cond_true]
  rw [show (Value.int .i64 0).cells.toList = [.int .i64 0] from rfl,repeat_one,iv,List.map_replicate]
theorem mkI0 {n : Nat} (hn : n ≤ 65536) (h : H) : xmakeSlice Try.prog 27 (.int .i64 0) (.int .i64 (n : Nat)) h = .ok (.slice (some ⟨h.next,0,none⟩) 0 n) (h.alloc (.cells (iv (List.replicate n 0)) 3 0 false)) := by
  have hz : zeroOf Try.prog 3 = some (.int .i64 0) := by kernel_rfl
  have hb : bytesOf Try.prog 3 = 8 := by kernel_rfl
  have hc : Try.prog.cellsOf 3 = 1 := by kernel_rfl
  have hm : Nat.ble (8 * n) 140737488355328 = true := Nat.ble_eq_true_of_le (by omega)
  have hm2 : Nat.ble n 9223372036854775807 = true := Nat.ble_eq_true_of_le (by omega)
  unfold xmakeSlice
  simp only [LI.el,hz,Int.ofNat_eq_natCast]
  show (bif Nat.ble 0 n && Nat.ble (bytesOf Try.prog 3 * n) 140737488355328 && Nat.ble n 9223372036854775807 && Nat.beq (Value.int .i64 0).cells.size (Try.prog.cellsOf 3) then _ else _) = _
  rw [hb,hc,Nat.ble_eq_true_of_le (Nat.zero_le n),hm,hm2,show Nat.beq (Value.int .i64 0).cells.size 1 = true from rfl]
  simp only [Bool.and_true,cond_true]
  rw [show (Value.int .i64 0).cells.toList = [.int .i64 0] from rfl,repeat_one,iv,List.map_replicate]
theorem mkLL {n : Nat} (hn : n ≤ 65536) (h : H) : xmakeSlice Try.prog 33 (.int .i64 (n : Nat)) (.int .i64 (n : Nat)) h = .ok (.slice (some ⟨h.next,0,none⟩) n n) (h.alloc (.cells (List.replicate n (.slice none 0 0)) 27 0 false)) := by
  have hz : zeroOf Try.prog 27 = some (.slice none 0 0) := by kernel_rfl
  have hb : bytesOf Try.prog 27 = 24 := by kernel_rfl
  have hc : Try.prog.cellsOf 27 = 1 := by kernel_rfl
  have he : elemOf? Try.prog 33 = some 27 := by kernel_rfl
  have hm : Nat.ble (24 * n) 140737488355328 = true := Nat.ble_eq_true_of_le (by omega)
  have hm2 : Nat.ble n 9223372036854775807 = true := Nat.ble_eq_true_of_le (by omega)
  unfold xmakeSlice
  simp only [he,hz,Int.ofNat_eq_natCast]
  show (bif Nat.ble n n && Nat.ble (bytesOf Try.prog 27 * n) 140737488355328 && Nat.ble n 9223372036854775807 && Nat.beq (Value.slice none 0 0).cells.size (Try.prog.cellsOf 27) then _ else _) = _
  rw [hb,hc,Nat.ble_eq_true_of_le (Nat.le_refl n),hm,hm2,show Nat.beq (Value.slice none 0 0).cells.size 1 = true from rfl]
  simp only [Bool.and_true,cond_true]
  rw [show (Value.slice none 0 0).cells.toList = [.slice none 0 0] from rfl,repeat_one]
theorem mkB {n : Nat} (hn : n ≤ 65536) (h : H) : xmakeSlice Try.prog 83 (.int .i64 (n : Nat)) (.int .i64 (n : Nat)) h = .ok (.slice (some ⟨h.next,0,none⟩) n n) (h.alloc (.cells (List.replicate n (.bool false)) 4 0 false)) := by
  have hz : zeroOf Try.prog 4 = some (.bool false) := by kernel_rfl
  have hb : bytesOf Try.prog 4 = 1 := by kernel_rfl
  have hc : Try.prog.cellsOf 4 = 1 := by kernel_rfl
  have he : elemOf? Try.prog 83 = some 4 := by kernel_rfl
  have hm : Nat.ble (1 * n) 140737488355328 = true := Nat.ble_eq_true_of_le (by omega)
  have hm2 : Nat.ble n 9223372036854775807 = true := Nat.ble_eq_true_of_le (by omega)
  unfold xmakeSlice
  simp only [he,hz,Int.ofNat_eq_natCast]
  show (bif Nat.ble n n && Nat.ble (bytesOf Try.prog 4 * n) 140737488355328 && Nat.ble n 9223372036854775807 && Nat.beq (Value.bool false).cells.size (Try.prog.cellsOf 4) then _ else _) = _
  rw [hb,hc,Nat.ble_eq_true_of_le (Nat.le_refl n),hm,hm2,show Nat.beq (Value.bool false).cells.size 1 = true from rfl]
  simp only [Bool.and_true,cond_true]
  rw [show (Value.bool false).cells.toList = [.bool false] from rfl,repeat_one]
theorem OL.push2 {h : H} {v : Value} {br : Option Nat} {l : List Int} (q : OL h v br l) (few : l.length < 1000000) (z : Int) :
    ∃ v' br' h',Upd (fun x => some x = br) h h' ∧ OL h' v' br' (l ++ [z]) ∧ NewBr h br br' ∧ xbuildSlice Try.prog 27 1 [(0,.int .i64 z)] h = .ok (.slice (some ⟨h.next,0,none⟩) 1 1) (h.alloc (.cells [.int .i64 z] 3 0 false)) ∧
      xbuiltin Try.prog .append [27,27] [v,.slice (some ⟨h.next,0,none⟩) 1 1] (h.alloc (.cells [.int .i64 z] 3 0 false)) = .ok v' h' := by
  have g : Grow h (h.alloc (.cells [.int .i64 z] 3 0 false)) := (Grow.refl h).alloc _
  have r : IL (h.alloc (.cells [.int .i64 z] 3 0 false)) (.slice (some ⟨h.next,0,none⟩) 1 1) [z] := .inr ⟨h.next,none,1,[],false,rfl,H.alloc_self _ _⟩
  obtain ⟨v',br',h',e,u,q',n⟩ := (q.grow g).app (m := [z]) (by simp; omega) r
  have eb : xbuildSlice Try.prog 27 1 [(0,.int .i64 z)] h = .ok (.slice (some ⟨h.next,0,none⟩) 1 1) (h.alloc (.cells [.int .i64 z] 3 0 false)) := by kernel_rfl
  exact ⟨v',br',h',(g.upd _).trans u,q',n.imp id fun ⟨b,w1,w2⟩ => ⟨b,w1,Nat.le_of_succ_le w2⟩,eb,e⟩
def insAt (ts : List TK) (k : Nat) : List ByteArray := ((ts[k]?).map TK.ins).getD []
def outsAt (ts : List TK) (k : Nat) : List ByteArray := ((ts[k]?).map TK.outs).getD []
theorem insAt_eq {ts : List TK} {k : Nat} {t : TK} (h : ts[k]? = some t) : insAt ts k = t.ins := by unfold insAt; rw [h]; rfl
theorem outsAt_eq {ts : List TK} {k : Nat} {t : TK} (h : ts[k]? = some t) : outsAt ts k = t.outs := by unfold outsAt; rw [h]; rfl
def need (ts : List TK) (i k : Nat) : Bool := (insAt ts i).any fun p => decide (p ∈ outsAt ts k)
def nd (ts : List TK) (i : Nat) : List Nat := (List.range ts.length).filter (need ts i)
def sumN (n : Nat) (f : Nat → Nat) : Nat := ((List.range n).map f).sum
structure Few (ts : List TK) : Prop where
  n : ts.length ≤ 3000
  i : ∀ t ∈ ts,t.ins.length ≤ 12
  o : ∀ t ∈ ts,t.outs.length ≤ 12
  e : sumN ts.length (fun k => (nd ts k).length) ≤ 60000
theorem Few.insAt {ts : List TK} (F : Few ts) (k : Nat) : (insAt ts k).length ≤ 12 := by
  cases h : ts[k]? with
  | none => unfold K.insAt; rw [h]; simp
  | some t => rw [insAt_eq h]; exact F.i t (List.mem_of_getElem? h)
theorem Few.outsAt {ts : List TK} (F : Few ts) (k : Nat) : (outsAt ts k).length ≤ 12 := by
  cases h : ts[k]? with
  | none => unfold K.outsAt; rw [h]; simp
  | some t => rw [outsAt_eq h]; exact F.o t (List.mem_of_getElem? h)
def nl (l : List Nat) : List Int := l.map fun k : Nat => (k : Int)
theorem nl_len (l : List Nat) : (nl l).length = l.length := by simp [nl]
theorem nl_mem {l : List Nat} {z : Int} : z ∈ nl l ↔ ∃ k ∈ l,(k : Int) = z := by simp [nl]
theorem nl_append (a b : List Nat) : nl (a ++ b) = nl a ++ nl b := by simp [nl]
def mkL (ts : List TK) (p : ByteArray) (j : Nat) : List Int := nl ((List.range j).filter fun k => decide (p ∈ outsAt ts k))
def fQ (ts : List TK) (j q : Nat) : ByteArray → List Int := fun p => mkL ts p j ++ if p ∈ (outsAt ts j).take q then [(j : Int)] else []
theorem mkL_lt {ts : List TK} {p : ByteArray} {j : Nat} {z : Int} (h : z ∈ mkL ts p j) : z < j := by
  obtain ⟨k,hk,rfl⟩ := nl_mem.1 h
  have := List.mem_range.1 (List.mem_filter.1 hk).1
  omega
theorem mkL_len (ts : List TK) (p : ByteArray) (j : Nat) : (mkL ts p j).length ≤ j := by
  unfold mkL
  rw [nl_len]
  exact Nat.le_trans (List.length_filter_le _ _) (by simp)
theorem fQ_zero (ts : List TK) (j : Nat) : fQ ts j 0 = fun p => mkL ts p j := by
  funext p; unfold fQ; simp
theorem fQ_end (ts : List TK) (j : Nat) : fQ ts j (outsAt ts j).length = fun p => mkL ts p (j + 1) := by
  funext p
  unfold fQ mkL
  rw [List.take_length,List.range_succ,List.filter_append,nl_append]
  congr 1
  by_cases h : p ∈ outsAt ts j <;> simp [h,nl]
theorem fQ_len (ts : List TK) (j q : Nat) (p : ByteArray) : (fQ ts j q p).length ≤ j + 1 := by
  unfold fQ
  have := mkL_len ts p j
  rw [List.length_append]
  split <;> simp <;> omega
theorem fQ_same {ts : List TK} {j q : Nat} {s : ByteArray} (hs : (outsAt ts j)[q]? = some s) (hm : s ∈ (outsAt ts j).take q) : fQ ts j (q + 1) = fQ ts j q := by
  funext p
  unfold fQ
  rw [List.take_add_one,hs]
  have : p ∈ (outsAt ts j).take q ++ (some s).toList ↔ p ∈ (outsAt ts j).take q := by
    simp only [Option.toList_some,List.mem_append,List.mem_singleton]
    exact ⟨fun h => h.elim id fun z => z ▸ hm,.inl⟩
  simp only [this]
theorem fQ_new {ts : List TK} {j q : Nat} {s : ByteArray} (hs : (outsAt ts j)[q]? = some s) (hm : s ∉ (outsAt ts j).take q) : updF (fQ ts j q) s (fQ ts j q s ++ [(j : Int)]) = fQ ts j (q + 1) := by
  funext p
  unfold updF fQ
  rw [List.take_add_one,hs]
  by_cases e : p = s
  · subst e
    simp [hm]
  · have : p ∈ (outsAt ts j).take q ++ (some s).toList ↔ p ∈ (outsAt ts j).take q := by
      simp only [Option.toList_some,List.mem_append,List.mem_singleton]
      exact ⟨fun h => h.elim id fun z => absurd z e,.inl⟩
    rw [if_neg e]
    simp only [this]
theorem mk_inner {h0 : H} {vt vo : Value} {ts : List TK} {n j mp : Nat} (O : OutSl h0 vo (outsAt ts j)) (fo : (outsAt ts j).length ≤ 12) (hj : j ≤ 3000) :
    ∀ (m q : Nat) {h : H} {ms : List MkE},(outsAt ts j).length - q = m → q ≤ (outsAt ts j).length → Grow h0 h → MkR h0 h mp (fQ ts j q) ms →
      ∃ h' ms',Grow h0 h' ∧ MkR h0 h' mp (fQ ts j (outsAt ts j).length) ms' ∧
        F41.l6 Try.prog CLM nu0 nu0 vt (.map (some mp)) (.int .i64 (j : Nat)) vt (.int .i64 (n : Nat)) (.int .i64 (j : Nat)) vo (.int .i64 ((outsAt ts j).length : Nat)) (.int .i64 (q : Nat)) h = F41.j12 Try.prog CLM nu0 nu0 vt (.map (some mp)) vt (.int .i64 (n : Nat)) (.int .i64 (j : Nat)) h' := by
  intro m
  induction m with
  | zero =>
    intro q h ms hm hq g M
    have : q = (outsAt ts j).length := by omega
    refine ⟨h,ms,g,this ▸ M,?_⟩
    rw [F41.l6_eq,xlss,go_ok,F41.j7_eq,ifV_dec,if_neg (by omega)]
  | succ m ih =>
    intro q h ms hm hq g M
    have hql : q < (outsAt ts j).length := by omega
    have hs : (outsAt ts j)[q]? = some (outsAt ts j)[q] := List.getElem?_eq_getElem hql
    obtain ⟨s,hsd⟩ : ∃ s,s = (outsAt ts j)[q] := ⟨_,rfl⟩
    rw [← hsd] at hs
    obtain ⟨b,o,r,a1,row,hr5,hones⟩ := (O.grow g).at_ hs
    have hrow := row.row (n := 6) (by simp [hr5])
    obtain ⟨hA,eA⟩ : ∃ hA,hA = h.alloc (.cells zc63 63 0 false) := ⟨_,rfl⟩
    have gA : hA.get h.next = some (.cells zc63 63 0 false) := by rw [eA]; exact H.alloc_self _ _
    obtain ⟨hB,eB⟩ : ∃ hB,hB = hA.put h.next (.cells (.string s :: r) 63 0 false) := ⟨_,rfl⟩
    have gB : hB.get h.next = some (.cells (.string s :: r) 63 0 false) := by rw [eB]; exact H.put_self gA
    have wB : hA.write ⟨h.next,0,none⟩ (.string s :: r) = some hB := by rw [eB]; exact H.write_all gA (by simp [hr5,zc63_len]) hones
    have GA : Grow h hA := by rw [eA]; exact (Grow.refl h).alloc _
    have GB : Grow h hB := by rw [eB]; exact GA.put (Nat.le_refl _) (H.get_lt gA) _
    have hsz : (Value.agg ⟨.string s :: r⟩).cells.size = 6 := by rw [asz]; simp [hr5]
    have MB := M.grow GB
    obtain ⟨v,br,look,hasM,ol,hbr⟩ := MB.get s
    have cB : ∀ hh : H,hh.get h.next = some (.cells (.string s :: r) 63 0 false) → xload Try.prog 9 (.pointer (some ⟨h.next,0,none⟩)) hh = .ok (.string s) hh := fun hh e => by
      rw [ld9,H.cell_eq e]; rfl
    have no : s ∈ (outsAt ts j).take q → ∀ x37 x38 x39 x40 x41 x42 x43 x44 : Value,∃ h' ms',Grow h0 h' ∧ MkR h0 h' mp (fQ ts j (outsAt ts j).length) ms' ∧
        F41.j10 Try.prog CLM nu0 nu0 vt (.map (some mp)) (.int .i64 (j : Nat)) (.pointer (some ⟨h.next,0,none⟩)) v vt (.int .i64 (n : Nat)) (.int .i64 (j : Nat)) vo (.int .i64 ((outsAt ts j).length : Nat)) (.int .i64 (q : Nat)) x37 x38 x39 x40 x41 x42 x43 x44 (.bool false) hB = F41.j12 Try.prog CLM nu0 nu0 vt (.map (some mp)) vt (.int .i64 (n : Nat)) (.int .i64 (j : Nat)) h' := by
      intro hm2 x37 x38 x39 x40 x41 x42 x43 x44
      obtain ⟨h',ms',g',M',e⟩ := ih (q + 1) (h := hB) (ms := ms) (by omega) (by omega) (g.trans GB) (by rw [fQ_same hs hm2]; exact MB)
      refine ⟨h',ms',g',M',?_⟩
      rw [F41.j10_eq,ifV_f,xadd,go_ok,wadd1 (by omega)]
      exact e
    have yes : s ∉ (outsAt ts j).take q → ∀ x37 x38 x39 x40 x41 x42 x43 x44 : Value,∃ h' ms',Grow h0 h' ∧ MkR h0 h' mp (fQ ts j (outsAt ts j).length) ms' ∧
        F41.j10 Try.prog CLM nu0 nu0 vt (.map (some mp)) (.int .i64 (j : Nat)) (.pointer (some ⟨h.next,0,none⟩)) v vt (.int .i64 (n : Nat)) (.int .i64 (j : Nat)) vo (.int .i64 ((outsAt ts j).length : Nat)) (.int .i64 (q : Nat)) x37 x38 x39 x40 x41 x42 x43 x44 (.bool true) hB = F41.j12 Try.prog CLM nu0 nu0 vt (.map (some mp)) vt (.int .i64 (n : Nat)) (.int .i64 (j : Nat)) h' := by
      intro hm2 x37 x38 x39 x40 x41 x42 x43 x44
      obtain ⟨v',br',hC,uC,oC,nC,eb,ea⟩ := ol.push2 (by have := fQ_len ts j q s; omega) (j : Int)
      obtain ⟨hD,ms2,eD,uD,MD⟩ := MB.put (Nat.le_trans g.next GB.next) hasM hbr uC oC nC
      rw [fQ_new hs hm2] at MD
      have GD : Grow h0 hD := grow_then (g.trans GB) uD (fun b hb => hb.elim (fun z => by rw [z]; exact MB.mf) (fun z => (hbr b z.symm).1))
      obtain ⟨h',ms',g',M',e⟩ := ih (q + 1) (h := hD) (ms := ms2) (by omega) (by omega) GD MD
      refine ⟨h',ms',g',M',?_⟩
      have hnb : ¬ some h.next = br := fun z => by
        obtain ⟨c,el,ff,op,hc⟩ := ol.cells z.symm
        rw [gB] at hc
        simp only [Option.some.injEq,Blk.cells.injEq] at hc
        rcases hasM with ⟨_,_,w⟩ | ⟨pre,post,w,_⟩
        · rw [w] at z; cases z
        · have := (M.ol (s,v,br) (by rw [w]; simp)).1.lt z.symm
          omega
      have gC := uC.old _ _ hnb gB
      have g1 : (hB.alloc (.cells [.int .i64 (j : Int)] 3 0 false)).get h.next = some (.cells (.string s :: r) 63 0 false) := H.alloc_old gB
      rw [F41.j10_eq,ifV_t,fa63_0,Res.ok1_ok,cB _ gB,Res.ok1_ok,eb,go_ok,cB _ g1,rc_str,Bool.and_true,cond_true,ea,go_ok,cB _ gC,rc_str,Bool.and_true,cond_true,eD,go_ok,xadd,go_ok,wadd1 (by omega)]
      exact e
    have hE : F41.l6 Try.prog CLM nu0 nu0 vt (.map (some mp)) (.int .i64 (j : Nat)) vt (.int .i64 (n : Nat)) (.int .i64 (j : Nat)) vo (.int .i64 ((outsAt ts j).length : Nat)) (.int .i64 (q : Nat)) h =
        if (((fQ ts j q s).length : Nat) : Int) = 0 then F41.j10 Try.prog CLM nu0 nu0 vt (.map (some mp)) (.int .i64 (j : Nat)) (.pointer (some ⟨h.next,0,none⟩)) v vt (.int .i64 (n : Nat)) (.int .i64 (j : Nat)) vo (.int .i64 ((outsAt ts j).length : Nat)) (.int .i64 (q : Nat)) (.tuple #[]) (.tuple #[]) (.tuple #[]) (.tuple #[]) (.tuple #[]) (.tuple #[]) (.tuple #[]) (.tuple #[]) (.bool true) hB
        else ((xbin Try.prog .sub 3 (.int .i64 ((fQ ts j q s).length : Nat)) (.int .i64 1) hB).go .pan fun t51 h52 => (xindexAddr Try.prog 27 v t51 h52).go .pan fun t53 h54 => (xload Try.prog 3 t53 h54).go .pan fun t55 h56 => (xbin Try.prog .neq 3 t55 (.int .i64 (j : Nat)) h56).go .pan fun t57 h58 =>
          F41.j10 Try.prog CLM nu0 nu0 vt (.map (some mp)) (.int .i64 (j : Nat)) (.pointer (some ⟨h.next,0,none⟩)) v vt (.int .i64 (n : Nat)) (.int .i64 (j : Nat)) vo (.int .i64 ((outsAt ts j).length : Nat)) (.int .i64 (q : Nat)) v v (.int .i64 ((fQ ts j q s).length : Nat)) t51 t53 t55 (.int .i64 (j : Nat)) t57 t57 h58) := by
      rw [F41.l6_eq,xlss,go_ok,F41.j7_eq,ifV_dec,if_pos (by omega),F41.j7_1_eq,a1,go_ok,ld63,hrow,ofA_some,go_ok,al63,go_ok,← eA,st63 _ _ _ hsz,cells_agg,wB,ofU_some,go_ok,fa63_0,go_ok,cB _ gB,go_ok,look,go_ok,ol.il.len,go_ok,xeql,go_ok,ifV_dec,ol.il.len,go_ok]
    rw [hE]
    by_cases hm2 : s ∈ (outsAt ts j).take q
    · have e1 : fQ ts j q s = mkL ts s j ++ [(j : Int)] := by unfold fQ; rw [if_pos hm2]
      have hl : (fQ ts j q s).length = (mkL ts s j).length + 1 := by rw [e1]; simp
      have hlast : (fQ ts j q s)[(mkL ts s j).length]? = some (j : Int) := by rw [e1]; simp
      have hll := mkL_len ts s j
      obtain ⟨a,l1,l2⟩ := ol.il.at_ hlast
      rw [if_neg (by omega),xsub,go_ok,wsub1 (by omega) (by omega),hl,Nat.add_sub_cancel,l1,go_ok,l2,go_ok,xneq,go_ok,decide_eq_true rfl,show (!true) = false from rfl]
      exact no hm2 _ _ _ _ _ _ _ _
    · have e1 : fQ ts j q s = mkL ts s j := by unfold fQ; rw [if_neg hm2,List.append_nil]
      by_cases hz : (fQ ts j q s).length = 0
      · rw [if_pos (by omega)]
        exact yes hm2 _ _ _ _ _ _ _ _
      · have hll := fQ_len ts j q s
        have hlast : (fQ ts j q s)[(fQ ts j q s).length - 1]? = some (fQ ts j q s)[(fQ ts j q s).length - 1] := List.getElem?_eq_getElem (by omega)
        have hlt : (fQ ts j q s)[(fQ ts j q s).length - 1] < j := mkL_lt (ts := ts) (p := s) (by rw [← e1]; exact List.getElem_mem _)
        obtain ⟨a,l1,l2⟩ := ol.il.at_ hlast
        rw [if_neg (by omega),xsub,go_ok,wsub1 (by omega) (by omega),l1,go_ok,l2,go_ok,xneq,go_ok,decide_eq_false (by omega),show (!false) = true from rfl]
        exact yes hm2 _ _ _ _ _ _ _ _
theorem mk_outer {h0 : H} {vt : Value} {ts : List TK} {mp : Nat} (T : Tasks h0 vt ts) (F : Few ts) :
    ∀ (m j : Nat) {h : H} {ms : List MkE},ts.length - j = m → j ≤ ts.length → Grow h0 h → MkR h0 h mp (fun p => mkL ts p j) ms →
      ∃ h' ms',Grow h0 h' ∧ MkR h0 h' mp (fun p => mkL ts p ts.length) ms' ∧
        F41.l3 Try.prog CLM nu0 nu0 vt (.map (some mp)) vt (.int .i64 (ts.length : Nat)) (.int .i64 (j : Nat)) h = F41.j13 Try.prog CLM nu0 nu0 vt (.map (some mp)) h' := by
  intro m
  have hn := F.n
  induction m with
  | zero =>
    intro j h ms hm hj g M
    have : j = ts.length := by omega
    subst this
    refine ⟨h,ms,g,M,?_⟩
    rw [F41.l3_eq,xlss,go_ok,F41.j4_eq,ifV_dec,if_neg (by omega)]
  | succ m ih =>
    intro j h ms hm hj g M
    have hjl : j < ts.length := by omega
    have ht : ts[j]? = some ts[j] := List.getElem?_eq_getElem hjl
    obtain ⟨b,o,vi,vo,a1,row,-,O,hones⟩ := T.at_ ht
    have hrow := (row.grow g).row (n := 4) rfl
    rw [← outsAt_eq ht] at O
    obtain ⟨hA,eA⟩ : ∃ hA,hA = h.alloc (.cells zc55 55 0 false) := ⟨_,rfl⟩
    have gA : hA.get h.next = some (.cells zc55 55 0 false) := by rw [eA]; exact H.alloc_self _ _
    obtain ⟨hB,eB⟩ : ∃ hB,hB = hA.put h.next (.cells [.string ts[j].name,.int .i64 ts[j].bud,vi,vo] 55 0 false) := ⟨_,rfl⟩
    have gB : hB.get h.next = some (.cells [.string ts[j].name,.int .i64 ts[j].bud,vi,vo] 55 0 false) := by rw [eB]; exact H.put_self gA
    have wB : hA.write ⟨h.next,0,none⟩ [.string ts[j].name,.int .i64 ts[j].bud,vi,vo] = some hB := by rw [eB]; exact H.write_all gA (by simp [zc55_len]) hones
    have GA : Grow h hA := by rw [eA]; exact (Grow.refl h).alloc _
    have GB : Grow h hB := by rw [eB]; exact GA.put (Nat.le_refl _) (H.get_lt gA) _
    have hsz : (Value.agg ⟨[.string ts[j].name,.int .i64 ts[j].bud,vi,vo]⟩).cells.size = 4 := rfl
    have hc : hB.cell ⟨h.next,0 + 3,none⟩ = some vo := by rw [H.cell_eq gB]; rfl
    obtain ⟨h1,ms1,g1,M1,e1⟩ := mk_inner (vt := vt) (n := ts.length) (mp := mp) O (F.outsAt j) (show j ≤ 3000 by omega) _ 0 rfl (Nat.zero_le _) (g.trans GB) (by rw [fQ_zero]; exact M.grow GB)
    rw [fQ_end] at M1
    obtain ⟨h',ms',g',M',e⟩ := ih (j + 1) (by omega) (by omega) g1 M1
    refine ⟨h',ms',g',M',?_⟩
    rw [F41.l3_eq,xlss,go_ok,F41.j4_eq,ifV_dec,if_pos (by omega),F41.j4_1_eq,a1,go_ok,ld55,hrow,ofA_some,go_ok,al55,go_ok,← eA,st55 _ _ _ hsz,cells_agg,wB,ofU_some,go_ok,fa55_3,go_ok,ld53,hc,ofO_some,go_ok,O.len,go_ok,
      show (Value.int .i64 0) = .int .i64 ((0 : Nat) : Int) from rfl,e1,F41.j12_eq,xadd,go_ok,wadd1 (by omega)]
    exact e
end Go.Proofs.Ytdadiidfhnojcaa.K
namespace Go.Proofs.Ytdadiidfhnojcaa.K
open Go Go.Kx
set_option linter.unusedVariables false
set_option linter.unusedSimpArgs false
set_option maxRecDepth 20000
def ndL (ts : List TK) (i : Nat) : List Int := nl (nd ts i)
theorem rise_eq : ∀ {l m : List Int},l.Pairwise (· < ·) → m.Pairwise (· < ·) → (∀ z,z ∈ l ↔ z ∈ m) → l = m
  | [],[],_,_,_ => rfl
  | [],b :: m,_,_,h => absurd ((h b).2 List.mem_cons_self) List.not_mem_nil
  | a :: l,[],_,_,h => absurd ((h a).1 List.mem_cons_self) List.not_mem_nil
  | a :: l,b :: m,hl,hm,h => by
    have hl' := List.pairwise_cons.1 hl
    have hm' := List.pairwise_cons.1 hm
    have e : a = b := by
      rcases List.mem_cons.1 ((h a).1 List.mem_cons_self) with e | e
      · exact e
      · rcases List.mem_cons.1 ((h b).2 List.mem_cons_self) with e2 | e2
        · exact e2.symm
        · have := hl'.1 b e2; have := hm'.1 a e; omega
    subst e
    refine congrArg (a :: ·) (rise_eq hl'.2 hm'.2 fun z => ⟨fun hz => ?_,fun hz => ?_⟩)
    · rcases List.mem_cons.1 ((h z).1 (List.mem_cons_of_mem _ hz)) with e | e
      · have := hl'.1 z hz; omega
      · exact e
    · rcases List.mem_cons.1 ((h z).2 (List.mem_cons_of_mem _ hz)) with e | e
      · have := hm'.1 z hz; omega
      · exact e
theorem range_rise (n : Nat) : (List.range n).Pairwise (· < ·) := List.pairwise_lt_range
theorem nl_rise {l : List Nat} (h : l.Pairwise (· < ·)) : (nl l).Pairwise (· < ·) := by
  unfold nl
  rw [List.pairwise_map]
  exact h.imp fun {a b} z => by omega
theorem nd_rise (ts : List TK) (i : Nat) : (nd ts i).Pairwise (· < ·) := (range_rise _).filter _
theorem nd_lt {ts : List TK} {i k : Nat} (h : k ∈ nd ts i) : k < ts.length := List.mem_range.1 (List.mem_filter.1 h).1
theorem nd_mem {ts : List TK} {i k : Nat} : k ∈ nd ts i ↔ k < ts.length ∧ need ts i k = true := by
  unfold nd; rw [List.mem_filter,List.mem_range]
theorem nd_len (ts : List TK) (i : Nat) : (nd ts i).length ≤ ts.length := by
  unfold nd; exact Nat.le_trans (List.length_filter_le _ _) (by simp)
def catL (ts : List TK) (i q : Nat) : List Int := ((insAt ts i).take q).flatMap fun p => mkL ts p ts.length
theorem catL_zero (ts : List TK) (i : Nat) : catL ts i 0 = [] := rfl
theorem catL_next {ts : List TK} {i q : Nat} {s : ByteArray} (h : (insAt ts i)[q]? = some s) : catL ts i (q + 1) = catL ts i q ++ mkL ts s ts.length := by
  unfold catL
  rw [List.take_add_one,h,List.flatMap_append]
  simp
theorem catL_len (ts : List TK) (i q : Nat) : (catL ts i q).length ≤ q * ts.length := by
  unfold catL
  rw [List.length_flatMap]
  have : ∀ l : List ByteArray,(l.map fun p => (mkL ts p ts.length).length).sum ≤ l.length * ts.length := by
    intro l
    induction l with
    | nil => simp
    | cons a l ih =>
      have := mkL_len ts a ts.length
      simp only [List.map_cons,List.sum_cons,List.length_cons,Nat.add_mul,Nat.one_mul]
      omega
  exact Nat.le_trans (this _) (Nat.mul_le_mul_right _ (by simp; omega))
theorem catL_mem {ts : List TK} {i : Nat} {z : Int} : z ∈ catL ts i (insAt ts i).length ↔ z ∈ ndL ts i := by
  unfold catL ndL
  rw [List.take_length,List.mem_flatMap]
  constructor
  · rintro ⟨p,hp,hz⟩
    obtain ⟨k,hk,rfl⟩ := nl_mem.1 hz
    rw [List.mem_filter,List.mem_range] at hk
    exact nl_mem.2 ⟨k,nd_mem.2 ⟨hk.1,List.any_eq_true.2 ⟨p,hp,hk.2⟩⟩,rfl⟩
  · intro hz
    obtain ⟨k,hk,rfl⟩ := nl_mem.1 hz
    obtain ⟨h1,h2⟩ := nd_mem.1 hk
    obtain ⟨p,hp,hq⟩ := List.any_eq_true.1 h2
    exact ⟨p,hp,nl_mem.2 ⟨k,List.mem_filter.2 ⟨List.mem_range.2 h1,hq⟩,rfl⟩⟩
theorem dd_cat {ts : List TK} {i : Nat} {l : List Int} (hp : l.Perm (catL ts i (insAt ts i).length)) (hr : Rise l) : dd l = ndL ts i :=
  rise_eq (dd_rise l hr) (nl_rise (nd_rise ts i)) fun z => by rw [dd_mem,hp.mem_iff,catL_mem]
theorem ll_ld {h : H} {b n cap : Nat} {vs : List Value} {op : Bool} {sp : Option Nat} (hg : h.get b = some (.cells vs 27 0 op)) {i : Nat} {v : Value} (hi : i < n) (hv : vs[i]? = some v) :
    xindexAddr Try.prog 33 (.slice (some ⟨b,0,sp⟩) n cap) (.int .i64 (i : Nat)) h = .ok (.pointer (some ⟨b,0 + i * 1,none⟩)) h ∧ xload Try.prog 27 (.pointer (some ⟨b,0 + i * 1,none⟩)) h = .ok v h := by
  refine ⟨ia33 _ _ _ _ _ _ _ _ hi,?_⟩
  rw [ld27,H.cell_eq hg,Nat.zero_add,Nat.mul_one,hv,ofO_some]
theorem ll_st {h : H} {b n cap : Nat} {vs : List Value} {op : Bool} {sp : Option Nat} (hg : h.get b = some (.cells vs 27 0 op)) {i : Nat} {v : Value} (hi : i < n) (hn : n ≤ vs.length) (hv : v.cells.size = 1 ∧ v.cells.toList = [v] ∧ v.oneCell' = true) :
    xindexAddr Try.prog 33 (.slice (some ⟨b,0,sp⟩) n cap) (.int .i64 (i : Nat)) h = .ok (.pointer (some ⟨b,0 + i * 1,none⟩)) h ∧ xstore Try.prog 27 (.pointer (some ⟨b,0 + i * 1,none⟩)) v h = .ok undef (h.put b (.cells (vs.set i v) 27 0 op)) := by
  refine ⟨ia33 _ _ _ _ _ _ _ _ hi,?_⟩
  rw [st27 _ _ _ hv.1,hv.2.1,Nat.zero_add,Nat.mul_one,write_cell' hg (by omega) hv.2.2,ofU_some]
theorem PL.one {h : H} {v : Value} {br : Option Nat} {l : List Int} (q : PL h v br l) : v.cells.size = 1 ∧ v.cells.toList = [v] ∧ v.oneCell' = true := q.nl.1.one
structure RowS (h0 h1 h : H) (bo i : Nat) (vs : List Value) (v : Value) (br : Option Nat) (l : List Int) : Prop where
  u : Upd (fun x => x = bo ∨ h1.next ≤ x) h1 h
  g : h.get bo = some (.cells (vs.set i v) 27 0 false)
  ol : OL h v br l
  fr : ∀ b,br = some b → h1.next ≤ b
  ne : br ≠ none → l ≠ []
theorem nf_inner {h0 h1 : H} {vt vi : Value} {ts : List TK} {mp bo i : Nat} {vs : List Value} {ms : List MkE} (S : StrSl h0 vi (insAt ts i)) (F : Few ts) (hi : i < ts.length) (hv : vs.length = ts.length) (hbo : h0.next ≤ bo)
    (g1 : Grow h0 h1) (M : MkR h0 h1 mp (fun p => mkL ts p ts.length) ms) (hb1 : h1.get bo = some (.cells vs 27 0 false)) :
    ∀ (m q : Nat) {h : H} {v : Value} {br : Option Nat},(insAt ts i).length - q = m → q ≤ (insAt ts i).length → RowS h0 h1 h bo i vs v br (catL ts i q) →
      ∃ h' v' br',RowS h0 h1 h' bo i vs v' br' (catL ts i (insAt ts i).length) ∧
        F41.l18 Try.prog CLM nu0 nu0 (.map (some mp)) (.slice (some ⟨bo,0,none⟩) ts.length ts.length) (.int .i64 (i : Nat)) vt (.int .i64 (ts.length : Nat)) (.int .i64 (i : Nat)) vi (.int .i64 ((insAt ts i).length : Nat)) (.int .i64 (q : Nat)) h =
          F41.j22 Try.prog CLM nu0 nu0 (.map (some mp)) (.slice (some ⟨bo,0,none⟩) ts.length ts.length) (.int .i64 (i : Nat)) vt (.int .i64 (ts.length : Nat)) (.int .i64 (i : Nat)) h' := by
  intro m
  have hn := F.n
  have hins := F.insAt i
  obtain ⟨es,clock,mg,me⟩ := M.g
  have hmb : mp ≠ bo := fun z => by rw [z,hb1] at mg; cases mg
  induction m with
  | zero =>
    intro q h v br hm hq R
    have : q = (insAt ts i).length := by omega
    refine ⟨h,v,br,this ▸ R,?_⟩
    rw [F41.l18_eq,xlss,go_ok,F41.j19_eq,ifV_dec,if_neg (by omega)]
  | succ m ih =>
    intro q h v br hm hq R
    have hql : q < (insAt ts i).length := by omega
    have hs : (insAt ts i)[q]? = some (insAt ts i)[q] := List.getElem?_eq_getElem hql
    obtain ⟨s,hsd⟩ : ∃ s,s = (insAt ts i)[q] := ⟨_,rfl⟩
    rw [← hsd] at hs
    have G : Grow h0 h := grow_then g1 R.u fun b hb => hb.elim (fun z => z ▸ hbo) (fun z => Nat.le_trans g1.next z)
    obtain ⟨a,a1,a2⟩ := (S.grow G).at_ hs
    have MB : MkR h0 h mp (fun p => mkL ts p ts.length) ms := M.upd R.u (fun z => z.elim hmb fun z => by have := H.get_lt mg; omega) fun x hx b hb z => by
      obtain ⟨c,el,ff,op,hc⟩ := (M.ol x hx).1.cells hb
      rcases z with z | z
      · rcases (M.ol x hx).1 with ⟨w,_⟩ | ⟨b',sp,cap,w,_,hg,_⟩
        · rw [w] at hb; cases hb
        · rw [w] at hb; cases hb; rw [z,hb1] at hg
          simp only [Option.some.injEq,Blk.cells.injEq] at hg
          exact absurd hg.2.1 (by decide)
      · have := H.get_lt hc; omega
    obtain ⟨w,bw,look,-,olw,-⟩ := MB.get s
    have hlen := catL_len ts i q
    have hq12 : q * ts.length ≤ 12 * 3000 := Nat.mul_le_mul (by omega) hn
    have hml := mkL_len ts s ts.length
    have happ : ∃ v' br' h',xbuiltin Try.prog .append [27,27] [v,w] h = .ok v' h' ∧ Upd (fun x => some x = br) h h' ∧ OL h' v' br' (catL ts i (q + 1)) ∧ NewBr h br br' ∧ (br' ≠ none → catL ts i (q + 1) ≠ []) := by
      rw [catL_next hs]
      by_cases hz : mkL ts s ts.length = []
      · refine ⟨v,br,h,?_,Upd.refl _ _,by rw [hz,List.append_nil]; exact R.ol,.inl rfl,by rw [hz,List.append_nil]; exact R.ne⟩
        have := olw.il
        simp only [hz] at this
        exact R.ol.app0 this
      · obtain ⟨v',br',h',e,u,o,n⟩ := R.ol.app (by omega) olw.il
        exact ⟨v',br',h',e,u,o,n,fun _ z => hz (List.append_eq_nil_iff.1 z).2⟩
    obtain ⟨v',br',h2,ea,u2,o2,n2,ne2⟩ := happ
    have hset : (vs.set i v)[i]? = some v := by rw [List.getElem?_set_self (by omega)]
    obtain ⟨l1,l2⟩ := ll_ld (sp := none) (n := ts.length) (cap := ts.length) R.g hi hset
    have hbn : ¬ some bo = br := fun z => by
      rcases R.ol with ⟨w,_⟩ | ⟨b',sp,cap,w,_,hg,_⟩
      · rw [w] at z; cases z
      · rw [w] at z; cases z; rw [R.g] at hg
        simp only [Option.some.injEq,Blk.cells.injEq] at hg
        exact absurd hg.2.1 (by decide)
    have g2 := u2.old _ _ hbn R.g
    obtain ⟨s1,s2⟩ := ll_st (sp := none) (n := ts.length) (cap := ts.length) (i := i) g2 hi (by rw [List.length_set]; omega) o2.one
    rw [List.set_set] at s2
    obtain ⟨h3,hh3⟩ : ∃ h3,h3 = h2.put bo (.cells (vs.set i v') 27 0 false) := ⟨_,rfl⟩
    have u3 : Upd (fun x => x = bo) h2 h3 := by rw [hh3]; exact (Upd.refl (fun x => x = bo) h2).put (.inl rfl) (H.get_lt g2) _
    have hbn' : ∀ b,br' = some b → ¬ b = bo := fun b hb z => by
      rcases o2 with ⟨w,_⟩ | ⟨b',sp,cap,w,_,hg,_⟩
      · rw [w] at hb; cases hb
      · rw [w] at hb; cases hb; rw [z,g2] at hg
        simp only [Option.some.injEq,Blk.cells.injEq] at hg
        exact absurd hg.2.1 (by decide)
    have R3 : RowS h0 h1 h3 bo i vs v' br' (catL ts i (q + 1)) := by
      refine ⟨?_,by rw [hh3]; exact H.put_self g2,o2.upd u3 hbn',fun b hb => ?_,ne2⟩
      · refine (R.u.trans (u2.mono fun x _ z => .inr (R.fr x z.symm))).trans (u3.mono fun x _ z => .inl z)
      · rcases n2 with z | ⟨b2,z,z2⟩
        · exact R.fr b (z ▸ hb)
        · rw [z] at hb; cases hb
          exact Nat.le_trans R.u.next z2
    obtain ⟨h',v'',br'',R',e⟩ := ih (q + 1) (by omega) (by omega) R3
    refine ⟨h',v'',br'',R',?_⟩
    rw [F41.l18_eq,xlss,go_ok,F41.j19_eq,ifV_dec,if_pos (by omega),F41.j19_1_eq,a1,go_ok,a2,go_ok,l1,Res.ok1_ok,l2,Res.ok1_ok,look,go_ok,l2,R.ol.rc,Bool.and_true,cond_true,ea,go_ok,s1,Res.ok1_ok,s2,go_ok,← hh3,xadd,go_ok,wadd1 (by omega)]
    exact e
def DoneR (h0 h : H) (ts : List TK) (vs : List Value) (i : Nat) : Prop :=
  ∀ k,k < i → ∃ v br,vs[k]? = some v ∧ PL h v br (ndL ts k) ∧ ∀ b,br = some b → h0.next ≤ b
theorem nf_outer {h0 : H} {vt : Value} {ts : List TK} {mp bo : Nat} {ms : List MkE} (T : Tasks h0 vt ts) (F : Few ts) (hbo : h0.next ≤ bo) :
    ∀ (m i : Nat) {h : H} {vs : List Value},ts.length - i = m → i ≤ ts.length → Grow h0 h → MkR h0 h mp (fun p => mkL ts p ts.length) ms → h.get bo = some (.cells vs 27 0 false) → vs.length = ts.length →
      DoneR h0 h ts vs i → (∀ k,i ≤ k → k < ts.length → vs[k]? = some (.slice none 0 0)) →
      ∃ h' vs',Grow h0 h' ∧ h'.get bo = some (.cells vs' 27 0 false) ∧ vs'.length = ts.length ∧ DoneR h0 h' ts vs' ts.length ∧
        F41.l15 Try.prog CLM nu0 nu0 (.map (some mp)) (.slice (some ⟨bo,0,none⟩) ts.length ts.length) vt (.int .i64 (ts.length : Nat)) (.int .i64 (i : Nat)) h = .ok (.slice (some ⟨bo,0,none⟩) ts.length ts.length) h' := by
  intro m
  have hn := F.n
  induction m with
  | zero =>
    intro i h vs hm hi g M hb hl D N
    have : i = ts.length := by omega
    refine ⟨h,vs,g,hb,hl,this ▸ D,?_⟩
    rw [F41.l15_eq,xlss,go_ok,F41.j16_eq,ifV_dec,if_neg (by omega),F41.j25_eq]
  | succ m ih =>
    intro i h vs hm hi g M hb hl D N
    have hil : i < ts.length := by omega
    have ht : ts[i]? = some ts[i] := List.getElem?_eq_getElem hil
    obtain ⟨b,o,vi,vo,a1,row,S,O,hones⟩ := T.at_ ht
    have hrow := (row.grow g).row (n := 4) rfl
    rw [← insAt_eq ht] at S
    obtain ⟨hA,eA⟩ : ∃ hA,hA = h.alloc (.cells zc55 55 0 false) := ⟨_,rfl⟩
    have gA : hA.get h.next = some (.cells zc55 55 0 false) := by rw [eA]; exact H.alloc_self _ _
    obtain ⟨hB,eB⟩ : ∃ hB,hB = hA.put h.next (.cells [.string ts[i].name,.int .i64 ts[i].bud,vi,vo] 55 0 false) := ⟨_,rfl⟩
    have gB : hB.get h.next = some (.cells [.string ts[i].name,.int .i64 ts[i].bud,vi,vo] 55 0 false) := by rw [eB]; exact H.put_self gA
    have wB : hA.write ⟨h.next,0,none⟩ [.string ts[i].name,.int .i64 ts[i].bud,vi,vo] = some hB := by rw [eB]; exact H.write_all gA (by simp [zc55_len]) hones
    have GA : Grow h hA := by rw [eA]; exact (Grow.refl h).alloc _
    have GB : Grow h hB := by rw [eB]; exact GA.put (Nat.le_refl _) (H.get_lt gA) _
    have hsz : (Value.agg ⟨[.string ts[i].name,.int .i64 ts[i].bud,vi,vo]⟩).cells.size = 4 := rfl
    have hc : hB.cell ⟨h.next,0 + 2,none⟩ = some vi := by rw [H.cell_eq gB]; rfl
    have hb2 := GB.old _ _ hb
    have hvi : vs[i]? = some (.slice none 0 0) := N i (Nat.le_refl _) hil
    have hset0 : vs.set i (.slice none 0 0) = vs := by
      apply List.ext_getElem?
      intro j
      rw [List.getElem?_set]
      by_cases hj : i = j
      · subst hj; rw [if_pos rfl,if_pos (by omega)]; exact hvi.symm
      · rw [if_neg hj]
    have MB := M.grow GB
    obtain ⟨h1,v1,br1,R1,e1⟩ := nf_inner (vt := vt) (bo := bo) (i := i) (vs := vs) S F hil hl hbo (g.trans GB) MB hb2 _ 0 rfl (Nat.zero_le _) (h := hB) (v := .slice none 0 0) (br := none)
      ⟨Upd.refl _ _,by rw [hset0]; exact hb2,by rw [catL_zero]; exact OL.nil,(fun b z => by cases z),fun z => absurd rfl z⟩
    have hins := F.insAt i
    have hclen := catL_len ts i (insAt ts i).length
    have hq12 : (insAt ts i).length * ts.length ≤ 12 * 3000 := Nat.mul_le_mul hins hn
    obtain ⟨h2,l2,u2,o2,p2,r2,e2⟩ := eSortInts R1.ol (by omega)
    have hl2 := p2.length_eq
    have hbn : ¬ some bo = br1 := fun z => by
      rcases R1.ol with ⟨w,_⟩ | ⟨b',sp,cap,w,_,hg,_⟩
      · rw [w] at z; cases z
      · rw [w] at z; cases z; rw [R1.g] at hg
        simp only [Option.some.injEq,Blk.cells.injEq] at hg
        exact absurd hg.2.1 (by decide)
    have b2 := u2.old _ _ hbn R1.g
    obtain ⟨h3,v3,u3,o3,ne3,e3⟩ := eCompact o2 (by omega)
    have b3 := u3.old _ _ hbn b2
    rw [dd_cat p2 r2] at o3
    have ddl := dd_len l2
    rw [dd_cat p2 r2] at ddl
    obtain ⟨v4,P4,e4⟩ := eClip o3 (by omega) (fun z => by
      intro w
      have h1 := R1.ne z
      have h2 : l2 ≠ [] := fun y => h1 (by rw [y] at p2; exact p2.symm.eq_nil)
      have h3 : dd l2 = [] := by rw [dd_cat p2 r2]; exact w
      cases l2 with
      | nil => exact h2 rfl
      | cons a l => exact absurd ((dd_mem (a :: l) a).2 List.mem_cons_self) (by rw [h3]; exact List.not_mem_nil))
    have hset : (vs.set i v1)[i]? = some v1 := by rw [List.getElem?_set_self (by omega)]
    obtain ⟨l1,l1'⟩ := ll_ld (sp := none) (n := ts.length) (cap := ts.length) R1.g hil hset
    obtain ⟨m1,m1'⟩ := ll_ld (sp := none) (n := ts.length) (cap := ts.length) b2 hil hset
    obtain ⟨s1,s2⟩ := ll_st (sp := none) (n := ts.length) (cap := ts.length) (i := i) b3 hil (by rw [List.length_set]; omega) P4.one
    rw [List.set_set] at s2
    obtain ⟨h5,hh5⟩ : ∃ h5,h5 = h3.put bo (.cells (vs.set i v4) 27 0 false) := ⟨_,rfl⟩
    have u5 : Upd (fun x => x = bo) h3 h5 := by rw [hh5]; exact (Upd.refl (fun x => x = bo) h3).put (.inl rfl) (H.get_lt b3) _
    have U : Upd (fun x => x = bo ∨ hB.next ≤ x) hB h5 :=
      ((R1.u.trans (u2.mono fun x _ z => .inr (R1.fr x z.symm))).trans (u3.mono fun x _ z => .inr (R1.fr x z.symm))).trans (u5.mono fun x _ z => .inl z)
    have G5 : Grow h0 h5 := grow_then (g.trans GB) U fun b hb => hb.elim (fun z => z ▸ hbo) (fun z => Nat.le_trans (g.trans GB).next z)
    obtain ⟨es,clock,mg,me⟩ := MB.g
    have hmb : mp ≠ bo := fun z => by rw [z,hb2] at mg; cases mg
    have M5 : MkR h0 h5 mp (fun p => mkL ts p ts.length) ms := MB.upd U (fun z => z.elim hmb fun z => by have := H.get_lt mg; omega) fun x hx b hb z => by
      obtain ⟨c,el,ff,op,hc⟩ := (MB.ol x hx).1.cells hb
      rcases z with z | z
      · rcases (MB.ol x hx).1 with ⟨w,_⟩ | ⟨b',sp,cap,w,_,hg,_⟩
        · rw [w] at hb; cases hb
        · rw [w] at hb; cases hb; rw [z,hb2] at hg
          simp only [Option.some.injEq,Blk.cells.injEq] at hg
          exact absurd hg.2.1 (by decide)
      · have := H.get_lt hc; omega
    have g5 : h5.get bo = some (.cells (vs.set i v4) 27 0 false) := by rw [hh5]; exact H.put_self b3
    have D5 : DoneR h0 h5 ts (vs.set i v4) (i + 1) := by
      intro k hk
      by_cases hki : k = i
      · subst hki
        refine ⟨v4,br1,List.getElem?_set_self (by omega),P4.updT u5 (fun b c hb hg z => ?_),fun b hb => Nat.le_trans (g.trans GB).next (R1.fr b hb)⟩
        rw [z,b3] at hg
        simp only [Option.some.injEq,Blk.cells.injEq] at hg
        exact absurd hg.2.1 (by decide)
      · obtain ⟨v,br,hv,P,fr⟩ := D k (by omega)
        refine ⟨v,br,by rw [List.getElem?_set_ne (by omega)]; exact hv,(P.grow GB).updT U (fun b c hb hg z => ?_),fr⟩
        rcases z with z | z
        · rw [z,hb2] at hg
          simp only [Option.some.injEq,Blk.cells.injEq] at hg
          exact absurd hg.2.1 (by decide)
        · have := H.get_lt hg; omega
    obtain ⟨h',vs',r1,r2',r3,r4,r5⟩ := ih (i + 1) (by omega) (by omega) G5 M5 g5 (by rw [List.length_set]; exact hl) D5 (fun k hk hk2 => by rw [List.getElem?_set_ne (by omega)]; exact N k (by omega) hk2)
    refine ⟨h',vs',r1,r2',r3,r4,?_⟩
    rw [F41.l15_eq,xlss,go_ok,F41.j16_eq,ifV_dec,if_pos (by omega),F41.j16_1_eq,a1,go_ok,ld55,hrow,ofA_some,go_ok,al55,go_ok,← eA,st55 _ _ _ hsz,cells_agg,wB,ofU_some,go_ok,fa55_2,go_ok,ld52,hc,ofO_some,go_ok,S.len,go_ok,
      show (Value.int .i64 0) = .int .i64 ((0 : Nat) : Int) from rfl,e1,F41.j22_eq,l1,go_ok,l1',go_ok,e2,go_ok,m1,go_ok,m1',go_ok,e3,go_ok,e4,go_ok,s1,go_ok,s2,go_ok,← hh5,F41.j24_eq,xadd,go_ok,wadd1 (by omega)]
    exact r5
theorem eNeedsOf {h0 : H} {vt : Value} {ts : List TK} (T : Tasks h0 vt ts) (F : Few ts) :
    ∃ h' bo vs,Grow h0 h' ∧ h0.next ≤ bo ∧ h'.get bo = some (.cells vs 27 0 false) ∧ vs.length = ts.length ∧ DoneR h0 h' ts vs ts.length ∧
      CLM (.f 41) [vt] h0 = .ok (.slice (some ⟨bo,0,none⟩) ts.length ts.length) h' := by
  have hn := F.n
  have em : xmakeMap h0 = .ok (.map (some h0.next)) (h0.alloc (.map [] 0)) := rfl
  obtain ⟨h1,hh1⟩ : ∃ h1,h1 = h0.alloc (.map [] 0) := ⟨_,rfl⟩
  have G1 : Grow h0 h1 := by rw [hh1]; exact (Grow.refl h0).alloc _
  have M1 : MkR h0 h1 h0.next (fun p => mkL ts p 0) [] := ⟨⟨[],0,by rw [hh1]; exact H.alloc_self _ _,rfl⟩,Nat.le_refl _,List.Pairwise.nil,(fun x hx => by cases hx),fun s _ => rfl,List.Pairwise.nil⟩
  obtain ⟨h2,ms,G2,M2,e2⟩ := mk_outer (mp := h0.next) T F _ 0 rfl (Nat.zero_le _) G1 M1
  obtain ⟨h3,hh3⟩ : ∃ h3,h3 = h2.alloc (.cells (List.replicate ts.length (.slice none 0 0)) 27 0 false) := ⟨_,rfl⟩
  have G3 : Grow h2 h3 := by rw [hh3]; exact (Grow.refl h2).alloc _
  obtain ⟨h',vs,g',b',l',D',e'⟩ := nf_outer (mp := h0.next) (bo := h2.next) (ms := ms) T F G2.next _ 0 rfl (Nat.zero_le _) (G2.trans G3) (M2.grow G3) (by rw [hh3]; exact H.alloc_self _ _) (by simp) (fun k hk => absurd hk (Nat.not_lt_zero k))
    (fun k _ hk => by rw [List.getElem?_replicate,if_pos hk])
  refine ⟨h',h2.next,vs,g',G2.next,b',l',D',?_⟩
  rw [cM41,F41.eq,em,go_ok,← hh1,T.len,go_ok,show (Value.int .i64 0) = .int .i64 ((0 : Nat) : Int) from rfl,e2,F41.j13_eq,T.len,go_ok,mkLL (by omega),go_ok,← hh3,T.len,go_ok,show (Value.int .i64 0) = .int .i64 ((0 : Nat) : Int) from rfl,e']
end Go.Proofs.Ytdadiidfhnojcaa.K
namespace Go.Proofs.Ytdadiidfhnojcaa.K
open Go Go.Kx
set_option linter.unusedVariables false
set_option linter.unusedSimpArgs false
set_option maxRecDepth 20000
def LLv (h : H) (v : Value) (n : Nat) (f : Nat → List Int) : Prop := ∃ b op vs,v = .slice (some ⟨b,0,none⟩) n n ∧ h.get b = some (.cells vs 27 0 op) ∧ vs.length = n ∧ ∀ k,k < n → ∃ u,vs[k]? = some u ∧ NL h u (f k)
theorem LLv.grow {h h' : H} (g : Grow h h') {v : Value} {n : Nat} {f : Nat → List Int} (q : LLv h v n f) : LLv h' v n f := by
  obtain ⟨b,op,vs,e,hg,hl,hk⟩ := q
  exact ⟨b,op,vs,e,g.old _ _ hg,hl,fun k hn => by obtain ⟨u,e1,e2⟩ := hk k hn; exact ⟨u,e1,e2.grow g⟩⟩
theorem LLv.len {h : H} {v : Value} {n : Nat} {f : Nat → List Int} (q : LLv h v n f) (h' : H) : xbuiltin Try.prog .len [33] [v] h' = .ok (.int .i64 (n : Nat)) h' := by
  obtain ⟨b,op,vs,rfl,hg,hl,hk⟩ := q
  exact ln33 _ _ _ _
theorem LLv.at_ {h : H} {v : Value} {n : Nat} {f : Nat → List Int} (q : LLv h v n f) {k : Nat} (hk : k < n) :
    ∃ a u,(∀ h',xindexAddr Try.prog 33 v (.int .i64 (k : Nat)) h' = .ok (.pointer (some a)) h') ∧ (∀ h',Grow h h' → xload Try.prog 27 (.pointer (some a)) h' = .ok u h') ∧ NL h u (f k) := by
  obtain ⟨b,op,vs,rfl,hg,hl,hf⟩ := q
  obtain ⟨u,e1,e2⟩ := hf k hk
  refine ⟨⟨b,0 + k * 1,none⟩,u,fun h' => ia33 _ _ _ _ _ _ _ h' hk,fun h' g => ?_,e2⟩
  rw [ld27,H.cell_eq (g.old _ _ hg),Nat.zero_add,Nat.mul_one,e1,ofO_some]
def wv (n : Nat) (w : Nat → Value × Option Nat) : List Value := (List.range n).map fun k => (w k).1
theorem wv_len (n : Nat) (w : Nat → Value × Option Nat) : (wv n w).length = n := by simp [wv]
theorem wv_at {n k : Nat} (w : Nat → Value × Option Nat) (hk : k < n) : (wv n w)[k]? = some (w k).1 := by simp [wv,hk]
def updN {α : Type} (f : Nat → α) (k : Nat) (x : α) : Nat → α := fun j => if j = k then x else f j
theorem updN_eq {α : Type} {f : Nat → α} {k : Nat} {x : α} : updN f k x k = x := if_pos rfl
theorem updN_ne {α : Type} {f : Nat → α} {k j : Nat} {x : α} (h : j ≠ k) : updN f k x j = f j := if_neg h
theorem wv_set {n k : Nat} (w : Nat → Value × Option Nat) (hk : k < n) (x : Value × Option Nat) : (wv n w).set k x.1 = wv n (updN w k x) := by
  apply List.ext_getElem?
  intro j
  rw [List.getElem?_set]
  by_cases hj : j < n
  · rw [wv_at _ hj,wv_at _ hj]
    by_cases e : k = j
    · subst e; rw [if_pos rfl,if_pos (by rw [wv_len]; exact hk),updN_eq]
    · rw [if_neg e,updN_ne (fun z => e z.symm)]
  · rw [List.getElem?_eq_none (by rw [wv_len]; omega),List.getElem?_eq_none (by rw [wv_len]; omega)]
    split <;> simp_all [wv_len]
structure LLo (h0 h : H) (bo n : Nat) (op : Bool) (w : Nat → Value × Option Nat) (f : Nat → List Int) : Prop where
  g : h.get bo = some (.cells (wv n w) 27 0 op)
  ol : ∀ k,k < n → OL h (w k).1 (w k).2 (f k) ∧ (∀ b,(w k).2 = some b → h0.next ≤ b) ∧ ((w k).2 ≠ none → f k ≠ [])
  ap : ∀ k k' b,k < n → k' < n → k ≠ k' → (w k).2 = some b → (w k').2 ≠ some b
theorem OL.ne {h : H} {v : Value} {br : Option Nat} {l : List Int} (q : OL h v br l) {bo : Nat} {vs : List Value} {op : Bool} (hg : h.get bo = some (.cells vs 27 0 op)) : br ≠ some bo := by
  intro z
  rcases q with ⟨w,_⟩ | ⟨b',sp,cap,w,_,hg',_⟩
  · rw [w] at z; cases z
  · rw [w] at z; cases z; rw [hg] at hg'
    simp only [Option.some.injEq,Blk.cells.injEq] at hg'
    exact absurd hg'.2.1 (by decide)
theorem LLo.grow {h0 h h' : H} (g : Grow h h') {bo n : Nat} {op : Bool} {w : Nat → Value × Option Nat} {f : Nat → List Int} (q : LLo h0 h bo n op w f) : LLo h0 h' bo n op w f :=
  ⟨g.old _ _ q.g,fun k hk => ⟨(q.ol k hk).1.grow g,(q.ol k hk).2⟩,q.ap⟩
theorem LLo.congr {h0 h : H} {bo n : Nat} {op : Bool} {w : Nat → Value × Option Nat} {f f' : Nat → List Int} (q : LLo h0 h bo n op w f) (e : ∀ k,k < n → f k = f' k) : LLo h0 h bo n op w f' :=
  ⟨q.g,fun k hk => by rw [← e k hk]; exact q.ol k hk,q.ap⟩
theorem LLo.set {h0 h h' : H} {bo n k : Nat} {op : Bool} {w : Nat → Value × Option Nat} {f : Nat → List Int} (q : LLo h0 h bo n op w f) (hn : h0.next ≤ h.next) (hk : k < n) {v' : Value} {br' : Option Nat} {l' : List Int}
    (u : Upd (fun x => some x = (w k).2) h h') (o : OL h' v' br' l') (nb : NewBr h (w k).2 br') (ne : br' ≠ none → l' ≠ []) :
    LLo h0 (h'.put bo (.cells (wv n (updN w k (v',br'))) 27 0 op)) bo n op (updN w k (v',br')) (updN f k l') ∧ Upd (fun x => x = bo ∨ some x = (w k).2) h (h'.put bo (.cells (wv n (updN w k (v',br'))) 27 0 op)) ∧
      h'.get bo = some (.cells (wv n w) 27 0 op) := by
  have g' : h'.get bo = some (.cells (wv n w) 27 0 op) := u.old _ _ (fun z => (q.ol k hk).1.ne q.g z.symm) q.g
  have U : Upd (fun x => x = bo) h' (h'.put bo (.cells (wv n (updN w k (v',br'))) 27 0 op)) := (Upd.refl (fun x => x = bo) h').put (.inl rfl) (H.get_lt g') _
  have keep : ∀ {v br l},OL h' v br l → OL (h'.put bo (.cells (wv n (updN w k (v',br'))) 27 0 op)) v br l := fun o => o.upd U fun b e z => o.ne g' (by rw [e,z])
  refine ⟨⟨H.put_self g',fun j hj => ?_,fun a b c ha hb hab e => ?_⟩,(u.mono fun x _ z => .inr z).trans (U.mono fun x _ z => .inl z),g'⟩
  · by_cases e : j = k
    · subst e
      rw [updN_eq,updN_eq]
      refine ⟨keep o,fun b hb => ?_,ne⟩
      rcases nb with z | ⟨b2,z,z2⟩
      · exact (q.ol j hj).2.1 b (z ▸ hb)
      · simp only at hb; rw [z] at hb; cases hb; omega
    · rw [updN_ne e,updN_ne e]
      exact ⟨keep ((q.ol j hj).1.upd u fun b hb z => q.ap k j b hk hj (fun z => e z.symm) z.symm hb),(q.ol j hj).2⟩
  · have fresh : ∀ j,j < n → j ≠ k → br' = some c → (w j).2 ≠ some c := fun j hj hjk z z2 => by
      rcases nb with y | ⟨b2,y,y2⟩
      · exact q.ap k j c hk hj (fun z => hjk z.symm) (y ▸ z) z2
      · rw [y] at z; cases z
        have := (q.ol j hj).1.lt z2
        omega
    by_cases e1 : a = k
    · subst e1
      rw [updN_eq] at e
      rw [updN_ne (fun z => hab z.symm)]
      exact fresh b hb (fun z => hab z.symm) e
    · rw [updN_ne e1] at e
      by_cases e2 : b = k
      · subst e2
        rw [updN_eq]
        exact fun z => fresh a ha hab z e
      · rw [updN_ne e2]
        exact q.ap a b c ha hb hab e
theorem LLo.llv {h0 h : H} {bo n : Nat} {op : Bool} {w : Nat → Value × Option Nat} {f : Nat → List Int} (q : LLo h0 h bo n op w f) : LLv h (.slice (some ⟨bo,0,none⟩) n n) n f :=
  ⟨bo,op,wv n w,rfl,q.g,wv_len _ _,fun k hk => ⟨(w k).1,wv_at w hk,(q.ol k hk).1.il,fun e => by
    rcases (q.ol k hk).1 with ⟨_,z,_⟩ | ⟨b,_,_,z,_⟩
    · exact z
    · exact absurd e ((q.ol k hk).2.2 (by rw [z]; simp))⟩⟩
theorem LLo.new {h0 h : H} {n : Nat} (hn : h0.next ≤ h.next) : LLo h0 (h.alloc (.cells (List.replicate n (.slice none 0 0)) 27 0 false)) h.next n false (fun _ => (.slice none 0 0,none)) (fun _ => []) :=
  ⟨by rw [H.alloc_self]; congr 2; simp only [wv,List.map_const',List.length_range],fun k hk => ⟨OL.nil,(fun b z => by cases z),fun z => absurd rfl z⟩,fun k k' b _ _ _ z => by cases z⟩
def us (ts : List TK) (j : Nat) : List Nat := (List.range ts.length).filter fun i => need ts i j
def usL (ts : List TK) (j : Nat) : List Int := nl (us ts j)
theorem us_mem {ts : List TK} {i j : Nat} : i ∈ us ts j ↔ i < ts.length ∧ need ts i j = true := by unfold us; rw [List.mem_filter,List.mem_range]
theorem us_rise (ts : List TK) (j : Nat) : (us ts j).Pairwise (· < ·) := (range_rise _).filter _
theorem us_len (ts : List TK) (i : Nat) : (us ts i).length ≤ ts.length := by
  unfold us; exact Nat.le_trans (List.length_filter_le _ _) (by simp)
def uQ (ts : List TK) (i q : Nat) : Nat → List Int := fun j => nl ((List.range i).filter fun a => need ts a j) ++ if j ∈ (nd ts i).take q then [(i : Int)] else []
theorem uQ_len (ts : List TK) (i q j : Nat) : (uQ ts i q j).length ≤ i + 1 := by
  unfold uQ
  have : ((List.range i).filter fun a => need ts a j).length ≤ i := Nat.le_trans (List.length_filter_le _ _) (by simp)
  rw [List.length_append,nl_len]
  split <;> simp <;> omega
theorem uQ_new {ts : List TK} {i q j : Nat} (hj : (nd ts i)[q]? = some j) : updN (uQ ts i q) j (uQ ts i q j ++ [(i : Int)]) = uQ ts i (q + 1) := by
  have hnot : j ∉ (nd ts i).take q := fun z => by
    obtain ⟨a,e⟩ := List.mem_iff_getElem?.1 z
    have ha := (List.getElem?_eq_some_iff.1 e).1
    rw [List.length_take] at ha
    rw [List.getElem?_take_of_lt (by omega)] at e
    have := List.pairwise_iff_getElem.1 (nd_rise ts i) a q (List.getElem?_eq_some_iff.1 e).1 (List.getElem?_eq_some_iff.1 hj).1 (by omega)
    rw [(List.getElem?_eq_some_iff.1 e).2,(List.getElem?_eq_some_iff.1 hj).2] at this
    omega
  funext p
  unfold updN uQ
  rw [List.take_add_one,hj]
  by_cases e : p = j
  · subst e
    simp [hnot]
  · have : p ∈ (nd ts i).take q ++ (some j).toList ↔ p ∈ (nd ts i).take q := by
      simp only [Option.toList_some,List.mem_append,List.mem_singleton]
      exact ⟨fun h => h.elim id fun z => absurd z e,.inl⟩
    rw [if_neg e]
    simp only [this]
theorem uQ_end {ts : List TK} {i j : Nat} (hj : j < ts.length) : uQ ts i (nd ts i).length j = uQ ts (i + 1) 0 j := by
  unfold uQ
  rw [List.take_length,List.range_succ,List.filter_append,nl_append]
  simp only [List.take_zero,List.not_mem_nil,if_false,List.append_nil]
  congr 1
  by_cases h : need ts i j = true
  · rw [if_pos (nd_mem.2 ⟨hj,h⟩)]; simp [h,nl]
  · rw [if_neg (fun z => h (nd_mem.1 z).2)]; simp [h,nl]
theorem uQ_all (ts : List TK) (j : Nat) : uQ ts ts.length 0 j = usL ts j := by unfold uQ usL us; simp
def Net (h : H) (g : Nat) (ts : List TK) (vt : Value) : Prop := ∃ vn vu,NetR h g vt vn vu ∧ Tasks h vt ts ∧ LLv h vn ts.length (ndL ts) ∧ LLv h vu ts.length (usL ts)
theorem Net.grow {h h' : H} (w : Grow h h') {g : Nat} {ts : List TK} {vt : Value} (q : Net h g ts vt) : Net h' g ts vt := by
  obtain ⟨vn,vu,a,b,c,d⟩ := q
  exact ⟨vn,vu,a.grow w,b.grow w,c.grow w,d.grow w⟩
structure BuS (h0 hb h : H) (ts : List TK) (g bo : Nat) (vt vn : Value) (w : Nat → Value × Option Nat) (f : Nat → List Int) : Prop where
  gr : Grow h0 h
  n : NetR h g vt vn (.slice (some ⟨bo,0,none⟩) ts.length ts.length)
  l : LLv h vn ts.length (ndL ts)
  o : LLo hb h bo ts.length false w f
  fr : h0.next ≤ bo
  hh : h0.next ≤ hb.next
  hn : hb.next ≤ h.next
  gb : g < hb.next
  go : g ≠ bo
theorem bu_step {h0 hb h : H} {ts : List TK} {g bo : Nat} {vt vn : Value} {w : Nat → Value × Option Nat} {f : Nat → List Int} (s : BuS h0 hb h ts g bo vt vn w f) (hl0 : LLv h0 vn ts.length (ndL ts))
    {k i : Nat} (hk : k < ts.length) (few : (f k).length < 1000000) :
    ∃ h' w',BuS h0 hb h' ts g bo vt vn w' (updN f k (f k ++ [(i : Int)])) ∧ ∃ h1 h2 v',
      xbuildSlice Try.prog 27 1 [(0,.int .i64 (i : Nat))] h = .ok (.slice (some ⟨h.next,0,none⟩) 1 1) h1 ∧ NetR h1 g vt vn (.slice (some ⟨bo,0,none⟩) ts.length ts.length) ∧ h1.get bo = some (.cells (wv ts.length w) 27 0 false) ∧
      xbuiltin Try.prog .append [27,27] [(w k).1,.slice (some ⟨h.next,0,none⟩) 1 1] h1 = .ok v' h2 ∧ NetR h2 g vt vn (.slice (some ⟨bo,0,none⟩) ts.length ts.length) ∧
      xstore Try.prog 27 (.pointer (some ⟨bo,0 + k * 1,none⟩)) v' h2 = .ok undef h' := by
  obtain ⟨v',br',h2,u,o,nb,eb,ea⟩ := (s.o.ol k hk).1.push2 few (i : Int)
  obtain ⟨L,U,g2⟩ := s.o.set (v' := v') (br' := br') s.hn hk u o nb (by simp)
  have G1 : Grow h (h.alloc (.cells [.int .i64 (i : Int)] 3 0 false)) := (Grow.refl h).alloc _
  have hgne : ∀ b,(w k).2 = some b → g ≠ b := fun b e z => by have := (s.o.ol k hk).2.1 b e; have := s.gb; omega
  have hgbo := s.go
  have GF : Grow h0 (h2.put bo (.cells (wv ts.length (updN w k (v',br'))) 27 0 false)) := grow_then s.gr U fun b hb => hb.elim (fun z => z ▸ s.fr) (fun z => Nat.le_trans s.hh ((s.o.ol k hk).2.1 b z.symm))
  refine ⟨_,_,⟨GF,s.n.upd U (fun z => z.elim hgbo (fun z => hgne g z.symm rfl)),hl0.grow GF,L,s.fr,s.hh,Nat.le_trans s.hn U.next,s.gb,s.go⟩,h.alloc (.cells [.int .i64 (i : Int)] 3 0 false),h2,v',eb,s.n.grow G1,G1.old _ _ s.o.g,ea,s.n.upd u (fun z => hgne g z.symm rfl),?_⟩
  obtain ⟨_,e⟩ := ll_st (sp := none) (n := ts.length) (cap := ts.length) g2 hk (by rw [wv_len]; exact Nat.le_refl _) o.one
  rw [e,wv_set w hk (v',br')]
theorem rc_slc (b n c : Nat) (h : H) : rc (.ok (.slice (some ⟨b,0,none⟩) n c) h) (some (.slice (some ⟨b,0,none⟩) n c)) = true := by simp [rc,veq]
theorem bu_inner {h0 hb : H} {ts : List TK} {g bo i : Nat} {vt vn vi : Value} (F : Few ts) (hl0 : LLv h0 vn ts.length (ndL ts)) (hi : i < ts.length) (I0 : NL h0 vi (ndL ts i)) :
    ∀ (m q : Nat) {h : H} {w : Nat → Value × Option Nat},(nd ts i).length - q = m → q ≤ (nd ts i).length → BuS h0 hb h ts g bo vt vn w (uQ ts i q) →
      ∃ h' w',BuS h0 hb h' ts g bo vt vn w' (uQ ts i (nd ts i).length) ∧
        F32.l6 Try.prog CLM nu0 nu0 (.pointer (some ⟨g,0,none⟩)) (.int .i64 (i : Nat)) vn (.int .i64 (ts.length : Nat)) (.int .i64 (i : Nat)) vi (.int .i64 ((nd ts i).length : Nat)) (.int .i64 (q : Nat)) h =
          F32.j10 Try.prog CLM nu0 nu0 (.pointer (some ⟨g,0,none⟩)) vn (.int .i64 (ts.length : Nat)) (.int .i64 (i : Nat)) h' := by
  intro m
  have hn := F.n
  have hnd := nd_len ts i
  induction m with
  | zero =>
    intro q h w hm hq s
    have : q = (nd ts i).length := by omega
    refine ⟨h,w,this ▸ s,?_⟩
    rw [F32.l6_eq,xlss,go_ok,F32.j7_eq,ifV_dec,if_neg (by omega)]
  | succ m ih =>
    intro q h w hm hq s
    have hql : q < (nd ts i).length := by omega
    have hj : (nd ts i)[q]? = some (nd ts i)[q] := List.getElem?_eq_getElem hql
    obtain ⟨j,hjd⟩ : ∃ j,j = (nd ts i)[q] := ⟨_,rfl⟩
    rw [← hjd] at hj
    have hjn : j < ts.length := nd_lt (List.mem_of_getElem? hj)
    have hz : (ndL ts i)[q]? = some (j : Int) := by unfold ndL nl; rw [List.getElem?_map,hj]; rfl
    obtain ⟨a,a1,a2⟩ := (I0.1.grow s.gr).at_ hz
    obtain ⟨h',w',S',h1,h2,v',eb,n1,b1,ea,n2,est⟩ := bu_step (i := i) s hl0 hjn (by have := uQ_len ts i q j; omega)
    rw [uQ_new hj] at S'
    obtain ⟨h3,w3,S3,e3⟩ := ih (q + 1) (by omega) (by omega) S'
    refine ⟨h3,w3,S3,?_⟩
    obtain ⟨l1,l2⟩ := ll_ld (sp := none) (n := ts.length) (cap := ts.length) s.o.g hjn (wv_at w hjn)
    obtain ⟨l3,l4⟩ := ll_ld (sp := none) (n := ts.length) (cap := ts.length) b1 hjn (wv_at w hjn)
    have k1 : ∀ hh : H,xindexAddr Try.prog 33 (.slice (some ⟨bo,0,none⟩) ts.length ts.length) (.int .i64 (j : Nat)) hh = .ok (.pointer (some ⟨bo,0 + j * 1,none⟩)) hh := fun hh => ia33 _ _ _ _ _ _ _ _ hjn
    have f1 : ∀ {hh : H},NetR hh g vt vn (.slice (some ⟨bo,0,none⟩) ts.length ts.length) → xload Try.prog 33 (.pointer (some ⟨g,0 + 2,none⟩)) hh = .ok (.slice (some ⟨bo,0,none⟩) ts.length ts.length) hh := fun nn => by rw [ld33,nn.u,ofO_some]
    rw [F32.l6_eq,xlss,go_ok,F32.j7_eq,ifV_dec,if_pos (by omega),F32.j7_1_eq,a1,go_ok,a2,go_ok,xnil_ptr,Res.ok1_ok,fa79_2,Res.ok1_ok,f1 s.n,Res.ok1_ok,xnil_ptr,Res.ok1_ok,fa79_2,Res.ok1_ok,f1 s.n,Res.ok1_ok,k1,Res.ok1_ok,l2,Res.ok1_ok,eb,go_ok,
      f1 n1,rc_slc,l4,(s.o.ol j hjn).1.rc,Bool.and_self,Bool.and_self,Bool.and_self,cond_true,ea,go_ok,f1 n2,rc_slc,Bool.and_self,cond_true,k1,Res.ok1_ok,est,go_ok,xadd,go_ok,wadd1 (by omega)]
    exact e3
theorem bu_outer {h0 hb : H} {ts : List TK} {g bo : Nat} {vt vn : Value} (F : Few ts) (hl0 : LLv h0 vn ts.length (ndL ts)) :
    ∀ (m i : Nat) {h : H} {w : Nat → Value × Option Nat},ts.length - i = m → i ≤ ts.length → BuS h0 hb h ts g bo vt vn w (uQ ts i 0) →
      ∃ h' w',BuS h0 hb h' ts g bo vt vn w' (usL ts) ∧
        F32.l3 Try.prog CLM nu0 nu0 (.pointer (some ⟨g,0,none⟩)) vn (.int .i64 (ts.length : Nat)) (.int .i64 (i : Nat)) h = .ok (.pointer (some ⟨g,0,none⟩)) h' := by
  intro m
  have hn := F.n
  induction m with
  | zero =>
    intro i h w hm hi s
    have : i = ts.length := by omega
    subst this
    refine ⟨h,w,⟨s.gr,s.n,s.l,s.o.congr fun k _ => uQ_all ts k,s.fr,s.hh,s.hn,s.gb,s.go⟩,?_⟩
    rw [F32.l3_eq,xlss,go_ok,F32.j4_eq,ifV_dec,if_neg (by omega),F32.j11_eq]
  | succ m ih =>
    intro i h w hm hi s
    have hil : i < ts.length := by omega
    obtain ⟨a,u,a1,a2,I0⟩ := hl0.at_ hil
    obtain ⟨h1,w1,S1,e1⟩ := bu_inner F hl0 hil I0 _ 0 rfl (Nat.zero_le _) s
    obtain ⟨h2,w2,S2,e2⟩ := ih (i + 1) (by omega) (by omega) ⟨S1.gr,S1.n,S1.l,S1.o.congr fun k hk => uQ_end hk,S1.fr,S1.hh,S1.hn,S1.gb,S1.go⟩
    refine ⟨h2,w2,S2,?_⟩
    rw [F32.l3_eq,xlss,go_ok,F32.j4_eq,ifV_dec,if_pos (by omega),F32.j4_1_eq,a1,go_ok,a2 _ s.gr,go_ok,I0.1.len,go_ok,show (ndL ts i).length = (nd ts i).length by simp [ndL,nl],
      show (Value.int .i64 0) = .int .i64 ((0 : Nat) : Int) from rfl,e1,F32.j10_eq,xadd,go_ok,wadd1 (by omega)]
    exact e2
theorem eBuild {h0 : H} {vt : Value} {ts : List TK} (T : Tasks h0 vt ts) (F : Few ts) :
    ∃ h' g,Grow h0 h' ∧ h0.next ≤ g ∧ Net h' g ts vt ∧ CLM (.f 32) [vt] h0 = .ok (.pointer (some ⟨g,0,none⟩)) h' := by
  have hn := F.n
  obtain ⟨h1,bo,vs,G1,fr,gbo,hvl,D,e1⟩ := eNeedsOf T F
  have L1 : LLv h1 (.slice (some ⟨bo,0,none⟩) ts.length ts.length) ts.length (ndL ts) := ⟨bo,false,vs,rfl,gbo,hvl,fun k hk => by
    obtain ⟨v,br,a,b,c⟩ := D k hk
    exact ⟨v,a,b.nl⟩⟩
  obtain ⟨h2,hh2⟩ : ∃ h2,h2 = h1.alloc (.cells (List.replicate ts.length (.slice none 0 0)) 27 0 false) := ⟨_,rfl⟩
  have G2 : Grow h1 h2 := by rw [hh2]; exact (Grow.refl h1).alloc _
  obtain ⟨x,hx⟩ : ∃ x,x = Value.agg ⟨[vt,.slice (some ⟨bo,0,none⟩) ts.length ts.length,.slice (some ⟨h1.next,0,none⟩) ts.length ts.length]⟩ := ⟨_,rfl⟩
  obtain ⟨h3,hh3⟩ : ∃ h3,h3 = h2.alloc (.cells x.cells.toList 79 0 false) := ⟨_,rfl⟩
  have G3 : Grow h2 h3 := by rw [hh3]; exact (Grow.refl h2).alloc _
  have g3 : NetR h3 h2.next vt (.slice (some ⟨bo,0,none⟩) ts.length ts.length) (.slice (some ⟨h1.next,0,none⟩) ts.length ts.length) := ⟨false,by rw [hh3,hx]; exact H.alloc_self _ _⟩
  obtain ⟨a,cap,hvt⟩ := T.val
  have bd : xbuild Try.prog 79 [(0,vt),(1,.slice (some ⟨bo,0,none⟩) ts.length ts.length),(2,.slice (some ⟨h1.next,0,none⟩) ts.length ts.length)] h2 = .ok x h2 := by rw [hx,hvt]; kernel_rfl
  have lay : (layMake Try.prog 33 (.int .i64 (ts.length : Nat)) (.int .i64 (ts.length : Nat))).isSome = true := by
    have hz : zeroOf Try.prog 27 = some (.slice none 0 0) := by kernel_rfl
    have hb : bytesOf Try.prog 27 = 24 := by kernel_rfl
    have hc : Try.prog.cellsOf 27 = 1 := by kernel_rfl
    have he : elemOf? Try.prog 33 = some 27 := by kernel_rfl
    have hm : Nat.ble (24 * ts.length) 140737488355328 = true := Nat.ble_eq_true_of_le (by omega)
    have hm2 : Nat.ble ts.length 9223372036854775807 = true := Nat.ble_eq_true_of_le (by omega)
    unfold layMake
    simp only [he,hz,Int.ofNat_eq_natCast]
    show (Option.isSome (bif Nat.ble ts.length ts.length && Nat.ble (bytesOf Try.prog 27 * ts.length) 140737488355328 && Nat.ble ts.length 9223372036854775807 && Nat.beq (Value.slice none 0 0).cells.size (Try.prog.cellsOf 27) then _ else _)) = true
    rw [hb,hc,Nat.ble_eq_true_of_le (Nat.le_refl ts.length),hm,hm2,show Nat.beq (Value.slice none 0 0).cells.size 1 = true from rfl]
    rfl
  have O2 : LLo h3 h2 h1.next ts.length false (fun _ => (.slice none 0 0,none)) (fun _ => []) := by
    have := LLo.new (h0 := h1) (n := ts.length) (Nat.le_refl h1.next)
    rw [← hh2] at this
    exact ⟨this.g,fun k hk => ⟨OL.nil,(fun b z => by cases z),fun z => absurd rfl z⟩,fun k k' b _ _ _ z => by cases z⟩
  have n2 : h2.next = h1.next + 1 := by rw [hh2]; rfl
  have n3 : h3.next = h2.next + 1 := by rw [hh3]; rfl
  obtain ⟨h4,w4,S4,e4⟩ := bu_outer (h0 := h1) (hb := h3) (g := h2.next) (bo := h1.next) F L1 _ 0 rfl (Nat.zero_le _) (h := h3) (w := fun _ => (.slice none 0 0,none))
    ⟨G2.trans G3,g3,L1.grow (G2.trans G3),(O2.grow G3).congr (fun k _ => by unfold uQ; simp [nl]),Nat.le_refl _,by omega,Nat.le_refl _,by omega,by omega⟩
  have G4 := G1.trans S4.gr
  refine ⟨h4,h2.next,G4,by have := G1.next; omega,⟨_,_,S4.n,T.grow G4,S4.l,S4.o.llv⟩,?_⟩
  have hb : xbox 79 x h2 = .ok (.pointer (some ⟨h2.next,0,none⟩)) h3 := by rw [xbox_eq,hh3]
  have l3 : xload Try.prog 33 (.pointer (some ⟨h2.next,0 + 1,none⟩)) h3 = .ok (.slice (some ⟨bo,0,none⟩) ts.length ts.length) h3 := by rw [ld33,g3.n,ofO_some]
  have lv : (lenV vt).isSome = true := by rw [hvt]; rfl
  rw [cM32,F32.eq,lv,cond_true,T.len,Res.ok1_ok,lay,Bool.and_self,cond_true,e1,go_ok,mkLL (by omega),go_ok,← hh2,bd,Res.ok1_ok,hb,go_ok,xnil_ptr,go_ok,fa79_1,go_ok,l3,go_ok,L1.len,go_ok,show (Value.int .i64 0) = .int .i64 ((0 : Nat) : Int) from rfl,e4]
end Go.Proofs.Ytdadiidfhnojcaa.K
