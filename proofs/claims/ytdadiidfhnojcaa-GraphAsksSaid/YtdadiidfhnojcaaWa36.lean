/- My texts for this claim, in one file: part 36. -/
import Derived.Test.YtdadiidfhnojcaaWa35
namespace Go.Proofs.Ytdadiidfhnojcaa.K
open Go Go.Kx
set_option linter.unusedVariables false
set_option linter.unusedSimpArgs false
set_option maxRecDepth 20000
theorem sumN_succ (n : Nat) (f : Nat → Nat) : sumN (n + 1) f = sumN n f + f n := by unfold sumN; rw [List.range_succ,List.map_append,List.sum_append]; simp
theorem sumN_congr {f f' : Nat → Nat} : ∀ {n : Nat},(∀ k,k < n → f' k = f k) → sumN n f' = sumN n f
  | 0,_ => rfl
  | n + 1,h => by rw [sumN_succ,sumN_succ,sumN_congr fun k hk => h k (by omega),h n (by omega)]
theorem sumN_upd {f f' : Nat → Nat} {j : Nat} (h : ∀ k,k ≠ j → f' k = f k) : ∀ {n : Nat},j < n → sumN n f' + f j = sumN n f + f' j
  | 0,hj => absurd hj (Nat.not_lt_zero _)
  | n + 1,hj => by
    rw [sumN_succ,sumN_succ]
    by_cases e : j = n
    · subst e
      rw [sumN_congr fun k hk => h k (by omega)]; omega
    · have := sumN_upd h (n := n) (by omega)
      rw [h n (fun z => e z.symm)]; omega
theorem sumN_le {f f' : Nat → Nat} : ∀ {n : Nat},(∀ k,k < n → f' k ≤ f k) → sumN n f' ≤ sumN n f
  | 0,_ => Nat.le_refl _
  | n + 1,h => by
    rw [sumN_succ,sumN_succ]
    have := sumN_le (n := n) fun k hk => h k (by omega)
    have := h n (by omega)
    omega
theorem snoc_cases {α : Type} (l : List α) : l = [] ∨ ∃ t x,l = t ++ [x] := by
  rcases List.eq_nil_or_concat l with h | ⟨t,x,h⟩
  · exact .inl h
  · exact .inr ⟨t,x,by simpa using h⟩
structure CiS (h0 h : H) (n bs : Nat) (seen : Nat → Bool) (v : Value) (br : Option Nat) (todo : List Nat) : Prop where
  gr : Grow h0 h
  s : BL h bs n false seen
  t : OL h v br (nl todo)
  fs : h0.next ≤ bs
  ft : ∀ b,br = some b → h0.next ≤ b
theorem ci_loop {h0 : H} {g : Nat} {ts : List TK} {vt : Value} (N0 : Net h0 g ts vt) (F : Few ts) {i : Nat} (hi : i < ts.length) : ∀ (m : Nat) {h : H} {bs : Nat} {seen : Nat → Bool} {v : Value} {br : Option Nat} {todo : List Nat},
    todo.length + sumN ts.length (fun k => if seen k then 0 else (nd ts k).length) = m → m ≤ 100000 → CiS h0 h ts.length bs seen v br todo → Dfs (nd ts) i seen todo → (∀ k ∈ todo,k < ts.length) →
    ∃ h' r,Grow h0 h' ∧ (r = true ↔ OnC (nd ts) i) ∧ F45.l3 Try.prog CLM nu0 nu0 (.pointer (some ⟨g,0,none⟩)) (.int .i64 (i : Nat)) (.slice (some ⟨bs,0,none⟩) ts.length ts.length) v h = .ok (.bool r) h' := by
  intro m
  induction m using Nat.strongRecOn with
  | ind m ih =>
  intro h bs seen v br todo hm hb s d hlt
  have hn := F.n
  rcases snoc_cases todo with rfl | ⟨t,j,rfl⟩
  · refine ⟨h,false,s.gr,⟨(fun z => by cases z),fun z => absurd z d.no⟩,?_⟩
    have hl : (nl ([] : List Nat)).length = 0 := rfl
    rw [F45.l3_eq,s.t.il.len,go_ok,xgtr,go_ok,hl,ifV_dec,if_neg (by omega),F45.j11_eq]
  · obtain ⟨p1,⟨a,p2,p3⟩,v',p4,p5⟩ := s.t.pop
    have hjn : j < ts.length := hlt j (by simp)
    rw [List.length_append,List.length_singleton] at hm
    by_cases hji : j = i
    · subst hji
      refine ⟨h,true,s.gr,⟨fun _ => d.yes,fun _ => rfl⟩,?_⟩
      rw [F45.l3_eq,p1,go_ok,xgtr,go_ok,ifV_dec,if_pos (by omega),F45.j4_eq,p1,go_ok,xsub,go_ok,wsub1 (by omega) (by omega),Nat.add_sub_cancel,p2,go_ok,p3,go_ok,p1,go_ok,xsub,go_ok,wsub1 (by omega) (by omega),Nat.add_sub_cancel,p4,go_ok,xeql,go_ok,ifV_dec,if_pos rfl]
    · obtain ⟨b1,b2⟩ := s.s.ld (m := ts.length) (cap := ts.length) hjn hjn
      have hE : F45.l3 Try.prog CLM nu0 nu0 (.pointer (some ⟨g,0,none⟩)) (.int .i64 (i : Nat)) (.slice (some ⟨bs,0,none⟩) ts.length ts.length) v h = F45.j8 Try.prog CLM nu0 nu0 (.pointer (some ⟨g,0,none⟩)) (.int .i64 (i : Nat)) (.slice (some ⟨bs,0,none⟩) ts.length ts.length) v' (.int .i64 (j : Nat)) h := by
        rw [F45.l3_eq,p1,go_ok,xgtr,go_ok,ifV_dec,if_pos (by omega),F45.j4_eq,p1,go_ok,xsub,go_ok,wsub1 (by omega) (by omega),Nat.add_sub_cancel,p2,go_ok,p3,go_ok,p1,go_ok,xsub,go_ok,wsub1 (by omega) (by omega),Nat.add_sub_cancel,p4,go_ok,xeql,go_ok,ifV_dec,if_neg (by omega)]
      rw [hE,F45.j8_eq,b1,go_ok,b2,go_ok,xun_not,go_ok]
      cases hs : seen j with
      | true =>
        rw [show (!true) = false from rfl,ifV_f]
        exact ih (t.length + sumN ts.length (fun k => if seen k then 0 else (nd ts k).length)) (by omega) rfl (by omega) ⟨s.gr,s.s,p5,s.fs,s.ft⟩ (d.skip hs) (fun k hk => hlt k (by simp [hk]))
      | false =>
        rw [show (!false) = true from rfl,ifV_t]
        obtain ⟨h1,e1,u1,B1⟩ := s.s.st hjn true
        have G1 : Grow h0 h1 := grow_then s.gr u1 fun b hb => hb ▸ s.fs
        have t1 : OL h1 v' br (nl t) := p5.upd u1 fun b hb z => p5.ne2 s.s (by rw [hb,z])
        obtain ⟨vn,vu,nn,T,LN,LU⟩ := N0.grow G1
        obtain ⟨a1,u,a2,a3,I⟩ := LN.at_ hjn
        have hsum := sumN_upd (f := fun k => if seen k then 0 else (nd ts k).length) (f' := fun k => if updN seen j true k then 0 else (nd ts k).length) (j := j) (fun k hk => by simp only [updN_ne hk]) hjn
        simp only [hs,updN_eq,if_true,Bool.false_eq_true,if_false] at hsum
        obtain ⟨v2,br2,h2,e2,u2,t2,nb2⟩ := t1.app (by rw [nl_len,show (ndL ts j).length = (nd ts j).length from nl_len _]; omega) I.1
        have G2 : Grow h0 h2 := grow_then G1 u2 fun b hb => s.ft b hb.symm
        have B2 : BL h2 bs ts.length false (updN seen j true) := B1.upd u2 fun z => t1.ne2 B1 z.symm
        rw [show nl t ++ ndL ts j = nl (t ++ nd ts j) by rw [nl_append]; rfl] at t2
        obtain ⟨h3,r,g3,hr,e3⟩ := ih ((t ++ nd ts j).length + sumN ts.length (fun k => if updN seen j true k then 0 else (nd ts k).length)) (by rw [List.length_append]; omega) rfl (by rw [List.length_append]; omega)
          ⟨G2,B2,t2,s.fs,fun b hb => by
            rcases nb2 with z | ⟨b',z,z2⟩
            · exact s.ft b (z ▸ hb)
            · rw [z] at hb; cases hb; exact Nat.le_trans G1.next z2⟩
          (d.mark hji fun k => by
            by_cases e : k = j
            · subst e; simp [updN_eq]
            · simp [updN_ne e,e])
          (fun k hk => by
            rcases List.mem_append.1 hk with z | z
            · exact hlt k (by simp [z])
            · exact nd_lt z)
        refine ⟨h3,r,g3,hr,?_⟩
        rw [b1,go_ok,e1,go_ok,xnil_ptr,go_ok,fa79_1,go_ok,ld33,nn.n,ofO_some,go_ok,a2,go_ok,a3 _ (Grow.refl _),go_ok,e2,go_ok]
        exact e3
theorem eCircles {h0 : H} {g : Nat} {ts : List TK} {vt : Value} (N0 : Net h0 g ts vt) (F : Few ts) {i : Nat} (hi : i < ts.length) :
    ∃ h' r,Grow h0 h' ∧ (r = true ↔ OnC (nd ts) i) ∧ CLM (.f 45) [.pointer (some ⟨g,0,none⟩),.int .i64 (i : Nat)] h0 = .ok (.bool r) h' := by
  have hn := F.n
  obtain ⟨vn,vu,nn,T,LN,LU⟩ := id N0
  obtain ⟨h1,e1,g1,B1,n1⟩ := BL.new (n := ts.length) (by omega) h0
  obtain ⟨a,u,a2,a3,I⟩ := LN.at_ hi
  obtain ⟨h2,v,br,g2,o2,f2,e2⟩ := eClone (I.grow g1) (by rw [show (ndL ts i).length = (nd ts i).length from nl_len _]; have := nd_len ts i; omega)
  have G := g1.trans g2
  have hs : sumN ts.length (fun k => if false = true then 0 else (nd ts k).length) ≤ 60000 := F.e
  have hd := nd_len ts i
  obtain ⟨h3,r,g3,hr,e3⟩ := ci_loop N0 F hi _ (h := h2) (bs := h0.next) (seen := fun _ => false) (v := v) (br := br) (todo := nd ts i) rfl (by omega)
    ⟨G,g2.old _ _ B1,o2,Nat.le_refl _,fun b hb => Nat.le_trans g1.next (f2 b hb)⟩ (Dfs.init _ _) (fun k hk => nd_lt hk)
  refine ⟨h3,r,g3,hr,?_⟩
  have n1 := nn.grow g1
  rw [cM45,F45.eq,xnil_ptr,go_ok,fa79_0,go_ok,ld22,nn.t,ofO_some,go_ok,T.len,go_ok,e1,go_ok,xnil_ptr,go_ok,fa79_1,go_ok,ld33,n1.n,ofO_some,go_ok,a2,go_ok,a3 _ g1,go_ok,e2,go_ok]
  exact e3
structure PeS (h0 h : H) (n bl bs : Nat) (L : Nat → Nat) (B : Nat → Bool) (v : Value) (br : Option Nat) (F : List Nat) : Prop where
  gr : Grow h0 h
  l : AL h bl n false L
  s : BL h bs n false B
  f : OL h v br (nl F)
  fl : h0.next ≤ bl
  fs : h0.next ≤ bs
  ff : ∀ b,br = some b → h0.next ≤ b ∧ b ≠ bl
theorem AB_ne {h : H} {b c n m : Nat} {op op' : Bool} {L : Nat → Nat} {B : Nat → Bool} (p : AL h b n op L) (q : BL h c m op' B) : b ≠ c := fun z => by
  unfold AL at p; unfold BL at q
  rw [z,q] at p
  simp only [Option.some.injEq,Blk.cells.injEq] at p
  exact absurd p.2.1 (by decide)
section
variable {h0 h : H} {n bl bs : Nat} {L : Nat → Nat} {B : Nat → Bool} {v : Value} {br : Option Nat} {F : List Nat}
theorem PeS.setL (s : PeS h0 h n bl bs L B v br F) {j : Nat} (hj : j < n) (x : Nat) :
    ∃ h',xstore Try.prog 3 (.pointer (some ⟨bl,0 + j * 1,none⟩)) (.int .i64 (x : Nat)) h = .ok undef h' ∧ PeS h0 h' n bl bs (updN L j x) B v br F := by
  obtain ⟨h',e,u,l'⟩ := s.l.st hj x
  exact ⟨h',e,grow_then s.gr u fun b hb => hb ▸ s.fl,l',s.s.upd u fun z => AB_ne s.l s.s z.symm,s.f.upd u fun b hb z => (s.ff b hb).2 z,s.fl,s.fs,s.ff⟩
theorem PeS.setB (s : PeS h0 h n bl bs L B v br F) {j : Nat} (hj : j < n) (x : Bool) :
    ∃ h',xstore Try.prog 4 (.pointer (some ⟨bs,0 + j * 1,none⟩)) (.bool x) h = .ok undef h' ∧ PeS h0 h' n bl bs L (updN B j x) v br F := by
  obtain ⟨h',e,u,b'⟩ := s.s.st hj x
  exact ⟨h',e,grow_then s.gr u fun b hb => hb ▸ s.fs,s.l.upd u fun z => AB_ne s.l s.s z,b',s.f.upd u fun b hb z => s.f.ne2 s.s (by rw [hb,z]),s.fl,s.fs,s.ff⟩
theorem PeS.push (s : PeS h0 h n bl bs L B v br F) (few : F.length < 1000000) (j : Nat) :
    ∃ h' v' br',PeS h0 h' n bl bs L B v' br' (F ++ [j]) ∧ ∀ K : Value → H → Res Value,((xbuildSlice Try.prog 27 1 [(0,.int .i64 (j : Nat))] h).go .pan fun t h2 => ((xbuiltin Try.prog .append [27,27] [v,t] h2).go .pan K)) = K v' h' := by
  obtain ⟨v',br',h',u,o,nb,e⟩ := s.f.push (by rw [nl_len]; exact few) (j : Int)
  refine ⟨h',v',br',⟨grow_then s.gr u fun b hb => (s.ff b hb.symm).1,s.l.upd u fun z => (s.ff bl z.symm).2 rfl,s.s.upd u fun z => s.f.ne2 s.s z.symm,by rw [nl_append]; exact o,s.fl,s.fs,fun b hb => ?_⟩,e⟩
  rcases nb with z | ⟨b2,z,z2⟩
  · exact s.ff b (z ▸ hb)
  · rw [z] at hb; cases hb
    have := H.get_lt s.l
    exact ⟨Nat.le_trans s.gr.next z2,by omega⟩
theorem PeS.congr (s : PeS h0 h n bl bs L B v br F) {L' : Nat → Nat} {B' : Nat → Bool} (h1 : ∀ k,k < n → L k = L' k) (h2 : ∀ k,k < n → B k = B' k) : PeS h0 h n bl bs L' B' v br F :=
  ⟨s.gr,s.l.congr h1,s.s.congr h2,s.f,s.fl,s.fs,s.ff⟩
end
theorem pe_init {h0 : H} {vf vx : Value} {n bl bs : Nat} {f : Nat → List Nat} (LF : LLv h0 vf n fun j => nl (f j)) (hn : n ≤ 3000) (hf : ∀ j,j < n → (f j).length ≤ 3000) :
    ∀ (m i : Nat) {h : H} {v : Value} {br : Option Nat},n - i = m → i ≤ n → PeS h0 h n bl bs (fun j => if j < i then (f j).length else 0) (fun j => decide (j < i)) v br ((List.range i).filter fun j => decide ((f j).length = 0)) →
      ∃ h' v' br',PeS h0 h' n bl bs (cntN f []) (fun _ => true) v' br' ((List.range n).filter fun j => decide ((f j).length = 0)) ∧
        F44.l5 Try.prog CLM nu0 nu0 vx (.slice (some ⟨bl,0,none⟩) n n) (.slice (some ⟨bs,0,none⟩) n n) v vf (.int .i64 (n : Nat)) (.int .i64 (i : Nat)) h = F44.l11 Try.prog CLM nu0 nu0 vx (.slice (some ⟨bl,0,none⟩) n n) (.slice (some ⟨bs,0,none⟩) n n) v' h' := by
  intro m
  induction m with
  | zero =>
    intro i h v br hm hi s
    have : i = n := by omega
    subst this
    refine ⟨h,v,br,s.congr (fun k hk => by rw [if_pos hk,cntN_nil]) (fun k hk => decide_eq_true hk),?_⟩
    rw [F44.l5_eq,xlss,go_ok,F44.j6_eq,ifV_dec,if_neg (by omega),F44.j11_eq]
  | succ m ih =>
    intro i h v br hm hi s
    have hil : i < n := by omega
    have hfl := hf i hil
    obtain ⟨a,u,a1,a2,I⟩ := LF.at_ hil
    obtain ⟨l1,_⟩ := s.l.ld (m := n) (cap := n) hil hil
    obtain ⟨b1,_⟩ := s.s.ld (m := n) (cap := n) hil hil
    obtain ⟨h1,e1,s1⟩ := s.setL hil (f i).length
    obtain ⟨h2,e2,s2⟩ := s1.setB hil true
    have hL : ∀ k,k < n → updN (fun j => if j < i then (f j).length else 0) i (f i).length k = if k < i + 1 then (f k).length else 0 := fun k hk => by
      by_cases e : k = i
      · subst e; rw [updN_eq,if_pos (by omega)]
      · rw [updN_ne e]
        by_cases q : k < i
        · rw [if_pos q,if_pos (by omega)]
        · rw [if_neg q,if_neg (by omega)]
    have hB : ∀ k,k < n → updN (fun j => decide (j < i)) i true k = decide (k < i + 1) := fun k hk => by
      by_cases e : k = i
      · subst e; rw [updN_eq]; simp
      · rw [updN_ne e,decide_eq_decide]; omega
    have s3 := s2.congr hL hB
    have hlen : (nl (f i)).length = (f i).length := nl_len _
    have hE : F44.l5 Try.prog CLM nu0 nu0 vx (.slice (some ⟨bl,0,none⟩) n n) (.slice (some ⟨bs,0,none⟩) n n) v vf (.int .i64 (n : Nat)) (.int .i64 (i : Nat)) h =
        if (((f i).length : Nat) : Int) = 0 then ((xbuildSlice Try.prog 27 1 [(0,.int .i64 (i : Nat))] h2).go .pan fun t h3 => ((xbuiltin Try.prog .append [27,27] [v,t] h3).go .pan fun t33 h34 => ((xbin Try.prog .add 3 (.int .i64 (i : Nat)) (.int .i64 1) h34).go .pan fun t35 h36 => F44.l5 Try.prog CLM nu0 nu0 vx (.slice (some ⟨bl,0,none⟩) n n) (.slice (some ⟨bs,0,none⟩) n n) t33 vf (.int .i64 (n : Nat)) t35 h36)))
        else ((xbin Try.prog .add 3 (.int .i64 (i : Nat)) (.int .i64 1) h2).go .pan fun t37 h38 => F44.l5 Try.prog CLM nu0 nu0 vx (.slice (some ⟨bl,0,none⟩) n n) (.slice (some ⟨bs,0,none⟩) n n) v vf (.int .i64 (n : Nat)) t37 h38) := by
      rw [F44.l5_eq,xlss,go_ok,F44.j6_eq,ifV_dec,if_pos (by omega),F44.j6_1_eq,a1,go_ok,a2 _ s.gr,go_ok,I.1.len,go_ok,hlen,l1,go_ok,e1,go_ok,b1,go_ok,e2,go_ok,I.1.len,go_ok,hlen,xeql,go_ok,ifV_dec]
    rw [hE]
    by_cases hz : (f i).length = 0
    · rw [if_pos (by omega)]
      obtain ⟨h3,v3,br3,s4,e3⟩ := s3.push (by have := List.length_filter_le (fun j => decide ((f j).length = 0)) (List.range i); rw [List.length_range] at this; omega) i
      obtain ⟨h',v',br',s',e'⟩ := ih (i + 1) (by omega) (by omega) (v := v3) (br := br3) (h := h3) (by rw [List.range_succ,List.filter_append,show [i].filter (fun j => decide ((f j).length = 0)) = [i] from List.filter_cons_of_pos (decide_eq_true hz)]; exact s4)
      refine ⟨h',v',br',s',?_⟩
      rw [e3,xadd,go_ok,wadd1 (by omega)]
      exact e'
    · rw [if_neg (by omega)]
      obtain ⟨h',v',br',s',e'⟩ := ih (i + 1) (by omega) (by omega) (v := v) (br := br) (h := h2) (by rw [List.range_succ,List.filter_append,show [i].filter (fun j => decide ((f j).length = 0)) = [] from List.filter_cons_of_neg (by rw [decide_eq_true_iff]; exact hz),List.append_nil]; exact s3)
      refine ⟨h',v',br',s',?_⟩
      rw [xadd,go_ok,wadd1 (by omega)]
      exact e'
theorem newZ_len {f t : Nat → List Nat} {R : List Nat} {i q : Nat} : (newZ f t R i q).length ≤ (t i).length := by
  unfold newZ
  refine Nat.le_trans (List.length_filter_le _ _) ?_
  rw [List.length_take]; omega
theorem pe_inner {h0 : H} {vx u : Value} {n bl bs i : Nat} {f t : Nat → List Nat} {R F : List Nat} {B : Nat → Bool} (g : Gr n f t) (hn : n ≤ 3000) (hi : i < n) (hiR : i ∉ R) (hF : F.length ≤ 3000) (I : IL h0 u (nl (t i))) (ht : (t i).length ≤ 3000) :
    ∀ (m q : Nat) {h : H} {v : Value} {br : Option Nat},(t i).length - q = m → q ≤ (t i).length → PeS h0 h n bl bs (lefQ f t R i q) B v br (F ++ newZ f t R i q) →
      ∃ h' v' br',PeS h0 h' n bl bs (cntN f (R ++ [i])) B v' br' (F ++ newZ f t R i (t i).length) ∧
        F44.l16 Try.prog CLM nu0 nu0 vx (.slice (some ⟨bl,0,none⟩) n n) (.slice (some ⟨bs,0,none⟩) n n) v u (.int .i64 ((t i).length : Nat)) (.int .i64 (q : Nat)) h = F44.l11 Try.prog CLM nu0 nu0 vx (.slice (some ⟨bl,0,none⟩) n n) (.slice (some ⟨bs,0,none⟩) n n) v' h' := by
  intro m
  induction m with
  | zero =>
    intro q h v br hm hq s
    have : q = (t i).length := by omega
    subst this
    refine ⟨h,v,br,s.congr (fun k hk => lefQ_end g hi hk) (fun _ _ => rfl),?_⟩
    rw [F44.l16_eq,xlss,go_ok,F44.j17_eq,ifV_dec,if_neg (by omega)]
  | succ m ih =>
    intro q h v br hm hq s
    have hql : q < (t i).length := by omega
    have hj : (t i)[q]? = some (t i)[q] := List.getElem?_eq_getElem hql
    obtain ⟨j,hjd⟩ : ∃ j,j = (t i)[q] := ⟨_,rfl⟩
    rw [← hjd] at hj
    have hjn : j < n := g.tl i j hi (List.mem_of_getElem? hj)
    obtain ⟨z1,z2,z3⟩ := lefQ_step g hi hiR hj
    obtain ⟨a,a1,a2⟩ := (I.grow s.gr).at_ (show (nl (t i))[q]? = some (j : Int) by unfold nl; rw [List.getElem?_map,hj]; rfl)
    obtain ⟨l1,l2⟩ := s.l.ld (m := n) (cap := n) hjn hjn
    rw [z1] at l2
    obtain ⟨h1,e1,s1⟩ := s.setL hjn (cntN f (R ++ [i]) j)
    obtain ⟨_,l3⟩ := s1.l.ld (m := n) (cap := n) hjn hjn
    rw [updN_eq] at l3
    have s2 := s1.congr (L' := lefQ f t R i (q + 1)) (fun k _ => by rw [z2 k]; rfl) (fun _ _ => rfl)
    have hc : cntN f (R ++ [i]) j < 100000 := by
      unfold cntN
      have := List.length_filter_le (fun k => decide (k ∉ R ++ [i])) (f j)
      have h2 := List.Nodup.length_le_of_subset (g.fn j hjn) (l₂ := List.range n) fun k hk => List.mem_range.2 (g.fl j k hjn hk)
      simp at h2
      omega
    have hE : F44.l16 Try.prog CLM nu0 nu0 vx (.slice (some ⟨bl,0,none⟩) n n) (.slice (some ⟨bs,0,none⟩) n n) v u (.int .i64 ((t i).length : Nat)) (.int .i64 (q : Nat)) h =
        if ((cntN f (R ++ [i]) j : Nat) : Int) = 0 then ((xbuildSlice Try.prog 27 1 [(0,.int .i64 (j : Nat))] h1).go .pan fun t' h3 => ((xbuiltin Try.prog .append [27,27] [v,t'] h3).go .pan fun t33 h34 => ((xbin Try.prog .add 3 (.int .i64 (q : Nat)) (.int .i64 1) h34).go .pan fun t35 h36 => F44.l16 Try.prog CLM nu0 nu0 vx (.slice (some ⟨bl,0,none⟩) n n) (.slice (some ⟨bs,0,none⟩) n n) t33 u (.int .i64 ((t i).length : Nat)) t35 h36)))
        else ((xbin Try.prog .add 3 (.int .i64 (q : Nat)) (.int .i64 1) h1).go .pan fun t37 h38 => F44.l16 Try.prog CLM nu0 nu0 vx (.slice (some ⟨bl,0,none⟩) n n) (.slice (some ⟨bs,0,none⟩) n n) v u (.int .i64 ((t i).length : Nat)) t37 h38) := by
      rw [F44.l16_eq,xlss,go_ok,F44.j17_eq,ifV_dec,if_pos (by omega),F44.j17_1_eq,a1,go_ok,a2,go_ok,l1,go_ok,l2,go_ok,xsub,go_ok,wsub1 (by omega) (by omega),Nat.add_sub_cancel,l1,go_ok,e1,go_ok,l1,go_ok,l3,go_ok,xeql,go_ok,ifV_dec]
    rw [hE]
    by_cases hz : cntN f (R ++ [i]) j = 0
    · rw [if_pos (by omega)]
      rw [if_pos hz] at z3
      have hfew : (F ++ newZ f t R i q).length < 1000000 := by
        have hzl := newZ_len (f := f) (t := t) (R := R) (i := i) (q := q)
        rw [List.length_append]; omega
      obtain ⟨h3,v3,br3,s4,e3⟩ := s2.push hfew j
      obtain ⟨h',v',br',s',e'⟩ := ih (q + 1) (by omega) (by omega) (v := v3) (br := br3) (h := h3) (by rw [z3,← List.append_assoc]; exact s4)
      refine ⟨h',v',br',s',?_⟩
      rw [e3,xadd,go_ok,wadd1 (by omega)]
      exact e'
    · rw [if_neg (by omega)]
      rw [if_neg hz,List.append_nil] at z3
      obtain ⟨h',v',br',s',e'⟩ := ih (q + 1) (by omega) (by omega) (v := v) (br := br) (h := h1) (by rw [z3]; exact s2)
      refine ⟨h',v',br',s',?_⟩
      rw [xadd,go_ok,wadd1 (by omega)]
      exact e'
theorem pe_main {h0 : H} {vx : Value} {n bl bs : Nat} {f t : Nat → List Nat} (g : Gr n f t) (hn : n ≤ 3000) (LT : LLv h0 vx n fun j => nl (t j)) :
    ∀ (m : Nat) {h : H} {v : Value} {br : Option Nat} {R F : List Nat},n - R.length = m → PeS h0 h n bl bs (cntN f R) (fun j => decide (j ∉ R)) v br F → Kahn n f R F → (∀ j ∈ R,¬ OnC f j) →
      ∃ h' B,Grow h0 h' ∧ BL h' bs n false B ∧ (∀ j,j < n → OnC f j → B j = true) ∧
        F44.l11 Try.prog CLM nu0 nu0 vx (.slice (some ⟨bl,0,none⟩) n n) (.slice (some ⟨bs,0,none⟩) n n) v h = .ok (.slice (some ⟨bs,0,none⟩) n n) h' := by
  intro m
  induction m with
  | zero =>
    intro h v br R F hm s k hR
    have hl := k.len
    rw [List.length_append] at hl
    have hF : F = [] := List.length_eq_zero_iff.1 (by omega)
    subst hF
    refine ⟨h,_,s.gr,s.s,fun j hj ho => decide_eq_true fun z => hR j z ho,?_⟩
    rw [F44.l11_eq,s.f.il.len,go_ok,xgtr,go_ok,show (nl ([] : List Nat)).length = 0 from rfl,ifV_dec,if_neg (by omega),F44.j22_eq]
  | succ m ih =>
    intro h v br R F hm s k hR
    rcases snoc_cases F with rfl | ⟨F,i,rfl⟩
    · refine ⟨h,_,s.gr,s.s,fun j hj ho => decide_eq_true fun z => hR j z ho,?_⟩
      rw [F44.l11_eq,s.f.il.len,go_ok,xgtr,go_ok,show (nl ([] : List Nat)).length = 0 from rfl,ifV_dec,if_neg (by omega),F44.j22_eq]
    · have hl := k.len
      rw [List.length_append,List.length_append,List.length_singleton] at hl
      have hi : i < n := k.lt i (by simp)
      have hiR : i ∉ R := fun z => by
        have := k.nod
        rw [List.nodup_append] at this
        exact this.2.2 i z i (by simp) rfl
      obtain ⟨p1,⟨a,p2,p3⟩,v',p4,p5⟩ := s.f.pop
      obtain ⟨b1,_⟩ := s.s.ld (m := n) (cap := n) hi hi
      have s1 : PeS h0 h n bl bs (cntN f R) (fun j => decide (j ∉ R)) v' br F := ⟨s.gr,s.l,s.s,p5,s.fl,s.fs,s.ff⟩
      obtain ⟨h1,e1,s2⟩ := s1.setB hi false
      have s3 := s2.congr (L' := lefQ f t R i 0) (B' := fun j => decide (j ∉ R ++ [i])) (fun k _ => by rw [lefQ_zero]) (fun k _ => by
        by_cases e : k = i
        · subst e; rw [updN_eq]; simp
        · rw [updN_ne e]; simp [e])
      obtain ⟨a',u,a1,a2,I⟩ := LT.at_ hi
      have hti : (t i).length ≤ 3000 := by
        have h2 := List.Nodup.length_le_of_subset (g.tn i hi) (l₂ := List.range n) fun k hk => List.mem_range.2 (g.tl i k hi hk)
        simp at h2; omega
      obtain ⟨h2,v2,br2,s4,e2⟩ := pe_inner (vx := vx) (bl := bl) (bs := bs) (F := F) (B := fun j => decide (j ∉ R ++ [i])) g hn hi hiR (by omega) I.1 hti _ 0 rfl (Nat.zero_le _) (h := h1) (v := v') (br := br) (by
        rw [show newZ f t R i 0 = [] by unfold newZ; simp,List.append_nil]; exact s3)
      have k2 := k.step g
      obtain ⟨h',B,g',b',o',e'⟩ := ih (by rw [List.length_append,List.length_singleton]; omega) s4 k2 (fun j hj => by
        have := k.stay g.fl hR
        rcases List.mem_append.1 hj with z | z
        · exact hR j z
        · rw [List.mem_singleton] at z; subst z; exact this j (by simp))
      refine ⟨h',B,g',b',o',?_⟩
      rw [F44.l11_eq,p1,go_ok,xgtr,go_ok,ifV_dec,if_pos (by omega),F44.j12_eq,p1,go_ok,xsub,go_ok,wsub1 (by omega) (by omega),Nat.add_sub_cancel,p2,go_ok,p3,go_ok,p1,go_ok,xsub,go_ok,wsub1 (by omega) (by omega),Nat.add_sub_cancel,p4,go_ok,b1,go_ok,e1,go_ok,a1,go_ok,a2 _ s3.gr,go_ok,I.1.len,go_ok,nl_len,
        show (Value.int .i64 0) = .int .i64 ((0 : Nat) : Int) from rfl,e2]
      exact e'
theorem ePeeled {h0 : H} {vf vx : Value} {n : Nat} {f t : Nat → List Nat} (g : Gr n f t) (hn : n ≤ 3000) (LF : LLv h0 vf n fun j => nl (f j)) (LT : LLv h0 vx n fun j => nl (t j)) :
    ∃ h' bs B,Grow h0 h' ∧ BL h' bs n false B ∧ (∀ j,j < n → OnC f j → B j = true) ∧ CLM (.f 44) [vf,vx] h0 = .ok (.slice (some ⟨bs,0,none⟩) n n) h' := by
  have hf : ∀ j,j < n → (f j).length ≤ 3000 := fun j hj => by
    have h2 := List.Nodup.length_le_of_subset (g.fn j hj) (l₂ := List.range n) fun k hk => List.mem_range.2 (g.fl j k hj hk)
    simp at h2; omega
  obtain ⟨h1,e1,g1,A1,n1⟩ := AL.new (n := n) (by omega) h0
  obtain ⟨h2,e2,g2,B2,n2⟩ := BL.new (n := n) (by omega) h1
  obtain ⟨h3,v3,br3,s3,e3⟩ := pe_init (h0 := h0) (vx := vx) (bl := h0.next) (bs := h1.next) LF hn hf _ 0 rfl (Nat.zero_le _) (h := h2) (v := .slice none 0 0) (br := none)
    ⟨g1.trans g2,AL.congr (g2.old _ _ A1) (fun k _ => by simp),B2.congr (fun k _ => by simp),OL.nil,Nat.le_refl _,g1.next,fun b z => by cases z⟩
  obtain ⟨h4,B,g4,b4,o4,e4⟩ := pe_main (vx := vx) g hn LT _ rfl (s3.congr (fun _ _ => rfl) (fun k _ => by simp)) Kahn.init (fun j hj => by cases hj)
  refine ⟨h4,h1.next,B,g4,b4,o4,?_⟩
  rw [cM44,F44.eq,LF.len,go_ok,e1,go_ok,LF.len,go_ok,e2,go_ok,LF.len,go_ok,show (Value.int .i64 0) = .int .i64 ((0 : Nat) : Int) from rfl,e3]
  exact e4
end Go.Proofs.Ytdadiidfhnojcaa.K
namespace Go.Proofs.Ytdadiidfhnojcaa.K
open Go Go.Kx
set_option linter.unusedVariables false
set_option linter.unusedSimpArgs false
set_option maxRecDepth 20000
theorem LLv.rc {h h' : H} {v : Value} {n : Nat} {f : Nat → List Int} (q : LLv h v n f) : rc (.ok v h') (some v) = true := by
  obtain ⟨b,op,vs,rfl,_⟩ := q
  exact rc_slc _ _ _ _
theorem needGr (ts : List TK) : Gr ts.length (nd ts) (us ts) :=
  ⟨fun i j hi hj => by rw [us_mem,nd_mem]; simp [hi,hj],fun j _ => (nd_rise ts j).imp fun h => by omega,fun j _ => (us_rise ts j).imp fun h => by omega,fun i j _ h => nd_lt h,fun i j _ h => (us_mem.1 h).1⟩
theorem userGr (ts : List TK) : Gr ts.length (us ts) (nd ts) :=
  ⟨fun i j hi hj => by rw [us_mem,nd_mem]; simp [hi,hj],fun j _ => (us_rise ts j).imp fun h => by omega,fun j _ => (nd_rise ts j).imp fun h => by omega,fun i j _ h => (us_mem.1 h).1,fun i j _ h => nd_lt h⟩
theorem need_out {ts : List TK} {i k : Nat} (h : need ts i k = true) : i < ts.length := by
  apply Classical.byContradiction
  intro q
  unfold need insAt at h
  rw [List.getElem?_eq_none (by omega)] at h
  simp at h
theorem OnC_lt {ts : List TK} {i : Nat} (h : OnC (nd ts) i) : i < ts.length := by
  obtain ⟨b,hb,_⟩ := h.next
  exact need_out (nd_mem.1 hb).2
theorem OnC_us {ts : List TK} {i : Nat} : OnC (nd ts) i → OnC (us ts) i := fun h => Path.rev (fun a b hb => us_mem.2 ⟨need_out (nd_mem.1 hb).2,(nd_mem.1 hb).2⟩) h
def CycR (ts : List TK) (c : Int) : Prop := (c = -1 ∧ ∀ k,¬ OnC (nd ts) k) ∨ ∃ k : Nat,c = k ∧ k < ts.length ∧ OnC (nd ts) k ∧ ∀ j : Nat,OnC (nd ts) j → aLt ts (j : Int) (k : Int) = false
theorem cy_pick {h0 : H} {g n ba bb : Nat} {A B : Nat → Bool} (hn : n ≤ 3000) (QA : BL h0 ba n false A) (QB : BL h0 bb n false B) : ∀ (m i : Nat) {h : H} {v : Value} {br : Option Nat},n - i = m → i ≤ n → Grow h0 h → OL h v br (nl ((List.range i).filter fun j => A j && B j)) → (∀ b,br = some b → h0.next ≤ b) →
    ∃ h' v' br',Grow h0 h' ∧ OL h' v' br' (nl ((List.range n).filter fun j => A j && B j)) ∧ (∀ b,br' = some b → h0.next ≤ b) ∧
      F33.l4 Try.prog CLM nu0 nu0 (.pointer (some ⟨g,0,none⟩)) (.slice (some ⟨ba,0,none⟩) n n) (.slice (some ⟨bb,0,none⟩) n n) v (.int .i64 (n : Nat)) (.int .i64 (i : Nat)) h = F33.j9 Try.prog CLM nu0 nu0 (.pointer (some ⟨g,0,none⟩)) v' h' := by
  intro m
  induction m with
  | zero =>
    intro i h v br hm hi G o f
    have : i = n := by omega
    subst this
    refine ⟨h,v,br,G,o,f,?_⟩
    rw [F33.l4_eq,xlss,go_ok,F33.j5_eq,ifV_dec,if_neg (by omega)]
  | succ m ih =>
    intro i h v br hm hi G o f
    have hil : i < n := by omega
    obtain ⟨a1,a2⟩ := BL.ld (G.old _ _ QA) (m := n) (cap := n) hil hil
    obtain ⟨b1,b2⟩ := BL.ld (G.old _ _ QB) (m := n) (cap := n) hil hil
    have skip : (A i && B i) = false → ∃ h' v' br',Grow h0 h' ∧ OL h' v' br' (nl ((List.range n).filter fun j => A j && B j)) ∧ (∀ b,br' = some b → h0.next ≤ b) ∧
        ((xbin Try.prog .add 3 (.int .i64 (i : Nat)) (.int .i64 1) h).go .pan fun t h' => F33.l4 Try.prog CLM nu0 nu0 (.pointer (some ⟨g,0,none⟩)) (.slice (some ⟨ba,0,none⟩) n n) (.slice (some ⟨bb,0,none⟩) n n) v (.int .i64 (n : Nat)) t h') = F33.j9 Try.prog CLM nu0 nu0 (.pointer (some ⟨g,0,none⟩)) v' h' := fun hz => by
      obtain ⟨h',v',br',r1,r2,r3,r4⟩ := ih (i + 1) (h := h) (v := v) (br := br) (by omega) (by omega) G (by
        rw [List.range_succ,List.filter_append,show [i].filter (fun j => A j && B j) = [] from List.filter_cons_of_neg (by rw [hz]; simp),List.append_nil]; exact o) f
      refine ⟨h',v',br',r1,r2,r3,?_⟩
      rw [xadd,go_ok,wadd1 (by omega)]
      exact r4
    rw [F33.l4_eq,xlss,go_ok,F33.j5_eq,ifV_dec,if_pos (by omega),F33.j5_1_eq,a1,go_ok,a2,go_ok]
    cases hA : A i with
    | false =>
      rw [ifV_f]
      exact skip (by rw [hA]; rfl)
    | true =>
      rw [ifV_t,b1,go_ok,b2,go_ok]
      cases hB : B i with
      | false =>
        rw [ifV_f]
        exact skip (by rw [hA,hB]; rfl)
      | true =>
        rw [ifV_t]
        have hfl : ((List.range i).filter fun j => A j && B j).length ≤ i := by have := List.length_filter_le (fun j => A j && B j) (List.range i); rwa [List.length_range] at this
        obtain ⟨v',br',h1,u,o1,nb,e⟩ := o.push (by rw [nl_len]; omega) (i : Int)
        obtain ⟨h',v'',br'',r1,r2,r3,r4⟩ := ih (i + 1) (h := h1) (v := v') (br := br') (by omega) (by omega) (grow_then G u fun b hb => f b hb.symm) (by
          rw [List.range_succ,List.filter_append,show [i].filter (fun j => A j && B j) = [i] from List.filter_cons_of_pos (by rw [hA,hB]; rfl),nl_append]; exact o1) (fun b hb => by
          rcases nb with z | ⟨b2,z,z2⟩
          · exact f b (z ▸ hb)
          · rw [z] at hb; cases hb; exact Nat.le_trans G.next z2)
        refine ⟨h',v'',br'',r1,r2,r3,?_⟩
        rw [e,xadd,go_ok,wadd1 (by omega)]
        exact r4
theorem cy_find {h0 h1 : H} {g : Nat} {ts : List TK} {vt v : Value} (N0 : Net h0 g ts vt) (F : Few ts) {l : List Nat} (hl : ∀ k ∈ l,k < ts.length) (hlen : l.length ≤ 3000) (G1 : Grow h0 h1) (I : IL h1 v (nl l)) : ∀ (m i : Nat) {h : H},l.length - i = m → i ≤ l.length → Grow h1 h → (∀ j ∈ l.take i,¬ OnC (nd ts) j) →
    ∃ (h' : H) (c : Int),Grow h0 h' ∧ ((c = -1 ∧ ∀ k ∈ l,¬ OnC (nd ts) k) ∨ ∃ (q : Nat) (k : Nat),l[q]? = some k ∧ c = k ∧ OnC (nd ts) k ∧ ∀ j ∈ l.take q,¬ OnC (nd ts) j) ∧
      F33.l11 Try.prog CLM nu0 nu0 (.pointer (some ⟨g,0,none⟩)) v (.int .i64 (l.length : Nat)) (.int .i64 (i : Nat)) h = .ok (.int .i64 c) h' := by
  intro m
  induction m with
  | zero =>
    intro i h hm hi G no
    refine ⟨h,-1,G1.trans G,.inl ⟨rfl,by rw [List.take_of_length_le (by omega)] at no; exact no⟩,?_⟩
    rw [F33.l11_eq,xlss,go_ok,F33.j12_eq,ifV_dec,if_neg (by omega),F33.j16_eq]
  | succ m ih =>
    intro i h hm hi G no
    have hil : i < l.length := by omega
    have hq : l[i]? = some l[i] := List.getElem?_eq_getElem hil
    obtain ⟨k,hk⟩ : ∃ k,k = l[i] := ⟨_,rfl⟩
    rw [← hk] at hq
    obtain ⟨a,a1,a2⟩ := (I.grow G).at_ (show (nl l)[i]? = some (k : Int) by unfold nl; rw [List.getElem?_map,hq]; rfl)
    obtain ⟨h2,r,g2,hr,e2⟩ := eCircles (N0.grow (G1.trans G)) F (hl k (List.mem_of_getElem? hq))
    have hE : F33.l11 Try.prog CLM nu0 nu0 (.pointer (some ⟨g,0,none⟩)) v (.int .i64 (l.length : Nat)) (.int .i64 (i : Nat)) h = ifV (.bool r) (.ok (.int .i64 (k : Nat)) h2) ((xbin Try.prog .add 3 (.int .i64 (i : Nat)) (.int .i64 1) h2).go .pan fun t h' => F33.l11 Try.prog CLM nu0 nu0 (.pointer (some ⟨g,0,none⟩)) v (.int .i64 (l.length : Nat)) t h') := by
      rw [F33.l11_eq,xlss,go_ok,F33.j12_eq,ifV_dec,if_pos (by omega),F33.j12_1_eq,a1,go_ok,a2,go_ok,e2,go_ok]
    rw [hE]
    cases r with
    | true => exact ⟨h2,(k : Int),(G1.trans G).trans g2,.inr ⟨i,k,hq,rfl,hr.1 rfl,no⟩,by rw [ifV_t]⟩
    | false =>
      have hno : ¬ OnC (nd ts) k := fun z => by have := hr.2 z; cases this
      obtain ⟨h',c,r1,r2,r3⟩ := ih (i + 1) (by omega) (by omega) (G.trans g2) (fun j hj => by
        rw [List.take_add_one,hq,List.mem_append] at hj
        rcases hj with hj | hj
        · exact no j hj
        · simp at hj; exact hj ▸ hno)
      refine ⟨h',c,r1,r2,?_⟩
      rw [ifV_f,xadd,go_ok,wadd1 (by omega)]
      exact r3
theorem eCycle {h0 : H} {g : Nat} {ts : List TK} {vt : Value} (N0 : Net h0 g ts vt) (F : Few ts) : ∃ h' c,Grow h0 h' ∧ CycR ts c ∧ CLM (.f 33) [.pointer (some ⟨g,0,none⟩)] h0 = .ok (.int .i64 c) h' := by
  have hn := F.n
  obtain ⟨vn,vu,nn,T,LN,LU⟩ := id N0
  obtain ⟨h1,ba,A,g1,QA,oA,e1⟩ := ePeeled (needGr ts) hn LN LU
  obtain ⟨h2,bb,B,g2,QB,oB,e2⟩ := ePeeled (userGr ts) hn (LU.grow g1) (LN.grow g1)
  have n1 := nn.grow g1
  have n2 := n1.grow g2
  have G2 := g1.trans g2
  obtain ⟨h3,v3,br3,g3,o3,f3,e3⟩ := cy_pick (g := g) hn (g2.old _ _ QA) QB _ 0 rfl (Nat.zero_le _) (Grow.refl h2) (v := .slice none 0 0) (br := none) OL.nil (fun b z => by cases z)
  have hfl : ((List.range ts.length).filter fun j => A j && B j).length ≤ ts.length := by have := List.length_filter_le (fun j => A j && B j) (List.range ts.length); rwa [List.length_range] at this
  obtain ⟨h4,l,u4,o4,p4,s4,e4⟩ := eSortA (N0.grow G2) g3 o3 f3 (fun k hk => List.mem_range.1 (List.mem_filter.1 hk).1) (by omega)
  have G4 : Grow h2 h4 := grow_then g3 u4 fun b hb => f3 b hb.symm
  have hll := p4.length_eq
  have hmem : ∀ k,k ∈ l ↔ k < ts.length ∧ (A k && B k) = true := fun k => by rw [p4.mem_iff,List.mem_filter,List.mem_range]
  obtain ⟨h5,c,g5,hc,e5⟩ := cy_find N0 F (fun k hk => ((hmem k).1 hk).1) (by omega) (G2.trans G4) o4.il _ 0 rfl (Nat.zero_le _) (Grow.refl h4) (fun j hj => by simp at hj)
  have hall : ∀ k,OnC (nd ts) k → k ∈ l := fun k hk => (hmem k).2 ⟨OnC_lt hk,by rw [oA k (OnC_lt hk) hk,oB k (OnC_lt hk) (OnC_us hk)]; rfl⟩
  refine ⟨h5,c,g5,?_,?_⟩
  · rcases hc with ⟨hc,no⟩ | ⟨q,k,hq,hc,ok,no⟩
    · exact .inl ⟨hc,fun k hk => no k (hall k hk) hk⟩
    · refine .inr ⟨k,hc,OnC_lt ok,ok,fun j hj => ?_⟩
      obtain ⟨p,hp⟩ := List.mem_iff_getElem?.1 (hall j hj)
      have hpl := (List.getElem?_eq_some_iff.1 hp).1
      have hql := (List.getElem?_eq_some_iff.1 hq).1
      by_cases hpq : p < q
      · exact absurd hj (no j (List.mem_iff_getElem?.2 ⟨p,by rw [List.getElem?_take_of_lt hpq]; exact hp⟩))
      · by_cases e : p = q
        · subst e; rw [hp] at hq; cases hq; exact aLt_irrefl _ _
        · have := (List.pairwise_iff_getElem.1 s4) q p hql hpl (by omega)
          rw [(List.getElem?_eq_some_iff.1 hp).2,(List.getElem?_eq_some_iff.1 hq).2] at this
          exact this
  · have f1 : xload Try.prog 33 (.pointer (some ⟨g,0 + 1,none⟩)) h0 = .ok vn h0 := by rw [ld33,nn.n,ofO_some]
    have f2 : xload Try.prog 33 (.pointer (some ⟨g,0 + 2,none⟩)) h0 = .ok vu h0 := by rw [ld33,nn.u,ofO_some]
    have f3' : xload Try.prog 33 (.pointer (some ⟨g,0 + 1,none⟩)) h1 = .ok vn h1 := by rw [ld33,n1.n,ofO_some]
    have f4 : xload Try.prog 33 (.pointer (some ⟨g,0 + 2,none⟩)) h1 = .ok vu h1 := by rw [ld33,n1.u,ofO_some]
    rw [cM33,F33.eq,xnil_ptr,Res.ok1_ok,fa79_1,Res.ok1_ok,f1,Res.ok1_ok,xnil_ptr,Res.ok1_ok,fa79_2,Res.ok1_ok,f2,Res.ok1_ok,xnil_ptr,Res.ok1_ok,fa79_2,Res.ok1_ok,f2,Res.ok1_ok,xnil_ptr,Res.ok1_ok,fa79_1,Res.ok1_ok,f1,Res.ok1_ok,e1,go_ok,
      f4,LU.rc,f3',LN.rc,Bool.and_self,Bool.and_self,cond_true,e2,go_ok,xnil_ptr,go_ok,fa79_0,go_ok,ld22,n2.t,ofO_some,go_ok,T.len,go_ok,show (Value.int .i64 0) = .int .i64 ((0 : Nat) : Int) from rfl,e3,F33.j9_eq]
    show ((CLM (.f 39) [v3,aheadV g] h3).go .pan _) = _
    rw [e4,go_ok,o4.il.len,go_ok,nl_len]
    exact e5
end Go.Proofs.Ytdadiidfhnojcaa.K
namespace Go.Proofs.Ytdadiidfhnojcaa.K
open Go Go.Kx
set_option linter.unusedVariables false
set_option linter.unusedSimpArgs false
set_option maxRecDepth 20000
def ML (h : H) (v : Value) (br : Option Nat) (l : List Nat) : Prop :=
  (br = none ∧ v = .slice none 0 0 ∧ l = []) ∨
  ∃ b o c,br = some b ∧ h.get b = some (.cells c 3 0 true) ∧ ones c = true ∧ o ≤ c.length ∧
    ((v = .slice (some ⟨b,o,none⟩) l.length l.length ∧ l ≠ [] ∧ c.drop o = iv (nl l)) ∨ (v = .slice (some ⟨b,o,some 1⟩) 0 0 ∧ l = []))
theorem ML.nil {h : H} : ML h (.slice none 0 0) none [] := .inl ⟨rfl,rfl,rfl⟩
theorem ML.upd {S : Nat → Prop} {h h' : H} (u : Upd S h h') {v : Value} {br : Option Nat} {l : List Nat} (q : ML h v br l) (hS : ∀ b,br = some b → ¬ S b) : ML h' v br l := by
  refine q.imp id ?_
  rintro ⟨b,o,c,e,hg,r⟩
  exact ⟨b,o,c,e,u.old _ _ (hS b e) hg,r⟩
theorem ML.grow {h h' : H} (g : Grow h h') {v : Value} {br : Option Nat} {l : List Nat} (q : ML h v br l) : ML h' v br l := q.upd (g.upd fun _ => False) fun _ _ => id
theorem ML.len {h : H} {v : Value} {br : Option Nat} {l : List Nat} (q : ML h v br l) (h' : H) : xbuiltin Try.prog .len [27] [v] h' = .ok (.int .i64 (l.length : Nat)) h' := by
  rcases q with ⟨_,rfl,rfl⟩ | ⟨b,o,c,_,_,_,_,⟨rfl,_,_⟩ | ⟨rfl,rfl⟩⟩
  · exact ln27 _ _ _ _
  · exact ln27 _ _ _ _
  · exact ln27 _ _ _ _
theorem ML.at_ {h : H} {v : Value} {br : Option Nat} {l : List Nat} (q : ML h v br l) {i k : Nat} (hk : l[i]? = some k) : ∃ a,(∀ h',xindexAddr Try.prog 27 v (.int .i64 (i : Nat)) h' = .ok (.pointer (some a)) h') ∧ ∀ h',Grow h h' → xload Try.prog 3 (.pointer (some a)) h' = .ok (.int .i64 (k : Nat)) h' := by
  have hi := (List.getElem?_eq_some_iff.1 hk).1
  rcases q with ⟨_,rfl,rfl⟩ | ⟨b,o,c,_,hg,_,_,⟨rfl,_,e⟩ | ⟨rfl,rfl⟩⟩
  · simp at hi
  · refine ⟨⟨b,o + i * 1,none⟩,fun h' => ia27 _ _ _ _ _ _ _ h' hi,fun h' g => ?_⟩
    have hc : c[o + i]? = some (.int .i64 (k : Nat)) := by
      have := congrArg (fun x => x[i]?) e
      simp only [List.getElem?_drop,iv,nl,List.getElem?_map,hk,Option.map_some] at this
      exact this
    rw [ld3,H.cell_eq (g.old _ _ hg),Nat.mul_one,hc,ofO_some]
  · simp at hi
theorem ML.lt {h : H} {v : Value} {br : Option Nat} {l : List Nat} (q : ML h v br l) {b : Nat} (hb : br = some b) : b < h.next := by
  rcases q with ⟨e,_⟩ | ⟨b',o,c,e,hg,_⟩
  · rw [e] at hb; cases hb
  · rw [e] at hb; cases hb; exact H.get_lt hg
theorem insT_by (n : Nat) (h : n ≤ 60001) : Nat.ble (n * bytesOf Try.prog 3) 35184372088832 = true ∧ Nat.ble n 35184372088832 = true ∧ Nat.ble (bytesOf Try.prog 3) 1048576 = true := by
  have hb : bytesOf Try.prog 3 = 8 := by kernel_rfl
  rw [hb]
  exact ⟨Nat.ble_eq_true_of_le (by omega),Nat.ble_eq_true_of_le (by omega),rfl⟩
theorem eIns1 {h : H} {v : Value} {br : Option Nat} {l : List Nat} (q : ML h v br l) (few : l.length ≤ 60000) {i : Nat} (hi : i ≤ l.length) {vb x : Nat} (hv : h.get vb = some (.cells [.int .i64 (x : Nat)] 3 0 false)) :
    ∃ h' v',Upd (fun y => some y = br) h h' ∧ ML h' v' (some h.next) (l.take i ++ x :: l.drop i) ∧ CLM (.f 47) [v,.int .i64 (i : Nat),.slice (some ⟨vb,0,none⟩) 1 1] h = .ok v' h' := by
  have hce : Try.prog.cellsOf 3 = 1 := by kernel_rfl
  have hrow : h.row ⟨vb,0,none⟩ (1 * 1) = some [.int .i64 (x : Nat)] := H.row_all hv rfl
  have hone : ones [Value.int .i64 (x : Nat)] = true := rfl
  obtain ⟨c1,c2,c3⟩ := insT_by (l.length + 1) (by omega)
  have hzf : zeroFits Try.prog 3 = true := LI.zf
  have hlist : (iv (nl l)).take (i * 1) ++ ([Value.int .i64 (x : Nat)] ++ (iv (nl l)).drop (i * 1)) = iv (nl (l.take i ++ x :: l.drop i)) := by
    rw [Nat.mul_one]
    unfold iv nl
    simp only [List.map_append,List.map_take,List.map_cons,List.map_drop]
    rfl
  have hlen : (l.take i ++ x :: l.drop i).length = l.length + 1 := by simp; omega
  have fin : ∀ h2 : H,h2.next = h.next → ML (h2.alloc (.cells (iv (nl (l.take i ++ x :: l.drop i))) 3 0 true)) (.slice (some ⟨h.next,0,none⟩) (l.length + 1) (l.length + 1)) (some h.next) (l.take i ++ x :: l.drop i) := fun h2 e => by
    have hg := H.alloc_self h2 (.cells (iv (nl (l.take i ++ x :: l.drop i))) 3 0 true)
    rw [e] at hg
    exact .inr ⟨h.next,0,_,rfl,hg,iv_ones _,Nat.zero_le _,.inl ⟨by rw [hlen],by simp,rfl⟩⟩
  rw [cM47,pmInsert]
  rcases q with ⟨rfl,rfl,rfl⟩ | ⟨b,o,c,rfl,hg,hc,ho,⟨rfl,hne,e⟩ | ⟨rfl,rfl⟩⟩
  · have hi0 : i = 0 := by simpa using hi
    subst hi0
    have e : insP Try.prog 27 [.slice none 0 0,.int .i64 ((0 : Nat) : Int),.slice (some ⟨vb,0,none⟩) 1 1] h = .ok (.slice (some ⟨h.next,0,none⟩) (0 + 1) (0 + 1)) (h.alloc (.cells (iv (nl [x])) 3 0 true)) := by
      unfold insP
      simp only [LI.el,hce,firstC,hrow,insOk,hv,hone,hzf]
      simp only [List.length_nil,Nat.zero_add] at c1 c2
      simp [c1,c2,c3,H.leave]
      rfl
    exact ⟨_,_,(Upd.refl _ h).alloc _,fin h rfl,e⟩
  · have hbv : b ≠ vb := fun z => by subst z; rw [hg] at hv; simp at hv
    have hcl : c.length = o + l.length := by
      have := congrArg List.length e
      rw [List.length_drop,iv_len,nl_len] at this
      have : l.length ≠ 0 := fun z => hne (List.length_eq_zero_iff.1 z)
      omega
    have hfirst : h.row ⟨b,o,none⟩ (l.length * 1) = some (iv (nl l)) := by
      rw [H.row_eq hg (by omega),e,List.take_of_length_le (by rw [iv_len,nl_len]; omega)]
    have hbq : Nat.beq b vb = false := beqF hbv
    have k1 : Nat.ble i l.length = true := Nat.ble_eq_true_of_le hi
    have k2 : Nat.ble l.length l.length = true := Nat.ble_eq_true_of_le (Nat.le_refl _)
    have E : insP Try.prog 27 [.slice (some ⟨b,o,none⟩) l.length l.length,.int .i64 (i : Int),.slice (some ⟨vb,0,none⟩) 1 1] h = .ok (.slice (some ⟨h.next,0,none⟩) (l.length + 1) (l.length + 1)) ((h.put b .dead).alloc (.cells (iv (nl (l.take i ++ x :: l.drop i))) 3 0 true)) := by
      have hlist' := hlist
      unfold insP
      simp only [LI.el,hce,firstC,hrow,hfirst,insOk,hg,hv,hone,hzf,hc]
      rw [← hlist]
      simp [c1,c2,c3,H.leave,hg,hbq,k1,k2,show Nat.blt 0 1 = true from rfl,show Nat.ble 1 1 = true from rfl]
      rfl
    exact ⟨_,_,((Upd.refl (fun y => some y = some b) h).put (.inl rfl) (H.get_lt hg) _).alloc _,fin _ rfl,E⟩
  · have hi0 : i = 0 := by simpa using hi
    subst hi0
    have hbv : b ≠ vb := fun z => by subst z; rw [hg] at hv; simp at hv
    have hbq : Nat.beq b vb = false := beqF hbv
    have hfirst : h.row ⟨b,o,none⟩ (0 * 1) = some [] := by rw [H.row_eq hg (by omega)]; simp
    have E : insP Try.prog 27 [.slice (some ⟨b,o,some 1⟩) 0 0,.int .i64 ((0 : Nat) : Int),.slice (some ⟨vb,0,none⟩) 1 1] h = .ok (.slice (some ⟨h.next,0,none⟩) (0 + 1) (0 + 1)) ((h.put b .dead).alloc (.cells (iv (nl [x])) 3 0 true)) := by
      unfold insP
      simp only [LI.el,hce,firstC,hrow,hfirst,insOk,hg,hv,hone,hzf,hc]
      simp only [List.length_nil,Nat.zero_add] at c1 c2
      simp [c1,c2,c3,H.leave,hg,hbq]
      rfl
    exact ⟨_,_,((Upd.refl (fun y => some y = some b) h).put (.inl rfl) (H.get_lt hg) _).alloc _,fin _ rfl,E⟩
theorem ML.pop {h : H} {v : Value} {br : Option Nat} {x : Nat} {l : List Nat} (q : ML h v br (x :: l)) :
    (∃ a,(∀ h',xindexAddr Try.prog 27 v (.int .i64 0) h' = .ok (.pointer (some a)) h') ∧ xload Try.prog 3 (.pointer (some a)) h = .ok (.int .i64 (x : Nat)) h) ∧
    ∃ v',xslice Try.prog 27 v (some (.int .i64 1)) none none h = .ok v' h ∧ ML h v' br l := by
  refine ⟨?_,?_⟩
  · obtain ⟨a,a1,a2⟩ := q.at_ (i := 0) rfl
    exact ⟨a,a1,a2 _ (Grow.refl h)⟩
  rcases q with ⟨_,_,e⟩ | ⟨b,o,c,rfl,hg,hc,ho,⟨rfl,hne,e⟩ | ⟨_,e⟩⟩
  · cases e
  · have hcl : c.length = o + (l.length + 1) := by
      have := congrArg List.length e
      rw [List.length_drop,iv_len,nl_len,List.length_cons] at this
      omega
    rw [List.length_cons]
    cases l with
    | nil =>
      have T := xslice_e (P := Try.prog) (t := 27) (lo := some (.int .i64 1)) (hi := none) (o := o) (n := 1) (cap := 1) un27 sz3 hg rfl rfl rfl
      exact ⟨_,T,.inr ⟨b,o,c,rfl,hg,hc,ho,.inr ⟨rfl,rfl⟩⟩⟩
    | cons y l =>
      have T := xslice_o (P := Try.prog) (t := 27) (lo := some (.int .i64 1)) (hi := none) (o := o) (n := (y :: l).length + 1) (cap := (y :: l).length + 1) un27 sz3 hg rfl (l := 1) (u := (y :: l).length + 1) rfl rfl (by omega) (by omega) (by simp)
      rw [show Try.prog.cellsOf 3 = 1 by kernel_rfl] at T
      refine ⟨_,T,.inr ⟨b,o + 1,c,rfl,hg,hc,by rw [hcl]; simp only [List.length_cons]; omega,.inl ⟨by simp,by simp,?_⟩⟩⟩
      rw [← List.drop_drop,e]
      rfl
  · cases e
theorem bs_loop {hN h0 : H} {g : Nat} {vt v : Value} {ts : List TK} {br : Option Nat} {l : List Nat} {x : Nat} (N : Net hN g ts vt) (J : Grow hN h0) (q : ML h0 v br l) (hx : x < ts.length) (hl : ∀ k ∈ l,k < ts.length) (few : l.length ≤ 60000)
    (hs : l.Pairwise fun i j : Nat => aLt ts (i : Int) (j : Int) = true) : ∀ (m lo hi : Nat) {h : H},hi - lo = m → lo ≤ hi → hi ≤ l.length → Grow h0 h → (∀ p k,p < lo → l[p]? = some k → aLt ts (k : Int) (x : Int) = true) → (∀ p k,hi ≤ p → l[p]? = some k → aLt ts (k : Int) (x : Int) = false) →
    ∃ (h' : H) (at' : Nat) (fd : Bool),Grow h0 h' ∧ at' ≤ l.length ∧ (∀ p k,p < at' → l[p]? = some k → aLt ts (k : Int) (x : Int) = true) ∧ (∀ p k,at' ≤ p → l[p]? = some k → aLt ts (k : Int) (x : Int) = false) ∧
      F46.l3 Try.prog CLM nu0 nu0 v (.int .i64 (x : Nat)) (aheadV g) (.int .i64 (l.length : Nat)) (.int .i64 (lo : Nat)) (.int .i64 (hi : Nat)) h = .ok (.tuple ⟨[.int .i64 (at' : Nat),.bool fd]⟩) h' := by
  intro m
  induction m using Nat.strongRecOn with
  | ind m ih =>
  intro lo hi h hm h1 h2 G p1 p2
  by_cases hlt : lo < hi
  · obtain ⟨mid,hmid⟩ : ∃ mid,mid = (lo + hi) / 2 := ⟨_,rfl⟩
    have hmlo : lo ≤ mid := by omega
    have hmhi : mid < hi := by omega
    have hk : l[mid]? = some l[mid] := List.getElem?_eq_getElem (by omega)
    obtain ⟨k,hkd⟩ : ∃ k,k = l[mid] := ⟨_,rfl⟩
    rw [← hkd] at hk
    obtain ⟨a,a1,a2⟩ := q.at_ hk
    obtain ⟨h3,g3,e3⟩ := callA (N.grow (J.trans G)) (hl k (List.mem_of_getElem? hk)) hx
    have w1 : IntKind.u64.wrap ((lo + hi : Nat) : Int) = ((lo + hi : Nat) : Int) := wun (by omega)
    have w2 : (((lo + hi : Nat) : Int)).fdiv 2 = ((mid : Nat) : Int) := by rw [Int.fdiv_eq_ediv_of_nonneg _ (by omega)]; omega
    have hE : F46.l3 Try.prog CLM nu0 nu0 v (.int .i64 (x : Nat)) (aheadV g) (.int .i64 (l.length : Nat)) (.int .i64 (lo : Nat)) (.int .i64 (hi : Nat)) h =
        if aLt ts (k : Int) (x : Int) = true then F46.l3 Try.prog CLM nu0 nu0 v (.int .i64 (x : Nat)) (aheadV g) (.int .i64 (l.length : Nat)) (.int .i64 ((mid + 1 : Nat) : Int)) (.int .i64 (hi : Nat)) h3
        else F46.l3 Try.prog CLM nu0 nu0 v (.int .i64 (x : Nat)) (aheadV g) (.int .i64 (l.length : Nat)) (.int .i64 (lo : Nat)) (.int .i64 (mid : Nat)) h3 := by
      rw [F46.l3_eq,xlss,go_ok,ifV_dec,if_pos (by omega),F46.j4_eq,xadd,go_ok,wadd (by omega),cv3_95,go_ok,w1,xshr1,go_ok,w2,cv95_3,go_ok,wn (by omega),a1,go_ok,a2 _ G,go_ok,e3,go_ok,xlss,go_ok,ifV_dec]
      cases hq : aLt ts (k : Int) (x : Int) with
      | true =>
        have hc : (if true = true then (-1 : Int) else if aLt ts (x : Int) (k : Int) = true then 1 else 0) < 0 := by rw [if_pos rfl]; omega
        rw [if_pos hc,if_pos rfl,xadd,go_ok,wadd1 (by omega)]
      | false =>
        have hc : ¬ (if false = true then (-1 : Int) else if aLt ts (x : Int) (k : Int) = true then 1 else 0) < 0 := by
          rw [if_neg (by simp)]; split <;> omega
        rw [if_neg hc,if_neg (by simp)]
    rw [hE]
    cases hq : aLt ts (k : Int) (x : Int) with
    | true =>
      rw [if_pos rfl]
      refine ih (hi - (mid + 1)) (by omega) (mid + 1) hi rfl (by omega) h2 (G.trans g3) (fun p y hp hy => ?_) p2
      by_cases e : p = mid
      · subst e; rw [hk] at hy; cases hy; exact hq
      · have hpl := (List.getElem?_eq_some_iff.1 hy).1
        have := (List.pairwise_iff_getElem.1 hs) p mid hpl (by omega) (by omega)
        rw [(List.getElem?_eq_some_iff.1 hy).2,← hkd] at this
        exact aLt_trans this hq
    | false =>
      rw [if_neg (by simp)]
      refine ih (mid - lo) (by omega) lo mid rfl hmlo (by omega) (G.trans g3) p1 (fun p y hp hy => ?_)
      by_cases e : p = mid
      · subst e; rw [hk] at hy; cases hy; exact hq
      · have hpl := (List.getElem?_eq_some_iff.1 hy).1
        have := (List.pairwise_iff_getElem.1 hs) mid p (by omega) hpl (by omega)
        rw [(List.getElem?_eq_some_iff.1 hy).2,← hkd] at this
        cases hz : aLt ts (y : Int) (x : Int) with
        | false => rfl
        | true => have := aLt_trans this hz; rw [hq] at this; cases this
  · have : lo = hi := by omega
    subst this
    by_cases hend : lo < l.length
    · have hk : l[lo]? = some l[lo] := List.getElem?_eq_getElem hend
      obtain ⟨k,hkd⟩ : ∃ k,k = l[lo] := ⟨_,rfl⟩
      rw [← hkd] at hk
      obtain ⟨a,a1,a2⟩ := q.at_ hk
      obtain ⟨h3,g3,e3⟩ := callA (N.grow (J.trans G)) (hl k (List.mem_of_getElem? hk)) hx
      refine ⟨h3,lo,decide ((if aLt ts (k : Int) (x : Int) = true then (-1 : Int) else if aLt ts (x : Int) (k : Int) = true then 1 else 0) = 0),G.trans g3,h2,p1,p2,?_⟩
      rw [F46.l3_eq,xlss,go_ok,ifV_dec,if_neg (by omega),F46.j8_eq,xlss,go_ok,ifV_dec,if_pos (by omega),a1,go_ok,a2 _ G,go_ok,e3,go_ok,xeql,go_ok]
    · refine ⟨h,lo,false,G,h2,p1,p2,?_⟩
      rw [F46.l3_eq,xlss,go_ok,ifV_dec,if_neg (by omega),F46.j8_eq,xlss,go_ok,ifV_dec,if_neg (by omega)]
theorem eInsert {hN h : H} {g : Nat} {vt v : Value} {ts : List TK} {br : Option Nat} {l : List Nat} {x : Nat} (N : Net hN g ts vt) (J : Grow hN h) (q : ML h v br l) (hx : x < ts.length) (hl : ∀ k ∈ l,k < ts.length) (few : l.length ≤ 60000)
    (hs : l.Pairwise fun i j : Nat => aLt ts (i : Int) (j : Int) = true) (hxl : x ∉ l) :
    ∃ h' v' b' l',Upd (fun y => some y = br) h h' ∧ ML h' v' (some b') l' ∧ h.next ≤ b' ∧ l'.Perm (x :: l) ∧ (l'.Pairwise fun i j : Nat => aLt ts (i : Int) (j : Int) = true) ∧
      CLM (.f 34) [.pointer (some ⟨g,0,none⟩),v,.int .i64 (x : Nat)] h = .ok v' h' := by
  obtain ⟨h1,i,fd,G1,hi,p1,p2,e1⟩ := bs_loop N J q hx hl few hs (l.length - 0) 0 l.length rfl (Nat.zero_le _) (Nat.le_refl _) (Grow.refl h) (fun p k hp => absurd hp (Nat.not_lt_zero _)) (fun p k hp hk => by have := (List.getElem?_eq_some_iff.1 hk).1; omega)
  have hb : h1.next ≤ h1.next := Nat.le_refl _
  have G2 : Grow h1 (h1.alloc (.cells [.int .i64 (x : Nat)] 3 0 false)) := (Grow.refl h1).alloc _
  obtain ⟨h',v',u,ml,e2⟩ := eIns1 (q.grow (G1.trans G2)) few hi (H.alloc_self h1 (.cells [.int .i64 (x : Nat)] 3 0 false))
  refine ⟨h',v',_,_,((G1.trans G2).upd _).trans u,ml,Nat.le_trans G1.next (Nat.le_succ _),?_,?_,?_⟩
  · refine (List.perm_middle).trans (List.Perm.cons x ?_)
    rw [List.take_append_drop]
  · have hat : ∀ k ∈ l.take i,aLt ts (k : Int) (x : Int) = true := fun k hk => by
      obtain ⟨p,hp⟩ := List.mem_iff_getElem?.1 hk
      have hpi := (List.getElem?_eq_some_iff.1 hp).1
      rw [List.length_take] at hpi
      rw [List.getElem?_take_of_lt (by omega)] at hp
      exact p1 p k (by omega) hp
    have hbt : ∀ k ∈ l.drop i,aLt ts (x : Int) (k : Int) = true := fun k hk => by
      obtain ⟨p,hp⟩ := List.mem_iff_getElem?.1 hk
      rw [List.getElem?_drop] at hp
      have h2 := p2 (i + p) k (by omega) hp
      rcases aLt_tri ts (k : Int) (x : Int) with z | z | z
      · rw [h2] at z; cases z
      · have : k = x := by omega
        exact absurd (this ▸ List.mem_of_getElem? hp) hxl
      · exact z
    rw [List.pairwise_append,List.pairwise_cons]
    refine ⟨hs.sublist (List.take_sublist _ _),⟨hbt,hs.sublist (List.drop_sublist _ _)⟩,fun a ha b hb => ?_⟩
    rcases List.mem_cons.1 hb with z | z
    · subst z; exact hat a ha
    · exact aLt_trans (hat a ha) (hbt b z)
  · have eb : xbuildSlice Try.prog 27 1 [(0,.int .i64 (x : Nat))] h1 = .ok (.slice (some ⟨h1.next,0,none⟩) 1 1) (h1.alloc (.cells [.int .i64 (x : Nat)] 3 0 false)) := by kernel_rfl
    have ec : CLM (.f 46) [v,.int .i64 (x : Nat),aheadV g] h = .ok (.tuple ⟨[.int .i64 (i : Nat),.bool fd]⟩) h1 := by
      rw [cM46,F46.eq,q.len,go_ok]
      exact e1
    rw [cM34,F34.eq]
    show ((CLM (.f 46) [v,.int .i64 (x : Nat),aheadV g] h).go .pan _) = _
    rw [ec,go_ok,xextract_0,go_ok,xextract_1,go_ok,eb,go_ok,e2,go_ok]
end Go.Proofs.Ytdadiidfhnojcaa.K
namespace Go.Proofs.Ytdadiidfhnojcaa.K
open Go Go.Kx
set_option linter.unusedVariables false
set_option linter.unusedSimpArgs false
set_option maxRecDepth 20000
theorem cyc_ex {f : Nat → List Nat} : ∀ (m : Nat) (U : List Nat),U.length ≤ m → U ≠ [] → (∀ u ∈ U,∃ v ∈ U,v ∈ f u) → ∃ c,OnC f c := by
  intro m
  induction m with
  | zero => intro U h1 h2 _; exact absurd (List.length_eq_zero_iff.1 (by omega)) h2
  | succ m ih =>
    intro U h1 h2 h3
    obtain ⟨u,hu⟩ : ∃ u,u ∈ U := List.exists_mem_of_ne_nil _ h2
    by_cases hc : OnC f u
    · exact ⟨u,hc⟩
    · classical
      obtain ⟨v,hv,hv2⟩ := h3 u hu
      refine ih (U.filter fun w => decide (Path f u w)) ?_ (List.ne_nil_of_mem (List.mem_filter.2 ⟨hv,decide_eq_true (Path.one hv2)⟩)) fun w hw => ?_
      · have hlt : (U.filter fun w => decide (Path f u w)).length < U.length := by
          refine Nat.lt_of_le_of_ne (List.length_filter_le _ _) fun e => ?_
          have := List.length_filter_eq_length_iff.1 e u hu
          exact hc (of_decide_eq_true this)
        omega
      · obtain ⟨hw1,hw2⟩ := List.mem_filter.1 hw
        obtain ⟨x,hx,hx2⟩ := h3 w hw1
        exact ⟨x,List.mem_filter.2 ⟨hx,decide_eq_true ((of_decide_eq_true hw2).snoc hx2)⟩,hx2⟩
def NoC (ts : List TK) : Prop := ∀ k,¬ OnC (nd ts) k
def Ready (ts : List TK) (R : List Nat) (j : Nat) : Prop := j < ts.length ∧ j ∉ R ∧ ∀ k ∈ nd ts j,k ∈ R
def Pick (ts : List TK) (R : List Nat) (x : Nat) : Prop := Ready ts R x ∧ ∀ j,Ready ts R j → j = x ∨ aLt ts (x : Int) (j : Int) = true
def IsOrd (ts : List TK) (out : List Nat) : Prop := ∀ k x,out[k]? = some x → Pick ts (out.take k) x
theorem ready_ex {ts : List TK} (h : NoC ts) {R : List Nat} (hR : R.length < ts.length) : ∃ j,Ready ts R j := by
  apply Classical.byContradiction
  intro no
  have hU : (List.range ts.length).filter (fun j => decide (j ∉ R)) ≠ [] := fun e => by
    rw [List.filter_eq_nil_iff] at e
    have : (List.range ts.length).Nodup := List.nodup_range
    have hl := List.Nodup.length_le_of_subset this (l₂ := R) fun j hj => by have := e j hj; simpa using this
    rw [List.length_range] at hl; omega
  obtain ⟨c,hc⟩ := cyc_ex (f := nd ts) _ _ (Nat.le_refl _) hU fun u hu => by
    obtain ⟨h1,h2⟩ := List.mem_filter.1 hu
    have h3 : u ∉ R := of_decide_eq_true h2
    apply Classical.byContradiction
    intro hn
    refine no ⟨u,List.mem_range.1 h1,h3,fun k hk => ?_⟩
    apply Classical.byContradiction
    intro hkR
    exact hn ⟨k,List.mem_filter.2 ⟨List.mem_range.2 (nd_lt hk),decide_eq_true hkR⟩,hk⟩
  exact h c hc
theorem Kahn.ready {ts : List TK} {R F : List Nat} (k : Kahn ts.length (nd ts) R F) {j : Nat} : Ready ts R j ↔ j ∈ F := by
  have nd' := k.nod
  rw [List.nodup_append] at nd'
  constructor
  · rintro ⟨h1,h2,h3⟩
    exact ((List.mem_append.1 ((k.z j h1).1 (cntN_zero.2 h3))).elim (fun z => absurd z h2) id)
  · intro h
    have hj := k.lt j (by simp [h])
    exact ⟨hj,fun z => nd'.2.2 j z j h rfl,cntN_zero.1 ((k.z j hj).2 (by simp [h]))⟩
theorem Kahn.done {ts : List TK} {R : List Nat} (k : Kahn ts.length (nd ts) R []) (h : NoC ts) : R.length = ts.length := by
  have hl := k.len
  rw [List.append_nil] at hl
  apply Classical.byContradiction
  intro hne
  obtain ⟨j,hj⟩ := ready_ex h (R := R) (by omega)
  have := k.ready.1 hj
  simp at this
theorem Kahn.pick {ts : List TK} {R F : List Nat} {x : Nat} (k : Kahn ts.length (nd ts) R (x :: F)) (hs : (x :: F).Pairwise fun i j : Nat => aLt ts (i : Int) (j : Int) = true) : Pick ts R x :=
  ⟨k.ready.2 (by simp),fun j hj => by
    rcases List.mem_cons.1 (k.ready.1 hj) with z | z
    · exact .inl z
    · exact .inr ((List.pairwise_cons.1 hs).1 j z)⟩
theorem Pick.uniq {ts : List TK} {R : List Nat} {x y : Nat} (p : Pick ts R x) (q : Pick ts R y) : x = y := by
  rcases p.2 y q.1 with h | h
  · exact h.symm
  · rcases q.2 x p.1 with h2 | h2
    · exact h2
    · have := aLt_asymm h; rw [h2] at this; cases this
theorem IsOrd.nil (ts : List TK) : IsOrd ts [] := fun k x h => by simp at h
theorem IsOrd.snoc {ts : List TK} {R : List Nat} {x : Nat} (h : IsOrd ts R) (p : Pick ts R x) : IsOrd ts (R ++ [x]) := fun k y hk => by
  have hl := (List.getElem?_eq_some_iff.1 hk).1
  rw [List.length_append,List.length_singleton] at hl
  by_cases e : k = R.length
  · subst e
    rw [List.getElem?_append_right (Nat.le_refl _),Nat.sub_self] at hk
    simp only [List.getElem?_cons_zero,Option.some.injEq] at hk
    subst hk
    rw [List.take_left]; exact p
  · rw [List.getElem?_append_left (by omega)] at hk
    rw [List.take_append_of_le_length (by omega)]
    exact h k y hk
theorem IsOrd.uniq {ts : List TK} {a b : List Nat} (p : IsOrd ts a) (q : IsOrd ts b) (hl : a.length = b.length) : a = b := by
  have h : ∀ k,k ≤ a.length → a.take k = b.take k := by
    intro k
    induction k with
    | zero => intro _; simp
    | succ k ih =>
      intro hk
      have e := ih (by omega)
      have h1 := p k _ (List.getElem?_eq_getElem (by omega))
      have h2 := q k _ (List.getElem?_eq_getElem (show k < b.length by omega))
      rw [← e] at h2
      rw [List.take_add_one,List.take_add_one,e,List.getElem?_eq_getElem (show k < a.length by omega),List.getElem?_eq_getElem (show k < b.length by omega),h1.uniq h2]
  have := h a.length (Nat.le_refl _)
  rwa [List.take_length,hl,List.take_length] at this
theorem IsOrd.nodup {ts : List TK} {a : List Nat} (p : IsOrd ts a) : a.Nodup := by
  rw [List.Nodup,List.pairwise_iff_getElem]
  intro i j hi hj hij e
  have h := (p j _ (List.getElem?_eq_getElem hj)).1.2.1
  apply h
  rw [← e]
  exact List.mem_iff_getElem?.2 ⟨i,by rw [List.getElem?_take_of_lt hij]; exact List.getElem?_eq_getElem hi⟩
theorem IsOrd.lt {ts : List TK} {a : List Nat} (p : IsOrd ts a) {x : Nat} (h : x ∈ a) : x < ts.length := by
  obtain ⟨k,hk⟩ := List.mem_iff_getElem?.1 h
  exact (p k x hk).1.1
theorem IsOrd.mem {ts : List TK} {a : List Nat} (p : IsOrd ts a) (hl : a.length = ts.length) {x : Nat} (h : x < ts.length) : x ∈ a := by
  apply Classical.byContradiction
  intro hn
  have hnd : (x :: a).Nodup := List.nodup_cons.2 ⟨hn,p.nodup⟩
  have := List.Nodup.length_le_of_subset hnd (l₂ := List.range ts.length) fun j hj => List.mem_range.2 ((List.mem_cons.1 hj).elim (fun z => z ▸ h) fun z => p.lt z)
  rw [List.length_cons,List.length_range] at this
  omega
theorem IsOrd.before {ts : List TK} {a : List Nat} (p : IsOrd ts a) {k x y : Nat} (hk : a[k]? = some x) (hy : y ∈ nd ts x) : y ∈ a.take k := (p k x hk).1.2.2 y hy
def lvS (ts : List TK) (L : Nat → Nat) (i : Nat) : Nat := (nd ts i).foldl (fun a j => max a (L j + 1)) 0
def IsLev (ts : List TK) (L : Nat → Nat) : Prop := ∀ i,i < ts.length → L i = lvS ts L i
theorem foldl_max {L : Nat → Nat} : ∀ (l : List Nat) (a : Nat),a ≤ l.foldl (fun a j => max a (L j + 1)) a ∧ (∀ j ∈ l,L j < l.foldl (fun a j => max a (L j + 1)) a) ∧ (l.foldl (fun a j => max a (L j + 1)) a = a ∨ ∃ j ∈ l,l.foldl (fun a j => max a (L j + 1)) a = L j + 1)
  | [],a => ⟨Nat.le_refl _,(fun j hj => by cases hj),.inl rfl⟩
  | x :: l,a => by
    obtain ⟨h1,h2,h3⟩ := foldl_max l (max a (L x + 1))
    have m1 := Nat.le_max_left a (L x + 1)
    have m2 := Nat.le_max_right a (L x + 1)
    rw [List.foldl_cons]
    refine ⟨Nat.le_trans m1 h1,fun j hj => ?_,?_⟩
    · rcases List.mem_cons.1 hj with z | z
      · subst z; exact Nat.lt_of_lt_of_le (Nat.lt_succ_self _) (Nat.le_trans m2 h1)
      · exact h2 j z
    · rcases h3 with z | ⟨j,hj,z⟩
      · by_cases e : L x + 1 ≤ a
        · exact .inl (z.trans (Nat.max_eq_left e))
        · exact .inr ⟨x,by simp,z.trans (Nat.max_eq_right (by omega))⟩
      · exact .inr ⟨j,by simp [hj],z⟩
theorem lv_lt {ts : List TK} {L : Nat → Nat} (h : IsLev ts L) {i j : Nat} (hi : i < ts.length) (hj : j ∈ nd ts i) : L j < L i := by
  rw [h i hi]; exact (foldl_max (nd ts i) 0).2.1 j hj
theorem lv_le {ts : List TK} {L : Nat → Nat} (h : IsLev ts L) {i k : Nat} (hi : i < ts.length) (hk : ∀ j ∈ nd ts i,L j < k) : L i ≤ k := by
  rcases (foldl_max (L := L) (nd ts i) 0).2.2 with z | ⟨j,hj,z⟩
  · have := h i hi; unfold lvS at this; omega
  · have := h i hi; unfold lvS at this; have := hk j hj; omega
theorem lv_uniq {ts : List TK} {L M : Nat → Nat} (h : IsLev ts L) (k : IsLev ts M) : ∀ (m i : Nat),i < ts.length → L i ≤ m → L i = M i := by
  intro m
  induction m with
  | zero =>
    intro i hi hm
    have hn : nd ts i = [] := by
      cases e : nd ts i with
      | nil => rfl
      | cons a l => have := lv_lt h hi (j := a) (by rw [e]; simp); omega
    rw [h i hi,k i hi]; unfold lvS; rw [hn]; rfl
  | succ m ih =>
    intro i hi hm
    rw [h i hi,k i hi]
    unfold lvS
    have : ∀ j ∈ nd ts i,L j = M j := fun j hj => ih j (nd_lt hj) (by have := lv_lt h hi hj; omega)
    have aux : ∀ (l : List Nat) (a : Nat),(∀ j ∈ l,L j = M j) → l.foldl (fun a j => max a (L j + 1)) a = l.foldl (fun a j => max a (M j + 1)) a := by
      intro l
      induction l with
      | nil => intro a _; rfl
      | cons x l ih => intro a ha; rw [List.foldl_cons,List.foldl_cons,ha x (by simp)]; exact ih _ fun j hj => ha j (by simp [hj])
    exact aux _ _ this
structure IsLevs (ts : List TK) (L : Nat → Nat) (ls : List (List Nat)) : Prop where
  lv : IsLev ts L
  s : ∀ l ∈ ls,l.Pairwise fun i j : Nat => aLt ts (i : Int) (j : Int) = true
  m : ∀ k l,ls[k]? = some l → ∀ i,i ∈ l ↔ i < ts.length ∧ L i = k
  a : ∀ i,i < ts.length → L i < ls.length
  ne : ∀ l ∈ ls,l ≠ []
theorem sorted_eq {ts : List TK} : ∀ {l m : List Nat},(l.Pairwise fun i j : Nat => aLt ts (i : Int) (j : Int) = true) → (m.Pairwise fun i j : Nat => aLt ts (i : Int) (j : Int) = true) → (∀ z,z ∈ l ↔ z ∈ m) → l = m
  | [],[],_,_,_ => rfl
  | [],b :: m,_,_,h => absurd ((h b).2 List.mem_cons_self) List.not_mem_nil
  | a :: l,[],_,_,h => absurd ((h a).1 List.mem_cons_self) List.not_mem_nil
  | a :: l,b :: m,hl,hm,h => by
    have hl' := List.pairwise_cons.1 hl
    have hm' := List.pairwise_cons.1 hm
    have irr : ∀ x : Nat,¬ aLt ts (x : Int) (x : Int) = true := fun x z => by rw [aLt_irrefl] at z; cases z
    have e : a = b := by
      rcases List.mem_cons.1 ((h a).1 List.mem_cons_self) with e | e
      · exact e
      · rcases List.mem_cons.1 ((h b).2 List.mem_cons_self) with e2 | e2
        · exact e2.symm
        · exact absurd (aLt_trans (hl'.1 b e2) (hm'.1 a e)) (irr a)
    subst e
    refine congrArg (a :: ·) (sorted_eq hl'.2 hm'.2 fun z => ⟨fun hz => ?_,fun hz => ?_⟩)
    · rcases List.mem_cons.1 ((h z).1 (List.mem_cons_of_mem _ hz)) with e | e
      · exact absurd (e ▸ hl'.1 z hz) (irr a)
      · exact e
    · rcases List.mem_cons.1 ((h z).2 (List.mem_cons_of_mem _ hz)) with e | e
      · exact absurd (e ▸ hm'.1 z hz) (irr a)
      · exact e
theorem IsLevs.uniq {ts : List TK} {L M : Nat → Nat} {a b : List (List Nat)} (p : IsLevs ts L a) (q : IsLevs ts M b) : a = b := by
  have hLM : ∀ i,i < ts.length → L i = M i := fun i hi => lv_uniq p.lv q.lv _ i hi (Nat.le_refl _)
  have one : ∀ {L M : Nat → Nat} {a b : List (List Nat)},IsLevs ts L a → IsLevs ts M b → (∀ i,i < ts.length → L i = M i) → b.length ≤ a.length := by
    intro L M a b p q h
    apply Classical.byContradiction
    intro hlt
    have hk := List.getElem?_eq_getElem (show a.length < b.length by omega)
    obtain ⟨i,hi⟩ := List.exists_mem_of_ne_nil _ (q.ne _ (List.mem_of_getElem? hk))
    obtain ⟨h1,h2⟩ := (q.m _ _ hk i).1 hi
    have := p.a i h1
    rw [h i h1,h2] at this
    omega
  have hlen : a.length = b.length := Nat.le_antisymm (one q p fun i hi => (hLM i hi).symm) (one p q hLM)
  refine List.ext_getElem hlen fun k h1 h2 => ?_
  have e1 := List.getElem?_eq_getElem h1
  have e2 := List.getElem?_eq_getElem h2
  refine sorted_eq (p.s _ (List.mem_of_getElem? e1)) (q.s _ (List.mem_of_getElem? e2)) fun z => ?_
  rw [p.m _ _ e1,q.m _ _ e2]
  constructor
  · rintro ⟨x,y⟩; exact ⟨x,by rw [← hLM z x]; exact y⟩
  · rintro ⟨x,y⟩; exact ⟨x,by rw [hLM z x]; exact y⟩
end Go.Proofs.Ytdadiidfhnojcaa.K
namespace Go.Proofs.Ytdadiidfhnojcaa.K
open Go Go.Kx
set_option linter.unusedVariables false
set_option linter.unusedSimpArgs false
set_option maxRecDepth 20000
def ASorted (ts : List TK) (l : List Nat) : Prop := l.Pairwise fun i j : Nat => aLt ts (i : Int) (j : Int) = true
def Out (h : H) (b n : Nat) (R : List Nat) : Prop := ∃ sp,h.get b = some (.cells (iv (nl R) ++ sp) 3 0 false) ∧ R.length + sp.length = n
theorem Out.upd {S : Nat → Prop} {h h' : H} (u : Upd S h h') {b n : Nat} {R : List Nat} (q : Out h b n R) (hS : ¬ S b) : Out h' b n R := by
  obtain ⟨sp,hg,e⟩ := q
  exact ⟨sp,u.old _ _ hS hg,e⟩
theorem Out.push {h : H} {b n : Nat} {R : List Nat} (q : Out h b n R) (hR : R.length < n) {vb x : Nat} (hv : h.get vb = some (.cells [.int .i64 (x : Nat)] 3 0 false)) :
    ∃ h',xbuiltin Try.prog .append [27,27] [.slice (some ⟨b,0,none⟩) R.length n,.slice (some ⟨vb,0,none⟩) 1 1] h = .ok (.slice (some ⟨b,0,none⟩) (R.length + 1) n) h' ∧ Upd (fun y => y = b) h h' ∧ Out h' b n (R ++ [x]) := by
  obtain ⟨sp,hg,e⟩ := q
  cases sp with
  | nil => simp at e; omega
  | cons s sp =>
    have hce : Try.prog.cellsOf 3 = 1 := by kernel_rfl
    have hrow : h.row ⟨vb,0,none⟩ (1 * 1) = some [.int .i64 (x : Nat)] := H.row_all hv rfl
    have hw : h.write ⟨b,R.length,none⟩ [.int .i64 (x : Nat)] = some (h.put b (.cells (iv (nl (R ++ [x])) ++ sp) 3 0 false)) := by
      rw [write_cell' hg (by rw [List.length_append,iv_len,nl_len,List.length_cons]; omega) rfl,nl_append,iv_append]
      congr 3
      rw [List.set_append_right _ _ (by rw [iv_len,nl_len]; exact Nat.le_refl _),iv_len,nl_len,Nat.sub_self,List.append_assoc]
      rfl
    refine ⟨_,xapp_in (k := 1) LI.el LI.sz LI.iss rfl (by rw [hce]; exact hrow) (by omega) (by omega) (by rw [hce,Nat.zero_add,Nat.mul_one]; exact hw),(Upd.refl (fun y => y = b) h).put (.inl rfl) (H.get_lt hg) _,sp,H.put_self hg,by simp at e ⊢; omega⟩
structure OrS (hN h : H) (n bl : Nat) (L : Nat → Nat) (v : Value) (br : Option Nat) (F : List Nat) : Prop where
  gr : Grow hN h
  l : AL h bl n false L
  f : ML h v br F
  fl : hN.next ≤ bl
  ff : ∀ b,br = some b → hN.next ≤ b ∧ b ≠ bl
section
variable {hN h : H} {n bl : Nat} {L : Nat → Nat} {v : Value} {br : Option Nat} {F : List Nat}
theorem OrS.setL (s : OrS hN h n bl L v br F) {j : Nat} (hj : j < n) (x : Nat) :
    ∃ h',xstore Try.prog 3 (.pointer (some ⟨bl,0 + j * 1,none⟩)) (.int .i64 (x : Nat)) h = .ok undef h' ∧ Upd (fun y => y = bl) h h' ∧ OrS hN h' n bl (updN L j x) v br F := by
  obtain ⟨h',e,u,l'⟩ := s.l.st hj x
  exact ⟨h',e,u,grow_then s.gr u fun b hb => hb ▸ s.fl,l',s.f.upd u fun b hb z => (s.ff b hb).2 z,s.fl,s.ff⟩
theorem OrS.congr (s : OrS hN h n bl L v br F) {L' : Nat → Nat} (h1 : ∀ k,k < n → L k = L' k) : OrS hN h n bl L' v br F := ⟨s.gr,s.l.congr h1,s.f,s.fl,s.ff⟩
theorem OrS.ins {g : Nat} {ts : List TK} {vt : Value} (N : Net hN g ts vt) (s : OrS hN h n bl L v br F) {x : Nat} (hx : x < ts.length) (hl : ∀ k ∈ F,k < ts.length) (few : F.length ≤ 60000) (hs : ASorted ts F) (hxl : x ∉ F) :
    ∃ h' v' br' F',OrS hN h' n bl L v' br' F' ∧ F'.Perm (F ++ [x]) ∧ ASorted ts F' ∧ Upd (fun y => some y = br) h h' ∧ (∀ b,br' = some b → h.next ≤ b) ∧ CLM (.f 34) [.pointer (some ⟨g,0,none⟩),v,.int .i64 (x : Nat)] h = .ok v' h' := by
  obtain ⟨h',v',b',l',u,ml,hb,p,srt,e⟩ := eInsert N s.gr s.f hx hl few hs hxl
  have hbl := H.get_lt s.l
  refine ⟨h',v',some b',l',⟨grow_then s.gr u fun b hb => (s.ff b hb.symm).1,s.l.upd u fun z => (s.ff bl z.symm).2 rfl,ml,s.fl,fun b e => ?_⟩,?_,srt,u,fun b e => ?_,e⟩
  · cases e; have := s.gr.next; exact ⟨by omega,by omega⟩
  · exact p.trans (List.perm_append_comm (l₁ := [x]) (l₂ := F))
  · cases e; exact hb
end
theorem or_init {hN : H} {g : Nat} {ts : List TK} {vt vn : Value} {bl : Nat} (N : Net hN g ts vt) (LN : LLv hN vn ts.length (ndL ts)) (F0 : Few ts) :
    ∀ (m i : Nat) {h : H} {v : Value} {br : Option Nat} {F : List Nat},ts.length - i = m → i ≤ ts.length → OrS hN h ts.length bl (fun j => if j < i then (nd ts j).length else 0) v br F → F.Perm ((List.range i).filter fun j => decide ((nd ts j).length = 0)) → ASorted ts F →
      ∃ h' v' br' F',OrS hN h' ts.length bl (cntN (nd ts) []) v' br' F' ∧ F'.Perm ((List.range ts.length).filter fun j => decide ((nd ts j).length = 0)) ∧ ASorted ts F' ∧
        F13.l8 Try.prog CLM nu0 nu0 vt (.pointer (some ⟨g,0,none⟩)) (.slice (some ⟨bl,0,none⟩) ts.length ts.length) v vn (.int .i64 (ts.length : Nat)) (.int .i64 (i : Nat)) h = F13.j14 Try.prog CLM nu0 nu0 vt (.pointer (some ⟨g,0,none⟩)) (.slice (some ⟨bl,0,none⟩) ts.length ts.length) v' h' := by
  intro m
  have hn := F0.n
  induction m with
  | zero =>
    intro i h v br F hm hi s p srt
    have : i = ts.length := by omega
    subst this
    refine ⟨h,v,br,F,s.congr (fun k hk => by rw [if_pos hk,cntN_nil]),p,srt,?_⟩
    rw [F13.l8_eq,xlss,go_ok,F13.j9_eq,ifV_dec,if_neg (by omega)]
  | succ m ih =>
    intro i h v br F hm hi s p srt
    have hil : i < ts.length := by omega
    have hfl := nd_len ts i
    obtain ⟨a,u,a1,a2,I⟩ := LN.at_ hil
    obtain ⟨l1,_⟩ := s.l.ld (m := ts.length) (cap := ts.length) hil hil
    obtain ⟨h1,e1,u1,s1⟩ := s.setL hil (nd ts i).length
    have s2 := s1.congr (L' := fun j => if j < i + 1 then (nd ts j).length else 0) (fun k hk => by
      by_cases e : k = i
      · subst e; rw [updN_eq,if_pos (by omega)]
      · rw [updN_ne e]
        by_cases q : k < i
        · rw [if_pos q,if_pos (by omega)]
        · rw [if_neg q,if_neg (by omega)])
    have hlen : (ndL ts i).length = (nd ts i).length := nl_len _
    have hE : F13.l8 Try.prog CLM nu0 nu0 vt (.pointer (some ⟨g,0,none⟩)) (.slice (some ⟨bl,0,none⟩) ts.length ts.length) v vn (.int .i64 (ts.length : Nat)) (.int .i64 (i : Nat)) h =
        if (((nd ts i).length : Nat) : Int) = 0 then ((CLM (.f 34) [.pointer (some ⟨g,0,none⟩),v,.int .i64 (i : Nat)] h1).go .pan fun t41 h42 => ((xbin Try.prog .add 3 (.int .i64 (i : Nat)) (.int .i64 1) h42).go .pan fun t43 h44 => F13.l8 Try.prog CLM nu0 nu0 vt (.pointer (some ⟨g,0,none⟩)) (.slice (some ⟨bl,0,none⟩) ts.length ts.length) t41 vn (.int .i64 (ts.length : Nat)) t43 h44))
        else ((xbin Try.prog .add 3 (.int .i64 (i : Nat)) (.int .i64 1) h1).go .pan fun t45 h46 => F13.l8 Try.prog CLM nu0 nu0 vt (.pointer (some ⟨g,0,none⟩)) (.slice (some ⟨bl,0,none⟩) ts.length ts.length) v vn (.int .i64 (ts.length : Nat)) t45 h46) := by
      rw [F13.l8_eq,xlss,go_ok,F13.j9_eq,ifV_dec,if_pos (by omega),F13.j9_1_eq,a1,go_ok,a2 _ s.gr,go_ok,I.1.len,go_ok,hlen,l1,go_ok,e1,go_ok,I.1.len,go_ok,hlen,xeql,go_ok,ifV_dec]
    rw [hE]
    by_cases hz : (nd ts i).length = 0
    · rw [if_pos (by omega)]
      have hFl : F.length ≤ 3000 := by
        rw [p.length_eq]
        have := List.length_filter_le (fun j => decide ((nd ts j).length = 0)) (List.range i)
        rw [List.length_range] at this; omega
      obtain ⟨h3,v3,br3,F3,s3,p3,srt3,u3,_,e3⟩ := s2.ins N hil (fun k hk => by
        have := List.mem_range.1 (List.mem_filter.1 (p.mem_iff.1 hk)).1; omega) (by omega) srt (fun hk => by
        have := List.mem_range.1 (List.mem_filter.1 (p.mem_iff.1 hk)).1; omega)
      obtain ⟨h',v',br',F',s',p',srt',e'⟩ := ih (i + 1) (by omega) (by omega) s3 (by
        rw [List.range_succ,List.filter_append,show [i].filter (fun j => decide ((nd ts j).length = 0)) = [i] from List.filter_cons_of_pos (decide_eq_true hz)]
        exact p3.trans (List.Perm.append_right _ p)) srt3
      refine ⟨h',v',br',F',s',p',srt',?_⟩
      rw [e3,go_ok,xadd,go_ok,wadd1 (by omega)]
      exact e'
    · rw [if_neg (by omega)]
      obtain ⟨h',v',br',F',s',p',srt',e'⟩ := ih (i + 1) (by omega) (by omega) s2 (by
        rw [List.range_succ,List.filter_append,show [i].filter (fun j => decide ((nd ts j).length = 0)) = [] from List.filter_cons_of_neg (by rw [decide_eq_true_iff]; exact hz),List.append_nil]
        exact p) srt
      refine ⟨h',v',br',F',s',p',srt',?_⟩
      rw [xadd,go_ok,wadd1 (by omega)]
      exact e'
theorem newZ_sub {f t : Nat → List Nat} {R : List Nat} {i q : Nat} : (newZ f t R i q).Sublist (newZ f t R i (t i).length) := by
  unfold newZ
  rw [List.take_length]
  exact (List.take_sublist _ _).filter _
theorem or_inner {hN : H} {g : Nat} {ts : List TK} {vt u : Value} {bl bo i nn : Nat} {R F : List Nat} (N : Net hN g ts vt) (hn : ts.length ≤ 3000) (hi : i < ts.length) (hiR : i ∉ R) (hbo : hN.next ≤ bo) (hlo : bo ≠ bl) (I : IL hN u (usL ts i))
    (k : Kahn ts.length (nd ts) (R ++ [i]) (F ++ newZ (nd ts) (us ts) R i (us ts i).length)) :
    ∀ (m q : Nat) {h : H} {v : Value} {br : Option Nat} {G : List Nat},(us ts i).length - q = m → q ≤ (us ts i).length → OrS hN h ts.length bl (lefQ (nd ts) (us ts) R i q) v br G → G.Perm (F ++ newZ (nd ts) (us ts) R i q) → ASorted ts G → br ≠ some bo → Out h bo nn (R ++ [i]) →
      ∃ h' v' br' G',OrS hN h' ts.length bl (cntN (nd ts) (R ++ [i])) v' br' G' ∧ G'.Perm (F ++ newZ (nd ts) (us ts) R i (us ts i).length) ∧ ASorted ts G' ∧ br' ≠ some bo ∧ Out h' bo nn (R ++ [i]) ∧
        ∀ vo : Value,F13.l20 Try.prog CLM nu0 nu0 (.pointer (some ⟨g,0,none⟩)) (.slice (some ⟨bl,0,none⟩) ts.length ts.length) v vo u (.int .i64 ((us ts i).length : Nat)) (.int .i64 (q : Nat)) h = F13.l15 Try.prog CLM nu0 nu0 (.pointer (some ⟨g,0,none⟩)) (.slice (some ⟨bl,0,none⟩) ts.length ts.length) v' vo h' := by
  intro m
  have gr := needGr ts
  have hul := us_len ts i
  induction m with
  | zero =>
    intro q h v br G hm hq s p srt nb o
    have : q = (us ts i).length := by omega
    subst this
    refine ⟨h,v,br,G,s.congr (fun k hk => lefQ_end gr hi hk),p,srt,nb,o,fun vo => ?_⟩
    rw [F13.l20_eq,xlss,go_ok,F13.j21_eq,ifV_dec,if_neg (by omega)]
  | succ m ih =>
    intro q h v br G hm hq s p srt nb o
    have hql : q < (us ts i).length := by omega
    have hj : (us ts i)[q]? = some (us ts i)[q] := List.getElem?_eq_getElem hql
    obtain ⟨j,hjd⟩ : ∃ j,j = (us ts i)[q] := ⟨_,rfl⟩
    rw [← hjd] at hj
    have hjn : j < ts.length := gr.tl i j hi (List.mem_of_getElem? hj)
    obtain ⟨z1,z2,z3⟩ := lefQ_step gr hi hiR hj
    obtain ⟨a,a1,a2⟩ := (I.grow s.gr).at_ (show (usL ts i)[q]? = some (j : Int) by unfold usL nl; rw [List.getElem?_map,hj]; rfl)
    obtain ⟨l1,l2⟩ := s.l.ld (m := ts.length) (cap := ts.length) hjn hjn
    rw [z1] at l2
    obtain ⟨h1,e1,u1,s1⟩ := s.setL hjn (cntN (nd ts) (R ++ [i]) j)
    obtain ⟨_,l3⟩ := s1.l.ld (m := ts.length) (cap := ts.length) hjn hjn
    rw [updN_eq] at l3
    have s2 := s1.congr (L' := lefQ (nd ts) (us ts) R i (q + 1)) (fun k _ => by rw [z2 k]; rfl)
    have o1 := o.upd u1 hlo
    have hc : cntN (nd ts) (R ++ [i]) j < 100000 := by
      unfold cntN
      have := List.length_filter_le (fun k => decide (k ∉ R ++ [i])) (nd ts j)
      have := nd_len ts j
      omega
    have hE : ∀ vo : Value,F13.l20 Try.prog CLM nu0 nu0 (.pointer (some ⟨g,0,none⟩)) (.slice (some ⟨bl,0,none⟩) ts.length ts.length) v vo u (.int .i64 ((us ts i).length : Nat)) (.int .i64 (q : Nat)) h =
        if ((cntN (nd ts) (R ++ [i]) j : Nat) : Int) = 0 then ((CLM (.f 34) [.pointer (some ⟨g,0,none⟩),v,.int .i64 (j : Nat)] h1).go .pan fun t99 h100 => ((xbin Try.prog .add 3 (.int .i64 (q : Nat)) (.int .i64 1) h100).go .pan fun t101 h102 => F13.l20 Try.prog CLM nu0 nu0 (.pointer (some ⟨g,0,none⟩)) (.slice (some ⟨bl,0,none⟩) ts.length ts.length) t99 vo u (.int .i64 ((us ts i).length : Nat)) t101 h102))
        else ((xbin Try.prog .add 3 (.int .i64 (q : Nat)) (.int .i64 1) h1).go .pan fun t103 h104 => F13.l20 Try.prog CLM nu0 nu0 (.pointer (some ⟨g,0,none⟩)) (.slice (some ⟨bl,0,none⟩) ts.length ts.length) v vo u (.int .i64 ((us ts i).length : Nat)) t103 h104) := fun vo => by
      rw [F13.l20_eq,xlss,go_ok,F13.j21_eq,ifV_dec,if_pos (by omega),F13.j21_1_eq,a1,go_ok,a2,go_ok,l1,go_ok,l2,go_ok,xsub,go_ok,wsub1 (by omega) (by omega),Nat.add_sub_cancel,l1,go_ok,e1,go_ok,l1,go_ok,l3,go_ok,xeql,go_ok,ifV_dec]
    by_cases hz : cntN (nd ts) (R ++ [i]) j = 0
    · rw [if_pos hz] at z3
      have hnod : (F ++ (newZ (nd ts) (us ts) R i q ++ [j])).Nodup := by
        have h1 := k.nod
        rw [List.nodup_append] at h1
        refine h1.2.1.sublist (List.Sublist.append (List.Sublist.refl _) ?_)
        rw [← z3]; exact newZ_sub
      have hjG : j ∉ G := fun z => by
        rw [p.mem_iff] at z
        rw [← List.append_assoc,List.nodup_append] at hnod
        exact hnod.2.2 j z j (by simp) rfl
      have hGlt : ∀ y ∈ G,y < ts.length := fun y hy => by
        rw [p.mem_iff] at hy
        rcases List.mem_append.1 hy with z | z
        · exact k.lt y (by simp [z])
        · exact k.lt y (by have := newZ_sub.subset z; simp [this])
      have hGlen : G.length ≤ 3000 := by
        have h1 := List.Nodup.length_le_of_subset (p.nodup_iff.2 (by rw [← List.append_assoc,List.nodup_append] at hnod; exact hnod.1)) (l₂ := List.range ts.length) fun y hy => List.mem_range.2 (hGlt y hy)
        rw [List.length_range] at h1; omega
      obtain ⟨h3,v3,br3,G3,s3,p3,srt3,u3,f3,e3⟩ := s2.ins N hjn hGlt (by omega) srt hjG
      have o3 := o1.upd u3 fun z => nb z.symm
      obtain ⟨spx,hox,_⟩ := o1
      obtain ⟨h',v',br',G',s',p',srt',nb',o',e'⟩ := ih (q + 1) (by omega) (by omega) s3 (by
        rw [z3,← List.append_assoc]; exact p3.trans (List.Perm.append_right _ p)) srt3 (fun z => by have := f3 bo z; have := H.get_lt hox; omega) o3
      refine ⟨h',v',br',G',s',p',srt',nb',o',fun vo => ?_⟩
      rw [hE,if_pos (by omega),e3,go_ok,xadd,go_ok,wadd1 (by omega)]
      exact e' vo
    · rw [if_neg hz,List.append_nil] at z3
      obtain ⟨h',v',br',G',s',p',srt',nb',o',e'⟩ := ih (q + 1) (by omega) (by omega) s2 (by rw [z3]; exact p) srt nb o1
      refine ⟨h',v',br',G',s',p',srt',nb',o',fun vo => ?_⟩
      rw [hE,if_neg (by omega),xadd,go_ok,wadd1 (by omega)]
      exact e' vo
theorem or_main {hN : H} {g : Nat} {ts : List TK} {vt : Value} {bl bo : Nat} (N : Net hN g ts vt) (F0 : Few ts) (nc : NoC ts) (hbo : hN.next ≤ bo) (hlo : bo ≠ bl) :
    ∀ (m : Nat) {h : H} {v : Value} {br : Option Nat} {R F : List Nat},ts.length - R.length = m → OrS hN h ts.length bl (cntN (nd ts) R) v br F → Kahn ts.length (nd ts) R F → ASorted ts F → IsOrd ts R → br ≠ some bo → Out h bo ts.length R →
      ∃ h' R',Grow hN h' ∧ IsOrd ts R' ∧ R'.length = ts.length ∧ Out h' bo ts.length R' ∧
        F13.l15 Try.prog CLM nu0 nu0 (.pointer (some ⟨g,0,none⟩)) (.slice (some ⟨bl,0,none⟩) ts.length ts.length) v (.slice (some ⟨bo,0,none⟩) R.length ts.length) h = .ok (.tuple ⟨[.slice (some ⟨bo,0,none⟩) ts.length ts.length,.int .i64 0,.string ⟨#[]⟩]⟩) h' := by
  have hn := F0.n
  have fin : ∀ {h : H} {v : Value} {br : Option Nat} {R : List Nat},OrS hN h ts.length bl (cntN (nd ts) R) v br [] → Kahn ts.length (nd ts) R [] → IsOrd ts R → Out h bo ts.length R → ∃ h' R',Grow hN h' ∧ IsOrd ts R' ∧ R'.length = ts.length ∧ Out h' bo ts.length R' ∧
        F13.l15 Try.prog CLM nu0 nu0 (.pointer (some ⟨g,0,none⟩)) (.slice (some ⟨bl,0,none⟩) ts.length ts.length) v (.slice (some ⟨bo,0,none⟩) R.length ts.length) h = .ok (.tuple ⟨[.slice (some ⟨bo,0,none⟩) ts.length ts.length,.int .i64 0,.string ⟨#[]⟩]⟩) h' := by
    intro h v br R s k io o
    have hR := k.done nc
    refine ⟨h,R,s.gr,io,hR,o,?_⟩
    rw [F13.l15_eq,s.f.len,go_ok,xgtr,go_ok,show ([] : List Nat).length = 0 from rfl,ifV_dec,if_neg (by omega),F13.j26_eq,hR]
  intro m
  induction m with
  | zero =>
    intro h v br R F hm s k srt io nb o
    have hl := k.len
    rw [List.length_append] at hl
    have hF : F = [] := List.length_eq_zero_iff.1 (by omega)
    subst hF
    exact fin s k io o
  | succ m ih =>
    intro h v br R F hm s k srt io nb o
    cases F with
    | nil => exact fin s k io o
    | cons i F =>
      have hl := k.len
      rw [List.length_append,List.length_cons] at hl
      have hi : i < ts.length := k.lt i (by simp)
      have pk := k.pick srt
      have hiR : i ∉ R := pk.1.2.1
      obtain ⟨⟨a,p2,p3⟩,v',p4,p5⟩ := s.f.pop
      have k1 : Kahn ts.length (nd ts) R (F ++ [i]) := k.perm (List.perm_append_comm (l₁ := F) (l₂ := [i]))
      have k2 := k1.step (needGr ts)
      have g1 : Grow h (h.alloc (.cells [.int .i64 (i : Nat)] 3 0 false)) := (Grow.refl h).alloc _
      have eb : xbuildSlice Try.prog 27 1 [(0,.int .i64 (i : Nat))] h = .ok (.slice (some ⟨h.next,0,none⟩) 1 1) (h.alloc (.cells [.int .i64 (i : Nat)] 3 0 false)) := by kernel_rfl
      obtain ⟨h2,e2,u2,o2⟩ := (o.upd (g1.upd fun _ => False) id).push (by omega) (H.alloc_self h (.cells [.int .i64 (i : Nat)] 3 0 false))
      have G2 : Grow hN h2 := grow_then (s.gr.trans g1) u2 fun b hb => hb ▸ hbo
      have s2 : OrS hN h2 ts.length bl (lefQ (nd ts) (us ts) R i 0) v' br F :=
        ⟨G2,AL.congr ((g1.old _ _ s.l |> fun z : AL _ bl ts.length false (cntN (nd ts) R) => z.upd u2 fun z => hlo z.symm)) (fun k _ => by rw [lefQ_zero]),(p5.grow g1).upd u2 fun b hb z => nb (by rw [hb,z]),s.fl,s.ff⟩
      obtain ⟨vn,vu,nn,T,LN,LU⟩ := id N
      obtain ⟨a',u,a1,a2,I⟩ := LU.at_ hi
      obtain ⟨h3,v3,br3,G3,s3,p3',srt3,nb3,o3,e3⟩ := or_inner (F := F) N hn hi hiR hbo hlo I.1 k2 _ 0 rfl (Nat.zero_le _) s2 (by rw [show newZ (nd ts) (us ts) R i 0 = [] by unfold newZ; simp,List.append_nil]) (List.pairwise_cons.1 srt).2 nb o2
      obtain ⟨h',R',g',io',l',o',e'⟩ := ih (by rw [List.length_append,List.length_singleton]; omega) s3 (k2.perm p3') srt3 (io.snoc pk) nb3 o3
      refine ⟨h',R',g',io',l',o',?_⟩
      have n2 := nn.grow G2
      rw [List.length_append,List.length_singleton] at e'
      rw [F13.l15_eq,s.f.len,go_ok,xgtr,go_ok,List.length_cons,ifV_dec,if_pos (by omega),F13.j16_eq,p2,go_ok,p3,go_ok,p4,go_ok,eb,go_ok,e2,go_ok,xnil_ptr,go_ok,fa79_2,go_ok,ld33,n2.u,ofO_some,go_ok,a1,go_ok,a2 _ G2,go_ok,I.1.len,go_ok,show (usL ts i).length = (us ts i).length from nl_len _,
        show (Value.int .i64 0) = .int .i64 ((0 : Nat) : Int) from rfl,e3]
      exact e'
def CycMin (ts : List TK) (c : Nat) : Prop := c < ts.length ∧ OnC (nd ts) c ∧ ∀ j : Nat,OnC (nd ts) j → aLt ts (j : Int) (c : Int) = false
theorem CycMin.uniq {ts : List TK} {a b : Nat} (p : CycMin ts a) (q : CycMin ts b) : a = b := by
  rcases aLt_tri ts (a : Int) (b : Int) with h | h | h
  · have := q.2.2 a p.2.1; rw [h] at this; cases this
  · omega
  · have := p.2.2 b q.2.1; rw [h] at this; cases this
def OrdR (h0 h : H) (ts : List TK) (v : Value) (code : Int) (name : ByteArray) : Prop :=
  (∃ c,CycMin ts c ∧ v = .slice none 0 0 ∧ code = 130 ∧ name = nm ts (c : Int)) ∨
  (NoC ts ∧ ∃ R b,IsOrd ts R ∧ R.length = ts.length ∧ h0.next ≤ b ∧ Out h b ts.length R ∧ v = .slice (some ⟨b,0,none⟩) ts.length ts.length ∧ code = 0 ∧ name = ⟨#[]⟩)
theorem eOrder {h0 : H} {vt : Value} {ts : List TK} (T : Tasks h0 vt ts) (F : Few ts) :
    ∃ h' v code name,Grow h0 h' ∧ OrdR h0 h' ts v code name ∧ CLM (.f 13) [vt] h0 = .ok (.tuple ⟨[v,.int .i64 code,.string name]⟩) h' := by
  have hn := F.n
  obtain ⟨h1,g,g1,fg,N1,e1⟩ := eBuild T F
  obtain ⟨h2,c,g2,hc,e2⟩ := eCycle N1 F
  rcases hc with ⟨hc,no⟩ | ⟨k,hc,hk,ok,mn⟩
  · subst hc
    have N2 := N1.grow g2
    have T2 := T.grow (g1.trans g2)
    obtain ⟨vn,vu,nn,_,LN,LU⟩ := id N2
    obtain ⟨h3,e3,g3,A3,n3⟩ := AL.new (n := ts.length) (by omega) h2
    have n3' := nn.grow g3
    obtain ⟨h4,v4,br4,F4,s4,p4,srt4,e4⟩ := or_init (vn := vn) (bl := h2.next) N2 LN F _ 0 rfl (Nat.zero_le _) (h := h3) (v := .slice none 0 0) (br := none) (F := [])
      ⟨g3,A3.congr (fun k _ => by simp),ML.nil,Nat.le_refl _,fun b z => by cases z⟩ (List.Perm.refl _) List.Pairwise.nil
    have k4 : Kahn ts.length (nd ts) [] F4 := Kahn.init.perm p4
    obtain ⟨h5,hh5⟩ : ∃ h5,h5 = h4.alloc (.cells (iv (List.replicate ts.length 0)) 3 0 false) := ⟨_,rfl⟩
    have g5 : Grow h4 h5 := by rw [hh5]; exact (Grow.refl h4).alloc _
    have o5 : Out h5 h4.next ts.length [] := ⟨iv (List.replicate ts.length 0),by rw [hh5]; exact H.alloc_self _ _,by rw [iv_len]; simp⟩
    have hb4 := H.get_lt s4.l
    have s5 : OrS h2 h5 ts.length h2.next (cntN (nd ts) []) v4 br4 F4 := ⟨s4.gr.trans g5,g5.old _ _ s4.l,s4.f.grow g5,s4.fl,s4.ff⟩
    obtain ⟨h6,R,g6,io,hl,o6,e6⟩ := or_main N2 F no (bo := h4.next) s4.gr.next (by omega) _ rfl s5 k4 srt4 (IsOrd.nil ts) (fun z => by have := s4.f.lt z; omega) o5
    have G6 := (g1.trans g2).trans g6
    refine ⟨h6,_,_,_,G6,.inr ⟨no,R,h4.next,io,hl,by have := (g1.trans g2).next; have := s4.gr.next; omega,o6,rfl,rfl,rfl⟩,?_⟩
    rw [cM13,F13.eq,e1,go_ok,e2,go_ok,xgeq,go_ok,ifV_dec,if_neg (by omega),F13.j5_eq,T.len,go_ok,e3,go_ok,xnil_ptr,go_ok,fa79_1,go_ok,ld33,n3'.n,ofO_some,go_ok,LN.len,go_ok,show (Value.int .i64 0) = .int .i64 ((0 : Nat) : Int) from rfl,e4,F13.j14_eq,T.len,go_ok,mkI0 (by omega),go_ok,← hh5]
    exact e6
  · subst hc
    have G2 := g1.trans g2
    obtain ⟨b,o,vi,vo,a1,row,-⟩ := (T.grow G2).at_ (List.getElem?_eq_getElem hk)
    have c1 := row.cell (j := 0) rfl
    rw [Nat.add_zero] at c1
    have n1 := nm_at (List.getElem?_eq_getElem hk)
    rw [← n1] at c1
    have l1 : xload Try.prog 9 (.pointer (some ⟨b,o,none⟩)) h2 = .ok (.string (nm ts (k : Int))) h2 := by rw [ld9,c1,ofO_some]
    refine ⟨h2,_,_,_,G2,.inl ⟨k,⟨hk,ok,mn⟩,rfl,rfl,rfl⟩,?_⟩
    rw [cM13,F13.eq,e1,go_ok,e2,go_ok,xgeq,go_ok,ifV_dec,if_pos (by omega),a1,Res.ok1_ok,fa55_0,Res.ok1_ok,l1,Res.ok1_ok,l1,rc_str,Bool.and_self,cond_true,cond_true]
end Go.Proofs.Ytdadiidfhnojcaa.K
