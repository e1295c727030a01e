/- My texts for this claim, in one file: part 37. -/
import Derived.Test.YtdadiidfhnojcaaChecked
import Derived.Test.YtdadiidfhnojcaaRows
import Derived.Test.YtdadiidfhnojcaaWc36
namespace Go.Proofs.Ytdadiidfhnojcaa.K
open Go Go.Kx
set_option linter.unusedVariables false
set_option linter.unusedSimpArgs false
set_option maxRecDepth 20000
def bsX : ByteArray := ⟨#[120]⟩
def bsY : ByteArray := ⟨#[121]⟩
def bsA : ByteArray := ⟨#[97]⟩
def bsB : ByteArray := ⟨#[98]⟩
def bsC : ByteArray := ⟨#[99]⟩
def bsP : ByteArray := ⟨#[112]⟩
def bsT : ByteArray := ⟨#[116]⟩
def bsA2 : ByteArray := ⟨#[97,50]⟩
def bsSrc : ByteArray := ⟨#[115,114,99]⟩
def ts4 : List TK := [⟨bsB,0,[],[bsX]⟩,⟨bsA,0,[bsX],[bsY]⟩,⟨bsC,0,[bsY,bsX,bsSrc],[]⟩,⟨bsA2,0,[],[]⟩]
def ts1 : List TK := [⟨bsT,0,[bsP],[bsP]⟩]
theorem nd4 : nd ts4 0 = [] ∧ nd ts4 1 = [0] ∧ nd ts4 2 = [0,1] ∧ nd ts4 3 = [] := by decide +kernel
theorem nd1 : nd ts1 0 = [0] := by decide +kernel
theorem nd_out {ts : List TK} {i : Nat} (h : ts.length ≤ i) : nd ts i = [] := by
  cases e : nd ts i with
  | nil => rfl
  | cons a l =>
    have := need_out (nd_mem.1 (show a ∈ nd ts i by rw [e]; simp)).2
    omega
theorem few4 : Few ts4 := ⟨by decide,by decide +kernel,by decide +kernel,by decide +kernel⟩
theorem few1 : Few ts1 := ⟨by decide,by decide +kernel,by decide +kernel,by decide +kernel⟩
theorem noC_of {ts : List TK} (h : ∀ i j,j ∈ nd ts i → j < i) : NoC ts := by
  have all : ∀ {a b},Path (nd ts) a b → b < a := by
    intro a b p
    induction p with
    | one e => exact h _ _ e
    | cons e _ ih => have := h _ _ e; omega
  intro k hk
  exact Nat.lt_irrefl _ (all hk)
theorem noC4 : NoC ts4 := noC_of fun i j hj => by
  obtain ⟨n0,n1,n2,n3⟩ := nd4
  match i with
  | 0 => rw [n0] at hj; cases hj
  | 1 => rw [n1] at hj; simp at hj; omega
  | 2 => rw [n2] at hj; simp at hj; omega
  | 3 => rw [n3] at hj; cases hj
  | i + 4 => rw [nd_out (by show 4 ≤ i + 4; omega)] at hj; cases hj
theorem cyc1 : CycMin ts1 0 := ⟨by decide,.one (by show (0 : Nat) ∈ nd ts1 0; rw [nd1]; simp),fun j hj => by
  have := OnC_lt hj
  have hj0 : j = 0 := by have h1 : ts1.length = 1 := rfl; omega
  subst hj0; exact aLt_irrefl _ _⟩
def readyB (ts : List TK) (R : List Nat) (j : Nat) : Bool := decide (j < ts.length) && (decide (j ∉ R) && (nd ts j).all fun k => decide (k ∈ R))
theorem readyB_iff {ts : List TK} {R : List Nat} {j : Nat} : readyB ts R j = true ↔ Ready ts R j := by
  unfold readyB Ready
  rw [Bool.and_eq_true,Bool.and_eq_true,decide_eq_true_iff,decide_eq_true_iff,ready_all]
def pickB (ts : List TK) (R : List Nat) (x : Nat) : Bool := readyB ts R x && (List.range ts.length).all fun j => !readyB ts R j || (decide (j = x) || aLt ts (x : Int) (j : Int))
theorem pickB_ok {ts : List TK} {R : List Nat} {x : Nat} (h : pickB ts R x = true) : Pick ts R x := by
  unfold pickB at h
  rw [Bool.and_eq_true,List.all_eq_true] at h
  refine ⟨readyB_iff.1 h.1,fun j hj => ?_⟩
  have := h.2 j (List.mem_range.2 hj.1)
  rw [readyB_iff.2 hj] at this
  simp only [Bool.not_true,Bool.false_or,Bool.or_eq_true,decide_eq_true_eq] at this
  exact this
theorem pk4 : pickB ts4 [] 3 = true ∧ pickB ts4 [3] 0 = true ∧ pickB ts4 [3,0] 1 = true ∧ pickB ts4 [3,0,1] 2 = true := by decide +kernel
theorem ord4 : IsOrd ts4 [3,0,1,2] := fun k x h => by
  obtain ⟨p0,p1,p2,p3⟩ := pk4
  match k with
  | 0 => cases h; exact pickB_ok p0
  | 1 => cases h; exact pickB_ok p1
  | 2 => cases h; exact pickB_ok p2
  | 3 => cases h; exact pickB_ok p3
  | k + 4 => simp at h
theorem bOut (s : ByteArray) (h : H) : xbuild Try.prog 63 [(0,.string s)] h = .ok (.agg ⟨.string s :: zc63.drop 1⟩) h := by kernel_rfl
theorem bOuts (s : ByteArray) (h : H) : xbuildSlice Try.prog 53 1 [(0,.agg ⟨.string s :: zc63.drop 1⟩)] h = .ok (.slice (some ⟨h.next,0,none⟩) 1 1) (h.alloc (.cells (.string s :: zc63.drop 1) 63 0 false)) := by kernel_rfl
theorem oneOut {h : H} {b : Nat} {s : ByteArray} (g : h.get b = some (.cells (.string s :: zc63.drop 1) 63 0 false)) : OutSl h (.slice (some ⟨b,0,none⟩) 1 1) [s] := by
  have hl : (Value.string s :: zc63.drop 1).length = 6 := by simp [zc63_len]
  have ho : ones (Value.string s :: zc63.drop 1) = true := by
    show (true && ones (zc63.drop 1)) = true
    rw [ones_drop zc63_ones]; rfl
  refine ⟨[.string s :: zc63.drop 1],⟨GoodR.one hl ho,.inr ⟨b,0,none,1,rfl,_,_,_,_,g,by simp,by simp only [List.drop_zero,List.flatten_cons,List.flatten_nil,List.append_nil]; exact List.take_length⟩⟩,rfl⟩
theorem someStr {h : H} {b : Nat} {l : List ByteArray} (g : h.get b = some (.cells (l.map fun s => .string s) 9 0 false)) : StrSl h (.slice (some ⟨b,0,none⟩) l.length l.length) l := by
  have e : (l.map fun s => [Value.string s]).flatten = l.map fun s => .string s := by
    clear g
    induction l with
    | nil => rfl
    | cons a l ih => simp only [List.map_cons,List.flatten_cons,ih]; rfl
  refine ⟨sr_good l,.inr ⟨b,0,none,l.length,by rw [List.length_map],_,_,_,_,g,?_,?_⟩⟩
  · rw [e]; omega
  · rw [e,List.drop_zero,List.take_length]
theorem nilStr (h : H) : StrSl h (.slice none 0 0) [] := ⟨GoodR.nil,.inl ⟨Nul.nil,rfl⟩⟩
theorem nilOut (h : H) : OutSl h (.slice none 0 0) [] := ⟨[],⟨GoodR.nil,.inl ⟨Nul.nil,rfl⟩⟩,rfl⟩
theorem bT (n : ByteArray) (h : H) : xbuild Try.prog 55 [(0,.string n)] h = .ok (.agg ⟨[.string n,.int .i64 0,.slice none 0 0,.slice none 0 0]⟩) h := by kernel_rfl
theorem bTo (n : ByteArray) (b c d : Nat) (h : H) : xbuild Try.prog 55 [(0,.string n),(3,.slice (some ⟨b,0,none⟩) c d)] h = .ok (.agg ⟨[.string n,.int .i64 0,.slice none 0 0,.slice (some ⟨b,0,none⟩) c d]⟩) h := by kernel_rfl
theorem bTi (n : ByteArray) (b c d : Nat) (h : H) : xbuild Try.prog 55 [(0,.string n),(2,.slice (some ⟨b,0,none⟩) c d)] h = .ok (.agg ⟨[.string n,.int .i64 0,.slice (some ⟨b,0,none⟩) c d,.slice none 0 0]⟩) h := by kernel_rfl
theorem bTio (n : ByteArray) (b c d b' c' d' : Nat) (h : H) : xbuild Try.prog 55 [(0,.string n),(2,.slice (some ⟨b,0,none⟩) c d),(3,.slice (some ⟨b',0,none⟩) c' d')] h = .ok (.agg ⟨[.string n,.int .i64 0,.slice (some ⟨b,0,none⟩) c d,.slice (some ⟨b',0,none⟩) c' d']⟩) h := by kernel_rfl
theorem bS1 (s : ByteArray) (h : H) : xbuildSlice Try.prog 52 1 [(0,.string s)] h = .ok (.slice (some ⟨h.next,0,none⟩) 1 1) (h.alloc (.cells [.string s] 9 0 false)) := by kernel_rfl
theorem bS3 (s t u : ByteArray) (h : H) : xbuildSlice Try.prog 52 3 [(0,.string s),(1,.string t),(2,.string u)] h = .ok (.slice (some ⟨h.next,0,none⟩) 3 3) (h.alloc (.cells [.string s,.string t,.string u] 9 0 false)) := by kernel_rfl
def tr (n : ByteArray) (i o : Value) : List Value := [.string n,.int .i64 0,i,o]
def sv (b n : Nat) : Value := .slice (some ⟨b,0,none⟩) n n
theorem tr_good {n : ByteArray} {i o : Value} (hi : i.oneCell' = true) (ho : o.oneCell' = true) : (tr n i o).length = 4 ∧ ones (tr n i o) = true := ⟨rfl,by
  show (true && (true && (i.oneCell' && (o.oneCell' && true)))) = true
  rw [hi,ho]; rfl⟩
theorem lay4 (h : H) : ∃ h' v,Grow h h' ∧ Tasks h' v ts4 ∧ ∀ K : Value → H → Res Value,
    ((xbuild Try.prog 63 [(0,.string bsX)] h).go .pan fun t1 h2 => (xbuildSlice Try.prog 53 1 [(0,t1)] h2).go .pan fun t3 h4 => (xbuild Try.prog 55 [(0,.string bsB),(3,t3)] h4).go .pan fun t5 h6 => (xbuildSlice Try.prog 52 1 [(0,.string bsX)] h6).go .pan fun t7 h8 => (xbuild Try.prog 63 [(0,.string bsY)] h8).go .pan fun t9 h10 => (xbuildSlice Try.prog 53 1 [(0,t9)] h10).go .pan fun t11 h12 =>
      (xbuild Try.prog 55 [(0,.string bsA),(2,t7),(3,t11)] h12).go .pan fun t13 h14 => (xbuildSlice Try.prog 52 3 [(0,.string bsY),(1,.string bsX),(2,.string bsSrc)] h14).go .pan fun t15 h16 => (xbuild Try.prog 55 [(0,.string bsC),(2,t15)] h16).go .pan fun t17 h18 => (xbuild Try.prog 55 [(0,.string bsA2)] h18).go .pan fun t19 h20 => (xbuildSlice Try.prog 22 4 [(0,t5),(1,t13),(2,t17),(3,t19)] h20).go .pan K) = K v h' := by
  obtain ⟨h1,e1⟩ : ∃ h1,h1 = h.alloc (.cells (.string bsX :: zc63.drop 1) 63 0 false) := ⟨_,rfl⟩
  obtain ⟨h2,e2⟩ : ∃ h2,h2 = h1.alloc (.cells [.string bsX] 9 0 false) := ⟨_,rfl⟩
  obtain ⟨h3,e3⟩ : ∃ h3,h3 = h2.alloc (.cells (.string bsY :: zc63.drop 1) 63 0 false) := ⟨_,rfl⟩
  obtain ⟨h4,e4⟩ : ∃ h4,h4 = h3.alloc (.cells [.string bsY,.string bsX,.string bsSrc] 9 0 false) := ⟨_,rfl⟩
  obtain ⟨h5,e5⟩ : ∃ h5,h5 = h4.alloc (.cells (tr bsB (.slice none 0 0) (sv h.next 1) ++ (tr bsA (sv h1.next 1) (sv h2.next 1) ++ (tr bsC (sv h3.next 3) (.slice none 0 0) ++ tr bsA2 (.slice none 0 0) (.slice none 0 0)))) 55 0 false) := ⟨_,rfl⟩
  have g1 : Grow h h1 := by rw [e1]; exact (Grow.refl h).alloc _
  have g2 : Grow h1 h2 := by rw [e2]; exact (Grow.refl h1).alloc _
  have g3 : Grow h2 h3 := by rw [e3]; exact (Grow.refl h2).alloc _
  have g4 : Grow h3 h4 := by rw [e4]; exact (Grow.refl h3).alloc _
  have g5 : Grow h4 h5 := by rw [e5]; exact (Grow.refl h4).alloc _
  have b1 : h5.get h.next = some (.cells (.string bsX :: zc63.drop 1) 63 0 false) := g5.old _ _ (g4.old _ _ (g3.old _ _ (g2.old _ _ (by rw [e1]; exact H.alloc_self _ _))))
  have b2 : h5.get h1.next = some (.cells [.string bsX] 9 0 false) := g5.old _ _ (g4.old _ _ (g3.old _ _ (by rw [e2]; exact H.alloc_self _ _)))
  have b3 : h5.get h2.next = some (.cells (.string bsY :: zc63.drop 1) 63 0 false) := g5.old _ _ (g4.old _ _ (by rw [e3]; exact H.alloc_self _ _))
  have b4 : h5.get h3.next = some (.cells [.string bsY,.string bsX,.string bsSrc] 9 0 false) := g5.old _ _ (by rw [e4]; exact H.alloc_self _ _)
  have b5 : h5.get h4.next = some (.cells (tr bsB (.slice none 0 0) (sv h.next 1) ++ (tr bsA (sv h1.next 1) (sv h2.next 1) ++ (tr bsC (sv h3.next 3) (.slice none 0 0) ++ tr bsA2 (.slice none 0 0) (.slice none 0 0)))) 55 0 false) := by rw [e5]; exact H.alloc_self _ _
  refine ⟨h5,sv h4.next 4,(((g1.trans g2).trans g3).trans g4).trans g5,⟨[tr bsB (.slice none 0 0) (sv h.next 1),tr bsA (sv h1.next 1) (sv h2.next 1),tr bsC (sv h3.next 3) (.slice none 0 0),tr bsA2 (.slice none 0 0) (.slice none 0 0)],⟨fun r hr => ?_,.inr ⟨h4.next,0,none,4,rfl,_,_,_,_,b5,by simp,by simp [tr]⟩⟩,rfl,fun i t ht => ?_⟩,fun K => ?_⟩
  · simp only [List.mem_cons,List.not_mem_nil,or_false] at hr
    rcases hr with rfl | rfl | rfl | rfl <;> exact tr_good rfl rfl
  · match i with
    | 0 => cases ht; exact ⟨_,rfl,_,_,rfl,nilStr _,oneOut b1⟩
    | 1 => cases ht; exact ⟨_,rfl,_,_,rfl,someStr (l := [bsX]) b2,oneOut b3⟩
    | 2 => cases ht; exact ⟨_,rfl,_,_,rfl,someStr (l := [bsY,bsX,bsSrc]) b4,nilOut _⟩
    | 3 => cases ht; exact ⟨_,rfl,_,_,rfl,nilStr _,nilOut _⟩
    | i + 4 => simp [ts4] at ht
  · have eb : xbuildSlice Try.prog 22 4 [(0,.agg ⟨tr bsB (.slice none 0 0) (sv h.next 1)⟩),(1,.agg ⟨tr bsA (sv h1.next 1) (sv h2.next 1)⟩),(2,.agg ⟨tr bsC (sv h3.next 3) (.slice none 0 0)⟩),(3,.agg ⟨tr bsA2 (.slice none 0 0) (.slice none 0 0)⟩)] h4 = .ok (sv h4.next 4) h5 := by
      rw [e5]; kernel_rfl
    rw [bOut,go_ok,bOuts,go_ok,← e1,bTo,go_ok,bS1,go_ok,← e2,bOut,go_ok,bOuts,go_ok,← e3,bTio,go_ok,bS3,go_ok,← e4,bTi,go_ok,bT,go_ok]
    exact (congrArg (fun z => z.go .pan K) eb).trans (go_ok _ _ _ _)
theorem lay1 (h : H) : ∃ h' v,Grow h h' ∧ Tasks h' v ts1 ∧ ∀ K : Value → H → Res Value,
    ((xbuildSlice Try.prog 52 1 [(0,.string bsP)] h).go .pan fun t31 h32 => (xbuild Try.prog 63 [(0,.string bsP)] h32).go .pan fun t33 h34 => (xbuildSlice Try.prog 53 1 [(0,t33)] h34).go .pan fun t35 h36 => (xbuild Try.prog 55 [(0,.string bsT),(2,t31),(3,t35)] h36).go .pan fun t37 h38 => (xbuildSlice Try.prog 22 1 [(0,t37)] h38).go .pan K) = K v h' := by
  obtain ⟨h1,e1⟩ : ∃ h1,h1 = h.alloc (.cells [.string bsP] 9 0 false) := ⟨_,rfl⟩
  obtain ⟨h2,e2⟩ : ∃ h2,h2 = h1.alloc (.cells (.string bsP :: zc63.drop 1) 63 0 false) := ⟨_,rfl⟩
  obtain ⟨h3,e3⟩ : ∃ h3,h3 = h2.alloc (.cells (tr bsT (sv h.next 1) (sv h1.next 1)) 55 0 false) := ⟨_,rfl⟩
  have g1 : Grow h h1 := by rw [e1]; exact (Grow.refl h).alloc _
  have g2 : Grow h1 h2 := by rw [e2]; exact (Grow.refl h1).alloc _
  have g3 : Grow h2 h3 := by rw [e3]; exact (Grow.refl h2).alloc _
  have b1 : h3.get h.next = some (.cells [.string bsP] 9 0 false) := g3.old _ _ (g2.old _ _ (by rw [e1]; exact H.alloc_self _ _))
  have b2 : h3.get h1.next = some (.cells (.string bsP :: zc63.drop 1) 63 0 false) := g3.old _ _ (by rw [e2]; exact H.alloc_self _ _)
  have b3 : h3.get h2.next = some (.cells (tr bsT (sv h.next 1) (sv h1.next 1)) 55 0 false) := by rw [e3]; exact H.alloc_self _ _
  refine ⟨h3,sv h2.next 1,(g1.trans g2).trans g3,⟨[tr bsT (sv h.next 1) (sv h1.next 1)],⟨fun r hr => ?_,.inr ⟨h2.next,0,none,1,rfl,_,_,_,_,b3,by simp,by simp [tr]⟩⟩,rfl,fun i t ht => ?_⟩,fun K => ?_⟩
  · simp only [List.mem_cons,List.not_mem_nil,or_false] at hr
    subst hr; exact tr_good rfl rfl
  · match i with
    | 0 => cases ht; exact ⟨_,rfl,_,_,rfl,someStr (l := [bsP]) b1,oneOut b2⟩
    | i + 1 => simp [ts1] at ht
  · have eb : xbuildSlice Try.prog 22 1 [(0,.agg ⟨tr bsT (sv h.next 1) (sv h1.next 1)⟩)] h2 = .ok (sv h2.next 1) h3 := by
      rw [e3]; kernel_rfl
    rw [bS1,go_ok,← e1,bOut,go_ok,bOuts,go_ok,← e2,bTio,go_ok]
    exact (congrArg (fun z => z.go .pan K) eb).trans (go_ok _ _ _ _)
end Go.Proofs.Ytdadiidfhnojcaa.K
namespace Go.Proofs.Ytdadiidfhnojcaa.K
open Go Go.Kx
set_option linter.unusedVariables false
set_option linter.unusedSimpArgs false
set_option maxRecDepth 20000
theorem Out.il {h : H} {b : Nat} {R : List Nat} {n : Nat} (o : Out h b n R) (hn : R.length = n) : IL h (.slice (some ⟨b,0,none⟩) n n) (nl R) := by
  obtain ⟨sp,hg,_⟩ := o
  exact .inr ⟨b,none,n,sp,false,by rw [nl_len,hn],hg⟩
theorem eStarted (h : H) : ∃ h',Grow h h' ∧ CLM (.f 11) [] h = .ok (.bool true) h' := by
  obtain ⟨h1,v1,g1,T1,e1⟩ := lay4 h
  obtain ⟨h2,a,ca,na,g2,ra,e2⟩ := eOrder T1 few4
  obtain ⟨h3,v3,g3,T3,e3⟩ := lay1 h2
  obtain ⟨h4,b,cb,nb,g4,rb,e4⟩ := eOrder T3 few1
  rcases ra with ⟨c,hc,_⟩ | ⟨_,R,ba,io,hl,_,oa,rfl,rfl,rfl⟩
  · exact absurd hc.2.1 (noC4 c)
  rcases rb with ⟨c,hc,rfl,rfl,rfl⟩ | ⟨nc,_⟩
  rotate_left
  · exact absurd cyc1.2.1 (nc 0)
  have hR : R = [3,0,1,2] := io.uniq ord4 hl
  have hc0 : c = 0 := hc.uniq cyc1
  subst hR hc0
  have T1' := T1.grow ((g2.trans g3).trans g4)
  obtain ⟨h5,hh5⟩ : ∃ h5,h5 = h4.alloc (.cells [.int .i64 3,.int .i64 0,.int .i64 1,.int .i64 2] 3 0 false) := ⟨_,rfl⟩
  have g5 : Grow h4 h5 := by rw [hh5]; exact (Grow.refl h4).alloc _
  have eb : xbuildSlice Try.prog 27 4 [(0,.int .i64 3),(1,.int .i64 0),(2,.int .i64 1),(3,.int .i64 2)] h4 = .ok (.slice (some ⟨h4.next,0,none⟩) 4 4) h5 := by rw [hh5]; kernel_rfl
  have I1 : IL h5 (.slice (some ⟨ba,0,none⟩) ts4.length ts4.length) (nl [3,0,1,2]) := (Out.il oa rfl).grow ((g3.trans g4).trans g5)
  have I2 : IL h5 (.slice (some ⟨h4.next,0,none⟩) 4 4) (nl [3,0,1,2]) := .inr ⟨h4.next,none,4,[],false,rfl,by rw [hh5]; exact H.alloc_self _ _⟩
  have e5 := eSameI I1 I2 (by simp [nl])
  rw [decide_eq_true rfl] at e5
  obtain ⟨h6,v6,b6,g6,P6,_,e6⟩ := eNeeds (T1'.grow g5) few4 4
  obtain ⟨h7,v7,b7,g7,P7,_,e7⟩ := eNeeds (T1'.grow (g5.trans g6)) few4 (-1)
  have n4 : ndI ts4 4 = [] := if_neg (by decide)
  have n5 : ndI ts4 (-1) = [] := if_neg (by decide)
  rw [n4] at P6
  rw [n5] at P7
  have l6 := P6.nl.1.len h6
  have hz : ((0 : Nat) : Int) = 0 := rfl
  have hlz : ((([] : List Int).length : Nat) : Int) = 0 := rfl
  have hnm : nm ts1 ((0 : Nat) : Int) = ⟨#[116]⟩ := rfl
  have l7 := P7.nl.1.len h7
  refine ⟨h7,(((((g1.trans g2).trans g3).trans g4).trans g5).trans g6).trans g7,?_⟩
  rw [cM11,F11.eq]
  refine (e1 _).trans ?_
  show ((CLM (.f 13) [v1] h1).go .pan _) = _
  rw [e2,go_ok,xextract_0,go_ok,xextract_1,go_ok,xextract_2,go_ok]
  refine (e3 _).trans ?_
  show ((CLM (.f 13) [v3] h3).go .pan _) = _
  rw [e4,go_ok,xextract_0,go_ok,xextract_1,go_ok,xextract_2,go_ok,eb,go_ok,e5,go_ok,ifV_t,eNum,go_ok,xeql,go_ok,ifV_dec,if_pos rfl,xseql,go_ok,ifV_dec,if_pos rfl,ln27,go_ok,xeql,go_ok,ifV_dec,if_pos hz,eNum,go_ok,xeql,go_ok,ifV_dec,if_pos rfl,xseql,go_ok,ifV_dec,if_pos hnm,e6,go_ok,l6,go_ok,xeql,go_ok,ifV_dec,if_pos hlz,e7,go_ok,l7,go_ok,xeql,go_ok]
  rfl
theorem levs_len {ts : List TK} {L : Nat → Nat} {ls : List (List Nat)} (lv : IsLevs ts L ls) : ls.length ≤ ts.length ∧ ∀ l ∈ ls,l.length ≤ ts.length := by
  classical
  refine ⟨?_,fun l hl => ?_⟩
  · have hsub : List.range ls.length ⊆ (List.range ts.length).map L := fun k hk => by
      have hk' := List.mem_range.1 hk
      obtain ⟨i,hi⟩ := List.exists_mem_of_ne_nil _ (lv.ne _ (List.getElem_mem hk'))
      obtain ⟨h1,h2⟩ := (lv.m k _ (List.getElem?_eq_getElem hk') i).1 hi
      exact List.mem_map.2 ⟨i,List.mem_range.2 h1,h2⟩
    have := List.Nodup.length_le_of_subset List.nodup_range hsub
    simpa using this
  · obtain ⟨k,hk⟩ := List.mem_iff_getElem?.1 hl
    have hn : l.Nodup := (lv.s l hl).imp fun {a b} z e => by
      subst e; rw [aLt_irrefl] at z; cases z
    have := List.Nodup.length_le_of_subset hn (l₂ := List.range ts.length) fun j hj => List.mem_range.2 ((lv.m k l hk j).1 hj).1
    simpa using this
theorem LevR.known {h0 h1 : H} {ts : List TK} {v : Value} {c : Int} {m : ByteArray} (p : LevR h0 h1 ts v c m) : NoC ts → ∃ L ls,IsLevs ts L ls := fun nc => by
  rcases p with ⟨x,hx,_⟩ | ⟨_,L,ls,_,_,lv,_⟩
  · exact absurd hx.2.1 (nc x)
  · exact ⟨L,ls,lv⟩
end Go.Proofs.Ytdadiidfhnojcaa.K
namespace Go.Proofs.Ytdadiidfhnojcaa.K
open Go Go.Kx
set_option maxRecDepth 100000
set_option linter.unusedVariables false
theorem mixed : Try.prog.follows .mixedOrders = true := by kernel_rfl
noncomputable def primO : Pr := fun f args h => match f with
  | 59 => ovP args h
  | _ => .bad
noncomputable def CLO : Cl := clS Try.prog tab primO
theorem ovO (args args' : List Value) (ι : Io) (h : H) (w : World) (s : Sim Try.prog ι h w) (ha : RL ι args args') : SN Try.prog ι w (ovP args h) (callFunc 59 ⟨args'⟩) :=
  ovP_ok (sl := 27) (tR := 4) (e := 3) Try.func59 (by kernel_rfl) (by kernel_rfl) (by kernel_rfl) (by kernel_rfl) (by kernel_rfl) (rSizeOf (by kernel_rfl)) args args' ι h w s ha
theorem primO_ok : PrOk Try.prog 0 primO := by
  intro f args args' ι h w hg s ha
  unfold primO
  split
  · exact ovO args args' ι h w s ha
  · trivial
theorem CLO_ok : ClOk Try.prog 0 CLO := clS_ok mixed tab_ok primO_ok
theorem TI : InsT Try.prog 27 3 3 := ⟨by kernel_rfl,by kernel_rfl,by kernel_rfl,by kernel_rfl,by kernel_rfl,Nat.lt_of_lt_of_le (Nat.zero_lt_succ 0) (Nat.le_of_eq (by kernel_rfl : 1 = Try.prog.cellsOf 3))⟩
theorem bodyI (x0 x1 x2 : Value) (h : H) : CLO (.f 47) [x0,x1,x2] h = insB Try.prog 27 3 59 (F47.j18 Try.prog CLO nu0 nu0) CLO x0 x1 x2 h := by
  have e : CLO (.f 47) [x0,x1,x2] h = runX Try.prog CLO nu0 an47 Try.f47 [x0,x1,x2] h := clS_eq (by kernel_rfl) _ _
  rw [e,F47.eq]
  simp only [F47.j5_eq,F47.j8_eq,F47.j13_eq]
  rfl
theorem insI_ok (args args' : List Value) (ι : Io) (h : H) (w : World) (s : Sim Try.prog ι h w) (ha : RL ι args args') : SN Try.prog ι w (insP Try.prog 27 args h) (callFunc 47 ⟨args'⟩) :=
  insP_ok TI (G := 0) CLO_ok bodyI (fun args h => clS_prim (by kernel_rfl) args h) args args' ι h w s ha
theorem primM_ok : PrOk Try.prog 0 primM := by
  intro f args args' ι h w hg s ha
  unfold primM
  split
  · exact insI_ok args args' ι h w s ha
  · trivial
theorem tabM_ok : ∀ f fn an,tabM f = some (fn,an) → fnOk Try.prog 0 an f fn := by
  intro f fn an h
  unfold tabM at h
  split at h
  · cases h
  · exact tab_ok _ _ _ h
theorem CLM_ok : ClOk Try.prog 0 CLM := clS_ok mixed tabM_ok primM_ok
end Go.Proofs.Ytdadiidfhnojcaa.K
namespace Go.Proofs.Ytdadiidfhnojcaa.K
open Go Go.Kx Go.ChangeShapes Go.WideShapes Go.ChangeAt Go.RowKit
set_option maxRecDepth 100000
set_option linter.unusedVariables false
theorem row_of_cellsC {W : World} {base : Nat} {a : Addr} {n : Nat} {cs : List Value} (hn : 0 < n) (h : W.cells? base a n = some cs) :
    a.spot = none ∧ lv W a.block = true ∧ ∃ c el f,(hOf W).get a.block = some (.cells c el f false) ∧ a.off + n ≤ c.length ∧ (c.drop a.off).take n = cs.map (cvC (lv W)) := by
  obtain ⟨_,hlen,hc⟩ := World.cells?_some h
  have h0 := hc 0 hn
  have a0 : a.add 0 = a := by unfold Addr.add; rw [if_pos rfl]
  rw [a0,List.getElem?_eq_getElem (by omega : 0 < cs.length)] at h0
  unfold World.cell? at h0
  split at h0
  · rename_i c el lh hb
    have hs : a.spot = none := by
      cases q : a.spot with
      | none => rfl
      | some k => rw [q] at h0; simp at h0
    obtain ⟨l⟩ := c
    have hl : lv W a.block = true := by unfold lv lvO; rw [hb]
    refine ⟨hs,hl,l.map (cvC (lv W)),el,_,by rw [hOf_get,hb]; rfl,?_⟩
    have hat : ∀ i,i < n → l[a.off + i]? = cs[i]? := by
      intro i hi
      rw [← hc i hi]
      unfold World.cell?
      have : (a.add i).block = a.block ∧ (a.add i).off = a.off + i ∧ (a.add i).spot = none := by
        unfold Addr.add
        split
        · rename_i h0; subst h0; exact ⟨rfl,rfl,hs⟩
        · exact ⟨rfl,rfl,rfl⟩
      rw [this.1,hb,this.2.1,this.2.2]
      simp
    have hle : a.off + n ≤ l.length := by
      have := hat (n - 1) (by omega)
      rw [List.getElem?_eq_getElem (by omega : n - 1 < cs.length)] at this
      have := (List.getElem?_eq_some_iff.1 this).1
      omega
    refine ⟨by rw [List.length_map]; exact hle,?_⟩
    rw [← List.map_drop,← List.map_take]
    congr 1
    apply List.ext_getElem?
    intro i
    rw [List.getElem?_take]
    split
    · rename_i hi; rw [List.getElem?_drop]; exact hat i hi
    · rename_i hi; rw [List.getElem?_eq_none (by omega)]
  · cases h0
theorem flat_rows (c : List Value) (o E : Nat) : ∀ n,((List.range n).map fun i => (c.drop (o + i * E)).take E).flatten = (c.drop o).take (n * E)
  | 0 => by simp
  | n + 1 => by
    rw [List.range_succ,List.map_append,List.flatten_append,flat_rows c o E n,Nat.add_mul,Nat.one_mul,List.take_add,List.drop_drop]
    simp
theorem list_choose {α β : Type} {p : α → β → Prop} : ∀ (l : List α),(∀ x ∈ l,∃ y,p x y) → ∃ m : List β,m.length = l.length ∧ ∀ (i : Nat) (y : β),m[i]? = some y → ∃ x,l[i]? = some x ∧ p x y
  | [],_ => ⟨[],rfl,fun i y h => by simp at h⟩
  | x :: l,h => by
    obtain ⟨y,hy⟩ := h x (by simp)
    obtain ⟨m,hm,hp⟩ := list_choose l (fun x hx => h x (by simp [hx]))
    refine ⟨y :: m,by simp [hm],fun i z hz => ?_⟩
    cases i with
    | zero => simp only [List.getElem?_cons_zero,Option.some.injEq] at hz; subst hz; exact ⟨x,rfl,hy⟩
    | succ i => rw [List.getElem?_cons_succ] at hz; rw [List.getElem?_cons_succ]; exact hp i z hz
section
variable {HH : Type} {enc : TypeId × Value → HH} {W : World}
theorem read_sl {t e E fuel : Nat} (hu : Try.prog.underlying t = some (.slice e)) (hE : Try.prog.cellsOf e = E) (hpos : 0 < E) {cs : List Value} {x : DataW HH × List MemPlace} (h : DataW.trod enc Try.prog W 0 (fun _ => true) true fuel t cs = some x)
    (one : ∀ {n cs' x'},DataW.trod enc Try.prog W 0 (fun _ => true) true n e cs' = some x' → ones (cs'.map (cvC (lv W))) = true) :
    ∃ v u rows,cs = [v] ∧ (∃ a n c,v = .slice a n c) ∧ cv (lv W) v = some u ∧ Sl E (hOf W) u rows ∧ Zs u ∧ ∀ r ∈ rows,∃ n cs' x',r = cs'.map (cvC (lv W)) ∧ DataW.trod enc Try.prog W 0 (fun _ => true) true n e cs' = some x' := by
  rcases Go.Deep.open_slice hu h with ⟨rfl,hx⟩ | ⟨a,len,cap,m,n,D,Pl,rfl,hb,hl,hm,hmm,hx,hall⟩
  · exact ⟨_,.slice none 0 0,[],rfl,⟨_,_,_,rfl⟩,rfl,⟨GoodR.nil,.inl ⟨Nul.nil,rfl⟩⟩,.inl Nul.nil,fun r hr => by cases hr⟩
  · simp only [if_true] at hmm
    rw [hmm,hE] at hall
    by_cases hc : cap = 0
    · have hl0 : len = 0 := by omega
      subst hc hl0
      obtain ⟨b,o,sp⟩ := a
      cases sp with
      | none => exact ⟨_,.slice (some ⟨b,o,some 2⟩) 0 0,[],rfl,⟨_,_,_,rfl⟩,rfl,⟨GoodR.nil,.inl ⟨.inr ⟨b,o,0,rfl⟩,rfl⟩⟩,.inl (.inr ⟨b,o,0,rfl⟩),fun r hr => by cases hr⟩
      | some k => exact ⟨_,.slice (some ⟨b,o,some (k + 3)⟩) 0 0,[],rfl,⟨_,_,_,rfl⟩,rfl,⟨GoodR.nil,.inl ⟨.inr ⟨b,o,k + 1,rfl⟩,rfl⟩⟩,.inl (.inr ⟨b,o,k + 1,rfl⟩),fun r hr => by cases hr⟩
    · have hrow : ∀ i,i < cap → ∃ cs',W.cells? 0 (a.add (i * E)) E = some cs' ∧ DataW.trod enc Try.prog W 0 (fun _ => true) true n e cs' = some (D i,Pl i) := hall
      obtain ⟨cs0,z1,z2⟩ := hrow 0 (by omega)
      rw [Nat.zero_mul,show a.add 0 = a by unfold Addr.add; rw [if_pos rfl]] at z1
      obtain ⟨hs,hlv,c,el,f,hg,_⟩ := row_of_cellsC hpos z1
      obtain ⟨b,o,sp⟩ := a
      simp only at hs hlv hg
      subst hs
      have at_ : ∀ i,i < cap → o + i * E + E ≤ c.length ∧ ∃ cs',(c.drop (o + i * E)).take E = cs'.map (cvC (lv W)) ∧ DataW.trod enc Try.prog W 0 (fun _ => true) true n e cs' = some (D i,Pl i) := by
        intro i hi
        obtain ⟨cs',y1,y2⟩ := hrow i hi
        have hadd : (Addr.add ⟨b,o,none⟩ (i * E)) = ⟨b,o + i * E,none⟩ := by
          unfold Addr.add
          split
          · rename_i h0; rw [h0]; rfl
          · rfl
        rw [hadd] at y1
        obtain ⟨_,_,c',el',f',g1,g2,g3⟩ := row_of_cellsC hpos y1
        simp only at g1 g2 g3
        rw [hg] at g1
        cases g1
        exact ⟨g2,cs',g3,y2⟩
      have hcap := at_ (cap - 1) (by omega)
      have hle : o + cap * E ≤ c.length := by
        have h1 := hcap.1
        have : cap * E = (cap - 1) * E + E := by rw [← Nat.succ_mul]; congr 1; omega
        omega
      have hz : (len == 0 && cap == 0) = false := by
        rw [Bool.and_eq_false_iff]; right; simpa using hc
      refine ⟨_,.slice (some ⟨b,o,some 0⟩) len cap,(List.range len).map fun i => (c.drop (o + i * E)).take E,rfl,⟨_,_,_,rfl⟩,?_,⟨?_,.inr ⟨b,o,some 0,cap,by simp,c,el,f,false,hg,?_⟩⟩,.inr ⟨b,o,len,cap,rfl,hl⟩,?_⟩
      · simp only [cv,hz,hlv,cond_false,cond_true]
      · intro r hr
        obtain ⟨i,hi,rfl⟩ := List.mem_map.1 hr
        have hi := List.mem_range.1 hi
        obtain ⟨q1,cs',q2,q3⟩ := at_ i (by omega)
        refine ⟨by rw [List.length_take,List.length_drop]; omega,?_⟩
        rw [q2]
        exact one q3
      · rw [flat_rows]
        have : len * E ≤ cap * E := Nat.mul_le_mul_right _ hl
        have hlen : ((c.drop o).take (len * E)).length = len * E := by rw [List.length_take,List.length_drop]; omega
        rw [hlen]
        exact ⟨by omega,rfl⟩
      · intro r hr
        obtain ⟨i,hi,rfl⟩ := List.mem_map.1 hr
        have hi := List.mem_range.1 hi
        obtain ⟨q1,cs',q2,q3⟩ := at_ i (by omega)
        exact ⟨n,cs',_,q2,q3⟩
theorem cvC_one {v : Value} (h : v.oneCell' = true) : (cvC (lv W) v).oneCell' = true := by
  unfold cvC
  split
  · rename_i u hu
    cases v <;> first | (cases h; done) | skip
    all_goals (first | (simp only [cv,Option.some.injEq] at hu; subst hu; rfl) | skip)
    · rename_i a; rcases a with _ | ⟨b,o,_ | s⟩ <;> simp only [cv] at hu
      · cases hu; rfl
      · cases hb : lv W b <;> rw [hb] at hu <;> cases hu; rfl
      · cases hu
    · rename_i a n c; rcases a with _ | ⟨b,o,_ | s⟩ <;> simp only [cv] at hu
      · cases hu; rfl
      · rcases cv_none hu with ⟨_,_,rfl⟩ | hu
        · rfl
        · cases hb : lv W b <;> rw [hb] at hu <;> cases hu; rfl
      · rcases cv_none hu with ⟨_,_,rfl⟩ | hu
        · rfl
        · cases hu
    · rename_i a; cases a <;> simp only [cv] at hu <;> cases hu; rfl
    · simp only [cv] at hu; cases hu
    · rename_i g f c
      obtain ⟨f⟩ := f
      obtain ⟨c⟩ := c
      cases g <;> simp only [cv] at hu <;> first | (cases hu; done) | skip
      split at hu <;> cases hu; rfl
    · simp only [cv] at hu; split at hu <;> cases hu; rfl
  · cases v <;> first | (cases h; done) | rfl
theorem ones_cvC {l : List Value} (h : ones l = true) : ones (l.map (cvC (lv W))) = true := by
  rw [ones_iff] at *
  intro x hx
  obtain ⟨v,hv,rfl⟩ := List.mem_map.1 hx
  exact cvC_one (h v hv)
variable {n : Nat} {cs : List Value} {x : DataW HH × List MemPlace}
theorem read_string (h : DataW.trod enc Try.prog W 0 (fun _ => true) true n 9 cs = some x) : ∃ s,cs = [.string s] := by
  obtain ⟨s,e,_⟩ := DataW.trod_string Try.underlying9 h
  exact ⟨s,e⟩
theorem read_int (h : DataW.trod enc Try.prog W 0 (fun _ => true) true n 3 cs = some x) : ∃ z,cs = [.int .i64 z] ∧ (Lit.int .i64 z).wf = true := by
  obtain ⟨z,e,_,w⟩ := DataW.trod_int Try.underlying3 h
  exact ⟨z,e,w⟩
theorem read_one {t e : Nat} (hu : Try.prog.underlying t = some (.slice e)) (h : DataW.trod enc Try.prog W 0 (fun _ => true) true n t cs = some x) : ∃ v,cs = [v] ∧ v.oneCell' = true := by
  rcases Go.Deep.open_slice hu h with ⟨rfl,hx⟩ | ⟨a,len,cap,m,n,D,Pl,rfl,_⟩
  · exact ⟨_,rfl,rfl⟩
  · exact ⟨_,rfl,rfl⟩
theorem strs_one (h : DataW.trod enc Try.prog W 0 (fun _ => true) true n 9 cs = some x) : ones (cs.map (cvC (lv W))) = true := by
  obtain ⟨s,rfl⟩ := read_string h
  rfl
theorem read_strs (h : DataW.trod enc Try.prog W 0 (fun _ => true) true n 52 cs = some x) : ∃ v u l,cs = [v] ∧ v.oneCell' = true ∧ cvC (lv W) v = u ∧ StrSl (hOf W) u l ∧ Zs u := by
  obtain ⟨v,u,rows,rfl,⟨a,m,c,rfl⟩,e,q,z,f⟩ := read_sl (E := 1) Try.underlying52 (by kernel_rfl) (by omega) h (fun q => strs_one q)
  obtain ⟨l,hl,hp⟩ := list_choose (p := fun r (s : ByteArray) => r = [.string s]) rows (fun r hr => by
    obtain ⟨n',cs',x',rfl,h'⟩ := f r hr
    obtain ⟨s,rfl⟩ := read_string h'
    exact ⟨s,rfl⟩)
  refine ⟨_,u,l,rfl,rfl,by unfold cvC; rw [e],?_,z⟩
  have : rows = l.map fun s => [.string s] := by
    apply List.ext_getElem?
    intro i
    rw [List.getElem?_map]
    cases hq : l[i]? with
    | none => rw [List.getElem?_eq_none_iff] at hq; rw [List.getElem?_eq_none (by omega : rows.length ≤ i)]; rfl
    | some s => obtain ⟨r,e1,rfl⟩ := hp i s hq; exact e1
  unfold StrSl
  rw [← this]
  exact q
theorem trod_struct5' {H : Type} {enc : TypeId × Value → H} {P : Program} {w : World} {base : Nat} {spare : Nat → Bool} {held : Bool} {t : TypeId} {f0 f1 f2 f3 f4 : Field} {fuel : Nat} {cs : List Value} {x : DataW H × List MemPlace} (ht : P.underlying t = some (.struct #[f0,f1,f2,f3,f4]))
    (h : DataW.trod enc P w base spare held fuel t cs = some x) :
    ∃ y0 y1 y2 y3 y4 n,cs.length = P.cellsOf t ∧ DataW.trod enc P w base spare held n f0.type ((cs.drop f0.offset).take (P.cellsOf f0.type)) = some y0 ∧
      DataW.trod enc P w base spare held n f1.type ((cs.drop f1.offset).take (P.cellsOf f1.type)) = some y1 ∧ DataW.trod enc P w base spare held n f2.type ((cs.drop f2.offset).take (P.cellsOf f2.type)) = some y2 ∧
      DataW.trod enc P w base spare held n f3.type ((cs.drop f3.offset).take (P.cellsOf f3.type)) = some y3 ∧ DataW.trod enc P w base spare held n f4.type ((cs.drop f4.offset).take (P.cellsOf f4.type)) = some y4 := by
  obtain ⟨xs,n,_,_,hl,hlen,hf⟩ := DataW.trod_struct ht h
  match xs,hlen with
  | [y0,y1,y2,y3,y4],_ => exact ⟨y0,y1,y2,y3,y4,n,hl,by simpa using hf 0 f0 rfl,by simpa using hf 1 f1 rfl,by simpa using hf 2 f2 rfl,by simpa using hf 3 f3 rfl,by simpa using hf 4 f4 rfl⟩
theorem read_node (h : DataW.trod enc Try.prog W 0 (fun _ => true) true n 61 cs = some x) : cs.length = 5 ∧ ones cs = true := by
  obtain ⟨y0,y1,y2,y3,y4,m,hl,h0,h1,h2,h3,h4⟩ := trod_struct5' Try.underlying61 h
  rw [show Try.prog.cellsOf 61 = 5 by kernel_rfl] at hl
  simp only [show Try.prog.cellsOf 3 = 1 by kernel_rfl,show Try.prog.cellsOf 9 = 1 by kernel_rfl,show Try.prog.cellsOf 59 = 1 by kernel_rfl] at h0 h1 h2 h3 h4
  obtain ⟨z0,e0,_⟩ := read_int h0
  obtain ⟨z1,e1⟩ := read_string h1
  obtain ⟨z2,e2,_⟩ := read_int h2
  obtain ⟨z3,e3,_⟩ := read_int h3
  obtain ⟨z4,e4,o4⟩ := read_one Try.underlying59 h4
  match cs,hl with
  | [c0,c1,c2,c3,c4],_ =>
    simp at e0 e1 e2 e3 e4
    subst e0 e1 e2 e3 e4
    refine ⟨rfl,?_⟩
    show (true && (true && (true && (true && (c4.oneCell' && true))))) = true
    rw [o4]; rfl
theorem read_out (h : DataW.trod enc Try.prog W 0 (fun _ => true) true n 63 cs = some x) : ∃ s r,cs = .string s :: r ∧ ones cs = true := by
  obtain ⟨y0,y1,m,_,hl,h0,h1⟩ := trod_struct2 Try.underlying63 h
  rw [show Try.prog.cellsOf 63 = 6 by kernel_rfl] at hl
  simp only [show Try.prog.cellsOf 9 = 1 by kernel_rfl,show Try.prog.cellsOf 61 = 5 by kernel_rfl] at h0 h1
  obtain ⟨s,e0⟩ := read_string h0
  obtain ⟨_,o1⟩ := read_node h1
  match cs,hl with
  | c :: r,hl =>
    have hr : r.length = 5 := by simpa using hl
    simp at e0
    subst e0
    refine ⟨s,r,rfl,?_⟩
    rw [show ((Value.string s :: r).drop 1).take 5 = r by rw [List.drop_succ_cons,List.drop_zero]; exact List.take_of_length_le (by omega)] at o1
    show (true && ones r) = true
    rw [o1]; rfl
theorem read_outs (h : DataW.trod enc Try.prog W 0 (fun _ => true) true n 53 cs = some x) : ∃ v u l,cs = [v] ∧ v.oneCell' = true ∧ cvC (lv W) v = u ∧ OutSl (hOf W) u l ∧ Zs u := by
  obtain ⟨v,u,rows,rfl,⟨a,m,c,rfl⟩,e,q,z,f⟩ := read_sl (E := 6) Try.underlying53 (by kernel_rfl) (by omega) h (fun q => by
    obtain ⟨s,r,_,o⟩ := read_out q
    exact ones_cvC o)
  obtain ⟨l,hl,hp⟩ := list_choose (p := fun r (s : ByteArray) => ∃ r',r = .string s :: r') rows (fun r hr => by
    obtain ⟨n',cs',x',rfl,h'⟩ := f r hr
    obtain ⟨s,r,rfl,_⟩ := read_out h'
    exact ⟨s,_,rfl⟩)
  refine ⟨_,u,l,rfl,rfl,by unfold cvC; rw [e],⟨rows,q,?_⟩,z⟩
  apply List.ext_getElem?
  intro i
  rw [List.getElem?_map,List.getElem?_map]
  cases hq : l[i]? with
  | none => rw [List.getElem?_eq_none_iff] at hq; rw [List.getElem?_eq_none (by omega : rows.length ≤ i)]; rfl
  | some s => obtain ⟨r,e1,r',rfl⟩ := hp i s hq; rw [e1]; rfl
theorem trod_struct4' {H : Type} {enc : TypeId × Value → H} {P : Program} {w : World} {base : Nat} {spare : Nat → Bool} {held : Bool} {t : TypeId} {f0 f1 f2 f3 : Field} {fuel : Nat} {cs : List Value} {x : DataW H × List MemPlace} (ht : P.underlying t = some (.struct #[f0,f1,f2,f3]))
    (h : DataW.trod enc P w base spare held fuel t cs = some x) :
    ∃ y0 y1 y2 y3 n,cs.length = P.cellsOf t ∧ DataW.trod enc P w base spare held n f0.type ((cs.drop f0.offset).take (P.cellsOf f0.type)) = some y0 ∧
      DataW.trod enc P w base spare held n f1.type ((cs.drop f1.offset).take (P.cellsOf f1.type)) = some y1 ∧ DataW.trod enc P w base spare held n f2.type ((cs.drop f2.offset).take (P.cellsOf f2.type)) = some y2 ∧
      DataW.trod enc P w base spare held n f3.type ((cs.drop f3.offset).take (P.cellsOf f3.type)) = some y3 := by
  obtain ⟨xs,n,_,_,hl,hlen,hf⟩ := DataW.trod_struct ht h
  match xs,hlen with
  | [y0,y1,y2,y3],_ => exact ⟨y0,y1,y2,y3,n,hl,by simpa using hf 0 f0 rfl,by simpa using hf 1 f1 rfl,by simpa using hf 2 f2 rfl,by simpa using hf 3 f3 rfl⟩
theorem read_task (h : DataW.trod enc Try.prog W 0 (fun _ => true) true n 55 cs = some x) : ones cs = true ∧ ∃ t vi vo,cs.map (cvC (lv W)) = [.string (TK.name t),.int .i64 t.bud,vi,vo] ∧ StrSl (hOf W) vi t.ins ∧ OutSl (hOf W) vo t.outs ∧ Zs vi ∧ Zs vo := by
  obtain ⟨y0,y1,y2,y3,m,hl,h0,h1,h2,h3⟩ := trod_struct4' Try.underlying55 h
  rw [show Try.prog.cellsOf 55 = 4 by kernel_rfl] at hl
  simp only [show Try.prog.cellsOf 3 = 1 by kernel_rfl,show Try.prog.cellsOf 9 = 1 by kernel_rfl,show Try.prog.cellsOf 52 = 1 by kernel_rfl,show Try.prog.cellsOf 53 = 1 by kernel_rfl] at h0 h1 h2 h3
  obtain ⟨s,e0⟩ := read_string h0
  obtain ⟨z,e1,_⟩ := read_int h1
  obtain ⟨v2,u2,l2,e2,o2,c2,q2,z2⟩ := read_strs h2
  obtain ⟨v3,u3,l3,e3,o3,c3,q3,z3⟩ := read_outs h3
  match cs,hl with
  | [c0,c1,c2',c3'],_ =>
    simp at e0 e1 e2 e3
    subst e0 e1 e2 e3
    refine ⟨by show (true && (true && (c2'.oneCell' && (c3'.oneCell' && true)))) = true; rw [o2,o3]; rfl,⟨s,z,l2,l3⟩,u2,u3,?_,q2,q3,z2,z3⟩
    simp only [List.map_cons,List.map_nil,c2,c3]
    rfl
theorem read_tasks {v : Value} {d : DataW HH} {p : List MemPlace} {base : Nat} (hval : Value.okWide Try.prog W .any base 22 v) (h : DataW.Trod enc Try.prog W 0 (fun _ => true) true 22 v d p) :
    ∃ u ts,R (io W) u v ∧ TasksA (hOf W) u ts ∧ Zs u := by
  obtain ⟨fuel,h⟩ := h
  have hsl : ∃ o l c,v = .slice o l c := by
    have hv := hval
    unfold Value.okWide at hv
    rw [Try.underlying22] at hv
    cases v <;> first | exact ⟨_,_,_,rfl⟩ | (simp [Cell.okWide,Try.underlying22,Cell.ok] at hv)
  obtain ⟨o,l,c,rfl⟩ := hsl
  obtain ⟨v',u,rows,e1,_,e,q,z,f⟩ := read_sl (E := 4) Try.underlying22 (by kernel_rfl) (by omega) h (fun q => ones_cvC (read_task q).1)
  have hv : v' = .slice o l c := by
    have : [Value.slice o l c] = [v'] := by simpa [Value.cells] using e1
    simpa using this.symm
  subst hv
  obtain ⟨ts,hl,hp⟩ := list_choose (p := fun r (t : TK) => ∃ vi vo,r = [.string t.name,.int .i64 t.bud,vi,vo] ∧ StrSl (hOf W) vi t.ins ∧ OutSl (hOf W) vo t.outs ∧ Zs vi ∧ Zs vo) rows (fun r hr => by
    obtain ⟨n',cs',x',rfl,h'⟩ := f r hr
    exact (read_task h').2)
  refine ⟨u,ts,cv_R _ e,⟨rows,q,hl.symm,fun i t ht => ?_⟩,z⟩
  obtain ⟨r,e1,vi,vo,rest⟩ := hp i t ht
  exact ⟨r,vi,vo,e1,rest⟩
end
end Go.Proofs.Ytdadiidfhnojcaa.K
namespace Go.Proofs.Ytdadiidfhnojcaa.K
open Go Go.Kx Go.ChangeShapes Go.WideShapes Go.ChangeAt Go.RowKit
set_option maxRecDepth 100000
set_option linter.unusedVariables false
theorem laidOut' : laidOutB Try.prog = true := by kernel_rfl
theorem own' : ownKnob Try.prog.godebug = none := by kernel_rfl
end Go.Proofs.Ytdadiidfhnojcaa.K
namespace Go.Proofs.Ytdadiidfhnojcaa
open Go
set_option maxRecDepth 100000
end Go.Proofs.Ytdadiidfhnojcaa
namespace Go.Proofs.Ytdadiidfhnojcaa.K
open Go Go.Kx
set_option linter.unusedVariables false
set_option linter.unusedSimpArgs false
set_option maxRecDepth 20000
theorem nodup_at {l : List Nat} : l.Nodup ↔ ∀ (i j x : Nat),l[i]? = some x → l[j]? = some x → i = j := by
  rw [List.Nodup,List.pairwise_iff_getElem]
  constructor
  · intro h i j x hi hj
    obtain ⟨i1,i2⟩ := List.getElem?_eq_some_iff.1 hi
    obtain ⟨j1,j2⟩ := List.getElem?_eq_some_iff.1 hj
    rcases Nat.lt_trichotomy i j with q | q | q
    · exact absurd (i2.trans j2.symm) (h i j i1 j1 q)
    · exact q
    · exact absurd (j2.trans i2.symm) (h j i j1 i1 q)
  · intro h i j hi hj hlt e
    have := h i j l[i] (List.getElem?_eq_getElem hi) (by rw [e]; exact List.getElem?_eq_getElem hj)
    omega
theorem swap_at {α : Type} {l : List α} {i k : Nat} {x y : α} (hi : l[i]? = some x) (hk : l[k]? = some y) (a : Nat) : ((l.set i y).set k x)[a]? = l[if a = k then i else if a = i then k else a]? := by
  have li := (List.getElem?_eq_some_iff.1 hi).1
  have lk := (List.getElem?_eq_some_iff.1 hk).1
  by_cases h1 : a = k
  · subst h1
    rw [if_pos rfl,List.getElem?_set_self (by rw [List.length_set]; exact lk),hi]
  · rw [if_neg h1,List.getElem?_set_ne (fun z => h1 z.symm)]
    by_cases h2 : a = i
    · subst h2
      rw [if_pos rfl,List.getElem?_set_self li,hk]
    · rw [if_neg h2,List.getElem?_set_ne (fun z => h2 z.symm)]
theorem swap_nodup {l : List (Nat × Nat)} {i k : Nat} {x y : Nat × Nat} (hi : l[i]? = some x) (hk : l[k]? = some y) (f : Nat × Nat → Nat) (d : (l.map f).Nodup) : (((l.set i y).set k x).map f).Nodup := by
  rw [nodup_at] at *
  intro a b z ha hb
  rw [List.getElem?_map,swap_at hi hk,← List.getElem?_map] at ha hb
  have := d _ _ z ha hb
  split at this <;> split at this <;> (try split at this) <;> (try split at this) <;> omega
theorem LT.ne {h : H} {t : TK} {bi bo bm : Nat} {r : List Value} {rows : List (List Value)} (q : LT h t bi bo r) (m : RB h bm 55 4 false rows) : bi ≠ bm ∧ bo ≠ bm := by
  obtain ⟨_,i,_,o,_⟩ := q
  exact ⟨i.ne m (by decide),o.ne m (by decide)⟩
theorem Lent.set {h h' : H} {v : Value} {bm : Nat} {rows : List (List Value)} {bs : List (Nat × Nat)} {ts : List TK} (Q : Lent h v bm rows bs ts) {i : Nat} {t' : TK} {p : Nat × Nat} {r' : List Value} (hi : i < ts.length) (hp : bs[i]? = some p)
    (u : Upd (fun y => y = bm ∨ y = p.1 ∨ y = p.2) h h') (m : RB h' bm 55 4 false (rows.set i r')) (lt : LT h' t' p.1 p.2 r') : Lent h' v bm (rows.set i r') bs (ts.set i t') := by
  have hl := Q.len
  refine ⟨by rw [List.length_set]; exact Q.v,m,by rw [List.length_set,List.length_set]; exact hl,by rw [List.length_set]; exact Q.bl,fun j t hj => ?_,fun j h1 h2 => ?_,Q.d1,Q.d2⟩
  · by_cases e : j = i
    · subst e
      rw [List.getElem?_set_self hi] at hj
      cases hj
      exact ⟨p,r',hp,List.getElem?_set_self (by omega),lt⟩
    · rw [List.getElem?_set_ne (fun z => e z.symm)] at hj
      obtain ⟨q,r,a,b,c⟩ := Q.t j t hj
      have c' := c.ne Q.m
      obtain ⟨p0,r0,a0,b0,c0⟩ := Q.t i _ (List.getElem?_eq_getElem hi)
      rw [hp] at a0; cases a0
      refine ⟨q,r,a,by rw [List.getElem?_set_ne (fun z => e z.symm)]; exact b,c.upd u (fun z => ?_) (fun z => ?_)⟩
      · rcases z with z | z | z
        · exact c'.1 z
        · exact e (nodup_at.1 Q.d1 j i q.1 (by rw [List.getElem?_map,a]; rfl) (by rw [List.getElem?_map,hp,z]; rfl))
        · obtain ⟨_,ci,_⟩ := c
          obtain ⟨_,_,_,co,_⟩ := c0
          exact ci.ne co (by decide) z
      · rcases z with z | z | z
        · exact c'.2 z
        · obtain ⟨_,_,_,co,_⟩ := c
          obtain ⟨_,ci,_⟩ := c0
          exact ci.ne co (by decide) z.symm
        · exact e (nodup_at.1 Q.d2 j i q.2 (by rw [List.getElem?_map,a]; rfl) (by rw [List.getElem?_map,hp,z]; rfl))
  · rw [List.length_set] at h1 h2
    rw [List.getElem?_set_ne (by omega)]
    exact Q.r j h1 h2
theorem Lent.swap {h h' : H} {v : Value} {bm : Nat} {rows : List (List Value)} {bs : List (Nat × Nat)} {ts : List TK} (Q : Lent h v bm rows bs ts) {i k : Nat} {ti tk : TK} {pi pk : Nat × Nat} {ri rk : List Value} (hi : ts[i]? = some ti) (hk : ts[k]? = some tk) (pi' : bs[i]? = some pi) (pk' : bs[k]? = some pk)
    (ri' : rows[i]? = some ri) (rk' : rows[k]? = some rk) (u : Upd (fun y => y = bm) h h') (m : RB h' bm 55 4 false ((rows.set i rk).set k ri)) : Lent h' v bm ((rows.set i rk).set k ri) ((bs.set i pk).set k pi) ((ts.set i tk).set k ti) := by
  have hl := Q.len
  have li := (List.getElem?_eq_some_iff.1 hi).1
  have lk := (List.getElem?_eq_some_iff.1 hk).1
  refine ⟨by simp only [List.length_set]; exact Q.v,m,by simp only [List.length_set]; exact hl,by simp only [List.length_set]; exact Q.bl,fun j t hj => ?_,fun j h1 h2 => ?_,swap_nodup pi' pk' _ Q.d1,swap_nodup pi' pk' _ Q.d2⟩
  · rw [swap_at hi hk] at hj
    obtain ⟨q,r,a,b,c⟩ := Q.t _ t hj
    have c' := c.ne Q.m
    exact ⟨q,r,by rw [swap_at pi' pk']; exact a,by rw [swap_at ri' rk']; exact b,c.upd u c'.1 c'.2⟩
  · simp only [List.length_set] at h1 h2
    rw [List.getElem?_set_ne (by omega),List.getElem?_set_ne (by omega)]
    exact Q.r j h1 h2
end Go.Proofs.Ytdadiidfhnojcaa.K
namespace Go.Proofs.Ytdadiidfhnojcaa.K
open Go Go.Kx
set_option linter.unusedVariables false
set_option linter.unusedSimpArgs false
set_option maxRecDepth 20000
theorem eAheadW {h : H} {vt : Value} {ts : List TK} (T : Tasks h vt ts) {i j : Nat} (hi : i < ts.length) (hj : j < ts.length) :
    CLM (.f 26) [vt,.int .i64 (i : Nat),.int .i64 (j : Nat)] h = .ok (.bool (aLt ts (i : Int) (j : Int))) h := by
  obtain ⟨b1,o1,vi1,vo1,a1,r1,-⟩ := T.at_ (List.getElem?_eq_getElem hi)
  obtain ⟨b2,o2,vi2,vo2,a2,r2,-⟩ := T.at_ (List.getElem?_eq_getElem hj)
  have c1 := r1.cell (j := 0) rfl
  have c2 := r2.cell (j := 0) rfl
  rw [Nat.add_zero] at c1 c2
  have n1 := nm_at (List.getElem?_eq_getElem hi)
  have n2 := nm_at (List.getElem?_eq_getElem hj)
  rw [← n1] at c1
  rw [← n2] at c2
  have l1 : xload Try.prog 9 (.pointer (some ⟨b1,o1,none⟩)) h = .ok (.string (nm ts (i : Int))) h := by rw [ld9,c1,ofO_some]
  have l2 : xload Try.prog 9 (.pointer (some ⟨b2,o2,none⟩)) h = .ok (.string (nm ts (j : Int))) h := by rw [ld9,c2,ofO_some]
  rw [cM26,F26.eq,a1,Res.ok1_ok,fa55_0,Res.ok1_ok,l1,Res.ok1_ok,a2,Res.ok1_ok,fa55_0,Res.ok1_ok,l2,Res.ok1_ok,plain2_str,cond_true,xsneq,Res.ok1_ok,ifV_not]
  unfold aLt
  by_cases e : nm ts (i : Int) = nm ts (j : Int)
  · rw [if_pos e,xlss,go_ok,e,sLt_irrefl,Bool.false_or,decide_eq_true rfl,Bool.true_and]
  · rw [if_neg e,a1,Res.ok1_ok,fa55_0,Res.ok1_ok,l1,Res.ok1_ok,a2,Res.ok1_ok,fa55_0,Res.ok1_ok,l2,Res.ok1_ok,plain2_str,cond_true,xslss,Res.ok1_ok,decide_eq_false e,Bool.false_and,Bool.or_false]
theorem is_loop {h : H} {v : Value} {l : List Nat} (I : IL h v (nl l)) (few : l.length ≤ 60000) {n : Nat} (hl : ∀ k ∈ l,k < n) : ∀ (d i : Nat),l.length - i = d → i ≤ l.length →
    F25.l2 Try.prog CLM nu0 nu0 v (.int .i64 (n : Nat)) (.int .i64 (i : Nat)) h = .ok (.bool true) h := by
  intro d
  induction d with
  | zero =>
    intro i hd hi
    rw [F25.l2_eq,I.len,go_ok,nl_len,xlss,go_ok,ifV_dec,if_neg (by omega),F25.j6_eq]
  | succ d ih =>
    intro i hd hi
    have hil : i < l.length := by omega
    have hk := hl _ (List.getElem_mem hil)
    obtain ⟨a,a1,a2⟩ := I.at_ (i := i) (z := (l[i] : Nat)) (by unfold nl; rw [List.getElem?_map,List.getElem?_eq_getElem hil]; rfl)
    rw [F25.l2_eq,I.len,go_ok,nl_len,xlss,go_ok,ifV_dec,if_pos (by omega),F25.j4_eq,a1,go_ok,a2,go_ok,xlss,go_ok,ifV_dec,if_neg (by omega),a1,go_ok,a2,go_ok,xgeq,go_ok,ifV_dec,if_neg (by omega),xadd,go_ok,wadd1 (by omega)]
    exact ih (i + 1) (by omega) (by omega)
theorem eInside {h : H} {v : Value} {l : List Nat} (I : IL h v (nl l)) (few : l.length ≤ 60000) {n : Nat} (hl : ∀ k ∈ l,k < n) : CLM (.f 25) [v,.int .i64 (n : Nat)] h = .ok (.bool true) h := by
  rw [cM25,F25.eq,show (Value.int .i64 0) = .int .i64 ((0 : Nat) : Int) from rfl]
  exact is_loop I few hl _ 0 rfl (Nat.zero_le _)
def ZL (h : H) (b n : Nat) (Z : Nat → Int) : Prop := h.get b = some (.cells (tb n fun j => .int .i64 (Z j)) 3 0 false)
theorem ZL.ld {h : H} {b n : Nat} {Z : Nat → Int} (q : ZL h b n Z) {j m cap : Nat} (hj : j < n) (hm : j < m) :
    (∀ h',xindexAddr Try.prog 27 (.slice (some ⟨b,0,none⟩) m cap) (.int .i64 (j : Nat)) h' = .ok (.pointer (some ⟨b,0 + j * 1,none⟩)) h') ∧ xload Try.prog 3 (.pointer (some ⟨b,0 + j * 1,none⟩)) h = .ok (.int .i64 (Z j)) h := by
  refine ⟨fun h' => ia27 _ _ _ _ _ _ _ h' hm,?_⟩
  rw [ld3,H.cell_eq q,Nat.zero_add,Nat.mul_one,tb_at _ hj,ofO_some]
theorem ZL.st {h : H} {b n : Nat} {Z : Nat → Int} (q : ZL h b n Z) {j : Nat} (hj : j < n) (x : Int) :
    ∃ h',xstore Try.prog 3 (.pointer (some ⟨b,0 + j * 1,none⟩)) (.int .i64 x) h = .ok undef h' ∧ Upd (fun y => y = b) h h' ∧ ZL h' b n (updN Z j x) := by
  have hs : (Value.int .i64 x).cells.size = 1 := rfl
  refine ⟨h.put b (.cells (tb n fun i => .int .i64 (updN Z j x i)) 3 0 false),?_,(Upd.refl (fun y => y = b) h).put (.inl rfl) (H.get_lt q) _,H.put_self q⟩
  rw [st3 _ _ _ hs,cells_int,Nat.zero_add,Nat.mul_one,write_cell' q (by rw [tb_len]; exact hj) rfl,tb_set _ hj,ofU_some]
  congr 3
  refine tb_congr fun k _ => ?_
  unfold updN
  split <;> rfl
theorem ZL.grow {h h' : H} (g : Grow h h') {b n : Nat} {Z : Nat → Int} (q : ZL h b n Z) : ZL h' b n Z := g.old _ _ q
section
variable {h0 : H} {x0 : Value} {ts : List TK} (T : Tasks h0 x0 ts) (F : Few ts)
include T F
theorem or_fill {x3 x6 : Value} {b : Nat} (hb : h0.next ≤ b) : ∀ (d i : Nat) {h : H} {Z : Nat → Int},ts.length - i = d → i ≤ ts.length → Grow h0 h → ZL h b ts.length Z → (∀ j,j < i → Z j = -1) →
    ∃ h' Z',Upd (fun y => y = b) h h' ∧ ZL h' b ts.length Z' ∧ (∀ j,j < ts.length → Z' j = -1) ∧
      F5.l12 Try.prog CLM nu0 nu0 x0 x3 x6 (.slice (some ⟨b,0,none⟩) ts.length ts.length) (.int .i64 (i : Nat)) h = F5.j15 Try.prog CLM nu0 nu0 x0 x3 x6 (.slice (some ⟨b,0,none⟩) ts.length ts.length) h' := by
  intro d
  have hn := F.n
  induction d with
  | zero =>
    intro i h Z hd hi g q hz
    refine ⟨h,Z,Upd.refl _ _,q,fun j hj => hz j (by omega),?_⟩
    rw [F5.l12_eq,(T.grow g).len,go_ok,xlss,go_ok,ifV_dec,if_neg (by omega)]
  | succ d ih =>
    intro i h Z hd hi g q hz
    have hil : i < ts.length := by omega
    obtain ⟨h1,w1,u1,q1⟩ := q.st hil (-1)
    have a1 := (q.ld (m := ts.length) (cap := ts.length) hil hil).1
    obtain ⟨h',Z',u',q',z',e'⟩ := ih (i + 1) (by omega) (by omega) (grow_then g u1 fun y hy => by rw [hy]; exact hb) q1 (fun j hj => by
      by_cases e : j = i
      · subst e; exact updN_eq
      · rw [updN_ne e]; exact hz j (by omega))
    refine ⟨h',Z',u1.trans u',q',z',?_⟩
    rw [F5.l12_eq,(T.grow g).len,go_ok,xlss,go_ok,ifV_dec,if_pos (by omega),F5.j14_eq,a1,go_ok,w1,go_ok,xadd,go_ok,wadd1 (by omega)]
    exact e'
def PosI (R : List Nat) (i : Nat) (Z : Nat → Int) : Prop := (∀ (k x : Nat),k < i → R[k]? = some x → Z x = k) ∧ ∀ x,x < R.length → x ∉ R.take i → Z x = -1
theorem or_scan {x3 x6 : Value} {R : List Nat} (io : IsOrd ts R) (hl : R.length = ts.length) {b : Nat} (hb : h0.next ≤ b) {hA : H} (gA : Grow h0 hA) (I : IL hA x3 (nl R)) (hbA : ∀ y,hA.get b = some y → False) : ∀ (d i : Nat) {h : H} {Z : Nat → Int},ts.length - i = d → i ≤ ts.length → Grow hA h → ZL h b ts.length Z → PosI R i Z →
    ∃ h' Z',Upd (fun y => y = b) h h' ∧ ZL h' b ts.length Z' ∧ PosI R ts.length Z' ∧
      F5.l16 Try.prog CLM nu0 nu0 x0 x3 x6 (.slice (some ⟨b,0,none⟩) ts.length ts.length) (.int .i64 (i : Nat)) h = F5.j21 Try.prog CLM nu0 nu0 x0 x3 x6 (.slice (some ⟨b,0,none⟩) ts.length ts.length) h' := by
  intro d
  have hn := F.n
  induction d with
  | zero =>
    intro i h Z hd hi g q hz
    have : i = ts.length := by omega
    subst this
    refine ⟨h,Z,Upd.refl _ _,q,hz,?_⟩
    rw [F5.l16_eq,(I.grow g).len,go_ok,nl_len,hl,xlss,go_ok,ifV_dec,if_neg (by omega)]
  | succ d ih =>
    intro i h Z hd hi g q hz
    have hil : i < R.length := by omega
    have hx : R[i]? = some R[i] := List.getElem?_eq_getElem hil
    obtain ⟨x,ex⟩ : ∃ x,x = R[i] := ⟨_,rfl⟩
    rw [← ex] at hx
    have hxl := io.lt (List.mem_of_getElem? hx)
    have hnd := io.nodup
    have hxn : x ∉ R.take i := (io i x hx).1.2.1
    have hzx : Z x = -1 := hz.2 x (by omega) hxn
    have I' := I.grow g
    obtain ⟨a,a1,a2⟩ := I'.at_ (i := i) (z := (x : Nat)) (by unfold nl; rw [List.getElem?_map,hx]; rfl)
    obtain ⟨c1,c2⟩ := q.ld (m := ts.length) (cap := ts.length) hxl hxl
    obtain ⟨h1,w1,u1,q1⟩ := q.st hxl (i : Nat)
    have g1 : Grow hA h1 := ⟨Nat.le_trans g.next u1.next,fun y z hy => u1.old y z (fun e => by subst e; exact hbA z hy) (g.old y z hy)⟩
    obtain ⟨h',Z',u',q',z',e'⟩ := ih (i + 1) (by omega) (by omega) g1 q1 ⟨fun k y hk hy => by
      by_cases e : k = i
      · subst e; rw [hx] at hy; cases hy; exact updN_eq
      · have hne : y ≠ x := fun z => by
          subst z
          have := nodup_at.1 hnd k i y hy hx
          omega
        rw [updN_ne hne]; exact hz.1 k y (by omega) hy,fun y hy hyn => by
      rw [List.take_add_one,hx] at hyn
      simp only [Option.toList_some,List.mem_append,List.mem_singleton,not_or] at hyn
      rw [updN_ne hyn.2]; exact hz.2 y hy hyn.1⟩
    refine ⟨h',Z',u1.trans u',q',z',?_⟩
    rw [F5.l16_eq,I'.len,go_ok,nl_len,hl,xlss,go_ok,ifV_dec,if_pos (by omega),F5.j18_eq,a1,go_ok,a2,go_ok,xlss,go_ok,ifV_dec,if_neg (by omega),a1,go_ok,a2,go_ok,(T.grow (gA.trans g)).len,go_ok,xgeq,go_ok,ifV_dec,if_neg (by omega),a1,go_ok,a2,go_ok,c1,go_ok,c2,go_ok,hzx,xgeq,go_ok,ifV_dec,if_neg (by omega),
      F5.j20_eq,a1,go_ok,a2,go_ok,c1,go_ok,w1,go_ok,xadd,go_ok,wadd1 (by omega)]
    exact e'
end
theorem ord_ahead {ts : List TK} {R : List Nat} (io : IsOrd ts R) (hl : R.length = ts.length) {Z : Nat → Int} (P : PosI R ts.length Z) {i q x y : Nat} (hx : R[i]? = some x) (hy : R[q]? = some y) (hq : q < i) {m : Int} (hm : m < q) (hz : ∀ j ∈ nd ts x,Z j ≤ m) : aLt ts (y : Int) (x : Int) = true := by
  have hil := (List.getElem?_eq_some_iff.1 hx).1
  have hnd := io.nodup
  have pk := io q y hy
  have rd : Ready ts (R.take q) x := by
    refine ⟨io.lt (List.mem_of_getElem? hx),fun z => ?_,fun k hk => ?_⟩
    · obtain ⟨p,hp⟩ := List.mem_iff_getElem?.1 z
      have hp2 : p < q := by
        have := (List.getElem?_eq_some_iff.1 hp).1
        rw [List.length_take] at this; omega
      rw [List.getElem?_take_of_lt hp2] at hp
      have := nodup_at.1 hnd p i x hp hx
      omega
    · have hb := io.before hx hk
      obtain ⟨p,hp⟩ := List.mem_iff_getElem?.1 hb
      have hp2 : p < i := by
        have := (List.getElem?_eq_some_iff.1 hp).1
        rw [List.length_take] at this; omega
      rw [List.getElem?_take_of_lt hp2] at hp
      have hz1 := P.1 p k (by omega) hp
      have hz2 := hz k hk
      refine List.mem_iff_getElem?.2 ⟨p,?_⟩
      rw [List.getElem?_take_of_lt (by omega)]
      exact hp
  rcases pk.2 x rd with e | e
  · subst e
    have := nodup_at.1 hnd q i x hy hx
    omega
  · exact e
theorem ord_needs {ts : List TK} {R : List Nat} (io : IsOrd ts R) (hl : R.length = ts.length) {Z : Nat → Int} (P : PosI R ts.length Z) {i x j : Nat} (hx : R[i]? = some x) (hj : j ∈ nd ts x) : Z j < i := by
  have hb := io.before hx hj
  obtain ⟨p,hp⟩ := List.mem_iff_getElem?.1 hb
  have hil := (List.getElem?_eq_some_iff.1 hx).1
  have hp2 : p < i := by
    have := (List.getElem?_eq_some_iff.1 hp).1
    rw [List.length_take] at this; omega
  rw [List.getElem?_take_of_lt hp2] at hp
  have := P.1 p j (by omega) hp
  omega
section
variable {h : H} {x0 x3 x6 : Value} {ts : List TK} {R : List Nat} {b : Nat} {Z : Nat → Int} (T : Tasks h x0 ts) (F : Few ts) (io : IsOrd ts R) (hl : R.length = ts.length) (I : IL h x3 (nl R)) (q : ZL h b ts.length Z) (P : PosI R ts.length Z)
include T F io hl I q P
theorem or_last {i x : Nat} (hx : R[i]? = some x) {v : Value} (N : IL h v (nl (nd ts x))) : ∀ (d k : Nat) {m : Int},(nd ts x).length - k = d → k ≤ (nd ts x).length → -1 ≤ m → m < i → (∀ j ∈ (nd ts x).take k,Z j ≤ m) →
    ∃ m' : Int,-1 ≤ m' ∧ m' < i ∧ (∀ j ∈ nd ts x,Z j ≤ m') ∧
      F5.l29 Try.prog CLM nu0 nu0 x0 x3 x6 (.slice (some ⟨b,0,none⟩) ts.length ts.length) (.int .i64 (i : Nat)) v (.int .i64 m) (.int .i64 (k : Nat)) h = F5.j32 Try.prog CLM nu0 nu0 x0 x3 x6 (.slice (some ⟨b,0,none⟩) ts.length ts.length) (.int .i64 (i : Nat)) (.int .i64 m') h := by
  have _ := T
  have _ := I
  intro d
  have hn := F.n
  have hnl := nd_len ts x
  induction d with
  | zero =>
    intro k m hd hk h1 h2 h3
    refine ⟨m,h1,h2,fun j hj => h3 j (by rw [List.take_of_length_le (by omega)]; exact hj),?_⟩
    rw [F5.l29_eq,N.len,go_ok,nl_len,xlss,go_ok,ifV_dec,if_neg (by omega)]
  | succ d ih =>
    intro k m hd hk h1 h2 h3
    have hkl : k < (nd ts x).length := by omega
    have hj : (nd ts x)[k]? = some (nd ts x)[k] := List.getElem?_eq_getElem hkl
    obtain ⟨j,ej⟩ : ∃ j,j = (nd ts x)[k] := ⟨_,rfl⟩
    rw [← ej] at hj
    have hjm := List.mem_of_getElem? hj
    have hjl := nd_lt hjm
    have hzj := ord_needs io hl P hx hjm
    obtain ⟨a,a1,a2⟩ := N.at_ (i := k) (z := (j : Nat)) (by unfold nl; rw [List.getElem?_map,hj]; rfl)
    obtain ⟨c1,c2⟩ := q.ld (m := ts.length) (cap := ts.length) hjl hjl
    obtain ⟨m',r1,r2,r3,r4⟩ := ih (k + 1) (m := if m < Z j then Z j else m) (by omega) (by omega) (by split <;> omega) (by split <;> omega) (fun y hy => by
      rw [List.take_add_one,hj] at hy
      simp only [Option.toList_some,List.mem_append,List.mem_singleton] at hy
      rcases hy with z | z
      · have := h3 y z; split <;> omega
      · subst z; split <;> omega)
    refine ⟨m',r1,r2,r3,?_⟩
    rw [F5.l29_eq,N.len,go_ok,nl_len,xlss,go_ok,ifV_dec,if_pos (by omega),F5.j31_eq,a1,go_ok,a2,go_ok,c1,go_ok,c2,go_ok,xmax,go_ok,xadd,go_ok,wadd1 (by omega)]
    exact r4
theorem or_ahead {i x : Nat} (hx : R[i]? = some x) {m : Int} (hm : -1 ≤ m) (hz : ∀ j ∈ nd ts x,Z j ≤ m) : ∀ (d k : Nat),i - k = d → k ≤ i → m < k →
    F5.l35 Try.prog CLM nu0 nu0 x0 x3 x6 (.slice (some ⟨b,0,none⟩) ts.length ts.length) (.int .i64 (i : Nat)) (.int .i64 (k : Nat)) h = F5.j23 Try.prog CLM nu0 nu0 x0 x3 x6 (.slice (some ⟨b,0,none⟩) ts.length ts.length) (.int .i64 (i : Nat)) h := by
  have _ := q
  intro d
  have hn := F.n
  have hil := (List.getElem?_eq_some_iff.1 hx).1
  induction d with
  | zero =>
    intro k hd hk h1
    rw [F5.l35_eq,xlss,go_ok,ifV_dec,if_neg (by omega)]
  | succ d ih =>
    intro k hd hk h1
    have hkl : k < R.length := by omega
    have hy : R[k]? = some R[k] := List.getElem?_eq_getElem hkl
    obtain ⟨y,ey⟩ : ∃ y,y = R[k] := ⟨_,rfl⟩
    rw [← ey] at hy
    have ea := eAheadW T (io.lt (List.mem_of_getElem? hy)) (io.lt (List.mem_of_getElem? hx))
    rw [ord_ahead io hl P hx hy (by omega) h1 hz] at ea
    obtain ⟨a,a1,a2⟩ := I.at_ (i := k) (z := (y : Nat)) (by unfold nl; rw [List.getElem?_map,hy]; rfl)
    obtain ⟨c,c1,c2⟩ := I.at_ (i := i) (z := (x : Nat)) (by unfold nl; rw [List.getElem?_map,hx]; rfl)
    rw [F5.l35_eq,xlss,go_ok,ifV_dec,if_pos (by omega),F5.j37_eq,a1,Res.ok1_ok,a2,Res.ok1_ok,c1,Res.ok1_ok,c2,Res.ok1_ok,ea,go_ok,xun_not,Res.ok1_ok,show (!true) = false from rfl,ifV_f,xadd,go_ok,wadd1 (by omega)]
    exact ih (k + 1) (by omega) (by omega) (by omega)
end
theorem oo_main {h0 : H} {x0 x3 x6 : Value} {ts : List TK} {R : List Nat} {b : Nat} {Z : Nat → Int} (T : Tasks h0 x0 ts) (F : Few ts) (io : IsOrd ts R) (hl : R.length = ts.length) (I : IL h0 x3 (nl R)) (q : ZL h0 b ts.length Z) (P : PosI R ts.length Z) : ∀ (d i : Nat) {h : H},ts.length - i = d → i ≤ ts.length → Grow h0 h →
    ∃ h',Grow h0 h' ∧ F5.l22 Try.prog CLM nu0 nu0 x0 x3 x6 (.slice (some ⟨b,0,none⟩) ts.length ts.length) (.int .i64 (i : Nat)) h = F5.j39 Try.prog CLM nu0 nu0 x0 x6 h' := by
  intro d
  have hn := F.n
  induction d with
  | zero =>
    intro i h hd hi g
    refine ⟨h,g,?_⟩
    rw [F5.l22_eq,(I.grow g).len,go_ok,nl_len,hl,xlss,go_ok,ifV_dec,if_neg (by omega)]
  | succ d ih =>
    intro i h hd hi g
    have hil : i < R.length := by omega
    have hx : R[i]? = some R[i] := List.getElem?_eq_getElem hil
    obtain ⟨x,ex⟩ : ∃ x,x = R[i] := ⟨_,rfl⟩
    rw [← ex] at hx
    have hxl := io.lt (List.mem_of_getElem? hx)
    obtain ⟨a,a1,a2⟩ := (I.grow g).at_ (i := i) (z := (x : Nat)) (by unfold nl; rw [List.getElem?_map,hx]; rfl)
    obtain ⟨h1,v,br,g1,N,_,e1⟩ := eNeeds (T.grow g) F (x : Int)
    have en : ndI ts (x : Int) = nl (nd ts x) := by unfold ndI; rw [if_pos (by omega),Int.toNat_natCast]; rfl
    rw [en] at N
    have N := N.nl.1
    have g1' := g.trans g1
    have T1 := T.grow g1'
    have e2 := eInside N (by have := nd_len ts x; omega) (n := ts.length) (fun k hk => nd_lt hk)
    obtain ⟨m,m1,m2,m3,e3⟩ := or_last (x6 := x6) T1 F io hl (I.grow g1') (q.grow g1') P hx N _ 0 (m := -1) rfl (Nat.zero_le _) (by omega) (by omega) (fun j hj => by rw [List.take_zero] at hj; cases hj)
    obtain ⟨k,hk⟩ : ∃ k : Nat,(k : Int) = m + 1 := ⟨(m + 1).toNat,by omega⟩
    have e4 := or_ahead (x6 := x6) T1 F io hl (I.grow g1') (q.grow g1') P hx m1 m3 _ k rfl (by omega) (by omega)
    obtain ⟨h',g',e'⟩ := ih (i + 1) (by omega) (by omega) g1'
    refine ⟨h',g',?_⟩
    rw [F5.l22_eq,(I.grow g).len,go_ok,nl_len,hl,xlss,go_ok,ifV_dec,if_pos (by omega),F5.j24_eq,a1,go_ok,a2,go_ok,e1,go_ok,T1.len,go_ok,e2,go_ok,xun_not,go_ok,show (!true) = false from rfl,ifV_f,F5.j27_eq,show (Value.int .i64 0) = .int .i64 ((0 : Nat) : Int) from rfl,e3,F5.j32_eq,xgeq,go_ok,ifV_dec,if_neg (by omega),F5.j34_eq,xadd,go_ok,wrap64 (by omega),← hk,e4,F5.j23_eq,xadd,go_ok,wadd1 (by omega)]
    exact e'
end Go.Proofs.Ytdadiidfhnojcaa.K
namespace Go.Proofs.Ytdadiidfhnojcaa.K
open Go Go.Kx
set_option linter.unusedVariables false
set_option linter.unusedSimpArgs false
set_option maxRecDepth 20000
theorem IsLevs.nodup {ts : List TK} {L : Nat → Nat} {ls : List (List Nat)} (V : IsLevs ts L ls) {l : List Nat} (hl : l ∈ ls) : l.Nodup := (V.s l hl).imp fun {a b} z e => by
  subst e; rw [aLt_irrefl] at z; cases z
structure Seen (ts : List TK) (L : Nat → Nat) (ls : List (List Nat)) (i k : Nat) (S : List Nat) : Prop where
  d : S.Nodup
  m : ∀ p,p ∈ S ↔ p < ts.length ∧ (L p < i ∨ p ∈ ((ls[i]?).getD []).take k)
theorem Seen.len {ts : List TK} {L : Nat → Nat} {ls : List (List Nat)} {i k : Nat} {S : List Nat} (s : Seen ts L ls i k S) : S.length ≤ ts.length := by
  have := List.Nodup.length_le_of_subset s.d (l₂ := List.range ts.length) fun p hp => List.mem_range.2 ((s.m p).1 hp).1
  simpa using this
theorem Seen.nil (ts : List TK) (L : Nat → Nat) (ls : List (List Nat)) : Seen ts L ls 0 0 [] := ⟨List.Pairwise.nil,fun p => by simp⟩
theorem Seen.not {ts : List TK} {L : Nat → Nat} {ls : List (List Nat)} (V : IsLevs ts L ls) {i k p : Nat} {l S : List Nat} (hl : ls[i]? = some l) (hp : l[k]? = some p) (s : Seen ts L ls i k S) : p ∉ S := fun z => by
  rcases ((s.m p).1 z).2 with w | w
  · have := ((V.m i l hl p).1 (List.mem_of_getElem? hp)).2; omega
  · rw [hl,Option.getD_some] at w
    obtain ⟨q,hq⟩ := List.mem_iff_getElem?.1 w
    have hq2 : q < k := by
      have := (List.getElem?_eq_some_iff.1 hq).1
      rw [List.length_take] at this; omega
    rw [List.getElem?_take_of_lt hq2] at hq
    have := nodup_at.1 (V.nodup (List.mem_of_getElem? hl)) q k p hq hp
    omega
theorem Seen.snoc {ts : List TK} {L : Nat → Nat} {ls : List (List Nat)} (V : IsLevs ts L ls) {i k p : Nat} {l S : List Nat} (hl : ls[i]? = some l) (hp : l[k]? = some p) (s : Seen ts L ls i k S) : Seen ts L ls i (k + 1) (S ++ [p]) := by
  refine ⟨List.nodup_append.2 ⟨s.d,List.pairwise_singleton _ _,fun a ha b hb e => ?_⟩,fun x => ?_⟩
  · simp only [List.mem_singleton] at hb
    subst hb e
    exact s.not V hl hp ha
  · rw [List.mem_append,List.mem_singleton,s.m,hl,Option.getD_some,List.take_add_one,hp,Option.toList_some,List.mem_append,List.mem_singleton]
    have hpl := ((V.m i l hl p).1 (List.mem_of_getElem? hp)).1
    constructor
    · rintro (⟨a,b | b⟩ | rfl)
      · exact ⟨a,.inl b⟩
      · exact ⟨a,.inr (.inl b)⟩
      · exact ⟨hpl,.inr (.inr rfl)⟩
    · rintro ⟨a,b | b | rfl⟩
      · exact .inl ⟨a,.inl b⟩
      · exact .inl ⟨a,.inr b⟩
      · exact .inr rfl
theorem Seen.next {ts : List TK} {L : Nat → Nat} {ls : List (List Nat)} (V : IsLevs ts L ls) {i : Nat} {l S : List Nat} (hl : ls[i]? = some l) (s : Seen ts L ls i l.length S) : Seen ts L ls (i + 1) 0 S := by
  refine ⟨s.d,fun x => ?_⟩
  rw [s.m,hl,Option.getD_some,List.take_length,List.take_zero]
  constructor
  · rintro ⟨a,b | b⟩
    · exact ⟨a,.inl (by omega)⟩
    · have := (V.m i l hl x).1 b; exact ⟨a,.inl (by omega)⟩
  · rintro ⟨a,b | b⟩
    · by_cases e : L x = i
      · exact ⟨a,.inr ((V.m i l hl x).2 ⟨a,e⟩)⟩
      · exact ⟨a,.inl (by omega)⟩
    · cases b
theorem Seen.all {ts : List TK} {L : Nat → Nat} {ls : List (List Nat)} (V : IsLevs ts L ls) {S : List Nat} (s : Seen ts L ls ls.length 0 S) : S.length = ts.length := by
  refine Nat.le_antisymm s.len ?_
  have := List.Nodup.length_le_of_subset (l₁ := List.range ts.length) List.nodup_range (l₂ := S) fun p hp => (s.m p).2 ⟨List.mem_range.1 hp,.inl (V.a p (List.mem_range.1 hp))⟩
  simpa using this
def seenT (L : Nat → Nat) (S : List Nat) (p : Nat) : Nat := if p ∈ S then L p + 1 else 0
theorem seenT_snoc (L : Nat → Nat) (S : List Nat) (x p : Nat) : updN (seenT L S) x (L x + 1) p = seenT L (S ++ [x]) p := by
  unfold updN seenT
  by_cases e : p = x
  · subst e; simp
  · simp [e]
section
variable {hA : H} {x0 x1 : Value} {ts : List TK} {L : Nat → Nat} {ls : List (List Nat)} {hL : H} {bo : Option Nat} {w : Nat → Value × Option Nat} (T : Tasks hA x0 ts) (F : Few ts) (V : IsLevs ts L ls) (J : LvO hL hA x1 bo ls.length w fun k => (ls[k]?).getD [])
include T F V J
theorem lv_row {i : Nat} {l : List Nat} (hl : ls[i]? = some l) : ∀ (d k : Nat) {h : H} {S : List Nat},l.length - k = d → k ≤ l.length → Grow hA h → AL h hA.next ts.length false (seenT L S) → Seen ts L ls i k S →
    ∃ h' S',Grow hA h' ∧ AL h' hA.next ts.length false (seenT L S') ∧ Seen ts L ls i l.length S' ∧
      F27.l9 Try.prog CLM nu0 nu0 x0 x1 (.slice (some ⟨hA.next,0,none⟩) ts.length ts.length) (.int .i64 (S.length : Nat)) (.int .i64 (i : Nat)) (.int .i64 (k : Nat)) h = F27.j5 Try.prog CLM nu0 nu0 x0 x1 (.slice (some ⟨hA.next,0,none⟩) ts.length ts.length) (.int .i64 (S'.length : Nat)) (.int .i64 (i : Nat)) h' := by
  intro d
  have hn := F.n
  have hil := (List.getElem?_eq_some_iff.1 hl).1
  have hll : l.length ≤ ts.length := (levs_len V).2 l (List.mem_of_getElem? hl)
  have hls := (levs_len V).1
  induction d with
  | zero =>
    intro k h S hd hk g q s
    have : k = l.length := by omega
    subst this
    have J' := J.grow g
    obtain ⟨a,a1,a2,_⟩ := J'.ld hil
    have o := (J'.ol i hil).1
    rw [hl,Option.getD_some] at o
    refine ⟨h,S,g,q,s,?_⟩
    rw [F27.l9_eq,a1,go_ok,a2 _ (Grow.refl h),go_ok,o.il.len,go_ok,nl_len,xlss,go_ok,ifV_dec,if_neg (by omega)]
  | succ d ih =>
    intro k h S hd hk g q s
    have hkl : k < l.length := by omega
    have hp : l[k]? = some l[k] := List.getElem?_eq_getElem hkl
    obtain ⟨p,ep⟩ : ∃ p,p = l[k] := ⟨_,rfl⟩
    rw [← ep] at hp
    have hpl := (V.m i l hl p).1 (List.mem_of_getElem? hp)
    have J' := J.grow g
    obtain ⟨a,a1,a2,_⟩ := J'.ld hil
    have o := (J'.ol i hil).1
    rw [hl,Option.getD_some] at o
    obtain ⟨b,b1,b2⟩ := o.il.at_ (i := k) (z := (p : Nat)) (by unfold nl; rw [List.getElem?_map,hp]; rfl)
    obtain ⟨c1,c2⟩ := q.ld (m := ts.length) (cap := ts.length) hpl.1 hpl.1
    have hz : seenT L S p = 0 := if_neg (s.not V hl hp)
    rw [hz] at c2
    obtain ⟨h1,w1,u1,q1⟩ := q.st hpl.1 (i + 1)
    have g1 : Grow hA h1 := grow_then g u1 fun y hy => by rw [hy]; exact Nat.le_refl _
    have q1 := q1.congr (L' := seenT L (S ++ [p])) fun y _ => by rw [← hpl.2]; exact seenT_snoc L S p y
    have hSl := s.len
    obtain ⟨h',S',r1,r2,r3,r4⟩ := ih (k + 1) (by omega) (by omega) g1 q1 (s.snoc V hl hp)
    rw [List.length_append,List.length_singleton] at r4
    have w1' : xstore Try.prog 3 (.pointer (some ⟨hA.next,0 + p * 1,none⟩)) (.int .i64 ((i + 1 : Nat) : Int)) h = .ok undef h1 := w1
    have nxt : ∀ z1 z2 z3 z4 z5 z6 z7 z8 z9 z10 z11 z12 z13 z14 z15 z16 z17 z18 z19 z20 z21 z22 z23 z24 z25 : Value,F27.j14 Try.prog CLM nu0 nu0 x0 x1 (.slice (some ⟨hA.next,0,none⟩) ts.length ts.length) (.int .i64 (S.length : Nat)) (.int .i64 (i : Nat)) (.int .i64 (k : Nat)) (.int .i64 (p : Nat)) z1 z2 z3 z4 z5 z6 z7 z8 z9 z10 z11 z12 z13 z14 z15 z16 z17 z18 z19 z20 z21 z22 z23 z24 z25 h = F27.j5 Try.prog CLM nu0 nu0 x0 x1 (.slice (some ⟨hA.next,0,none⟩) ts.length ts.length) (.int .i64 (S'.length : Nat)) (.int .i64 (i : Nat)) h' := by
      intros
      rw [F27.j14_eq,xadd,go_ok,wadd1 (by omega),c1,go_ok,w1',go_ok,xadd,go_ok,wadd1 (by omega),xadd,go_ok,wadd1 (by omega)]
      exact r4
    refine ⟨h',S',r1,r2,r3,?_⟩
    rw [F27.l9_eq,a1,go_ok,a2 _ (Grow.refl h),go_ok,o.il.len,go_ok,nl_len,xlss,go_ok,ifV_dec,if_pos (by omega),F27.j11_eq,a1,go_ok,a2 _ (Grow.refl h),go_ok,b1,go_ok,b2,go_ok,xlss,go_ok,ifV_dec,if_neg (by omega),(T.grow g).len,go_ok,xgeq,go_ok,ifV_dec,if_neg (by omega),c1,go_ok,c2,go_ok,xneq,go_ok,ifV_not,if_pos (show ((0 : Nat) : Int) = 0 from rfl),xgtr,go_ok,ifV_dec]
    by_cases hk0 : k = 0
    · rw [if_neg (by omega)]
      exact nxt ..
    · rw [if_pos (by omega)]
      obtain ⟨k',rfl⟩ : ∃ k',k = k' + 1 := ⟨k - 1,by omega⟩
      have hq : l[k']? = some l[k'] := List.getElem?_eq_getElem (by omega)
      obtain ⟨x,ex⟩ : ∃ x,x = l[k'] := ⟨_,rfl⟩
      rw [← ex] at hq
      have hql := (V.m i l hl x).1 (List.mem_of_getElem? hq)
      obtain ⟨c,d1,d2⟩ := o.il.at_ (i := k') (z := (x : Nat)) (by unfold nl; rw [List.getElem?_map,hq]; rfl)
      have ea := eAheadW (T.grow g) hql.1 hpl.1
      have hlt : aLt ts (x : Int) (p : Int) = true := by
        have := List.pairwise_iff_getElem.1 (V.s l (List.mem_of_getElem? hl)) k' (k' + 1) (by omega) hkl (by omega)
        rw [ex,ep]; exact this
      rw [hlt] at ea
      rw [a1,go_ok,a2 _ (Grow.refl h),go_ok,xsub,go_ok,show IntKind.i64.wrap (((k' + 1 : Nat) : Int) - 1) = ((k' : Nat) : Int) by rw [wrap64 (by omega)]; omega,d1,go_ok,d2,go_ok,ea,go_ok,xun_not,go_ok,show (!true) = false from rfl,ifV_f]
      exact nxt ..
theorem lv_all : ∀ (d i : Nat) {h : H} {S : List Nat},ls.length - i = d → i ≤ ls.length → Grow hA h → AL h hA.next ts.length false (seenT L S) → Seen ts L ls i 0 S →
    ∃ h' S',Grow hA h' ∧ AL h' hA.next ts.length false (seenT L S') ∧ Seen ts L ls ls.length 0 S' ∧
      F27.l4 Try.prog CLM nu0 nu0 x0 x1 (.slice (some ⟨hA.next,0,none⟩) ts.length ts.length) (.int .i64 (S.length : Nat)) (.int .i64 (i : Nat)) h = F27.j16 Try.prog CLM nu0 nu0 x0 (.slice (some ⟨hA.next,0,none⟩) ts.length ts.length) (.int .i64 (S'.length : Nat)) h' := by
  intro d
  have hn := F.n
  have hls := (levs_len V).1
  induction d with
  | zero =>
    intro i h S hd hi g q s
    have : i = ls.length := by omega
    subst this
    refine ⟨h,S,g,q,s,?_⟩
    rw [F27.l4_eq,(J.grow g).len,go_ok,xlss,go_ok,ifV_dec,if_neg (by omega)]
  | succ d ih =>
    intro i h S hd hi g q s
    have hil : i < ls.length := by omega
    have hl : ls[i]? = some ls[i] := List.getElem?_eq_getElem hil
    obtain ⟨l,el⟩ : ∃ l,l = ls[i] := ⟨_,rfl⟩
    rw [← el] at hl
    have J' := J.grow g
    obtain ⟨a,a1,a2,_⟩ := J'.ld hil
    have o := (J'.ol i hil).1
    rw [hl,Option.getD_some] at o
    have hne : l.length ≠ 0 := fun z => V.ne l (List.mem_of_getElem? hl) (List.length_eq_zero_iff.1 z)
    obtain ⟨h1,S1,g1,q1,s1,e1⟩ := lv_row T F V J hl _ 0 rfl (Nat.zero_le _) g q s
    obtain ⟨h',S',r1,r2,r3,r4⟩ := ih (i + 1) (by omega) (by omega) g1 q1 (s1.next V hl)
    refine ⟨h',S',r1,r2,r3,?_⟩
    rw [F27.l4_eq,J'.len,go_ok,xlss,go_ok,ifV_dec,if_pos (by omega),F27.j6_eq,a1,go_ok,a2 _ (Grow.refl h),go_ok,o.il.len,go_ok,nl_len,xeql,go_ok,ifV_dec,if_neg (by omega),F27.j8_eq,show (Value.int .i64 0) = .int .i64 ((0 : Nat) : Int) from rfl,e1,F27.j5_eq,xadd,go_ok,wadd1 (by omega)]
    exact r4
end
theorem lv_top {h : H} {x0 x6 z1 z2 z3 z4 : Value} {ts : List TK} {L A : Nat → Nat} {b p : Nat} (F : Few ts) (V : IsLev ts L) (hA : ∀ j,j < ts.length → A j = L j + 1) (hL : ∀ j,j < ts.length → L j < 3000) (q : AL h b ts.length false A) {v : Value} (N : IL h v (nl (nd ts p))) : ∀ (d k a : Nat),(nd ts p).length - k = d → k ≤ (nd ts p).length → a ≤ 3000 →
    F27.l24 Try.prog CLM nu0 nu0 x0 (.slice (some ⟨b,0,none⟩) ts.length ts.length) x6 (.int .i64 (p : Nat)) v (.int .i64 (a : Nat)) (.int .i64 (k : Nat)) z1 z2 z3 z4 h =
      F27.j27 Try.prog CLM nu0 nu0 x0 (.slice (some ⟨b,0,none⟩) ts.length ts.length) x6 (.int .i64 (p : Nat)) (.int .i64 ((((nd ts p).drop k).foldl (fun a j => max a (L j + 1)) a : Nat) : Int)) z1 z2 z3 z4 h := by
  intro d
  have hn := F.n
  have hnl := nd_len ts p
  induction d with
  | zero =>
    intro k a hd hk ha
    rw [List.drop_of_length_le (by omega),List.foldl_nil,F27.l24_eq,N.len,go_ok,nl_len,xlss,go_ok,ifV_dec,if_neg (by omega)]
  | succ d ih =>
    intro k a hd hk ha
    have hkl : k < (nd ts p).length := by omega
    have hj : (nd ts p)[k]? = some (nd ts p)[k] := List.getElem?_eq_getElem hkl
    rw [List.drop_eq_getElem_cons hkl]
    obtain ⟨j,ej⟩ : ∃ j,j = (nd ts p)[k] := ⟨_,rfl⟩
    rw [← ej] at hj ⊢
    have hjl := nd_lt (List.mem_of_getElem? hj)
    obtain ⟨c,c1,c2⟩ := N.at_ (i := k) (z := (j : Nat)) (by unfold nl; rw [List.getElem?_map,hj]; rfl)
    obtain ⟨e1,e2⟩ := q.ld (m := ts.length) (cap := ts.length) hjl hjl
    have hj3 := hL j hjl
    rw [hA j hjl] at e2
    have hmx : (if (a : Int) < ((L j + 1 : Nat) : Int) then ((L j + 1 : Nat) : Int) else (a : Int)) = ((max a (L j + 1) : Nat) : Int) := by
      split
      · rw [Nat.max_eq_right (by omega)]
      · rw [Nat.max_eq_left (by omega)]
    rw [List.foldl_cons,F27.l24_eq,N.len,go_ok,nl_len,xlss,go_ok,ifV_dec,if_pos (by omega),F27.j26_eq,c1,go_ok,c2,go_ok,e1,go_ok,e2,go_ok,xmax,go_ok,hmx,xadd,go_ok,wadd1 (by omega)]
    exact ih (k + 1) _ (by omega) (by omega) (by have := Nat.max_le.2 ⟨ha,(show L j + 1 ≤ 3000 by omega)⟩; exact this)
theorem lv_end {h0 : H} {x0 : Value} {ts : List TK} {L A : Nat → Nat} {b : Nat} (T : Tasks h0 x0 ts) (F : Few ts) (V : IsLev ts L) (hA : ∀ j,j < ts.length → A j = L j + 1) (hL : ∀ j,j < ts.length → L j < 3000) (q : AL h0 b ts.length false A) : ∀ (d p : Nat) {h : H},ts.length - p = d → p ≤ ts.length → Grow h0 h →
    ∃ h',Grow h0 h' ∧ F27.l17 Try.prog CLM nu0 nu0 x0 (.slice (some ⟨b,0,none⟩) ts.length ts.length) (.int .i64 (ts.length : Nat)) (.int .i64 (p : Nat)) h = .ok (.bool true) h' := by
  intro d
  have hn := F.n
  induction d with
  | zero =>
    intro p h hd hp g
    refine ⟨h,g,?_⟩
    rw [F27.l17_eq,(T.grow g).len,go_ok,xlss,go_ok,ifV_dec,if_neg (by omega),F27.j29_eq,(T.grow g).len,go_ok,xeql,go_ok,decide_eq_true rfl]
  | succ d ih =>
    intro p h hd hp g
    have hpl : p < ts.length := by omega
    obtain ⟨h1,v,br,g1,N,_,e1⟩ := eNeeds (T.grow g) F (p : Int)
    have en : ndI ts (p : Int) = nl (nd ts p) := by unfold ndI; rw [if_pos (by omega),Int.toNat_natCast]; rfl
    rw [en] at N
    have N := N.nl.1
    have G1 := g.trans g1
    have e2 := eInside N (by have := nd_len ts p; omega) (n := ts.length) (fun k hk => nd_lt hk)
    have q1 : AL h1 b ts.length false A := G1.old _ _ q
    have hlv : (nd ts p).foldl (fun a j => max a (L j + 1)) 0 = L p := (V p hpl).symm
    have e3 := fun z1 z2 z3 z4 => lv_top (x0 := x0) (x6 := .int .i64 (ts.length : Nat)) (z1 := z1) (z2 := z2) (z3 := z3) (z4 := z4) F V hA hL q1 N _ 0 0 rfl (Nat.zero_le _) (by omega)
    obtain ⟨c1,c2⟩ := q1.ld (m := ts.length) (cap := ts.length) hpl hpl
    rw [hA p hpl] at c2
    have hlp := hL p hpl
    obtain ⟨h',g',e'⟩ := ih (p + 1) (by omega) (by omega) G1
    refine ⟨h',g',?_⟩
    rw [F27.l17_eq,(T.grow g).len,go_ok,xlss,go_ok,ifV_dec,if_pos (by omega),(T.grow g).len,go_ok,xeql,go_ok,ifV_dec,if_pos rfl,F27.j19_eq,e1,go_ok,(T.grow G1).len,go_ok,e2,go_ok,xun_not,go_ok,show (!true) = false from rfl,ifV_f,F27.j22_eq,show (Value.int .i64 0) = .int .i64 ((0 : Nat) : Int) from rfl,e3,List.drop_zero,hlv,F27.j27_eq,c1,go_ok,c2,go_ok,xadd,go_ok,wadd1 (by omega),xneq,go_ok,ifV_not,if_pos rfl,F27.j18_eq,xadd,go_ok,wadd1 (by omega)]
    exact e'
theorem eLeveled {h0 : H} {x0 x1 : Value} {ts : List TK} {L : Nat → Nat} {ls : List (List Nat)} (T : Tasks h0 x0 ts) (F : Few ts) (V : IsLevs ts L ls) (J : LvV h0 x1 ls) : ∃ h',Grow h0 h' ∧ CLM (.f 27) [x0,x1] h0 = .ok (.bool true) h' := by
  have hn := F.n
  obtain ⟨hL,bo,w,J⟩ := J
  obtain ⟨h1,e1,g1,q1,_⟩ := AL.new (n := ts.length) (by omega) h0
  have q1' := q1.congr (L' := seenT L []) fun k _ => (if_neg (by simp)).symm
  obtain ⟨h2,S,g2,q2,s2,e2⟩ := lv_all T F V J _ 0 rfl (Nat.zero_le _) g1 q1' (Seen.nil ts L ls)
  have hS := s2.all V
  have hin : ∀ j,j < ts.length → seenT L S j = L j + 1 := fun j hj => if_pos ((s2.m j).2 ⟨hj,.inl (V.a j hj)⟩)
  have hls := (levs_len V).1
  obtain ⟨h3,g3,e3⟩ := lv_end (T.grow g2) F V.lv hin (fun j hj => by have := V.a j hj; omega) q2 _ 0 rfl (Nat.zero_le _) (Grow.refl h2)
  refine ⟨h3,g2.trans g3,?_⟩
  rw [List.length_nil] at e2
  rw [hS] at e2
  rw [cM27,F27.eq,T.len,go_ok,e1,go_ok,show (Value.int .i64 0) = .int .i64 ((0 : Nat) : Int) from rfl,e2,F27.j16_eq,show (Value.int .i64 0) = .int .i64 ((0 : Nat) : Int) from rfl]
  exact e3
end Go.Proofs.Ytdadiidfhnojcaa.K
