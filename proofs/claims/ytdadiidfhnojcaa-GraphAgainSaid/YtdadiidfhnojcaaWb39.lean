/- Proved here: GraphAgain: for every input the call tells true, and what it was handed reads as it did. Conditions: none beyond those of the given row. -/
import Derived.Test.YtdadiidfhnojcaaChecked
import Derived.Test.YtdadiidfhnojcaaRows
import Derived.Test.YtdadiidfhnojcaaWb38
namespace Go.Proofs.Ytdadiidfhnojcaa.K
open Go Go.Kx
set_option linter.unusedVariables false
set_option linter.unusedSimpArgs false
set_option maxRecDepth 20000
def bsX : ByteArray := ⟨#[120]⟩
def bsY : ByteArray := ⟨#[121]⟩
def bsA : ByteArray := ⟨#[97]⟩
def bsB : ByteArray := ⟨#[98]⟩
def bsC : ByteArray := ⟨#[99]⟩
def bsP : ByteArray := ⟨#[112]⟩
def bsT : ByteArray := ⟨#[116]⟩
def bsA2 : ByteArray := ⟨#[97,50]⟩
def bsSrc : ByteArray := ⟨#[115,114,99]⟩
def ts4 : List TK := [⟨bsB,0,[],[bsX]⟩,⟨bsA,0,[bsX],[bsY]⟩,⟨bsC,0,[bsY,bsX,bsSrc],[]⟩,⟨bsA2,0,[],[]⟩]
def ts1 : List TK := [⟨bsT,0,[bsP],[bsP]⟩]
theorem nd4 : nd ts4 0 = [] ∧ nd ts4 1 = [0] ∧ nd ts4 2 = [0,1] ∧ nd ts4 3 = [] := by decide +kernel
theorem nd1 : nd ts1 0 = [0] := by decide +kernel
theorem nd_out {ts : List TK} {i : Nat} (h : ts.length ≤ i) : nd ts i = [] := by
  cases e : nd ts i with
  | nil => rfl
  | cons a l =>
    have := need_out (nd_mem.1 (show a ∈ nd ts i by rw [e]; simp)).2
    omega
theorem few4 : Few ts4 := ⟨by decide,by decide +kernel,by decide +kernel,by decide +kernel⟩
theorem few1 : Few ts1 := ⟨by decide,by decide +kernel,by decide +kernel,by decide +kernel⟩
theorem noC_of {ts : List TK} (h : ∀ i j,j ∈ nd ts i → j < i) : NoC ts := by
  have all : ∀ {a b},Path (nd ts) a b → b < a := by
    intro a b p
    induction p with
    | one e => exact h _ _ e
    | cons e _ ih => have := h _ _ e; omega
  intro k hk
  exact Nat.lt_irrefl _ (all hk)
theorem noC4 : NoC ts4 := noC_of fun i j hj => by
  obtain ⟨n0,n1,n2,n3⟩ := nd4
  match i with
  | 0 => rw [n0] at hj; cases hj
  | 1 => rw [n1] at hj; simp at hj; omega
  | 2 => rw [n2] at hj; simp at hj; omega
  | 3 => rw [n3] at hj; cases hj
  | i + 4 => rw [nd_out (by show 4 ≤ i + 4; omega)] at hj; cases hj
theorem cyc1 : CycMin ts1 0 := ⟨by decide,.one (by show (0 : Nat) ∈ nd ts1 0; rw [nd1]; simp),fun j hj => by
  have := OnC_lt hj
  have hj0 : j = 0 := by have h1 : ts1.length = 1 := rfl; omega
  subst hj0; exact aLt_irrefl _ _⟩
def readyB (ts : List TK) (R : List Nat) (j : Nat) : Bool := decide (j < ts.length) && (decide (j ∉ R) && (nd ts j).all fun k => decide (k ∈ R))
theorem readyB_iff {ts : List TK} {R : List Nat} {j : Nat} : readyB ts R j = true ↔ Ready ts R j := by
  unfold readyB Ready
  rw [Bool.and_eq_true,Bool.and_eq_true,decide_eq_true_iff,decide_eq_true_iff,ready_all]
def pickB (ts : List TK) (R : List Nat) (x : Nat) : Bool := readyB ts R x && (List.range ts.length).all fun j => !readyB ts R j || (decide (j = x) || aLt ts (x : Int) (j : Int))
theorem pickB_ok {ts : List TK} {R : List Nat} {x : Nat} (h : pickB ts R x = true) : Pick ts R x := by
  unfold pickB at h
  rw [Bool.and_eq_true,List.all_eq_true] at h
  refine ⟨readyB_iff.1 h.1,fun j hj => ?_⟩
  have := h.2 j (List.mem_range.2 hj.1)
  rw [readyB_iff.2 hj] at this
  simp only [Bool.not_true,Bool.false_or,Bool.or_eq_true,decide_eq_true_eq] at this
  exact this
theorem pk4 : pickB ts4 [] 3 = true ∧ pickB ts4 [3] 0 = true ∧ pickB ts4 [3,0] 1 = true ∧ pickB ts4 [3,0,1] 2 = true := by decide +kernel
theorem ord4 : IsOrd ts4 [3,0,1,2] := fun k x h => by
  obtain ⟨p0,p1,p2,p3⟩ := pk4
  match k with
  | 0 => cases h; exact pickB_ok p0
  | 1 => cases h; exact pickB_ok p1
  | 2 => cases h; exact pickB_ok p2
  | 3 => cases h; exact pickB_ok p3
  | k + 4 => simp at h
theorem bOut (s : ByteArray) (h : H) : xbuild Try.prog 63 [(0,.string s)] h = .ok (.agg ⟨.string s :: zc63.drop 1⟩) h := by kernel_rfl
theorem bOuts (s : ByteArray) (h : H) : xbuildSlice Try.prog 53 1 [(0,.agg ⟨.string s :: zc63.drop 1⟩)] h = .ok (.slice (some ⟨h.next,0,none⟩) 1 1) (h.alloc (.cells (.string s :: zc63.drop 1) 63 0 false)) := by kernel_rfl
theorem oneOut {h : H} {b : Nat} {s : ByteArray} (g : h.get b = some (.cells (.string s :: zc63.drop 1) 63 0 false)) : OutSl h (.slice (some ⟨b,0,none⟩) 1 1) [s] := by
  have hl : (Value.string s :: zc63.drop 1).length = 6 := by simp [zc63_len]
  have ho : ones (Value.string s :: zc63.drop 1) = true := by
    show (true && ones (zc63.drop 1)) = true
    rw [ones_drop zc63_ones]; rfl
  refine ⟨[.string s :: zc63.drop 1],⟨GoodR.one hl ho,.inr ⟨b,0,none,1,rfl,_,_,_,_,g,by simp,by simp only [List.drop_zero,List.flatten_cons,List.flatten_nil,List.append_nil]; exact List.take_length⟩⟩,rfl⟩
theorem someStr {h : H} {b : Nat} {l : List ByteArray} (g : h.get b = some (.cells (l.map fun s => .string s) 9 0 false)) : StrSl h (.slice (some ⟨b,0,none⟩) l.length l.length) l := by
  have e : (l.map fun s => [Value.string s]).flatten = l.map fun s => .string s := by
    clear g
    induction l with
    | nil => rfl
    | cons a l ih => simp only [List.map_cons,List.flatten_cons,ih]; rfl
  refine ⟨sr_good l,.inr ⟨b,0,none,l.length,by rw [List.length_map],_,_,_,_,g,?_,?_⟩⟩
  · rw [e]; omega
  · rw [e,List.drop_zero,List.take_length]
theorem nilStr (h : H) : StrSl h (.slice none 0 0) [] := ⟨GoodR.nil,.inl ⟨Nul.nil,rfl⟩⟩
theorem nilOut (h : H) : OutSl h (.slice none 0 0) [] := ⟨[],⟨GoodR.nil,.inl ⟨Nul.nil,rfl⟩⟩,rfl⟩
theorem bT (n : ByteArray) (h : H) : xbuild Try.prog 55 [(0,.string n)] h = .ok (.agg ⟨[.string n,.int .i64 0,.slice none 0 0,.slice none 0 0]⟩) h := by kernel_rfl
theorem bTo (n : ByteArray) (b c d : Nat) (h : H) : xbuild Try.prog 55 [(0,.string n),(3,.slice (some ⟨b,0,none⟩) c d)] h = .ok (.agg ⟨[.string n,.int .i64 0,.slice none 0 0,.slice (some ⟨b,0,none⟩) c d]⟩) h := by kernel_rfl
theorem bTi (n : ByteArray) (b c d : Nat) (h : H) : xbuild Try.prog 55 [(0,.string n),(2,.slice (some ⟨b,0,none⟩) c d)] h = .ok (.agg ⟨[.string n,.int .i64 0,.slice (some ⟨b,0,none⟩) c d,.slice none 0 0]⟩) h := by kernel_rfl
theorem bTio (n : ByteArray) (b c d b' c' d' : Nat) (h : H) : xbuild Try.prog 55 [(0,.string n),(2,.slice (some ⟨b,0,none⟩) c d),(3,.slice (some ⟨b',0,none⟩) c' d')] h = .ok (.agg ⟨[.string n,.int .i64 0,.slice (some ⟨b,0,none⟩) c d,.slice (some ⟨b',0,none⟩) c' d']⟩) h := by kernel_rfl
theorem bS1 (s : ByteArray) (h : H) : xbuildSlice Try.prog 52 1 [(0,.string s)] h = .ok (.slice (some ⟨h.next,0,none⟩) 1 1) (h.alloc (.cells [.string s] 9 0 false)) := by kernel_rfl
theorem bS3 (s t u : ByteArray) (h : H) : xbuildSlice Try.prog 52 3 [(0,.string s),(1,.string t),(2,.string u)] h = .ok (.slice (some ⟨h.next,0,none⟩) 3 3) (h.alloc (.cells [.string s,.string t,.string u] 9 0 false)) := by kernel_rfl
def tr (n : ByteArray) (i o : Value) : List Value := [.string n,.int .i64 0,i,o]
def sv (b n : Nat) : Value := .slice (some ⟨b,0,none⟩) n n
theorem tr_good {n : ByteArray} {i o : Value} (hi : i.oneCell' = true) (ho : o.oneCell' = true) : (tr n i o).length = 4 ∧ ones (tr n i o) = true := ⟨rfl,by
  show (true && (true && (i.oneCell' && (o.oneCell' && true)))) = true
  rw [hi,ho]; rfl⟩
theorem lay4 (h : H) : ∃ h' v,Grow h h' ∧ Tasks h' v ts4 ∧ ∀ K : Value → H → Res Value,
    ((xbuild Try.prog 63 [(0,.string bsX)] h).go .pan fun t1 h2 => (xbuildSlice Try.prog 53 1 [(0,t1)] h2).go .pan fun t3 h4 => (xbuild Try.prog 55 [(0,.string bsB),(3,t3)] h4).go .pan fun t5 h6 => (xbuildSlice Try.prog 52 1 [(0,.string bsX)] h6).go .pan fun t7 h8 => (xbuild Try.prog 63 [(0,.string bsY)] h8).go .pan fun t9 h10 => (xbuildSlice Try.prog 53 1 [(0,t9)] h10).go .pan fun t11 h12 =>
      (xbuild Try.prog 55 [(0,.string bsA),(2,t7),(3,t11)] h12).go .pan fun t13 h14 => (xbuildSlice Try.prog 52 3 [(0,.string bsY),(1,.string bsX),(2,.string bsSrc)] h14).go .pan fun t15 h16 => (xbuild Try.prog 55 [(0,.string bsC),(2,t15)] h16).go .pan fun t17 h18 => (xbuild Try.prog 55 [(0,.string bsA2)] h18).go .pan fun t19 h20 => (xbuildSlice Try.prog 22 4 [(0,t5),(1,t13),(2,t17),(3,t19)] h20).go .pan K) = K v h' := by
  obtain ⟨h1,e1⟩ : ∃ h1,h1 = h.alloc (.cells (.string bsX :: zc63.drop 1) 63 0 false) := ⟨_,rfl⟩
  obtain ⟨h2,e2⟩ : ∃ h2,h2 = h1.alloc (.cells [.string bsX] 9 0 false) := ⟨_,rfl⟩
  obtain ⟨h3,e3⟩ : ∃ h3,h3 = h2.alloc (.cells (.string bsY :: zc63.drop 1) 63 0 false) := ⟨_,rfl⟩
  obtain ⟨h4,e4⟩ : ∃ h4,h4 = h3.alloc (.cells [.string bsY,.string bsX,.string bsSrc] 9 0 false) := ⟨_,rfl⟩
  obtain ⟨h5,e5⟩ : ∃ h5,h5 = h4.alloc (.cells (tr bsB (.slice none 0 0) (sv h.next 1) ++ (tr bsA (sv h1.next 1) (sv h2.next 1) ++ (tr bsC (sv h3.next 3) (.slice none 0 0) ++ tr bsA2 (.slice none 0 0) (.slice none 0 0)))) 55 0 false) := ⟨_,rfl⟩
  have g1 : Grow h h1 := by rw [e1]; exact (Grow.refl h).alloc _
  have g2 : Grow h1 h2 := by rw [e2]; exact (Grow.refl h1).alloc _
  have g3 : Grow h2 h3 := by rw [e3]; exact (Grow.refl h2).alloc _
  have g4 : Grow h3 h4 := by rw [e4]; exact (Grow.refl h3).alloc _
  have g5 : Grow h4 h5 := by rw [e5]; exact (Grow.refl h4).alloc _
  have b1 : h5.get h.next = some (.cells (.string bsX :: zc63.drop 1) 63 0 false) := g5.old _ _ (g4.old _ _ (g3.old _ _ (g2.old _ _ (by rw [e1]; exact H.alloc_self _ _))))
  have b2 : h5.get h1.next = some (.cells [.string bsX] 9 0 false) := g5.old _ _ (g4.old _ _ (g3.old _ _ (by rw [e2]; exact H.alloc_self _ _)))
  have b3 : h5.get h2.next = some (.cells (.string bsY :: zc63.drop 1) 63 0 false) := g5.old _ _ (g4.old _ _ (by rw [e3]; exact H.alloc_self _ _))
  have b4 : h5.get h3.next = some (.cells [.string bsY,.string bsX,.string bsSrc] 9 0 false) := g5.old _ _ (by rw [e4]; exact H.alloc_self _ _)
  have b5 : h5.get h4.next = some (.cells (tr bsB (.slice none 0 0) (sv h.next 1) ++ (tr bsA (sv h1.next 1) (sv h2.next 1) ++ (tr bsC (sv h3.next 3) (.slice none 0 0) ++ tr bsA2 (.slice none 0 0) (.slice none 0 0)))) 55 0 false) := by rw [e5]; exact H.alloc_self _ _
  refine ⟨h5,sv h4.next 4,(((g1.trans g2).trans g3).trans g4).trans g5,⟨[tr bsB (.slice none 0 0) (sv h.next 1),tr bsA (sv h1.next 1) (sv h2.next 1),tr bsC (sv h3.next 3) (.slice none 0 0),tr bsA2 (.slice none 0 0) (.slice none 0 0)],⟨fun r hr => ?_,.inr ⟨h4.next,0,none,4,rfl,_,_,_,_,b5,by simp,by simp [tr]⟩⟩,rfl,fun i t ht => ?_⟩,fun K => ?_⟩
  · simp only [List.mem_cons,List.not_mem_nil,or_false] at hr
    rcases hr with rfl | rfl | rfl | rfl <;> exact tr_good rfl rfl
  · match i with
    | 0 => cases ht; exact ⟨_,rfl,_,_,rfl,nilStr _,oneOut b1⟩
    | 1 => cases ht; exact ⟨_,rfl,_,_,rfl,someStr (l := [bsX]) b2,oneOut b3⟩
    | 2 => cases ht; exact ⟨_,rfl,_,_,rfl,someStr (l := [bsY,bsX,bsSrc]) b4,nilOut _⟩
    | 3 => cases ht; exact ⟨_,rfl,_,_,rfl,nilStr _,nilOut _⟩
    | i + 4 => simp [ts4] at ht
  · have eb : xbuildSlice Try.prog 22 4 [(0,.agg ⟨tr bsB (.slice none 0 0) (sv h.next 1)⟩),(1,.agg ⟨tr bsA (sv h1.next 1) (sv h2.next 1)⟩),(2,.agg ⟨tr bsC (sv h3.next 3) (.slice none 0 0)⟩),(3,.agg ⟨tr bsA2 (.slice none 0 0) (.slice none 0 0)⟩)] h4 = .ok (sv h4.next 4) h5 := by
      rw [e5]; kernel_rfl
    rw [bOut,go_ok,bOuts,go_ok,← e1,bTo,go_ok,bS1,go_ok,← e2,bOut,go_ok,bOuts,go_ok,← e3,bTio,go_ok,bS3,go_ok,← e4,bTi,go_ok,bT,go_ok]
    exact (congrArg (fun z => z.go .pan K) eb).trans (go_ok _ _ _ _)
theorem lay1 (h : H) : ∃ h' v,Grow h h' ∧ Tasks h' v ts1 ∧ ∀ K : Value → H → Res Value,
    ((xbuildSlice Try.prog 52 1 [(0,.string bsP)] h).go .pan fun t31 h32 => (xbuild Try.prog 63 [(0,.string bsP)] h32).go .pan fun t33 h34 => (xbuildSlice Try.prog 53 1 [(0,t33)] h34).go .pan fun t35 h36 => (xbuild Try.prog 55 [(0,.string bsT),(2,t31),(3,t35)] h36).go .pan fun t37 h38 => (xbuildSlice Try.prog 22 1 [(0,t37)] h38).go .pan K) = K v h' := by
  obtain ⟨h1,e1⟩ : ∃ h1,h1 = h.alloc (.cells [.string bsP] 9 0 false) := ⟨_,rfl⟩
  obtain ⟨h2,e2⟩ : ∃ h2,h2 = h1.alloc (.cells (.string bsP :: zc63.drop 1) 63 0 false) := ⟨_,rfl⟩
  obtain ⟨h3,e3⟩ : ∃ h3,h3 = h2.alloc (.cells (tr bsT (sv h.next 1) (sv h1.next 1)) 55 0 false) := ⟨_,rfl⟩
  have g1 : Grow h h1 := by rw [e1]; exact (Grow.refl h).alloc _
  have g2 : Grow h1 h2 := by rw [e2]; exact (Grow.refl h1).alloc _
  have g3 : Grow h2 h3 := by rw [e3]; exact (Grow.refl h2).alloc _
  have b1 : h3.get h.next = some (.cells [.string bsP] 9 0 false) := g3.old _ _ (g2.old _ _ (by rw [e1]; exact H.alloc_self _ _))
  have b2 : h3.get h1.next = some (.cells (.string bsP :: zc63.drop 1) 63 0 false) := g3.old _ _ (by rw [e2]; exact H.alloc_self _ _)
  have b3 : h3.get h2.next = some (.cells (tr bsT (sv h.next 1) (sv h1.next 1)) 55 0 false) := by rw [e3]; exact H.alloc_self _ _
  refine ⟨h3,sv h2.next 1,(g1.trans g2).trans g3,⟨[tr bsT (sv h.next 1) (sv h1.next 1)],⟨fun r hr => ?_,.inr ⟨h2.next,0,none,1,rfl,_,_,_,_,b3,by simp,by simp [tr]⟩⟩,rfl,fun i t ht => ?_⟩,fun K => ?_⟩
  · simp only [List.mem_cons,List.not_mem_nil,or_false] at hr
    subst hr; exact tr_good rfl rfl
  · match i with
    | 0 => cases ht; exact ⟨_,rfl,_,_,rfl,someStr (l := [bsP]) b1,oneOut b2⟩
    | i + 1 => simp [ts1] at ht
  · have eb : xbuildSlice Try.prog 22 1 [(0,.agg ⟨tr bsT (sv h.next 1) (sv h1.next 1)⟩)] h2 = .ok (sv h2.next 1) h3 := by
      rw [e3]; kernel_rfl
    rw [bS1,go_ok,← e1,bOut,go_ok,bOuts,go_ok,← e2,bTio,go_ok]
    exact (congrArg (fun z => z.go .pan K) eb).trans (go_ok _ _ _ _)
end Go.Proofs.Ytdadiidfhnojcaa.K
namespace Go.Proofs.Ytdadiidfhnojcaa.K
open Go Go.Kx
set_option linter.unusedVariables false
set_option linter.unusedSimpArgs false
set_option maxRecDepth 20000
theorem Out.il {h : H} {b : Nat} {R : List Nat} {n : Nat} (o : Out h b n R) (hn : R.length = n) : IL h (.slice (some ⟨b,0,none⟩) n n) (nl R) := by
  obtain ⟨sp,hg,_⟩ := o
  exact .inr ⟨b,none,n,sp,false,by rw [nl_len,hn],hg⟩
theorem eStarted (h : H) : ∃ h',Grow h h' ∧ CLM (.f 11) [] h = .ok (.bool true) h' := by
  obtain ⟨h1,v1,g1,T1,e1⟩ := lay4 h
  obtain ⟨h2,a,ca,na,g2,ra,e2⟩ := eOrder T1 few4
  obtain ⟨h3,v3,g3,T3,e3⟩ := lay1 h2
  obtain ⟨h4,b,cb,nb,g4,rb,e4⟩ := eOrder T3 few1
  rcases ra with ⟨c,hc,_⟩ | ⟨_,R,ba,io,hl,_,oa,rfl,rfl,rfl⟩
  · exact absurd hc.2.1 (noC4 c)
  rcases rb with ⟨c,hc,rfl,rfl,rfl⟩ | ⟨nc,_⟩
  rotate_left
  · exact absurd cyc1.2.1 (nc 0)
  have hR : R = [3,0,1,2] := io.uniq ord4 hl
  have hc0 : c = 0 := hc.uniq cyc1
  subst hR hc0
  have T1' := T1.grow ((g2.trans g3).trans g4)
  obtain ⟨h5,hh5⟩ : ∃ h5,h5 = h4.alloc (.cells [.int .i64 3,.int .i64 0,.int .i64 1,.int .i64 2] 3 0 false) := ⟨_,rfl⟩
  have g5 : Grow h4 h5 := by rw [hh5]; exact (Grow.refl h4).alloc _
  have eb : xbuildSlice Try.prog 27 4 [(0,.int .i64 3),(1,.int .i64 0),(2,.int .i64 1),(3,.int .i64 2)] h4 = .ok (.slice (some ⟨h4.next,0,none⟩) 4 4) h5 := by rw [hh5]; kernel_rfl
  have I1 : IL h5 (.slice (some ⟨ba,0,none⟩) ts4.length ts4.length) (nl [3,0,1,2]) := (Out.il oa rfl).grow ((g3.trans g4).trans g5)
  have I2 : IL h5 (.slice (some ⟨h4.next,0,none⟩) 4 4) (nl [3,0,1,2]) := .inr ⟨h4.next,none,4,[],false,rfl,by rw [hh5]; exact H.alloc_self _ _⟩
  have e5 := eSameI I1 I2 (by simp [nl])
  rw [decide_eq_true rfl] at e5
  obtain ⟨h6,v6,b6,g6,P6,_,e6⟩ := eNeeds (T1'.grow g5) few4 4
  obtain ⟨h7,v7,b7,g7,P7,_,e7⟩ := eNeeds (T1'.grow (g5.trans g6)) few4 (-1)
  have n4 : ndI ts4 4 = [] := if_neg (by decide)
  have n5 : ndI ts4 (-1) = [] := if_neg (by decide)
  rw [n4] at P6
  rw [n5] at P7
  have l6 := P6.nl.1.len h6
  have hz : ((0 : Nat) : Int) = 0 := rfl
  have hlz : ((([] : List Int).length : Nat) : Int) = 0 := rfl
  have hnm : nm ts1 ((0 : Nat) : Int) = ⟨#[116]⟩ := rfl
  have l7 := P7.nl.1.len h7
  refine ⟨h7,(((((g1.trans g2).trans g3).trans g4).trans g5).trans g6).trans g7,?_⟩
  rw [cM11,F11.eq]
  refine (e1 _).trans ?_
  show ((CLM (.f 13) [v1] h1).go .pan _) = _
  rw [e2,go_ok,xextract_0,go_ok,xextract_1,go_ok,xextract_2,go_ok]
  refine (e3 _).trans ?_
  show ((CLM (.f 13) [v3] h3).go .pan _) = _
  rw [e4,go_ok,xextract_0,go_ok,xextract_1,go_ok,xextract_2,go_ok,eb,go_ok,e5,go_ok,ifV_t,eNum,go_ok,xeql,go_ok,ifV_dec,if_pos rfl,xseql,go_ok,ifV_dec,if_pos rfl,ln27,go_ok,xeql,go_ok,ifV_dec,if_pos hz,eNum,go_ok,xeql,go_ok,ifV_dec,if_pos rfl,xseql,go_ok,ifV_dec,if_pos hnm,e6,go_ok,l6,go_ok,xeql,go_ok,ifV_dec,if_pos hlz,e7,go_ok,l7,go_ok,xeql,go_ok]
  rfl
theorem ord_same {h0 h1 h2 h3 : H} {ts : List TK} {v w : Value} {c d : Int} {m n : ByteArray} (p : OrdR h0 h1 ts v c m) (q : ROrdR h2 h3 ts w d n) (hn : ts.length ≤ 3000) :
    c = d ∧ m = n ∧ ∃ l,IL h1 v l ∧ IL h3 w l ∧ l.length ≤ 3000 := by
  rcases p with ⟨x,hx,rfl,rfl,rfl⟩ | ⟨nc,R,b,io,hl,_,o,rfl,rfl,rfl⟩
  · rcases q with ⟨y,hy,rfl,rfl,rfl⟩ | ⟨nc,_⟩
    · have := hx.uniq hy
      subst this
      exact ⟨rfl,rfl,[],.inl ⟨rfl,rfl⟩,.inl ⟨rfl,rfl⟩,by simp⟩
    · exact absurd hx.2.1 (nc x)
  · rcases q with ⟨y,hy,_⟩ | ⟨_,R',br,io',hl',o',_,rfl,rfl⟩
    · exact absurd hy.2.1 (nc y)
    · have := io.uniq io' (by rw [hl,hl'])
      subst this
      exact ⟨rfl,rfl,nl R,o.il hl,o'.il,by rw [nl_len]; omega⟩
theorem levs_len {ts : List TK} {L : Nat → Nat} {ls : List (List Nat)} (lv : IsLevs ts L ls) : ls.length ≤ ts.length ∧ ∀ l ∈ ls,l.length ≤ ts.length := by
  classical
  refine ⟨?_,fun l hl => ?_⟩
  · have hsub : List.range ls.length ⊆ (List.range ts.length).map L := fun k hk => by
      have hk' := List.mem_range.1 hk
      obtain ⟨i,hi⟩ := List.exists_mem_of_ne_nil _ (lv.ne _ (List.getElem_mem hk'))
      obtain ⟨h1,h2⟩ := (lv.m k _ (List.getElem?_eq_getElem hk') i).1 hi
      exact List.mem_map.2 ⟨i,List.mem_range.2 h1,h2⟩
    have := List.Nodup.length_le_of_subset List.nodup_range hsub
    simpa using this
  · obtain ⟨k,hk⟩ := List.mem_iff_getElem?.1 hl
    have hn : l.Nodup := (lv.s l hl).imp fun {a b} z e => by
      subst e; rw [aLt_irrefl] at z; cases z
    have := List.Nodup.length_le_of_subset hn (l₂ := List.range ts.length) fun j hj => List.mem_range.2 ((lv.m k l hk j).1 hj).1
    simpa using this
theorem lev_same {h0 h1 h2 h3 : H} {ts : List TK} {v w : Value} {c d : Int} {m n : ByteArray} (p : LevR h0 h1 ts v c m) (q : LevR h2 h3 ts w d n) :
    c = d ∧ m = n ∧ ∃ ls,LvV h1 v ls ∧ LvV h3 w ls ∧ ls.length ≤ ts.length ∧ ∀ l ∈ ls,l.length ≤ ts.length := by
  rcases p with ⟨x,hx,rfl,rfl,rfl⟩ | ⟨nc,L,ls,bo,wv,lv,o,rfl,rfl⟩
  · rcases q with ⟨y,hy,rfl,rfl,rfl⟩ | ⟨nc,_⟩
    · have := hx.uniq hy
      subst this
      exact ⟨rfl,rfl,[],LvV.nil _,LvV.nil _,by simp,fun l hl => by cases hl⟩
    · exact absurd hx.2.1 (nc x)
  · rcases q with ⟨y,hy,_⟩ | ⟨_,L',ls',bo',wv',lv',o',rfl,rfl⟩
    · exact absurd hy.2.1 (nc y)
    · have := lv.uniq lv'
      subst this
      exact ⟨rfl,rfl,ls,⟨_,_,_,o⟩,⟨_,_,_,o'⟩,levs_len lv⟩
theorem LevR.known {h0 h1 : H} {ts : List TK} {v : Value} {c : Int} {m : ByteArray} (p : LevR h0 h1 ts v c m) : NoC ts → ∃ L ls,IsLevs ts L ls := fun nc => by
  rcases p with ⟨x,hx,_⟩ | ⟨_,L,ls,_,_,lv,_⟩
  · exact absurd hx.2.1 (nc x)
  · exact ⟨L,ls,lv⟩
end Go.Proofs.Ytdadiidfhnojcaa.K
namespace Go.Proofs.Ytdadiidfhnojcaa.K
open Go Go.Kx
set_option maxRecDepth 100000
set_option linter.unusedVariables false
theorem mixed : Try.prog.follows .mixedOrders = true := by kernel_rfl
noncomputable def primO : Pr := fun f args h => match f with
  | 59 => ovP args h
  | _ => .bad
noncomputable def CLO : Cl := clS Try.prog tab primO
theorem ovO (args args' : List Value) (ι : Io) (h : H) (w : World) (s : Sim Try.prog ι h w) (ha : RL ι args args') : SN Try.prog ι w (ovP args h) (callFunc 59 ⟨args'⟩) :=
  ovP_ok (sl := 27) (tR := 4) (e := 3) Try.func59 (by kernel_rfl) (by kernel_rfl) (by kernel_rfl) (by kernel_rfl) (by kernel_rfl) (rSizeOf (by kernel_rfl)) args args' ι h w s ha
theorem primO_ok : PrOk Try.prog 0 primO := by
  intro f args args' ι h w hg s ha
  unfold primO
  split
  · exact ovO args args' ι h w s ha
  · trivial
theorem CLO_ok : ClOk Try.prog 0 CLO := clS_ok mixed tab_ok primO_ok
theorem TI : InsT Try.prog 27 3 3 := ⟨by kernel_rfl,by kernel_rfl,by kernel_rfl,by kernel_rfl,by kernel_rfl,Nat.lt_of_lt_of_le (Nat.zero_lt_succ 0) (Nat.le_of_eq (by kernel_rfl : 1 = Try.prog.cellsOf 3))⟩
theorem bodyI (x0 x1 x2 : Value) (h : H) : CLO (.f 47) [x0,x1,x2] h = insB Try.prog 27 3 59 (F47.j18 Try.prog CLO nu0 nu0) CLO x0 x1 x2 h := by
  have e : CLO (.f 47) [x0,x1,x2] h = runX Try.prog CLO nu0 an47 Try.f47 [x0,x1,x2] h := clS_eq (by kernel_rfl) _ _
  rw [e,F47.eq]
  simp only [F47.j5_eq,F47.j8_eq,F47.j13_eq]
  rfl
theorem insI_ok (args args' : List Value) (ι : Io) (h : H) (w : World) (s : Sim Try.prog ι h w) (ha : RL ι args args') : SN Try.prog ι w (insP Try.prog 27 args h) (callFunc 47 ⟨args'⟩) :=
  insP_ok TI (G := 0) CLO_ok bodyI (fun args h => clS_prim (by kernel_rfl) args h) args args' ι h w s ha
theorem primM_ok : PrOk Try.prog 0 primM := by
  intro f args args' ι h w hg s ha
  unfold primM
  split
  · exact insI_ok args args' ι h w s ha
  · trivial
theorem tabM_ok : ∀ f fn an,tabM f = some (fn,an) → fnOk Try.prog 0 an f fn := by
  intro f fn an h
  unfold tabM at h
  split at h
  · cases h
  · exact tab_ok _ _ _ h
theorem CLM_ok : ClOk Try.prog 0 CLM := clS_ok mixed tabM_ok primM_ok
end Go.Proofs.Ytdadiidfhnojcaa.K
namespace Go.Proofs.Ytdadiidfhnojcaa.K
open Go Go.Kx Go.ChangeShapes Go.WideShapes Go.ChangeAt Go.RowKit
set_option maxRecDepth 100000
set_option linter.unusedVariables false
theorem row_of_cellsC {W : World} {base : Nat} {a : Addr} {n : Nat} {cs : List Value} (hn : 0 < n) (h : W.cells? base a n = some cs) :
    a.spot = none ∧ lv W a.block = true ∧ ∃ c el f,(hOf W).get a.block = some (.cells c el f false) ∧ a.off + n ≤ c.length ∧ (c.drop a.off).take n = cs.map (cvC (lv W)) := by
  obtain ⟨_,hlen,hc⟩ := World.cells?_some h
  have h0 := hc 0 hn
  have a0 : a.add 0 = a := by unfold Addr.add; rw [if_pos rfl]
  rw [a0,List.getElem?_eq_getElem (by omega : 0 < cs.length)] at h0
  unfold World.cell? at h0
  split at h0
  · rename_i c el lh hb
    have hs : a.spot = none := by
      cases q : a.spot with
      | none => rfl
      | some k => rw [q] at h0; simp at h0
    obtain ⟨l⟩ := c
    have hl : lv W a.block = true := by unfold lv lvO; rw [hb]
    refine ⟨hs,hl,l.map (cvC (lv W)),el,_,by rw [hOf_get,hb]; rfl,?_⟩
    have hat : ∀ i,i < n → l[a.off + i]? = cs[i]? := by
      intro i hi
      rw [← hc i hi]
      unfold World.cell?
      have : (a.add i).block = a.block ∧ (a.add i).off = a.off + i ∧ (a.add i).spot = none := by
        unfold Addr.add
        split
        · rename_i h0; subst h0; exact ⟨rfl,rfl,hs⟩
        · exact ⟨rfl,rfl,rfl⟩
      rw [this.1,hb,this.2.1,this.2.2]
      simp
    have hle : a.off + n ≤ l.length := by
      have := hat (n - 1) (by omega)
      rw [List.getElem?_eq_getElem (by omega : n - 1 < cs.length)] at this
      have := (List.getElem?_eq_some_iff.1 this).1
      omega
    refine ⟨by rw [List.length_map]; exact hle,?_⟩
    rw [← List.map_drop,← List.map_take]
    congr 1
    apply List.ext_getElem?
    intro i
    rw [List.getElem?_take]
    split
    · rename_i hi; rw [List.getElem?_drop]; exact hat i hi
    · rename_i hi; rw [List.getElem?_eq_none (by omega)]
  · cases h0
theorem flat_rows (c : List Value) (o E : Nat) : ∀ n,((List.range n).map fun i => (c.drop (o + i * E)).take E).flatten = (c.drop o).take (n * E)
  | 0 => by simp
  | n + 1 => by
    rw [List.range_succ,List.map_append,List.flatten_append,flat_rows c o E n,Nat.add_mul,Nat.one_mul,List.take_add,List.drop_drop]
    simp
theorem list_choose {α β : Type} {p : α → β → Prop} : ∀ (l : List α),(∀ x ∈ l,∃ y,p x y) → ∃ m : List β,m.length = l.length ∧ ∀ (i : Nat) (y : β),m[i]? = some y → ∃ x,l[i]? = some x ∧ p x y
  | [],_ => ⟨[],rfl,fun i y h => by simp at h⟩
  | x :: l,h => by
    obtain ⟨y,hy⟩ := h x (by simp)
    obtain ⟨m,hm,hp⟩ := list_choose l (fun x hx => h x (by simp [hx]))
    refine ⟨y :: m,by simp [hm],fun i z hz => ?_⟩
    cases i with
    | zero => simp only [List.getElem?_cons_zero,Option.some.injEq] at hz; subst hz; exact ⟨x,rfl,hy⟩
    | succ i => rw [List.getElem?_cons_succ] at hz; rw [List.getElem?_cons_succ]; exact hp i z hz
section
variable {HH : Type} {enc : TypeId × Value → HH} {W : World}
theorem read_sl {t e E fuel : Nat} (hu : Try.prog.underlying t = some (.slice e)) (hE : Try.prog.cellsOf e = E) (hpos : 0 < E) {cs : List Value} {x : DataW HH × List MemPlace} (h : DataW.trod enc Try.prog W 0 (fun _ => true) true fuel t cs = some x)
    (one : ∀ {n cs' x'},DataW.trod enc Try.prog W 0 (fun _ => true) true n e cs' = some x' → ones (cs'.map (cvC (lv W))) = true) :
    ∃ v u rows,cs = [v] ∧ (∃ a n c,v = .slice a n c) ∧ cv (lv W) v = some u ∧ Sl E (hOf W) u rows ∧ Zs u ∧ ∀ r ∈ rows,∃ n cs' x',r = cs'.map (cvC (lv W)) ∧ DataW.trod enc Try.prog W 0 (fun _ => true) true n e cs' = some x' := by
  rcases Go.Deep.open_slice hu h with ⟨rfl,hx⟩ | ⟨a,len,cap,m,n,D,Pl,rfl,hb,hl,hm,hmm,hx,hall⟩
  · exact ⟨_,.slice none 0 0,[],rfl,⟨_,_,_,rfl⟩,rfl,⟨GoodR.nil,.inl ⟨Nul.nil,rfl⟩⟩,.inl Nul.nil,fun r hr => by cases hr⟩
  · simp only [if_true] at hmm
    rw [hmm,hE] at hall
    by_cases hc : cap = 0
    · have hl0 : len = 0 := by omega
      subst hc hl0
      obtain ⟨b,o,sp⟩ := a
      cases sp with
      | none => exact ⟨_,.slice (some ⟨b,o,some 2⟩) 0 0,[],rfl,⟨_,_,_,rfl⟩,rfl,⟨GoodR.nil,.inl ⟨.inr ⟨b,o,0,rfl⟩,rfl⟩⟩,.inl (.inr ⟨b,o,0,rfl⟩),fun r hr => by cases hr⟩
      | some k => exact ⟨_,.slice (some ⟨b,o,some (k + 3)⟩) 0 0,[],rfl,⟨_,_,_,rfl⟩,rfl,⟨GoodR.nil,.inl ⟨.inr ⟨b,o,k + 1,rfl⟩,rfl⟩⟩,.inl (.inr ⟨b,o,k + 1,rfl⟩),fun r hr => by cases hr⟩
    · have hrow : ∀ i,i < cap → ∃ cs',W.cells? 0 (a.add (i * E)) E = some cs' ∧ DataW.trod enc Try.prog W 0 (fun _ => true) true n e cs' = some (D i,Pl i) := hall
      obtain ⟨cs0,z1,z2⟩ := hrow 0 (by omega)
      rw [Nat.zero_mul,show a.add 0 = a by unfold Addr.add; rw [if_pos rfl]] at z1
      obtain ⟨hs,hlv,c,el,f,hg,_⟩ := row_of_cellsC hpos z1
      obtain ⟨b,o,sp⟩ := a
      simp only at hs hlv hg
      subst hs
      have at_ : ∀ i,i < cap → o + i * E + E ≤ c.length ∧ ∃ cs',(c.drop (o + i * E)).take E = cs'.map (cvC (lv W)) ∧ DataW.trod enc Try.prog W 0 (fun _ => true) true n e cs' = some (D i,Pl i) := by
        intro i hi
        obtain ⟨cs',y1,y2⟩ := hrow i hi
        have hadd : (Addr.add ⟨b,o,none⟩ (i * E)) = ⟨b,o + i * E,none⟩ := by
          unfold Addr.add
          split
          · rename_i h0; rw [h0]; rfl
          · rfl
        rw [hadd] at y1
        obtain ⟨_,_,c',el',f',g1,g2,g3⟩ := row_of_cellsC hpos y1
        simp only at g1 g2 g3
        rw [hg] at g1
        cases g1
        exact ⟨g2,cs',g3,y2⟩
      have hcap := at_ (cap - 1) (by omega)
      have hle : o + cap * E ≤ c.length := by
        have h1 := hcap.1
        have : cap * E = (cap - 1) * E + E := by rw [← Nat.succ_mul]; congr 1; omega
        omega
      have hz : (len == 0 && cap == 0) = false := by
        rw [Bool.and_eq_false_iff]; right; simpa using hc
      refine ⟨_,.slice (some ⟨b,o,some 0⟩) len cap,(List.range len).map fun i => (c.drop (o + i * E)).take E,rfl,⟨_,_,_,rfl⟩,?_,⟨?_,.inr ⟨b,o,some 0,cap,by simp,c,el,f,false,hg,?_⟩⟩,.inr ⟨b,o,len,cap,rfl,hl⟩,?_⟩
      · simp only [cv,hz,hlv,cond_false,cond_true]
      · intro r hr
        obtain ⟨i,hi,rfl⟩ := List.mem_map.1 hr
        have hi := List.mem_range.1 hi
        obtain ⟨q1,cs',q2,q3⟩ := at_ i (by omega)
        refine ⟨by rw [List.length_take,List.length_drop]; omega,?_⟩
        rw [q2]
        exact one q3
      · rw [flat_rows]
        have : len * E ≤ cap * E := Nat.mul_le_mul_right _ hl
        have hlen : ((c.drop o).take (len * E)).length = len * E := by rw [List.length_take,List.length_drop]; omega
        rw [hlen]
        exact ⟨by omega,rfl⟩
      · intro r hr
        obtain ⟨i,hi,rfl⟩ := List.mem_map.1 hr
        have hi := List.mem_range.1 hi
        obtain ⟨q1,cs',q2,q3⟩ := at_ i (by omega)
        exact ⟨n,cs',_,q2,q3⟩
theorem cvC_one {v : Value} (h : v.oneCell' = true) : (cvC (lv W) v).oneCell' = true := by
  unfold cvC
  split
  · rename_i u hu
    cases v <;> first | (cases h; done) | skip
    all_goals (first | (simp only [cv,Option.some.injEq] at hu; subst hu; rfl) | skip)
    · rename_i a; rcases a with _ | ⟨b,o,_ | s⟩ <;> simp only [cv] at hu
      · cases hu; rfl
      · cases hb : lv W b <;> rw [hb] at hu <;> cases hu; rfl
      · cases hu
    · rename_i a n c; rcases a with _ | ⟨b,o,_ | s⟩ <;> simp only [cv] at hu
      · cases hu; rfl
      · rcases cv_none hu with ⟨_,_,rfl⟩ | hu
        · rfl
        · cases hb : lv W b <;> rw [hb] at hu <;> cases hu; rfl
      · rcases cv_none hu with ⟨_,_,rfl⟩ | hu
        · rfl
        · cases hu
    · rename_i a; cases a <;> simp only [cv] at hu <;> cases hu; rfl
    · simp only [cv] at hu; cases hu
    · rename_i g f c
      obtain ⟨f⟩ := f
      obtain ⟨c⟩ := c
      cases g <;> simp only [cv] at hu <;> first | (cases hu; done) | skip
      split at hu <;> cases hu; rfl
    · simp only [cv] at hu; split at hu <;> cases hu; rfl
  · cases v <;> first | (cases h; done) | rfl
theorem ones_cvC {l : List Value} (h : ones l = true) : ones (l.map (cvC (lv W))) = true := by
  rw [ones_iff] at *
  intro x hx
  obtain ⟨v,hv,rfl⟩ := List.mem_map.1 hx
  exact cvC_one (h v hv)
variable {n : Nat} {cs : List Value} {x : DataW HH × List MemPlace}
theorem read_string (h : DataW.trod enc Try.prog W 0 (fun _ => true) true n 9 cs = some x) : ∃ s,cs = [.string s] := by
  obtain ⟨s,e,_⟩ := DataW.trod_string Try.underlying9 h
  exact ⟨s,e⟩
theorem read_int (h : DataW.trod enc Try.prog W 0 (fun _ => true) true n 3 cs = some x) : ∃ z,cs = [.int .i64 z] ∧ (Lit.int .i64 z).wf = true := by
  obtain ⟨z,e,_,w⟩ := DataW.trod_int Try.underlying3 h
  exact ⟨z,e,w⟩
theorem read_one {t e : Nat} (hu : Try.prog.underlying t = some (.slice e)) (h : DataW.trod enc Try.prog W 0 (fun _ => true) true n t cs = some x) : ∃ v,cs = [v] ∧ v.oneCell' = true := by
  rcases Go.Deep.open_slice hu h with ⟨rfl,hx⟩ | ⟨a,len,cap,m,n,D,Pl,rfl,_⟩
  · exact ⟨_,rfl,rfl⟩
  · exact ⟨_,rfl,rfl⟩
theorem strs_one (h : DataW.trod enc Try.prog W 0 (fun _ => true) true n 9 cs = some x) : ones (cs.map (cvC (lv W))) = true := by
  obtain ⟨s,rfl⟩ := read_string h
  rfl
theorem read_strs (h : DataW.trod enc Try.prog W 0 (fun _ => true) true n 52 cs = some x) : ∃ v u l,cs = [v] ∧ v.oneCell' = true ∧ cvC (lv W) v = u ∧ StrSl (hOf W) u l ∧ Zs u := by
  obtain ⟨v,u,rows,rfl,⟨a,m,c,rfl⟩,e,q,z,f⟩ := read_sl (E := 1) Try.underlying52 (by kernel_rfl) (by omega) h (fun q => strs_one q)
  obtain ⟨l,hl,hp⟩ := list_choose (p := fun r (s : ByteArray) => r = [.string s]) rows (fun r hr => by
    obtain ⟨n',cs',x',rfl,h'⟩ := f r hr
    obtain ⟨s,rfl⟩ := read_string h'
    exact ⟨s,rfl⟩)
  refine ⟨_,u,l,rfl,rfl,by unfold cvC; rw [e],?_,z⟩
  have : rows = l.map fun s => [.string s] := by
    apply List.ext_getElem?
    intro i
    rw [List.getElem?_map]
    cases hq : l[i]? with
    | none => rw [List.getElem?_eq_none_iff] at hq; rw [List.getElem?_eq_none (by omega : rows.length ≤ i)]; rfl
    | some s => obtain ⟨r,e1,rfl⟩ := hp i s hq; exact e1
  unfold StrSl
  rw [← this]
  exact q
theorem trod_struct5' {H : Type} {enc : TypeId × Value → H} {P : Program} {w : World} {base : Nat} {spare : Nat → Bool} {held : Bool} {t : TypeId} {f0 f1 f2 f3 f4 : Field} {fuel : Nat} {cs : List Value} {x : DataW H × List MemPlace} (ht : P.underlying t = some (.struct #[f0,f1,f2,f3,f4]))
    (h : DataW.trod enc P w base spare held fuel t cs = some x) :
    ∃ y0 y1 y2 y3 y4 n,cs.length = P.cellsOf t ∧ DataW.trod enc P w base spare held n f0.type ((cs.drop f0.offset).take (P.cellsOf f0.type)) = some y0 ∧
      DataW.trod enc P w base spare held n f1.type ((cs.drop f1.offset).take (P.cellsOf f1.type)) = some y1 ∧ DataW.trod enc P w base spare held n f2.type ((cs.drop f2.offset).take (P.cellsOf f2.type)) = some y2 ∧
      DataW.trod enc P w base spare held n f3.type ((cs.drop f3.offset).take (P.cellsOf f3.type)) = some y3 ∧ DataW.trod enc P w base spare held n f4.type ((cs.drop f4.offset).take (P.cellsOf f4.type)) = some y4 := by
  obtain ⟨xs,n,_,_,hl,hlen,hf⟩ := DataW.trod_struct ht h
  match xs,hlen with
  | [y0,y1,y2,y3,y4],_ => exact ⟨y0,y1,y2,y3,y4,n,hl,by simpa using hf 0 f0 rfl,by simpa using hf 1 f1 rfl,by simpa using hf 2 f2 rfl,by simpa using hf 3 f3 rfl,by simpa using hf 4 f4 rfl⟩
theorem read_node (h : DataW.trod enc Try.prog W 0 (fun _ => true) true n 61 cs = some x) : cs.length = 5 ∧ ones cs = true := by
  obtain ⟨y0,y1,y2,y3,y4,m,hl,h0,h1,h2,h3,h4⟩ := trod_struct5' Try.underlying61 h
  rw [show Try.prog.cellsOf 61 = 5 by kernel_rfl] at hl
  simp only [show Try.prog.cellsOf 3 = 1 by kernel_rfl,show Try.prog.cellsOf 9 = 1 by kernel_rfl,show Try.prog.cellsOf 59 = 1 by kernel_rfl] at h0 h1 h2 h3 h4
  obtain ⟨z0,e0,_⟩ := read_int h0
  obtain ⟨z1,e1⟩ := read_string h1
  obtain ⟨z2,e2,_⟩ := read_int h2
  obtain ⟨z3,e3,_⟩ := read_int h3
  obtain ⟨z4,e4,o4⟩ := read_one Try.underlying59 h4
  match cs,hl with
  | [c0,c1,c2,c3,c4],_ =>
    simp at e0 e1 e2 e3 e4
    subst e0 e1 e2 e3 e4
    refine ⟨rfl,?_⟩
    show (true && (true && (true && (true && (c4.oneCell' && true))))) = true
    rw [o4]; rfl
theorem read_out (h : DataW.trod enc Try.prog W 0 (fun _ => true) true n 63 cs = some x) : ∃ s r,cs = .string s :: r ∧ ones cs = true := by
  obtain ⟨y0,y1,m,_,hl,h0,h1⟩ := trod_struct2 Try.underlying63 h
  rw [show Try.prog.cellsOf 63 = 6 by kernel_rfl] at hl
  simp only [show Try.prog.cellsOf 9 = 1 by kernel_rfl,show Try.prog.cellsOf 61 = 5 by kernel_rfl] at h0 h1
  obtain ⟨s,e0⟩ := read_string h0
  obtain ⟨_,o1⟩ := read_node h1
  match cs,hl with
  | c :: r,hl =>
    have hr : r.length = 5 := by simpa using hl
    simp at e0
    subst e0
    refine ⟨s,r,rfl,?_⟩
    rw [show ((Value.string s :: r).drop 1).take 5 = r by rw [List.drop_succ_cons,List.drop_zero]; exact List.take_of_length_le (by omega)] at o1
    show (true && ones r) = true
    rw [o1]; rfl
theorem read_outs (h : DataW.trod enc Try.prog W 0 (fun _ => true) true n 53 cs = some x) : ∃ v u l,cs = [v] ∧ v.oneCell' = true ∧ cvC (lv W) v = u ∧ OutSl (hOf W) u l ∧ Zs u := by
  obtain ⟨v,u,rows,rfl,⟨a,m,c,rfl⟩,e,q,z,f⟩ := read_sl (E := 6) Try.underlying53 (by kernel_rfl) (by omega) h (fun q => by
    obtain ⟨s,r,_,o⟩ := read_out q
    exact ones_cvC o)
  obtain ⟨l,hl,hp⟩ := list_choose (p := fun r (s : ByteArray) => ∃ r',r = .string s :: r') rows (fun r hr => by
    obtain ⟨n',cs',x',rfl,h'⟩ := f r hr
    obtain ⟨s,r,rfl,_⟩ := read_out h'
    exact ⟨s,_,rfl⟩)
  refine ⟨_,u,l,rfl,rfl,by unfold cvC; rw [e],⟨rows,q,?_⟩,z⟩
  apply List.ext_getElem?
  intro i
  rw [List.getElem?_map,List.getElem?_map]
  cases hq : l[i]? with
  | none => rw [List.getElem?_eq_none_iff] at hq; rw [List.getElem?_eq_none (by omega : rows.length ≤ i)]; rfl
  | some s => obtain ⟨r,e1,r',rfl⟩ := hp i s hq; rw [e1]; rfl
theorem trod_struct4' {H : Type} {enc : TypeId × Value → H} {P : Program} {w : World} {base : Nat} {spare : Nat → Bool} {held : Bool} {t : TypeId} {f0 f1 f2 f3 : Field} {fuel : Nat} {cs : List Value} {x : DataW H × List MemPlace} (ht : P.underlying t = some (.struct #[f0,f1,f2,f3]))
    (h : DataW.trod enc P w base spare held fuel t cs = some x) :
    ∃ y0 y1 y2 y3 n,cs.length = P.cellsOf t ∧ DataW.trod enc P w base spare held n f0.type ((cs.drop f0.offset).take (P.cellsOf f0.type)) = some y0 ∧
      DataW.trod enc P w base spare held n f1.type ((cs.drop f1.offset).take (P.cellsOf f1.type)) = some y1 ∧ DataW.trod enc P w base spare held n f2.type ((cs.drop f2.offset).take (P.cellsOf f2.type)) = some y2 ∧
      DataW.trod enc P w base spare held n f3.type ((cs.drop f3.offset).take (P.cellsOf f3.type)) = some y3 := by
  obtain ⟨xs,n,_,_,hl,hlen,hf⟩ := DataW.trod_struct ht h
  match xs,hlen with
  | [y0,y1,y2,y3],_ => exact ⟨y0,y1,y2,y3,n,hl,by simpa using hf 0 f0 rfl,by simpa using hf 1 f1 rfl,by simpa using hf 2 f2 rfl,by simpa using hf 3 f3 rfl⟩
theorem read_task (h : DataW.trod enc Try.prog W 0 (fun _ => true) true n 55 cs = some x) : ones cs = true ∧ ∃ t vi vo,cs.map (cvC (lv W)) = [.string (TK.name t),.int .i64 t.bud,vi,vo] ∧ StrSl (hOf W) vi t.ins ∧ OutSl (hOf W) vo t.outs ∧ Zs vi ∧ Zs vo := by
  obtain ⟨y0,y1,y2,y3,m,hl,h0,h1,h2,h3⟩ := trod_struct4' Try.underlying55 h
  rw [show Try.prog.cellsOf 55 = 4 by kernel_rfl] at hl
  simp only [show Try.prog.cellsOf 3 = 1 by kernel_rfl,show Try.prog.cellsOf 9 = 1 by kernel_rfl,show Try.prog.cellsOf 52 = 1 by kernel_rfl,show Try.prog.cellsOf 53 = 1 by kernel_rfl] at h0 h1 h2 h3
  obtain ⟨s,e0⟩ := read_string h0
  obtain ⟨z,e1,_⟩ := read_int h1
  obtain ⟨v2,u2,l2,e2,o2,c2,q2,z2⟩ := read_strs h2
  obtain ⟨v3,u3,l3,e3,o3,c3,q3,z3⟩ := read_outs h3
  match cs,hl with
  | [c0,c1,c2',c3'],_ =>
    simp at e0 e1 e2 e3
    subst e0 e1 e2 e3
    refine ⟨by show (true && (true && (c2'.oneCell' && (c3'.oneCell' && true)))) = true; rw [o2,o3]; rfl,⟨s,z,l2,l3⟩,u2,u3,?_,q2,q3,z2,z3⟩
    simp only [List.map_cons,List.map_nil,c2,c3]
    rfl
theorem read_tasks {v : Value} {d : DataW HH} {p : List MemPlace} {base : Nat} (hval : Value.okWide Try.prog W .any base 22 v) (h : DataW.Trod enc Try.prog W 0 (fun _ => true) true 22 v d p) :
    ∃ u ts,R (io W) u v ∧ TasksA (hOf W) u ts ∧ Zs u := by
  obtain ⟨fuel,h⟩ := h
  have hsl : ∃ o l c,v = .slice o l c := by
    have hv := hval
    unfold Value.okWide at hv
    rw [Try.underlying22] at hv
    cases v <;> first | exact ⟨_,_,_,rfl⟩ | (simp [Cell.okWide,Try.underlying22,Cell.ok] at hv)
  obtain ⟨o,l,c,rfl⟩ := hsl
  obtain ⟨v',u,rows,e1,_,e,q,z,f⟩ := read_sl (E := 4) Try.underlying22 (by kernel_rfl) (by omega) h (fun q => ones_cvC (read_task q).1)
  have hv : v' = .slice o l c := by
    have : [Value.slice o l c] = [v'] := by simpa [Value.cells] using e1
    simpa using this.symm
  subst hv
  obtain ⟨ts,hl,hp⟩ := list_choose (p := fun r (t : TK) => ∃ vi vo,r = [.string t.name,.int .i64 t.bud,vi,vo] ∧ StrSl (hOf W) vi t.ins ∧ OutSl (hOf W) vo t.outs ∧ Zs vi ∧ Zs vo) rows (fun r hr => by
    obtain ⟨n',cs',x',rfl,h'⟩ := f r hr
    exact (read_task h').2)
  refine ⟨u,ts,cv_R _ e,⟨rows,q,hl.symm,fun i t ht => ?_⟩,z⟩
  obtain ⟨r,e1,vi,vo,rest⟩ := hp i t ht
  exact ⟨r,vi,vo,e1,rest⟩
end
end Go.Proofs.Ytdadiidfhnojcaa.K
namespace Go.Proofs.Ytdadiidfhnojcaa.K
open Go Go.Kx Go.ChangeShapes Go.WideShapes Go.ChangeAt Go.RowKit
set_option maxRecDepth 100000
set_option linter.unusedVariables false
theorem laidOut' : laidOutB Try.prog = true := by kernel_rfl
theorem own' : ownKnob Try.prog.godebug = none := by kernel_rfl
theorem trodAll_two' {H : Type} {enc : TypeId × Value → H} {P : Program} {w : World} {base : Nat} {spare : Nat → Bool} {held : Bool} {t0 t1 : TypeId} {args : Array Value} {ds : List (DataW H)} {ps : List MemPlace} (h : DataW.TrodAll enc P w base spare held [t0,t1] args.toList ds ps) :
    ∃ v0 v1 d0 d1 p0 p1,args = #[v0,v1] ∧ ds = [d0,d1] ∧ DataW.Trod enc P w base spare held t0 v0 d0 p0 ∧ DataW.Trod enc P w base spare held t1 v1 d1 p1 := by
  obtain ⟨v0,vs,d0,ds',p0,q,hargs,rfl,rfl,hd,hrest⟩ := trodAll_cons h
  obtain ⟨v1,vs1,d1,ds1,p1,q1,rfl,rfl,rfl,hd1,hrest1⟩ := trodAll_cons hrest
  obtain ⟨rfl,rfl,rfl⟩ := trodAll_nil hrest1
  exact ⟨v0,v1,d0,d1,p0,p1,by cases args; simp_all,rfl,hd,hd1⟩
end Go.Proofs.Ytdadiidfhnojcaa.K
namespace Go.Proofs.Ytdadiidfhnojcaa
open Go
set_option maxRecDepth 100000
end Go.Proofs.Ytdadiidfhnojcaa
namespace Go.Proofs.Ytdadiidfhnojcaa.K
open Go Go.Kx
set_option linter.unusedVariables false
set_option linter.unusedSimpArgs false
set_option maxRecDepth 20000
theorem xrem (P : Program) (t : TypeId) (k : IntKind) {a b : Int} (h : H) (hb : b ≠ 0) : xbin P .rem t (.int k a) (.int k b) h = .ok (.int k (a.tmod b)) h := by simp [xbin,flat,binOp,Op.intDiv,hb,prun,xflat,pure,Sem.pure]
theorem xmax' (P : Program) (t : TypeId) (a b : Int) (h : H) : xbuiltin P .max [t,t] [.int .i64 a,.int .i64 b] h = .ok (.int .i64 (if a < b then b else a)) h := by
  show (bif flatL [.int .i64 a,.int .i64 b] then xflat (P := P) (prun P (Builtin.max_ #[] 0 ⟨[.int .i64 a,.int .i64 b]⟩)) h else .bad) = _
  rw [show flatL [Value.int .i64 a,.int .i64 b] = true from rfl,cond_true]
  have e : Builtin.max_ #[] 0 ⟨[.int .i64 a,.int .i64 b]⟩ = (pure (.int .i64 (if a < b then b else a)) : Sem Value) := by simp [Builtin.max_,Builtin.max2]
  rw [e]
  simp [prun,xflat,pure,Sem.pure,flat]
theorem eWhole (n : Int) {lo hi : Int} (h1 : 0 ≤ lo) (h2 : lo ≤ hi) (h3 : hi ≤ 2000000000) : ∃ r : Nat,lo ≤ (r : Int) ∧ (r : Int) ≤ hi ∧ ∀ h,CLM (.f 20) [.int .i64 n,.int .i64 lo,.int .i64 hi] h = .ok (.int .i64 (r : Nat)) h := by
  have hd : 0 < hi - lo + 1 := by omega
  have b1 := Int.tmod_lt_of_pos n hd
  have b2 : -(hi - lo + 1) < n.tmod (hi - lo + 1) := Int.lt_tmod_of_pos n hd
  obtain ⟨m,hm⟩ : ∃ m,m = n.tmod (hi - lo + 1) := ⟨_,rfl⟩
  rw [← hm] at b1 b2
  have e : ∀ h,CLM (.f 20) [.int .i64 n,.int .i64 lo,.int .i64 hi] h = if m < 0 then .ok (.int .i64 (lo + (m + hi - lo + 1))) h else .ok (.int .i64 (lo + m)) h := by
    intro h
    rw [cM20,F20.eq,xsub,go_ok,wrap64 (by omega),xadd,go_ok,wrap64 (by omega),xrem _ _ _ _ (by omega),go_ok,← hm,xlss,go_ok,ifV_dec]
    split
    · rw [xadd,go_ok,wrap64 (by omega),xsub,go_ok,wrap64 (by omega),xadd,go_ok,wrap64 (by omega),xadd,go_ok,wrap64 (by omega)]
    · rw [xadd,go_ok,wrap64 (by omega)]
  by_cases hz : m < 0
  · refine ⟨(lo + (m + hi - lo + 1)).toNat,by omega,by omega,fun h => ?_⟩
    rw [e,if_pos hz,show (((lo + (m + hi - lo + 1)).toNat : Nat) : Int) = lo + (m + hi - lo + 1) by omega]
  · refine ⟨(lo + m).toNat,by omega,by omega,fun h => ?_⟩
    rw [e,if_neg hz,show (((lo + m).toNat : Nat) : Int) = lo + m by omega]
theorem few60 {ts : List TK} (hl : ts.length ≤ 60) (hi : ∀ t ∈ ts,t.ins.length ≤ 12) (ho : ∀ t ∈ ts,t.outs.length ≤ 12) : Few ts := by
  refine ⟨by omega,hi,ho,?_⟩
  have h1 := sumN_le (n := ts.length) (f := fun _ => 60) (f' := fun k => (nd ts k).length) fun k _ => Nat.le_trans (nd_len _ _) hl
  have h2 : ∀ n,sumN n (fun _ => 60) = n * 60 := by
    intro n
    induction n with
    | zero => rfl
    | succ n ih => rw [sumN_succ,ih]; omega
  rw [h2] at h1
  have : ts.length * 60 ≤ 60 * 60 := Nat.mul_le_mul_right _ hl
  omega
theorem fewL_ins {ts : List TK} : ∀ t ∈ fewL ts,t.ins.length ≤ 12 := few_few.i
theorem fewL_outs {ts : List TK} : ∀ t ∈ fewL ts,t.outs.length ≤ 12 := few_few.o
theorem nodup_at {l : List Nat} : l.Nodup ↔ ∀ (i j x : Nat),l[i]? = some x → l[j]? = some x → i = j := by
  rw [List.Nodup,List.pairwise_iff_getElem]
  constructor
  · intro h i j x hi hj
    obtain ⟨i1,i2⟩ := List.getElem?_eq_some_iff.1 hi
    obtain ⟨j1,j2⟩ := List.getElem?_eq_some_iff.1 hj
    rcases Nat.lt_trichotomy i j with q | q | q
    · exact absurd (i2.trans j2.symm) (h i j i1 j1 q)
    · exact q
    · exact absurd (j2.trans i2.symm) (h j i j1 i1 q)
  · intro h i j hi hj hlt e
    have := h i j l[i] (List.getElem?_eq_getElem hi) (by rw [e]; exact List.getElem?_eq_getElem hj)
    omega
theorem swap_at {α : Type} {l : List α} {i k : Nat} {x y : α} (hi : l[i]? = some x) (hk : l[k]? = some y) (a : Nat) : ((l.set i y).set k x)[a]? = l[if a = k then i else if a = i then k else a]? := by
  have li := (List.getElem?_eq_some_iff.1 hi).1
  have lk := (List.getElem?_eq_some_iff.1 hk).1
  by_cases h1 : a = k
  · subst h1
    rw [if_pos rfl,List.getElem?_set_self (by rw [List.length_set]; exact lk),hi]
  · rw [if_neg h1,List.getElem?_set_ne (fun z => h1 z.symm)]
    by_cases h2 : a = i
    · subst h2
      rw [if_pos rfl,List.getElem?_set_self li,hk]
    · rw [if_neg h2,List.getElem?_set_ne (fun z => h2 z.symm)]
theorem swap_nodup {l : List (Nat × Nat)} {i k : Nat} {x y : Nat × Nat} (hi : l[i]? = some x) (hk : l[k]? = some y) (f : Nat × Nat → Nat) (d : (l.map f).Nodup) : (((l.set i y).set k x).map f).Nodup := by
  rw [nodup_at] at *
  intro a b z ha hb
  rw [List.getElem?_map,swap_at hi hk,← List.getElem?_map] at ha hb
  have := d _ _ z ha hb
  split at this <;> split at this <;> (try split at this) <;> (try split at this) <;> omega
theorem LT.ne {h : H} {t : TK} {bi bo bm : Nat} {r : List Value} {rows : List (List Value)} (q : LT h t bi bo r) (m : RB h bm 55 4 false rows) : bi ≠ bm ∧ bo ≠ bm := by
  obtain ⟨_,i,_,o,_⟩ := q
  exact ⟨i.ne m (by decide),o.ne m (by decide)⟩
theorem Lent.set {h h' : H} {v : Value} {bm : Nat} {rows : List (List Value)} {bs : List (Nat × Nat)} {ts : List TK} (Q : Lent h v bm rows bs ts) {i : Nat} {t' : TK} {p : Nat × Nat} {r' : List Value} (hi : i < ts.length) (hp : bs[i]? = some p)
    (u : Upd (fun y => y = bm ∨ y = p.1 ∨ y = p.2) h h') (m : RB h' bm 55 4 false (rows.set i r')) (lt : LT h' t' p.1 p.2 r') : Lent h' v bm (rows.set i r') bs (ts.set i t') := by
  have hl := Q.len
  refine ⟨by rw [List.length_set]; exact Q.v,m,by rw [List.length_set,List.length_set]; exact hl,by rw [List.length_set]; exact Q.bl,fun j t hj => ?_,fun j h1 h2 => ?_,Q.d1,Q.d2⟩
  · by_cases e : j = i
    · subst e
      rw [List.getElem?_set_self hi] at hj
      cases hj
      exact ⟨p,r',hp,List.getElem?_set_self (by omega),lt⟩
    · rw [List.getElem?_set_ne (fun z => e z.symm)] at hj
      obtain ⟨q,r,a,b,c⟩ := Q.t j t hj
      have c' := c.ne Q.m
      obtain ⟨p0,r0,a0,b0,c0⟩ := Q.t i _ (List.getElem?_eq_getElem hi)
      rw [hp] at a0; cases a0
      refine ⟨q,r,a,by rw [List.getElem?_set_ne (fun z => e z.symm)]; exact b,c.upd u (fun z => ?_) (fun z => ?_)⟩
      · rcases z with z | z | z
        · exact c'.1 z
        · exact e (nodup_at.1 Q.d1 j i q.1 (by rw [List.getElem?_map,a]; rfl) (by rw [List.getElem?_map,hp,z]; rfl))
        · obtain ⟨_,ci,_⟩ := c
          obtain ⟨_,_,_,co,_⟩ := c0
          exact ci.ne co (by decide) z
      · rcases z with z | z | z
        · exact c'.2 z
        · obtain ⟨_,_,_,co,_⟩ := c
          obtain ⟨_,ci,_⟩ := c0
          exact ci.ne co (by decide) z.symm
        · exact e (nodup_at.1 Q.d2 j i q.2 (by rw [List.getElem?_map,a]; rfl) (by rw [List.getElem?_map,hp,z]; rfl))
  · rw [List.length_set] at h1 h2
    rw [List.getElem?_set_ne (by omega)]
    exact Q.r j h1 h2
theorem Lent.swap {h h' : H} {v : Value} {bm : Nat} {rows : List (List Value)} {bs : List (Nat × Nat)} {ts : List TK} (Q : Lent h v bm rows bs ts) {i k : Nat} {ti tk : TK} {pi pk : Nat × Nat} {ri rk : List Value} (hi : ts[i]? = some ti) (hk : ts[k]? = some tk) (pi' : bs[i]? = some pi) (pk' : bs[k]? = some pk)
    (ri' : rows[i]? = some ri) (rk' : rows[k]? = some rk) (u : Upd (fun y => y = bm) h h') (m : RB h' bm 55 4 false ((rows.set i rk).set k ri)) : Lent h' v bm ((rows.set i rk).set k ri) ((bs.set i pk).set k pi) ((ts.set i tk).set k ti) := by
  have hl := Q.len
  have li := (List.getElem?_eq_some_iff.1 hi).1
  have lk := (List.getElem?_eq_some_iff.1 hk).1
  refine ⟨by simp only [List.length_set]; exact Q.v,m,by simp only [List.length_set]; exact hl,by simp only [List.length_set]; exact Q.bl,fun j t hj => ?_,fun j h1 h2 => ?_,swap_nodup pi' pk' _ Q.d1,swap_nodup pi' pk' _ Q.d2⟩
  · rw [swap_at hi hk] at hj
    obtain ⟨q,r,a,b,c⟩ := Q.t _ t hj
    have c' := c.ne Q.m
    exact ⟨q,r,by rw [swap_at pi' pk']; exact a,by rw [swap_at ri' rk']; exact b,c.upd u c'.1 c'.2⟩
  · simp only [List.length_set] at h1 h2
    rw [List.getElem?_set_ne (by omega),List.getElem?_set_ne (by omega)]
    exact Q.r j h1 h2
theorem sr_set {l m : List ByteArray} {k : Nat} (hk : k < l.length) (s : ByteArray) : (sr (l ++ m)).set k [.string s] = sr (l.set k s ++ m) := by
  unfold sr
  rw [← List.set_append_left _ _ hk,List.map_set]
theorem hds_set {rows : List (List Value)} {l m : List ByteArray} (h : hds rows (l ++ m)) {k : Nat} (hk : k < l.length) {s : ByteArray} {r : List Value} : hds (rows.set k (.string s :: r)) (l.set k s ++ m) := by
  unfold hds at *
  rw [List.map_set,h,← List.set_append_left _ _ hk,List.map_set]
  rfl
end Go.Proofs.Ytdadiidfhnojcaa.K
namespace Go.Proofs.Ytdadiidfhnojcaa.K
open Go Go.Kx
set_option linter.unusedVariables false
set_option linter.unusedSimpArgs false
set_option maxRecDepth 20000
theorem set_same {α : Type} {l : List α} {i : Nat} {x : α} (h : l[i]? = some x) : l.set i x = l := by
  apply List.ext_getElem?
  intro j
  by_cases e : j = i
  · subst e; rw [List.getElem?_set_self (List.getElem?_eq_some_iff.1 h).1,h]
  · rw [List.getElem?_set_ne (fun z => e z.symm)]
structure Td (h h' : H) (v : Value) (bm : Nat) (bs : List (Nat × Nat)) (ts : List TK) (ts' : List TK) (rows' : List (List Value)) (bs' : List (Nat × Nat)) : Prop where
  u : Upd (fun y => y = bm ∨ ∃ p ∈ bs,y = p.1 ∨ y = p.2) h h'
  q : Lent h' v bm rows' bs' ts'
  s : ∀ p ∈ bs',p ∈ bs
  n : ts'.length = ts.length
  i : ∀ t ∈ ts',∃ t0 ∈ ts,t.ins.length = t0.ins.length ∧ t.outs.length = t0.outs.length
theorem Td.same {h h' : H} {v : Value} {bm : Nat} {rows : List (List Value)} {bs : List (Nat × Nat)} {ts : List TK} (Q : Lent h v bm rows bs ts) (g : Grow h h') : Td h h' v bm bs ts ts rows bs :=
  ⟨g.upd _,Q.grow g,fun p hp => hp,rfl,fun t ht => ⟨t,ht,rfl,rfl⟩⟩
theorem Td.set {h h1 h' : H} {v : Value} {bm : Nat} {rows : List (List Value)} {bs : List (Nat × Nat)} {ts : List TK} (Q : Lent h1 v bm rows bs ts) (g : Grow h h1) {i : Nat} {t t' : TK} {p : Nat × Nat} {r' : List Value} (hi : ts[i]? = some t) (hp : bs[i]? = some p)
    (u : Upd (fun y => y = bm ∨ y = p.1 ∨ y = p.2) h1 h') (m : RB h' bm 55 4 false (rows.set i r')) (lt : LT h' t' p.1 p.2 r') (e1 : t'.ins.length = t.ins.length) (e2 : t'.outs.length = t.outs.length) : Td h h' v bm bs ts (ts.set i t') (rows.set i r') bs := by
  refine ⟨(g.upd _).trans (u.mono fun y _ z => ?_),Q.set (List.getElem?_eq_some_iff.1 hi).1 hp u m lt,fun p hp => hp,by rw [List.length_set],fun x hx => ?_⟩
  · rcases z with z | z | z
    · exact .inl z
    · exact .inr ⟨p,List.mem_of_getElem? hp,.inl z⟩
    · exact .inr ⟨p,List.mem_of_getElem? hp,.inr z⟩
  · rcases List.mem_or_eq_of_mem_set hx with z | z
    · exact ⟨x,z,rfl,rfl⟩
    · subst z; exact ⟨t,List.mem_of_getElem? hi,e1,e2⟩
theorem eTurned {h : H} {v : Value} {bm : Nat} {rows : List (List Value)} {bs : List (Nat × Nat)} {ts : List TK} (Q : Lent h v bm rows bs ts) (F : Few ts) (a b c : Int) (s : ByteArray) :
    ∃ h' ts' rows' bs',Td h h' v bm bs ts ts' rows' bs' ∧ CLM (.f 23) [v,.agg ⟨[.int .i64 a,.int .i64 b,.int .i64 c,.string s]⟩] h = .ok (.tuple ⟨[]⟩) h' := by
  have hn := F.n
  obtain ⟨h1,hh1⟩ : ∃ h1,h1 = h.alloc (.cells [.int .i64 a,.int .i64 b,.int .i64 c,.string s] 45 0 false) := ⟨_,rfl⟩
  have g1 : Grow h h1 := by rw [hh1]; exact (Grow.refl h).alloc _
  have hb : h1.get h.next = some (.cells [.int .i64 a,.int .i64 b,.int .i64 c,.string s] 45 0 false) := by rw [hh1]; exact H.alloc_self _ _
  have Q1 := Q.grow g1
  have hv := Q.v
  have top : CLM (.f 23) [v,.agg ⟨[.int .i64 a,.int .i64 b,.int .i64 c,.string s]⟩] h = if ((ts.length : Nat) : Int) = 0 then .ok (.tuple ⟨[]⟩) h1 else F23.j2 Try.prog CLM nu0 nu0 v (.pointer (some ⟨h.next,0,none⟩)) h1 := by
    rw [cM23,F23.eq,xbox_eq,go_ok,cells_agg,← hh1,hv,ln22,go_ok,xeql,go_ok,ifV_dec]
  rw [top]
  by_cases h0 : ts.length = 0
  · rw [if_pos (by omega)]
    exact ⟨h1,ts,rows,bs,Td.same Q g1,rfl⟩
  rw [if_neg (by omega)]
  obtain ⟨i,i1,i2,i3⟩ := eWhole a (lo := 0) (hi := (ts.length : Int) - 1) (by omega) (by omega) (by omega)
  have hil : i < ts.length := by omega
  have ht : ts[i]? = some ts[i] := List.getElem?_eq_getElem hil
  obtain ⟨t,et⟩ : ∃ t,t = ts[i] := ⟨_,rfl⟩
  rw [← et] at ht
  obtain ⟨⟨bi,bo⟩,r,hp,hr,L⟩ := Q1.t i t ht
  have hti := F.i t (List.mem_of_getElem? ht)
  have hto := F.o t (List.mem_of_getElem? ht)
  have Li := L.i
  obtain ⟨orows,Lo,ho⟩ := L.o
  have Le := L.e
  subst Le
  simp only at Li Lo hr
  have M := Q1.m
  have row := M.row hr
  have ne := L.ne M
  simp only at ne
  have ne2 : bi ≠ bo := Li.ne Lo (by decide)
  have c0 : xload Try.prog 3 (.pointer (some ⟨h.next,0,none⟩)) h1 = .ok (.int .i64 a) h1 := by rw [ld3,H.cell_eq hb]; rfl
  have c1 : xload Try.prog 3 (.pointer (some ⟨h.next,0 + 1,none⟩)) h1 = .ok (.int .i64 b) h1 := by rw [ld3,H.cell_eq hb]; rfl
  have c2 : xload Try.prog 3 (.pointer (some ⟨h.next,0 + 2,none⟩)) h1 = .ok (.int .i64 c) h1 := by rw [ld3,H.cell_eq hb]; rfl
  have c3 : xload Try.prog 9 (.pointer (some ⟨h.next,0 + 3,none⟩)) h1 = .ok (.string s) h1 := by rw [ld9,H.cell_eq hb]; rfl
  have ix : ∀ (q : Nat) (hh : H),q < ts.length → xindexAddr Try.prog 22 v (.int .i64 (q : Nat)) hh = .ok (.pointer (some ⟨bm,q * 4,none⟩)) hh := fun q hh hq => by
    have := ia22 bm 0 ts.length (ts.length + 3) q none .i64 hh hq
    rw [Nat.zero_add] at this
    rw [hv]; exact this
  have d2 : xload Try.prog 52 (.pointer (some ⟨bm,i * 4 + 2,none⟩)) h1 = .ok (.slice (some ⟨bi,0,none⟩) t.ins.length (t.ins.length + 3)) h1 := by rw [ld52,row.cell (j := 2) rfl,ofO_some]
  have d3 : xload Try.prog 53 (.pointer (some ⟨bm,i * 4 + 3,none⟩)) h1 = .ok (.slice (some ⟨bo,0,none⟩) t.outs.length (t.outs.length + 3)) h1 := by rw [ld53,row.cell (j := 3) rfl,ofO_some]
  have lv : ∀ hh : H,xbuiltin Try.prog .len [22] [v] hh = .ok (.int .i64 (ts.length : Nat)) hh := fun hh => by rw [hv]; exact ln22 _ _ _ _
  have start : F23.j2 Try.prog CLM nu0 nu0 v (.pointer (some ⟨h.next,0,none⟩)) h1 = if c = 0 then ((xstore Try.prog 9 (.pointer (some ⟨bm,i * 4,none⟩)) (.string s) h1).go .pan fun t16 h => .ok (.tuple ⟨[]⟩) h)
      else if c = 1 then F23.j6 Try.prog CLM nu0 nu0 v (.pointer (some ⟨h.next,0,none⟩)) (.int .i64 (i : Nat)) (.bool (decide ((0 : Int) < (t.ins.length : Nat)))) h1 else F23.j6 Try.prog CLM nu0 nu0 v (.pointer (some ⟨h.next,0,none⟩)) (.int .i64 (i : Nat)) (.bool false) h1 := by
    rw [F23.j2_eq,fa45_0,go_ok,c0,go_ok,lv,go_ok,xsub,go_ok,wrap64 (by omega),i3,go_ok,fa45_2,go_ok,c2,go_ok,xeql,go_ok,ifV_dec]
    split
    · rw [fa45_3,go_ok,c3,go_ok,ix _ _ hil,go_ok,fa55_0,go_ok]
    · rw [fa45_2,go_ok,c2,go_ok,xeql,go_ok,ifV_dec]
      split
      · rw [ix _ _ hil,go_ok,fa55_2,go_ok,d2,go_ok,ln52,go_ok,xgtr,go_ok]
      · rfl
  rw [start]
  by_cases hc0 : c = 0
  · rw [if_pos hc0]
    obtain ⟨h2,w2,u2,M2⟩ := M.wcell (j := 0) hr (by omega) (v := .string s) rfl
    rw [Nat.add_zero] at w2
    refine ⟨h2,ts.set i { t with name := s },_,bs,Td.set Q1 g1 ht hp (u2.mono fun y _ z => .inl z) M2 ⟨rfl,Li.upd u2 ne.1,orows,Lo.upd u2 ne.2,ho⟩ rfl rfl,?_⟩
    rw [st9 _ _ _ rfl,cells_str,w2,ofU_some,go_ok]
  rw [if_neg hc0]
  have rest : ∃ h' ts' rows' bs',Td h h' v bm bs ts ts' rows' bs' ∧ F23.j6 Try.prog CLM nu0 nu0 v (.pointer (some ⟨h.next,0,none⟩)) (.int .i64 (i : Nat)) (.bool false) h1 = .ok (.tuple ⟨[]⟩) h' := by
    have rest2 : ∃ h' ts' rows' bs',Td h h' v bm bs ts ts' rows' bs' ∧ F23.j8 Try.prog CLM nu0 nu0 v (.pointer (some ⟨h.next,0,none⟩)) (.int .i64 (i : Nat)) (.bool false) h1 = .ok (.tuple ⟨[]⟩) h' := by
      by_cases hc3 : c = 3
      · obtain ⟨k,k1,k2,k3⟩ := eWhole b (lo := 0) (hi := (ts.length : Int) - 1) (by omega) (by omega) (by omega)
        have hkl : k < ts.length := by omega
        have htk : ts[k]? = some ts[k] := List.getElem?_eq_getElem hkl
        obtain ⟨⟨ci,co⟩,rk,hpk,hrk,Lk⟩ := Q1.t k _ htk
        have Lke := Lk.e
        have lenk : rk.length = 4 := by rw [Lke]; rfl
        have onek : ones rk = true := by rw [Lke]; rfl
        obtain ⟨h2,hh2⟩ : ∃ h2,h2 = h1.alloc (.cells zc55 55 0 false) := ⟨_,rfl⟩
        have g2 : Grow h1 h2 := by rw [hh2]; exact (Grow.refl h1).alloc _
        have n2 : h1.next < h2.next := by rw [hh2]; exact Nat.lt_succ_self _
        have hb2 : h2.get h1.next = some (.cells zc55 55 0 false) := by rw [hh2]; exact H.alloc_self _ _
        obtain ⟨ri,eri⟩ : ∃ ri : List Value,ri = [.string t.name,.int .i64 t.bud,.slice (some ⟨bi,0,none⟩) t.ins.length (t.ins.length + 3),.slice (some ⟨bo,0,none⟩) t.outs.length (t.outs.length + 3)] := ⟨_,rfl⟩
        have leni : ri.length = 4 := by rw [eri]; rfl
        have onei : ones ri = true := by rw [eri]; rfl
        rw [← eri] at hr
        have w3 := H.write_all (l := ri) hb2 (by rw [leni]; rfl) onei
        obtain ⟨h3,hh3⟩ : ∃ h3,h3 = h2.put h1.next (.cells ri 55 0 false) := ⟨_,rfl⟩
        rw [← hh3] at w3
        have g3 : Grow h1 h3 := by rw [hh3]; exact g2.put (Nat.le_refl _) n2 _
        have hb3 : h3.get h1.next = some (.cells ri 55 0 false) := by rw [hh3]; exact H.put_self hb2
        have M3 := M.grow g3
        have hbm1 := H.get_lt M.2
        obtain ⟨h4,w4,u4,M4⟩ := M3.wrow (i := i) (r := rk) (by rw [Q1.len]; omega) lenk onek
        have hb4 : h4.get h1.next = some (.cells ri 55 0 false) := u4.old _ _ (by omega) hb3
        obtain ⟨h5,w5,u5,M5⟩ := M4.wrow (i := k) (r := ri) (by rw [List.length_set,Q1.len]; omega) leni onei
        have U : Upd (fun y => y = bm) h1 h5 := ((g3.upd _).trans u4).trans u5
        refine ⟨h5,(ts.set i ts[k]).set k t,(rows.set i rk).set k ri,(bs.set i (ci,co)).set k (bi,bo),⟨(g1.upd _).trans (U.mono fun y _ z => .inl z),Q1.swap ht htk hp hpk hr hrk U M5,fun p hp' => ?_,by simp,fun x hx => ?_⟩,?_⟩
        · rcases List.mem_or_eq_of_mem_set hp' with z | z
          · rcases List.mem_or_eq_of_mem_set z with z | z
            · exact z
            · subst z; exact List.mem_of_getElem? hpk
          · subst z; exact List.mem_of_getElem? hp
        · rcases List.mem_or_eq_of_mem_set hx with z | z
          · rcases List.mem_or_eq_of_mem_set z with z | z
            · exact ⟨x,z,rfl,rfl⟩
            · subst z; exact ⟨_,List.mem_of_getElem? htk,rfl,rfl⟩
          · subst z; exact ⟨_,List.mem_of_getElem? ht,rfl,rfl⟩
        · have r1 := (M.row hr).row leni
          have r2 := (M3.row hrk).row lenk
          have r3 : h4.row ⟨h1.next,0,none⟩ 4 = some ri := H.row_all hb4 leni
          have s2 : xstore Try.prog 55 (.pointer (some ⟨h1.next,0,none⟩)) (.agg ⟨ri⟩) h2 = .ok undef h3 := by rw [st55 _ _ _ (by rw [asz]; exact leni),cells_agg,w3,ofU_some]
          have s4 : xstore Try.prog 55 (.pointer (some ⟨bm,i * 4,none⟩)) (.agg ⟨rk⟩) h3 = .ok undef h4 := by rw [st55 _ _ _ (by rw [asz]; exact lenk),cells_agg,w4,ofU_some]
          have s5 : xstore Try.prog 55 (.pointer (some ⟨bm,k * 4,none⟩)) (.agg ⟨ri⟩) h4 = .ok undef h5 := by rw [st55 _ _ _ (by rw [asz]; exact leni),cells_agg,w5,ofU_some]
          rw [F23.j8_eq,ifV_f,fa45_2,go_ok,c2,go_ok,xeql,go_ok,ifV_dec,if_pos hc3,fa45_1,go_ok,c1,go_ok,lv,go_ok,xsub,go_ok,wrap64 (by omega),k3,go_ok,ix _ _ hil,go_ok,ld55,r1,ofA_some,go_ok,al55,go_ok,← hh2,s2,go_ok,ix _ _ hkl,go_ok,ld55,r2,ofA_some,go_ok,ix _ _ hil,go_ok,s4,go_ok,ld55,r3,ofA_some,go_ok,ix _ _ hkl,go_ok,s5,go_ok]
      · refine ⟨h1,ts,rows,bs,Td.same Q g1,?_⟩
        rw [F23.j8_eq,ifV_f,fa45_2,go_ok,c2,go_ok,xeql,go_ok,ifV_dec,if_neg hc3]
    by_cases hc2 : c = 2
    · by_cases ho0 : 0 < t.outs.length
      · obtain ⟨k,k1,k2,k3⟩ := eWhole b (lo := 0) (hi := (t.outs.length : Int) - 1) (by omega) (by omega) (by omega)
        have hk : k < t.outs.length := by omega
        have hhd := congrArg (fun z => z[k]?) ho
        simp only [List.getElem?_map] at hhd
        rw [List.getElem?_append_left hk,List.getElem?_eq_getElem hk] at hhd
        obtain ⟨r0,hr0,e0⟩ : ∃ r0,orows[k]? = some r0 ∧ r0.head? = some (.string t.outs[k]) := by
          cases q : orows[k]? with
          | none => rw [q] at hhd; cases hhd
          | some r0 => rw [q] at hhd; exact ⟨r0,rfl,by simpa using hhd⟩
        obtain ⟨r1,er1⟩ : ∃ r1,r0 = .string t.outs[k] :: r1 := by
          cases r0 with
          | nil => cases e0
          | cons x r1 => simp only [List.head?_cons,Option.some.injEq] at e0; exact ⟨r1,by rw [e0]⟩
        subst er1
        obtain ⟨h2,w2,u2,O2⟩ := Lo.wcell (j := 0) hr0 (by omega) (v := .string s) rfl
        rw [Nat.add_zero] at w2
        have st : xstore Try.prog 9 (.pointer (some ⟨bo,k * 6,none⟩)) (.string s) h1 = .ok undef h2 := by rw [st9 _ _ _ rfl,cells_str,w2,ofU_some]
        refine ⟨h2,ts.set i { t with outs := t.outs.set k s },rows.set i [.string t.name,.int .i64 t.bud,.slice (some ⟨bi,0,none⟩) t.ins.length (t.ins.length + 3),.slice (some ⟨bo,0,none⟩) t.outs.length (t.outs.length + 3)],bs,
          Td.set Q1 g1 ht hp (u2.mono fun y _ z => .inr (.inr z)) ?_ ⟨by simp only [List.length_set],Li.upd u2 ne2,_,O2,hds_set ho hk⟩ rfl (by simp only [List.length_set]),?_⟩
        · rw [set_same hr]; exact M.upd u2 (fun z => ne.2 z.symm)
        · have ixo := ia53 bo 0 t.outs.length (t.outs.length + 3) k none .i64 h1 hk
          rw [Nat.zero_add] at ixo
          rw [F23.j6_eq,ifV_f,fa45_2,go_ok,c2,go_ok,xeql,go_ok,ifV_dec,if_pos hc2,ix _ _ hil,go_ok,fa55_3,go_ok,d3,go_ok,ln53,go_ok,xgtr,go_ok,decide_eq_true (show (0 : Int) < (t.outs.length : Nat) by omega),F23.j8_eq,ifV_t,ix _ _ hil,Res.ok1_ok,fa55_3,Res.ok1_ok,d3,Res.ok1_ok,fa45_1,Res.ok1_ok,c1,Res.ok1_ok,ix _ _ hil,Res.ok1_ok,fa55_3,Res.ok1_ok,d3,Res.ok1_ok,lenV_slice,show (some t.outs.length).isSome = true from rfl,cond_true,ln53,Res.ok1_ok,plain2_int,cond_true,xsub,Res.ok1_ok,wrap64 (by omega),fa45_3,Res.ok1_ok,c3,Res.ok1_ok,k3,go_ok,d3,rc_slc,c3,rc_str,Bool.and_true,Bool.and_true,cond_true,ixo,Res.ok1_ok,fa63_0,Res.ok1_ok,st,go_ok]
      · obtain ⟨h',ts',rows',bs',T,e⟩ := rest2
        refine ⟨h',ts',rows',bs',T,?_⟩
        rw [F23.j6_eq,ifV_f,fa45_2,go_ok,c2,go_ok,xeql,go_ok,ifV_dec,if_pos hc2,ix _ _ hil,go_ok,fa55_3,go_ok,d3,go_ok,ln53,go_ok,xgtr,go_ok,decide_eq_false (show ¬ (0 : Int) < (t.outs.length : Nat) by omega),e]
    · obtain ⟨h',ts',rows',bs',T,e⟩ := rest2
      refine ⟨h',ts',rows',bs',T,?_⟩
      rw [F23.j6_eq,ifV_f,fa45_2,go_ok,c2,go_ok,xeql,go_ok,ifV_dec,if_neg hc2,e]
  by_cases hc1 : c = 1
  · rw [if_pos hc1]
    by_cases hi0 : 0 < t.ins.length
    · obtain ⟨k,k1,k2,k3⟩ := eWhole b (lo := 0) (hi := (t.ins.length : Int) - 1) (by omega) (by omega) (by omega)
      have hk : k < t.ins.length := by omega
      have hrk : (sr (t.ins ++ [room,room,room]))[k]? = some [.string t.ins[k]] := by
        unfold sr
        rw [List.getElem?_map,List.getElem?_append_left hk,List.getElem?_eq_getElem hk]
        rfl
      obtain ⟨h2,w2,u2,I2⟩ := Li.wcell (j := 0) hrk (by omega) (v := .string s) rfl
      rw [Nat.add_zero] at w2
      rw [show [Value.string t.ins[k]].set 0 (.string s) = [.string s] from rfl,sr_set hk] at I2
      have st : xstore Try.prog 9 (.pointer (some ⟨bi,k * 1,none⟩)) (.string s) h1 = .ok undef h2 := by rw [st9 _ _ _ rfl,cells_str,w2,ofU_some]
      refine ⟨h2,ts.set i { t with ins := t.ins.set k s },rows.set i [.string t.name,.int .i64 t.bud,.slice (some ⟨bi,0,none⟩) t.ins.length (t.ins.length + 3),.slice (some ⟨bo,0,none⟩) t.outs.length (t.outs.length + 3)],bs,
        Td.set Q1 g1 ht hp (u2.mono fun y _ z => .inr (.inl z)) ?_ ⟨by simp only [List.length_set],I2,_,Lo.upd u2 (fun z => ne2 z.symm),ho⟩ (by simp only [List.length_set]) rfl,?_⟩
      · rw [set_same hr]; exact M.upd u2 (fun z => ne.1 z.symm)
      · have ixi := ia52 bi 0 t.ins.length (t.ins.length + 3) k none .i64 h1 hk
        rw [Nat.zero_add] at ixi
        rw [decide_eq_true (show (0 : Int) < (t.ins.length : Nat) by omega),F23.j6_eq,ifV_t,ix _ _ hil,Res.ok1_ok,fa55_2,Res.ok1_ok,d2,Res.ok1_ok,fa45_1,Res.ok1_ok,c1,Res.ok1_ok,ix _ _ hil,Res.ok1_ok,fa55_2,Res.ok1_ok,d2,Res.ok1_ok,lenV_slice,show (some t.ins.length).isSome = true from rfl,cond_true,ln52,Res.ok1_ok,plain2_int,cond_true,xsub,Res.ok1_ok,wrap64 (by omega),fa45_3,Res.ok1_ok,c3,Res.ok1_ok,k3,go_ok,d2,rc_slc,c3,rc_str,Bool.and_true,Bool.and_true,cond_true,ixi,Res.ok1_ok,st,go_ok]
    · rw [decide_eq_false (show ¬ (0 : Int) < (t.ins.length : Nat) by omega)]
      exact rest
  · rw [if_neg hc1]
    exact rest
end Go.Proofs.Ytdadiidfhnojcaa.K
namespace Go.Proofs.Ytdadiidfhnojcaa.K
open Go Go.Kx
set_option linter.unusedVariables false
set_option linter.unusedSimpArgs false
set_option maxRecDepth 20000
theorem ndI_len {ts : List TK} (F : Few ts) (i : Int) : (ndI ts i).length ≤ 3000 := by
  unfold ndI
  split
  · exact Nat.le_trans (by rw [show (ndL ts i.toNat).length = (nd ts i.toNat).length from nl_len _]; exact nd_len _ _) F.n
  · simp
theorem ag_round {h : H} {x0 : Value} {ts : List TK} (T : Tasks h x0 ts) (F : Few ts) (x1 x28 x29 : Value) (i n : Nat) (hi : i < 20) (hn2 : n < 2) :
    ∃ h',Grow h h' ∧ F4.l6 Try.prog CLM nu0 nu0 x0 x1 (.int .i64 (i : Nat)) (.int .i64 (n : Nat)) x28 x29 h = F4.l6 Try.prog CLM nu0 nu0 x0 x1 (.int .i64 (i : Nat)) (.int .i64 ((n + 1 : Nat) : Int)) x28 x29 h' := by
  have hn := F.n
  obtain ⟨h2,a,ca,na,g2,ra,e2⟩ := eOrder T F
  obtain ⟨h3,b,cb,nb,g3,rb,e3⟩ := eROrder (T.grow g2) F
  obtain ⟨rfl,rfl,l,Ia,Ib,hl⟩ := ord_same ra rb hn
  have G3 := g2.trans g3
  obtain ⟨h5,c,cc,nc,g5,rc',e5⟩ := eLevels (T.grow G3) F
  obtain ⟨h6,d,cd,nd',g6,rd,e6⟩ := eRLevels (T.grow (G3.trans g5)) F rc'.known
  obtain ⟨rfl,rfl,ls,La,Lb,hls,hls2⟩ := lev_same rc' rd
  have g36 := g5.trans g6
  have e4 := eSameI (Ia.grow (g3.trans g36)) (Ib.grow g36) (by omega)
  rw [decide_eq_true rfl] at e4
  have e7 := eSameL (La.grow g6) Lb (by omega) (fun l hl => by have := hls2 l hl; omega)
  have G6 := G3.trans g36
  obtain ⟨m,hm1,hm2⟩ : ∃ m : Int,m = (if (ts.length : Int) - 1 < 0 then 0 else (ts.length : Int) - 1) ∧ 0 ≤ m ∧ m ≤ 3000 := by
    refine ⟨_,rfl,?_⟩
    split <;> omega
  obtain ⟨k,k1,k2,k3⟩ := eWhole (i : Int) (lo := 0) (hi := m) (by omega) (by omega) (by omega)
  obtain ⟨h8,v8,b8,g8,P8,_,e9⟩ := eNeeds (T.grow G6) F (k : Int)
  obtain ⟨h9,v9,b9,g9,P9,_,eA⟩ := eRNeeds (T.grow (G6.trans g8)) F (k : Int)
  have eB := eSameI (P8.nl.1.grow g9) P9.il (by have := ndI_len F (k : Int); omega)
  rw [decide_eq_true rfl] at eB
  refine ⟨h9,(G6.trans g8).trans g9,?_⟩
  rw [F4.l6_eq,xlss,go_ok,ifV_dec,if_pos (by omega),F4.j8_eq,e2,go_ok,xextract_0,go_ok,xextract_1,go_ok,xextract_2,go_ok,e3,go_ok,xextract_0,go_ok,xextract_1,go_ok,xextract_2,go_ok,e5,go_ok,xextract_0,go_ok,xextract_1,go_ok,xextract_2,go_ok,e6,go_ok,xextract_0,go_ok,xextract_1,go_ok,xextract_2,go_ok,
    e4,go_ok,xun_not,go_ok,show (!true) = false from rfl,ifV_f,eNum,go_ok,xneq,go_ok,ifV_not,if_pos rfl,xsneq,go_ok,ifV_not,if_pos rfl,e7,go_ok,xun_not,go_ok,show (!true) = false from rfl,ifV_f,eNum,go_ok,xneq,go_ok,ifV_not,if_pos rfl,xsneq,go_ok,ifV_not,if_pos rfl,
    F4.j14_eq,T.len,go_ok,xsub,go_ok,wrap64 (by omega),xmax',go_ok,← hm1,k3,go_ok,e9,go_ok,eA,go_ok,eB,go_ok,xun_not,go_ok,show (!true) = false from rfl,ifV_f,xadd,go_ok,wadd1 (by omega)]
def TurnsA (h : H) (v : Value) (n : Nat) : Prop := ∃ rows,Sl 4 h v rows ∧ rows.length = n ∧ ∀ r ∈ rows,∃ (a b c : Int) (s : ByteArray),r = [.int .i64 a,.int .i64 b,.int .i64 c,.string s]
theorem ag_loop {h0 : H} {x1 : Value} {n : Nat} (A : TurnsA h0 x1 n) {v : Value} {bm : Nat} (hbm : h0.next ≤ bm) : ∀ (d i : Nat) {h : H} {rows : List (List Value)} {bs : List (Nat × Nat)} {ts : List TK},20 - i = d → i ≤ 20 → Grow h0 h → Lent h v bm rows bs ts → (∀ p ∈ bs,h0.next ≤ p.1 ∧ h0.next ≤ p.2) →
    ts.length ≤ 60 → (∀ t ∈ ts,t.ins.length ≤ 12) → (∀ t ∈ ts,t.outs.length ≤ 12) →
    ∃ h',Grow h0 h' ∧ F4.l3 Try.prog CLM nu0 nu0 v x1 (.int .i64 (i : Nat)) h = .ok (.bool true) h' := by
  obtain ⟨trs,S,hl,ht⟩ := A
  intro d
  induction d with
  | zero =>
    intro i h rows bs ts hd hi g Q hb h1 h2 h3
    have hi : i = 20 := by omega
    subst hi
    obtain ⟨a,cap,hv1⟩ := (S.grow g).val
    obtain ⟨h',g',e'⟩ := eStarted h
    refine ⟨h',g.trans g',?_⟩
    rw [F4.l3_eq,hv1,ln26,go_ok,xleq,go_ok,ifV_dec]
    split
    · rw [xlss,go_ok,ifV_dec,if_neg (by omega),F4.j19_eq,e',go_ok]
    · rw [F4.j19_eq,e',go_ok]
  | succ d ih =>
    intro i h rows bs ts hd hi g Q hb h1 h2 h3
    have F := few60 h1 h2 h3
    obtain ⟨a,cap,hv1⟩ := S.val
    have hlen : ∀ hh : H,xbuiltin Try.prog .len [26] [x1] hh = .ok (.int .i64 (trs.length : Nat)) hh := fun hh => by rw [hv1]; exact ln26 _ _ _ _
    by_cases hc : i ≤ trs.length
    · obtain ⟨h4,g4,e4⟩ := ag_round Q.tasks F x1 (.int .i64 (i : Nat)) (.bool (decide ((i : Int) < 20))) i 0 (by omega) (by omega)
      obtain ⟨h5,g5,e5⟩ := ag_round (Q.tasks.grow g4) F x1 (.int .i64 (i : Nat)) (.bool (decide ((i : Int) < 20))) i 1 (by omega) (by omega)
      have Q5 := Q.grow (g4.trans g5)
      have G5 := g.trans (g4.trans g5)
      have top : F4.l3 Try.prog CLM nu0 nu0 v x1 (.int .i64 (i : Nat)) h = if (i : Int) < (trs.length : Nat) then ((xindexAddr Try.prog 26 x1 (.int .i64 (i : Nat)) h5).go .pan fun t36 h => (xload Try.prog 45 t36 h).go .pan fun t37 h => (CLM (.f 23) [v,t37] h).go .pan fun t38 h => F4.j4 Try.prog CLM nu0 nu0 v x1 (.int .i64 (i : Nat)) (.int .i64 (i : Nat)) (.bool (decide ((i : Int) < 20))) h)
          else F4.j4 Try.prog CLM nu0 nu0 v x1 (.int .i64 (i : Nat)) (.int .i64 (i : Nat)) (.bool (decide ((i : Int) < 20))) h5 := by
        rw [F4.l3_eq,hlen,go_ok,xleq,go_ok,ifV_dec,if_pos (by omega),xlss,go_ok,ifV_dec,if_pos (by omega),F4.j5_eq,show (Value.int .i64 0) = .int .i64 ((0 : Nat) : Int) from rfl,e4,e5,F4.l6_eq,xlss,go_ok,ifV_dec,if_neg (by omega),F4.j17_eq,hlen,go_ok,xlss,go_ok,ifV_dec]
      rw [top]
      by_cases hlt : i < trs.length
      · rw [if_pos (by omega)]
        have hr := List.getElem?_eq_getElem hlt
        obtain ⟨ta,tb,tc,s,er⟩ := ht _ (List.getElem_mem hlt)
        rw [er] at hr
        obtain ⟨b,o,sp,cap',hv2,row,_,_⟩ := S.at_ hr
        have ix : xindexAddr Try.prog 26 x1 (.int .i64 (i : Nat)) h5 = .ok (.pointer (some ⟨b,o + i * 4,none⟩)) h5 := by rw [hv2]; exact ia26 _ _ _ _ _ _ _ _ hlt
        have rr := (row.grow G5).row (n := 4) rfl
        obtain ⟨h6,ts',rows',bs',D,e6⟩ := eTurned Q5 F ta tb tc s
        have G6 : Grow h0 h6 := grow_then G5 D.u fun y hy => by
          rcases hy with rfl | ⟨p,hp,z⟩
          · exact hbm
          · have := hb p hp
            rcases z with z | z <;> omega
        obtain ⟨h',g',e'⟩ := ih (i + 1) (by omega) (by omega) G6 D.q (fun p hp => hb p (D.s p hp)) (by rw [D.n]; exact h1) (fun t ht' => by
          obtain ⟨t0,a,b,c⟩ := D.i t ht'; rw [b]; exact h2 t0 a) (fun t ht' => by
          obtain ⟨t0,a,b,c⟩ := D.i t ht'; rw [c]; exact h3 t0 a)
        refine ⟨h',g',?_⟩
        rw [ix,go_ok,ld45,rr,ofA_some,go_ok,e6,go_ok,F4.j4_eq,xadd,go_ok,wadd1 (by omega)]
        exact e'
      · rw [if_neg (by omega)]
        obtain ⟨h',g',e'⟩ := ih (i + 1) (by omega) (by omega) G5 Q5 hb h1 h2 h3
        refine ⟨h',g',?_⟩
        rw [F4.j4_eq,xadd,go_ok,wadd1 (by omega)]
        exact e'
    · obtain ⟨h',g',e'⟩ := eStarted h
      refine ⟨h',g.trans g',?_⟩
      rw [F4.l3_eq,hlen,go_ok,xleq,go_ok,ifV_dec,if_neg (by omega),F4.j19_eq,e',go_ok]
theorem again {h0 : H} {x0 x1 : Value} {ts : List TK} {n : Nat} (T : TasksA h0 x0 ts) (A : TurnsA h0 x1 n) : ∃ h',CLM (.f 4) [x0,x1] h0 = .ok (.bool true) h' ∧ Grow h0 h' := by
  obtain ⟨h1,v,g1,T1,e1⟩ := eFew T
  obtain ⟨h2,v2,bm,rows,bs,g2,Q,hb1,hb2,e2⟩ := eLent T1 few_few
  obtain ⟨h',g',e'⟩ := ag_loop A (Nat.le_trans g1.next hb1) _ 0 rfl (by omega) (g1.trans g2) Q (fun p hp => by have := hb2 p hp; have := g1.next; omega) (by rw [fewL_len]; exact Nat.min_le_right _ _) fewL_ins fewL_outs
  refine ⟨h',?_,g'⟩
  rw [cM4,F4.eq,e1,go_ok,e2,go_ok]
  exact e'
end Go.Proofs.Ytdadiidfhnojcaa.K
namespace Go.Proofs.Ytdadiidfhnojcaa.K
open Go Go.Kx Go.ChangeShapes Go.WideShapes Go.ChangeAt Go.RowKit
set_option maxRecDepth 100000
set_option linter.unusedVariables false
section
variable {HH : Type} {enc : TypeId × Value → HH} {W : World} {n : Nat} {cs : List Value} {x : DataW HH × List MemPlace}
theorem read_turn (h : DataW.trod enc Try.prog W 0 (fun _ => true) true n 45 cs = some x) : ∃ (a b c : Int) (s : ByteArray),cs = [.int .i64 a,.int .i64 b,.int .i64 c,.string s] := by
  obtain ⟨y0,y1,y2,y3,m,hl,h0,h1,h2,h3⟩ := trod_struct4' Try.underlying45 h
  rw [show Try.prog.cellsOf 45 = 4 by kernel_rfl] at hl
  simp only [show Try.prog.cellsOf 3 = 1 by kernel_rfl,show Try.prog.cellsOf 9 = 1 by kernel_rfl] at h0 h1 h2 h3
  obtain ⟨a,e0,_⟩ := read_int h0
  obtain ⟨b,e1,_⟩ := read_int h1
  obtain ⟨c,e2,_⟩ := read_int h2
  obtain ⟨s,e3⟩ := read_string h3
  match cs,hl with
  | [c0,c1,c2,c3],_ =>
    simp at e0 e1 e2 e3
    subst e0 e1 e2 e3
    exact ⟨a,b,c,s,rfl⟩
theorem read_turns {v : Value} {d : DataW HH} {p : List MemPlace} {base : Nat} (hval : Value.okWide Try.prog W .any base 26 v) (h : DataW.Trod enc Try.prog W 0 (fun _ => true) true 26 v d p) :
    ∃ u n,R (io W) u v ∧ TurnsA (hOf W) u n := by
  obtain ⟨fuel,h⟩ := h
  have hsl : ∃ o l c,v = .slice o l c := by
    have hv := hval
    unfold Value.okWide at hv
    rw [Try.underlying26] at hv
    cases v <;> first | exact ⟨_,_,_,rfl⟩ | (simp [Cell.okWide,Try.underlying26,Cell.ok] at hv)
  obtain ⟨o,l,c,rfl⟩ := hsl
  obtain ⟨v',u,rows,e1,_,e,q,z,f⟩ := read_sl (E := 4) Try.underlying26 (by kernel_rfl) (by omega) h (fun q => by
    obtain ⟨a,b,c,s,rfl⟩ := read_turn q
    rfl)
  have hv : v' = .slice o l c := by
    have : [Value.slice o l c] = [v'] := by simpa [Value.cells] using e1
    simpa using this.symm
  subst hv
  refine ⟨u,_,cv_R _ e,rows,q,rfl,fun r hr => ?_⟩
  obtain ⟨n',cs',x',rfl,h'⟩ := f r hr
  obtain ⟨a,b,c,s,rfl⟩ := read_turn h'
  exact ⟨a,b,c,s,rfl⟩
end
theorem contract4 (H : Type) (enc : TypeId × Value → H) (W : World) (base : Nat) (args : Array Value) (ds gs : List (DataW H)) (before : List MemPlace)
    (hval : ∀ (j : Nat) t v,Try.f4.params[j]? = some t → args[j]? = some v → Value.okWide Try.prog W .any base t v)
    (hW : DataW.Whole enc Try.prog Try.f4.params.toList Rows.graphAgainSpec.vars false W args.toList ds gs before) :
    Calls Try.prog 4 args W fun e W' => ∃ v,e = .returned v ∧ Rows.graphAgainSpec.post enc Try.prog Try.f4 false true false false W args v W' := by
  have hW' := hW
  obtain ⟨p,q,hA0,hV,rfl,hfz,hnd⟩ := hW
  have hA : DataW.TrodAll enc Try.prog W 0 (fun _ => true) true Try.f4.params.toList args.toList ds p := hA0
  rw [Try.params4] at hA hval
  obtain ⟨v0,v1,d0,d1,p0,p1,rfl,rfl,h0,h1⟩ := trodAll_two' hA
  obtain ⟨u,ts,rx0,T,_⟩ := read_tasks (hval 0 _ v0 rfl rfl) h0
  obtain ⟨u1,n,rx1,A⟩ := read_turns (hval 1 _ v1 rfl rfl) h1
  obtain ⟨h',hr,hg⟩ := again T A
  refine bare_true laidOut' ?_ rfl Try.func4 (by kernel_rfl) (by kernel_rfl) (tb := 4) (by kernel_rfl) Try.underlying4 rfl hW' CLM_ok ?_ hr hg
  · rw [Try.params4]
    intro t ht
    simp only [List.mem_cons,List.not_mem_nil,or_false] at ht
    rcases ht with rfl | rfl <;> exact ⟨by kernel_rfl,of_decide_eq_true (by kernel_rfl)⟩
  · exact .cons rx0 (.cons rx1 .nil)
theorem lifted4 (os : Os) (started : os.Started) (H : Type) (enc : TypeId × Value → H) :
    ReturnsInHanded {} Try.checked os 4 .any (Rows.graphAgainSpec.pre6 enc Try.prog Try.f4 Rows.graphAgainRow.domain false) (Rows.graphAgainSpec.post enc Try.prog Try.f4 false true false false) := by
  refine returnsInHanded_of_change (C := Try.checked) own' started (by kernel_rfl) Try.func4
    (ChangeSpec.witness6 (enc := enc) (C := Try.checked) false ⟨#[],#[.slice none 0 0,.slice none 0 0],[]⟩ 8 (by kernel_rfl) (by kernel_rfl) (by kernel_rfl) (by kernel_rfl)) ?_
  intro W base args ds gs before hval hW _ _
  exact contract4 H enc W base args ds gs before hval hW
end Go.Proofs.Ytdadiidfhnojcaa.K
namespace Go.Proofs.Ytdadiidfhnojcaa
open Go
set_option maxRecDepth 100000
theorem graphAgain_holds : Rows.GraphAgainSaid :=
  OpenClaim.holds_of_wide 4 Try.f4 rfl rfl rfl rfl rfl rfl rfl ⟨rfl,rfl,rfl,rfl,rfl⟩ rfl rfl rfl rfl rfl (by kernel_rfl) Try.func4 (by kernel_rfl)
    (of_decide_eq_true (by kernel_rfl)) (by unfold Func.isWrapper; first | (rw [if_pos (by decide +kernel)]; kernel_rfl) | (rw [if_neg (by decide +kernel)]; exact ⟨rfl,rfl⟩))
    (fun os started H enc _ => K.lifted4 os started H enc)
end Go.Proofs.Ytdadiidfhnojcaa
#print axioms Go.Proofs.Ytdadiidfhnojcaa.graphAgain_holds
