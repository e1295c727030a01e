/- Proved here: GraphMoved: for every input the call tells true, and what it was handed reads as it did. Conditions: none beyond those of the given row. -/
import Derived.Test.YtdadiidfhnojcaaChecked
import Derived.Test.YtdadiidfhnojcaaRows
import Derived.Test.YtdadiidfhnojcaaWd36
namespace Go.Proofs.Ytdadiidfhnojcaa.K
open Go Go.Kx
set_option linter.unusedVariables false
set_option linter.unusedSimpArgs false
set_option maxRecDepth 20000
def bsX : ByteArray := ⟨#[120]⟩
def bsY : ByteArray := ⟨#[121]⟩
def bsA : ByteArray := ⟨#[97]⟩
def bsB : ByteArray := ⟨#[98]⟩
def bsC : ByteArray := ⟨#[99]⟩
def bsP : ByteArray := ⟨#[112]⟩
def bsT : ByteArray := ⟨#[116]⟩
def bsA2 : ByteArray := ⟨#[97,50]⟩
def bsSrc : ByteArray := ⟨#[115,114,99]⟩
def ts4 : List TK := [⟨bsB,0,[],[bsX]⟩,⟨bsA,0,[bsX],[bsY]⟩,⟨bsC,0,[bsY,bsX,bsSrc],[]⟩,⟨bsA2,0,[],[]⟩]
def ts1 : List TK := [⟨bsT,0,[bsP],[bsP]⟩]
theorem nd4 : nd ts4 0 = [] ∧ nd ts4 1 = [0] ∧ nd ts4 2 = [0,1] ∧ nd ts4 3 = [] := by decide +kernel
theorem nd1 : nd ts1 0 = [0] := by decide +kernel
theorem nd_out {ts : List TK} {i : Nat} (h : ts.length ≤ i) : nd ts i = [] := by
  cases e : nd ts i with
  | nil => rfl
  | cons a l =>
    have := need_out (nd_mem.1 (show a ∈ nd ts i by rw [e]; simp)).2
    omega
theorem few4 : Few ts4 := ⟨by decide,by decide +kernel,by decide +kernel,by decide +kernel⟩
theorem few1 : Few ts1 := ⟨by decide,by decide +kernel,by decide +kernel,by decide +kernel⟩
theorem noC_of {ts : List TK} (h : ∀ i j,j ∈ nd ts i → j < i) : NoC ts := by
  have all : ∀ {a b},Path (nd ts) a b → b < a := by
    intro a b p
    induction p with
    | one e => exact h _ _ e
    | cons e _ ih => have := h _ _ e; omega
  intro k hk
  exact Nat.lt_irrefl _ (all hk)
theorem noC4 : NoC ts4 := noC_of fun i j hj => by
  obtain ⟨n0,n1,n2,n3⟩ := nd4
  match i with
  | 0 => rw [n0] at hj; cases hj
  | 1 => rw [n1] at hj; simp at hj; omega
  | 2 => rw [n2] at hj; simp at hj; omega
  | 3 => rw [n3] at hj; cases hj
  | i + 4 => rw [nd_out (by show 4 ≤ i + 4; omega)] at hj; cases hj
theorem cyc1 : CycMin ts1 0 := ⟨by decide,.one (by show (0 : Nat) ∈ nd ts1 0; rw [nd1]; simp),fun j hj => by
  have := OnC_lt hj
  have hj0 : j = 0 := by have h1 : ts1.length = 1 := rfl; omega
  subst hj0; exact aLt_irrefl _ _⟩
def readyB (ts : List TK) (R : List Nat) (j : Nat) : Bool := decide (j < ts.length) && (decide (j ∉ R) && (nd ts j).all fun k => decide (k ∈ R))
theorem readyB_iff {ts : List TK} {R : List Nat} {j : Nat} : readyB ts R j = true ↔ Ready ts R j := by
  unfold readyB Ready
  rw [Bool.and_eq_true,Bool.and_eq_true,decide_eq_true_iff,decide_eq_true_iff,ready_all]
def pickB (ts : List TK) (R : List Nat) (x : Nat) : Bool := readyB ts R x && (List.range ts.length).all fun j => !readyB ts R j || (decide (j = x) || aLt ts (x : Int) (j : Int))
theorem pickB_ok {ts : List TK} {R : List Nat} {x : Nat} (h : pickB ts R x = true) : Pick ts R x := by
  unfold pickB at h
  rw [Bool.and_eq_true,List.all_eq_true] at h
  refine ⟨readyB_iff.1 h.1,fun j hj => ?_⟩
  have := h.2 j (List.mem_range.2 hj.1)
  rw [readyB_iff.2 hj] at this
  simp only [Bool.not_true,Bool.false_or,Bool.or_eq_true,decide_eq_true_eq] at this
  exact this
theorem pk4 : pickB ts4 [] 3 = true ∧ pickB ts4 [3] 0 = true ∧ pickB ts4 [3,0] 1 = true ∧ pickB ts4 [3,0,1] 2 = true := by decide +kernel
theorem ord4 : IsOrd ts4 [3,0,1,2] := fun k x h => by
  obtain ⟨p0,p1,p2,p3⟩ := pk4
  match k with
  | 0 => cases h; exact pickB_ok p0
  | 1 => cases h; exact pickB_ok p1
  | 2 => cases h; exact pickB_ok p2
  | 3 => cases h; exact pickB_ok p3
  | k + 4 => simp at h
theorem bOut (s : ByteArray) (h : H) : xbuild Try.prog 63 [(0,.string s)] h = .ok (.agg ⟨.string s :: zc63.drop 1⟩) h := by kernel_rfl
theorem bOuts (s : ByteArray) (h : H) : xbuildSlice Try.prog 53 1 [(0,.agg ⟨.string s :: zc63.drop 1⟩)] h = .ok (.slice (some ⟨h.next,0,none⟩) 1 1) (h.alloc (.cells (.string s :: zc63.drop 1) 63 0 false)) := by kernel_rfl
theorem oneOut {h : H} {b : Nat} {s : ByteArray} (g : h.get b = some (.cells (.string s :: zc63.drop 1) 63 0 false)) : OutSl h (.slice (some ⟨b,0,none⟩) 1 1) [s] := by
  have hl : (Value.string s :: zc63.drop 1).length = 6 := by simp [zc63_len]
  have ho : ones (Value.string s :: zc63.drop 1) = true := by
    show (true && ones (zc63.drop 1)) = true
    rw [ones_drop zc63_ones]; rfl
  refine ⟨[.string s :: zc63.drop 1],⟨GoodR.one hl ho,.inr ⟨b,0,none,1,rfl,_,_,_,_,g,by simp,by simp only [List.drop_zero,List.flatten_cons,List.flatten_nil,List.append_nil]; exact List.take_length⟩⟩,rfl⟩
theorem someStr {h : H} {b : Nat} {l : List ByteArray} (g : h.get b = some (.cells (l.map fun s => .string s) 9 0 false)) : StrSl h (.slice (some ⟨b,0,none⟩) l.length l.length) l := by
  have e : (l.map fun s => [Value.string s]).flatten = l.map fun s => .string s := by
    clear g
    induction l with
    | nil => rfl
    | cons a l ih => simp only [List.map_cons,List.flatten_cons,ih]; rfl
  refine ⟨sr_good l,.inr ⟨b,0,none,l.length,by rw [List.length_map],_,_,_,_,g,?_,?_⟩⟩
  · rw [e]; omega
  · rw [e,List.drop_zero,List.take_length]
theorem nilStr (h : H) : StrSl h (.slice none 0 0) [] := ⟨GoodR.nil,.inl ⟨Nul.nil,rfl⟩⟩
theorem nilOut (h : H) : OutSl h (.slice none 0 0) [] := ⟨[],⟨GoodR.nil,.inl ⟨Nul.nil,rfl⟩⟩,rfl⟩
theorem bT (n : ByteArray) (h : H) : xbuild Try.prog 55 [(0,.string n)] h = .ok (.agg ⟨[.string n,.int .i64 0,.slice none 0 0,.slice none 0 0]⟩) h := by kernel_rfl
theorem bTo (n : ByteArray) (b c d : Nat) (h : H) : xbuild Try.prog 55 [(0,.string n),(3,.slice (some ⟨b,0,none⟩) c d)] h = .ok (.agg ⟨[.string n,.int .i64 0,.slice none 0 0,.slice (some ⟨b,0,none⟩) c d]⟩) h := by kernel_rfl
theorem bTi (n : ByteArray) (b c d : Nat) (h : H) : xbuild Try.prog 55 [(0,.string n),(2,.slice (some ⟨b,0,none⟩) c d)] h = .ok (.agg ⟨[.string n,.int .i64 0,.slice (some ⟨b,0,none⟩) c d,.slice none 0 0]⟩) h := by kernel_rfl
theorem bTio (n : ByteArray) (b c d b' c' d' : Nat) (h : H) : xbuild Try.prog 55 [(0,.string n),(2,.slice (some ⟨b,0,none⟩) c d),(3,.slice (some ⟨b',0,none⟩) c' d')] h = .ok (.agg ⟨[.string n,.int .i64 0,.slice (some ⟨b,0,none⟩) c d,.slice (some ⟨b',0,none⟩) c' d']⟩) h := by kernel_rfl
theorem bS1 (s : ByteArray) (h : H) : xbuildSlice Try.prog 52 1 [(0,.string s)] h = .ok (.slice (some ⟨h.next,0,none⟩) 1 1) (h.alloc (.cells [.string s] 9 0 false)) := by kernel_rfl
theorem bS3 (s t u : ByteArray) (h : H) : xbuildSlice Try.prog 52 3 [(0,.string s),(1,.string t),(2,.string u)] h = .ok (.slice (some ⟨h.next,0,none⟩) 3 3) (h.alloc (.cells [.string s,.string t,.string u] 9 0 false)) := by kernel_rfl
def tr (n : ByteArray) (i o : Value) : List Value := [.string n,.int .i64 0,i,o]
def sv (b n : Nat) : Value := .slice (some ⟨b,0,none⟩) n n
theorem tr_good {n : ByteArray} {i o : Value} (hi : i.oneCell' = true) (ho : o.oneCell' = true) : (tr n i o).length = 4 ∧ ones (tr n i o) = true := ⟨rfl,by
  show (true && (true && (i.oneCell' && (o.oneCell' && true)))) = true
  rw [hi,ho]; rfl⟩
theorem lay4 (h : H) : ∃ h' v,Grow h h' ∧ Tasks h' v ts4 ∧ ∀ K : Value → H → Res Value,
    ((xbuild Try.prog 63 [(0,.string bsX)] h).go .pan fun t1 h2 => (xbuildSlice Try.prog 53 1 [(0,t1)] h2).go .pan fun t3 h4 => (xbuild Try.prog 55 [(0,.string bsB),(3,t3)] h4).go .pan fun t5 h6 => (xbuildSlice Try.prog 52 1 [(0,.string bsX)] h6).go .pan fun t7 h8 => (xbuild Try.prog 63 [(0,.string bsY)] h8).go .pan fun t9 h10 => (xbuildSlice Try.prog 53 1 [(0,t9)] h10).go .pan fun t11 h12 =>
      (xbuild Try.prog 55 [(0,.string bsA),(2,t7),(3,t11)] h12).go .pan fun t13 h14 => (xbuildSlice Try.prog 52 3 [(0,.string bsY),(1,.string bsX),(2,.string bsSrc)] h14).go .pan fun t15 h16 => (xbuild Try.prog 55 [(0,.string bsC),(2,t15)] h16).go .pan fun t17 h18 => (xbuild Try.prog 55 [(0,.string bsA2)] h18).go .pan fun t19 h20 => (xbuildSlice Try.prog 22 4 [(0,t5),(1,t13),(2,t17),(3,t19)] h20).go .pan K) = K v h' := by
  obtain ⟨h1,e1⟩ : ∃ h1,h1 = h.alloc (.cells (.string bsX :: zc63.drop 1) 63 0 false) := ⟨_,rfl⟩
  obtain ⟨h2,e2⟩ : ∃ h2,h2 = h1.alloc (.cells [.string bsX] 9 0 false) := ⟨_,rfl⟩
  obtain ⟨h3,e3⟩ : ∃ h3,h3 = h2.alloc (.cells (.string bsY :: zc63.drop 1) 63 0 false) := ⟨_,rfl⟩
  obtain ⟨h4,e4⟩ : ∃ h4,h4 = h3.alloc (.cells [.string bsY,.string bsX,.string bsSrc] 9 0 false) := ⟨_,rfl⟩
  obtain ⟨h5,e5⟩ : ∃ h5,h5 = h4.alloc (.cells (tr bsB (.slice none 0 0) (sv h.next 1) ++ (tr bsA (sv h1.next 1) (sv h2.next 1) ++ (tr bsC (sv h3.next 3) (.slice none 0 0) ++ tr bsA2 (.slice none 0 0) (.slice none 0 0)))) 55 0 false) := ⟨_,rfl⟩
  have g1 : Grow h h1 := by rw [e1]; exact (Grow.refl h).alloc _
  have g2 : Grow h1 h2 := by rw [e2]; exact (Grow.refl h1).alloc _
  have g3 : Grow h2 h3 := by rw [e3]; exact (Grow.refl h2).alloc _
  have g4 : Grow h3 h4 := by rw [e4]; exact (Grow.refl h3).alloc _
  have g5 : Grow h4 h5 := by rw [e5]; exact (Grow.refl h4).alloc _
  have b1 : h5.get h.next = some (.cells (.string bsX :: zc63.drop 1) 63 0 false) := g5.old _ _ (g4.old _ _ (g3.old _ _ (g2.old _ _ (by rw [e1]; exact H.alloc_self _ _))))
  have b2 : h5.get h1.next = some (.cells [.string bsX] 9 0 false) := g5.old _ _ (g4.old _ _ (g3.old _ _ (by rw [e2]; exact H.alloc_self _ _)))
  have b3 : h5.get h2.next = some (.cells (.string bsY :: zc63.drop 1) 63 0 false) := g5.old _ _ (g4.old _ _ (by rw [e3]; exact H.alloc_self _ _))
  have b4 : h5.get h3.next = some (.cells [.string bsY,.string bsX,.string bsSrc] 9 0 false) := g5.old _ _ (by rw [e4]; exact H.alloc_self _ _)
  have b5 : h5.get h4.next = some (.cells (tr bsB (.slice none 0 0) (sv h.next 1) ++ (tr bsA (sv h1.next 1) (sv h2.next 1) ++ (tr bsC (sv h3.next 3) (.slice none 0 0) ++ tr bsA2 (.slice none 0 0) (.slice none 0 0)))) 55 0 false) := by rw [e5]; exact H.alloc_self _ _
  refine ⟨h5,sv h4.next 4,(((g1.trans g2).trans g3).trans g4).trans g5,⟨[tr bsB (.slice none 0 0) (sv h.next 1),tr bsA (sv h1.next 1) (sv h2.next 1),tr bsC (sv h3.next 3) (.slice none 0 0),tr bsA2 (.slice none 0 0) (.slice none 0 0)],⟨fun r hr => ?_,.inr ⟨h4.next,0,none,4,rfl,_,_,_,_,b5,by simp,by simp [tr]⟩⟩,rfl,fun i t ht => ?_⟩,fun K => ?_⟩
  · simp only [List.mem_cons,List.not_mem_nil,or_false] at hr
    rcases hr with rfl | rfl | rfl | rfl <;> exact tr_good rfl rfl
  · match i with
    | 0 => cases ht; exact ⟨_,rfl,_,_,rfl,nilStr _,oneOut b1⟩
    | 1 => cases ht; exact ⟨_,rfl,_,_,rfl,someStr (l := [bsX]) b2,oneOut b3⟩
    | 2 => cases ht; exact ⟨_,rfl,_,_,rfl,someStr (l := [bsY,bsX,bsSrc]) b4,nilOut _⟩
    | 3 => cases ht; exact ⟨_,rfl,_,_,rfl,nilStr _,nilOut _⟩
    | i + 4 => simp [ts4] at ht
  · have eb : xbuildSlice Try.prog 22 4 [(0,.agg ⟨tr bsB (.slice none 0 0) (sv h.next 1)⟩),(1,.agg ⟨tr bsA (sv h1.next 1) (sv h2.next 1)⟩),(2,.agg ⟨tr bsC (sv h3.next 3) (.slice none 0 0)⟩),(3,.agg ⟨tr bsA2 (.slice none 0 0) (.slice none 0 0)⟩)] h4 = .ok (sv h4.next 4) h5 := by
      rw [e5]; kernel_rfl
    rw [bOut,go_ok,bOuts,go_ok,← e1,bTo,go_ok,bS1,go_ok,← e2,bOut,go_ok,bOuts,go_ok,← e3,bTio,go_ok,bS3,go_ok,← e4,bTi,go_ok,bT,go_ok]
    exact (congrArg (fun z => z.go .pan K) eb).trans (go_ok _ _ _ _)
theorem lay1 (h : H) : ∃ h' v,Grow h h' ∧ Tasks h' v ts1 ∧ ∀ K : Value → H → Res Value,
    ((xbuildSlice Try.prog 52 1 [(0,.string bsP)] h).go .pan fun t31 h32 => (xbuild Try.prog 63 [(0,.string bsP)] h32).go .pan fun t33 h34 => (xbuildSlice Try.prog 53 1 [(0,t33)] h34).go .pan fun t35 h36 => (xbuild Try.prog 55 [(0,.string bsT),(2,t31),(3,t35)] h36).go .pan fun t37 h38 => (xbuildSlice Try.prog 22 1 [(0,t37)] h38).go .pan K) = K v h' := by
  obtain ⟨h1,e1⟩ : ∃ h1,h1 = h.alloc (.cells [.string bsP] 9 0 false) := ⟨_,rfl⟩
  obtain ⟨h2,e2⟩ : ∃ h2,h2 = h1.alloc (.cells (.string bsP :: zc63.drop 1) 63 0 false) := ⟨_,rfl⟩
  obtain ⟨h3,e3⟩ : ∃ h3,h3 = h2.alloc (.cells (tr bsT (sv h.next 1) (sv h1.next 1)) 55 0 false) := ⟨_,rfl⟩
  have g1 : Grow h h1 := by rw [e1]; exact (Grow.refl h).alloc _
  have g2 : Grow h1 h2 := by rw [e2]; exact (Grow.refl h1).alloc _
  have g3 : Grow h2 h3 := by rw [e3]; exact (Grow.refl h2).alloc _
  have b1 : h3.get h.next = some (.cells [.string bsP] 9 0 false) := g3.old _ _ (g2.old _ _ (by rw [e1]; exact H.alloc_self _ _))
  have b2 : h3.get h1.next = some (.cells (.string bsP :: zc63.drop 1) 63 0 false) := g3.old _ _ (by rw [e2]; exact H.alloc_self _ _)
  have b3 : h3.get h2.next = some (.cells (tr bsT (sv h.next 1) (sv h1.next 1)) 55 0 false) := by rw [e3]; exact H.alloc_self _ _
  refine ⟨h3,sv h2.next 1,(g1.trans g2).trans g3,⟨[tr bsT (sv h.next 1) (sv h1.next 1)],⟨fun r hr => ?_,.inr ⟨h2.next,0,none,1,rfl,_,_,_,_,b3,by simp,by simp [tr]⟩⟩,rfl,fun i t ht => ?_⟩,fun K => ?_⟩
  · simp only [List.mem_cons,List.not_mem_nil,or_false] at hr
    subst hr; exact tr_good rfl rfl
  · match i with
    | 0 => cases ht; exact ⟨_,rfl,_,_,rfl,someStr (l := [bsP]) b1,oneOut b2⟩
    | i + 1 => simp [ts1] at ht
  · have eb : xbuildSlice Try.prog 22 1 [(0,.agg ⟨tr bsT (sv h.next 1) (sv h1.next 1)⟩)] h2 = .ok (sv h2.next 1) h3 := by
      rw [e3]; kernel_rfl
    rw [bS1,go_ok,← e1,bOut,go_ok,bOuts,go_ok,← e2,bTio,go_ok]
    exact (congrArg (fun z => z.go .pan K) eb).trans (go_ok _ _ _ _)
end Go.Proofs.Ytdadiidfhnojcaa.K
namespace Go.Proofs.Ytdadiidfhnojcaa.K
open Go Go.Kx
set_option linter.unusedVariables false
set_option linter.unusedSimpArgs false
set_option maxRecDepth 20000
theorem Out.il {h : H} {b : Nat} {R : List Nat} {n : Nat} (o : Out h b n R) (hn : R.length = n) : IL h (.slice (some ⟨b,0,none⟩) n n) (nl R) := by
  obtain ⟨sp,hg,_⟩ := o
  exact .inr ⟨b,none,n,sp,false,by rw [nl_len,hn],hg⟩
theorem eStarted (h : H) : ∃ h',Grow h h' ∧ CLM (.f 11) [] h = .ok (.bool true) h' := by
  obtain ⟨h1,v1,g1,T1,e1⟩ := lay4 h
  obtain ⟨h2,a,ca,na,g2,ra,e2⟩ := eOrder T1 few4
  obtain ⟨h3,v3,g3,T3,e3⟩ := lay1 h2
  obtain ⟨h4,b,cb,nb,g4,rb,e4⟩ := eOrder T3 few1
  rcases ra with ⟨c,hc,_⟩ | ⟨_,R,ba,io,hl,_,oa,rfl,rfl,rfl⟩
  · exact absurd hc.2.1 (noC4 c)
  rcases rb with ⟨c,hc,rfl,rfl,rfl⟩ | ⟨nc,_⟩
  rotate_left
  · exact absurd cyc1.2.1 (nc 0)
  have hR : R = [3,0,1,2] := io.uniq ord4 hl
  have hc0 : c = 0 := hc.uniq cyc1
  subst hR hc0
  have T1' := T1.grow ((g2.trans g3).trans g4)
  obtain ⟨h5,hh5⟩ : ∃ h5,h5 = h4.alloc (.cells [.int .i64 3,.int .i64 0,.int .i64 1,.int .i64 2] 3 0 false) := ⟨_,rfl⟩
  have g5 : Grow h4 h5 := by rw [hh5]; exact (Grow.refl h4).alloc _
  have eb : xbuildSlice Try.prog 27 4 [(0,.int .i64 3),(1,.int .i64 0),(2,.int .i64 1),(3,.int .i64 2)] h4 = .ok (.slice (some ⟨h4.next,0,none⟩) 4 4) h5 := by rw [hh5]; kernel_rfl
  have I1 : IL h5 (.slice (some ⟨ba,0,none⟩) ts4.length ts4.length) (nl [3,0,1,2]) := (Out.il oa rfl).grow ((g3.trans g4).trans g5)
  have I2 : IL h5 (.slice (some ⟨h4.next,0,none⟩) 4 4) (nl [3,0,1,2]) := .inr ⟨h4.next,none,4,[],false,rfl,by rw [hh5]; exact H.alloc_self _ _⟩
  have e5 := eSameI I1 I2 (by simp [nl])
  rw [decide_eq_true rfl] at e5
  obtain ⟨h6,v6,b6,g6,P6,_,e6⟩ := eNeeds (T1'.grow g5) few4 4
  obtain ⟨h7,v7,b7,g7,P7,_,e7⟩ := eNeeds (T1'.grow (g5.trans g6)) few4 (-1)
  have n4 : ndI ts4 4 = [] := if_neg (by decide)
  have n5 : ndI ts4 (-1) = [] := if_neg (by decide)
  rw [n4] at P6
  rw [n5] at P7
  have l6 := P6.nl.1.len h6
  have hz : ((0 : Nat) : Int) = 0 := rfl
  have hlz : ((([] : List Int).length : Nat) : Int) = 0 := rfl
  have hnm : nm ts1 ((0 : Nat) : Int) = ⟨#[116]⟩ := rfl
  have l7 := P7.nl.1.len h7
  refine ⟨h7,(((((g1.trans g2).trans g3).trans g4).trans g5).trans g6).trans g7,?_⟩
  rw [cM11,F11.eq]
  refine (e1 _).trans ?_
  show ((CLM (.f 13) [v1] h1).go .pan _) = _
  rw [e2,go_ok,xextract_0,go_ok,xextract_1,go_ok,xextract_2,go_ok]
  refine (e3 _).trans ?_
  show ((CLM (.f 13) [v3] h3).go .pan _) = _
  rw [e4,go_ok,xextract_0,go_ok,xextract_1,go_ok,xextract_2,go_ok,eb,go_ok,e5,go_ok,ifV_t,eNum,go_ok,xeql,go_ok,ifV_dec,if_pos rfl,xseql,go_ok,ifV_dec,if_pos rfl,ln27,go_ok,xeql,go_ok,ifV_dec,if_pos hz,eNum,go_ok,xeql,go_ok,ifV_dec,if_pos rfl,xseql,go_ok,ifV_dec,if_pos hnm,e6,go_ok,l6,go_ok,xeql,go_ok,ifV_dec,if_pos hlz,e7,go_ok,l7,go_ok,xeql,go_ok]
  rfl
theorem levs_len {ts : List TK} {L : Nat → Nat} {ls : List (List Nat)} (lv : IsLevs ts L ls) : ls.length ≤ ts.length ∧ ∀ l ∈ ls,l.length ≤ ts.length := by
  classical
  refine ⟨?_,fun l hl => ?_⟩
  · have hsub : List.range ls.length ⊆ (List.range ts.length).map L := fun k hk => by
      have hk' := List.mem_range.1 hk
      obtain ⟨i,hi⟩ := List.exists_mem_of_ne_nil _ (lv.ne _ (List.getElem_mem hk'))
      obtain ⟨h1,h2⟩ := (lv.m k _ (List.getElem?_eq_getElem hk') i).1 hi
      exact List.mem_map.2 ⟨i,List.mem_range.2 h1,h2⟩
    have := List.Nodup.length_le_of_subset List.nodup_range hsub
    simpa using this
  · obtain ⟨k,hk⟩ := List.mem_iff_getElem?.1 hl
    have hn : l.Nodup := (lv.s l hl).imp fun {a b} z e => by
      subst e; rw [aLt_irrefl] at z; cases z
    have := List.Nodup.length_le_of_subset hn (l₂ := List.range ts.length) fun j hj => List.mem_range.2 ((lv.m k l hk j).1 hj).1
    simpa using this
theorem LevR.known {h0 h1 : H} {ts : List TK} {v : Value} {c : Int} {m : ByteArray} (p : LevR h0 h1 ts v c m) : NoC ts → ∃ L ls,IsLevs ts L ls := fun nc => by
  rcases p with ⟨x,hx,_⟩ | ⟨_,L,ls,_,_,lv,_⟩
  · exact absurd hx.2.1 (nc x)
  · exact ⟨L,ls,lv⟩
end Go.Proofs.Ytdadiidfhnojcaa.K
namespace Go.Proofs.Ytdadiidfhnojcaa.K
open Go Go.Kx
set_option maxRecDepth 100000
set_option linter.unusedVariables false
theorem mixed : Try.prog.follows .mixedOrders = true := by kernel_rfl
noncomputable def primO : Pr := fun f args h => match f with
  | 59 => ovP args h
  | _ => .bad
noncomputable def CLO : Cl := clS Try.prog tab primO
theorem ovO (args args' : List Value) (ι : Io) (h : H) (w : World) (s : Sim Try.prog ι h w) (ha : RL ι args args') : SN Try.prog ι w (ovP args h) (callFunc 59 ⟨args'⟩) :=
  ovP_ok (sl := 27) (tR := 4) (e := 3) Try.func59 (by kernel_rfl) (by kernel_rfl) (by kernel_rfl) (by kernel_rfl) (by kernel_rfl) (rSizeOf (by kernel_rfl)) args args' ι h w s ha
theorem primO_ok : PrOk Try.prog 0 primO := by
  intro f args args' ι h w hg s ha
  unfold primO
  split
  · exact ovO args args' ι h w s ha
  · trivial
theorem CLO_ok : ClOk Try.prog 0 CLO := clS_ok mixed tab_ok primO_ok
theorem TI : InsT Try.prog 27 3 3 := ⟨by kernel_rfl,by kernel_rfl,by kernel_rfl,by kernel_rfl,by kernel_rfl,Nat.lt_of_lt_of_le (Nat.zero_lt_succ 0) (Nat.le_of_eq (by kernel_rfl : 1 = Try.prog.cellsOf 3))⟩
theorem bodyI (x0 x1 x2 : Value) (h : H) : CLO (.f 47) [x0,x1,x2] h = insB Try.prog 27 3 59 (F47.j18 Try.prog CLO nu0 nu0) CLO x0 x1 x2 h := by
  have e : CLO (.f 47) [x0,x1,x2] h = runX Try.prog CLO nu0 an47 Try.f47 [x0,x1,x2] h := clS_eq (by kernel_rfl) _ _
  rw [e,F47.eq]
  simp only [F47.j5_eq,F47.j8_eq,F47.j13_eq]
  rfl
theorem insI_ok (args args' : List Value) (ι : Io) (h : H) (w : World) (s : Sim Try.prog ι h w) (ha : RL ι args args') : SN Try.prog ι w (insP Try.prog 27 args h) (callFunc 47 ⟨args'⟩) :=
  insP_ok TI (G := 0) CLO_ok bodyI (fun args h => clS_prim (by kernel_rfl) args h) args args' ι h w s ha
theorem primM_ok : PrOk Try.prog 0 primM := by
  intro f args args' ι h w hg s ha
  unfold primM
  split
  · exact insI_ok args args' ι h w s ha
  · trivial
theorem tabM_ok : ∀ f fn an,tabM f = some (fn,an) → fnOk Try.prog 0 an f fn := by
  intro f fn an h
  unfold tabM at h
  split at h
  · cases h
  · exact tab_ok _ _ _ h
theorem CLM_ok : ClOk Try.prog 0 CLM := clS_ok mixed tabM_ok primM_ok
end Go.Proofs.Ytdadiidfhnojcaa.K
namespace Go.Proofs.Ytdadiidfhnojcaa.K
open Go Go.Kx Go.ChangeShapes Go.WideShapes Go.ChangeAt Go.RowKit
set_option maxRecDepth 100000
set_option linter.unusedVariables false
theorem row_of_cellsC {W : World} {base : Nat} {a : Addr} {n : Nat} {cs : List Value} (hn : 0 < n) (h : W.cells? base a n = some cs) :
    a.spot = none ∧ lv W a.block = true ∧ ∃ c el f,(hOf W).get a.block = some (.cells c el f false) ∧ a.off + n ≤ c.length ∧ (c.drop a.off).take n = cs.map (cvC (lv W)) := by
  obtain ⟨_,hlen,hc⟩ := World.cells?_some h
  have h0 := hc 0 hn
  have a0 : a.add 0 = a := by unfold Addr.add; rw [if_pos rfl]
  rw [a0,List.getElem?_eq_getElem (by omega : 0 < cs.length)] at h0
  unfold World.cell? at h0
  split at h0
  · rename_i c el lh hb
    have hs : a.spot = none := by
      cases q : a.spot with
      | none => rfl
      | some k => rw [q] at h0; simp at h0
    obtain ⟨l⟩ := c
    have hl : lv W a.block = true := by unfold lv lvO; rw [hb]
    refine ⟨hs,hl,l.map (cvC (lv W)),el,_,by rw [hOf_get,hb]; rfl,?_⟩
    have hat : ∀ i,i < n → l[a.off + i]? = cs[i]? := by
      intro i hi
      rw [← hc i hi]
      unfold World.cell?
      have : (a.add i).block = a.block ∧ (a.add i).off = a.off + i ∧ (a.add i).spot = none := by
        unfold Addr.add
        split
        · rename_i h0; subst h0; exact ⟨rfl,rfl,hs⟩
        · exact ⟨rfl,rfl,rfl⟩
      rw [this.1,hb,this.2.1,this.2.2]
      simp
    have hle : a.off + n ≤ l.length := by
      have := hat (n - 1) (by omega)
      rw [List.getElem?_eq_getElem (by omega : n - 1 < cs.length)] at this
      have := (List.getElem?_eq_some_iff.1 this).1
      omega
    refine ⟨by rw [List.length_map]; exact hle,?_⟩
    rw [← List.map_drop,← List.map_take]
    congr 1
    apply List.ext_getElem?
    intro i
    rw [List.getElem?_take]
    split
    · rename_i hi; rw [List.getElem?_drop]; exact hat i hi
    · rename_i hi; rw [List.getElem?_eq_none (by omega)]
  · cases h0
theorem flat_rows (c : List Value) (o E : Nat) : ∀ n,((List.range n).map fun i => (c.drop (o + i * E)).take E).flatten = (c.drop o).take (n * E)
  | 0 => by simp
  | n + 1 => by
    rw [List.range_succ,List.map_append,List.flatten_append,flat_rows c o E n,Nat.add_mul,Nat.one_mul,List.take_add,List.drop_drop]
    simp
theorem list_choose {α β : Type} {p : α → β → Prop} : ∀ (l : List α),(∀ x ∈ l,∃ y,p x y) → ∃ m : List β,m.length = l.length ∧ ∀ (i : Nat) (y : β),m[i]? = some y → ∃ x,l[i]? = some x ∧ p x y
  | [],_ => ⟨[],rfl,fun i y h => by simp at h⟩
  | x :: l,h => by
    obtain ⟨y,hy⟩ := h x (by simp)
    obtain ⟨m,hm,hp⟩ := list_choose l (fun x hx => h x (by simp [hx]))
    refine ⟨y :: m,by simp [hm],fun i z hz => ?_⟩
    cases i with
    | zero => simp only [List.getElem?_cons_zero,Option.some.injEq] at hz; subst hz; exact ⟨x,rfl,hy⟩
    | succ i => rw [List.getElem?_cons_succ] at hz; rw [List.getElem?_cons_succ]; exact hp i z hz
section
variable {HH : Type} {enc : TypeId × Value → HH} {W : World}
theorem read_sl {t e E fuel : Nat} (hu : Try.prog.underlying t = some (.slice e)) (hE : Try.prog.cellsOf e = E) (hpos : 0 < E) {cs : List Value} {x : DataW HH × List MemPlace} (h : DataW.trod enc Try.prog W 0 (fun _ => true) true fuel t cs = some x)
    (one : ∀ {n cs' x'},DataW.trod enc Try.prog W 0 (fun _ => true) true n e cs' = some x' → ones (cs'.map (cvC (lv W))) = true) :
    ∃ v u rows,cs = [v] ∧ (∃ a n c,v = .slice a n c) ∧ cv (lv W) v = some u ∧ Sl E (hOf W) u rows ∧ Zs u ∧ ∀ r ∈ rows,∃ n cs' x',r = cs'.map (cvC (lv W)) ∧ DataW.trod enc Try.prog W 0 (fun _ => true) true n e cs' = some x' := by
  rcases Go.Deep.open_slice hu h with ⟨rfl,hx⟩ | ⟨a,len,cap,m,n,D,Pl,rfl,hb,hl,hm,hmm,hx,hall⟩
  · exact ⟨_,.slice none 0 0,[],rfl,⟨_,_,_,rfl⟩,rfl,⟨GoodR.nil,.inl ⟨Nul.nil,rfl⟩⟩,.inl Nul.nil,fun r hr => by cases hr⟩
  · simp only [if_true] at hmm
    rw [hmm,hE] at hall
    by_cases hc : cap = 0
    · have hl0 : len = 0 := by omega
      subst hc hl0
      obtain ⟨b,o,sp⟩ := a
      cases sp with
      | none => exact ⟨_,.slice (some ⟨b,o,some 2⟩) 0 0,[],rfl,⟨_,_,_,rfl⟩,rfl,⟨GoodR.nil,.inl ⟨.inr ⟨b,o,0,rfl⟩,rfl⟩⟩,.inl (.inr ⟨b,o,0,rfl⟩),fun r hr => by cases hr⟩
      | some k => exact ⟨_,.slice (some ⟨b,o,some (k + 3)⟩) 0 0,[],rfl,⟨_,_,_,rfl⟩,rfl,⟨GoodR.nil,.inl ⟨.inr ⟨b,o,k + 1,rfl⟩,rfl⟩⟩,.inl (.inr ⟨b,o,k + 1,rfl⟩),fun r hr => by cases hr⟩
    · have hrow : ∀ i,i < cap → ∃ cs',W.cells? 0 (a.add (i * E)) E = some cs' ∧ DataW.trod enc Try.prog W 0 (fun _ => true) true n e cs' = some (D i,Pl i) := hall
      obtain ⟨cs0,z1,z2⟩ := hrow 0 (by omega)
      rw [Nat.zero_mul,show a.add 0 = a by unfold Addr.add; rw [if_pos rfl]] at z1
      obtain ⟨hs,hlv,c,el,f,hg,_⟩ := row_of_cellsC hpos z1
      obtain ⟨b,o,sp⟩ := a
      simp only at hs hlv hg
      subst hs
      have at_ : ∀ i,i < cap → o + i * E + E ≤ c.length ∧ ∃ cs',(c.drop (o + i * E)).take E = cs'.map (cvC (lv W)) ∧ DataW.trod enc Try.prog W 0 (fun _ => true) true n e cs' = some (D i,Pl i) := by
        intro i hi
        obtain ⟨cs',y1,y2⟩ := hrow i hi
        have hadd : (Addr.add ⟨b,o,none⟩ (i * E)) = ⟨b,o + i * E,none⟩ := by
          unfold Addr.add
          split
          · rename_i h0; rw [h0]; rfl
          · rfl
        rw [hadd] at y1
        obtain ⟨_,_,c',el',f',g1,g2,g3⟩ := row_of_cellsC hpos y1
        simp only at g1 g2 g3
        rw [hg] at g1
        cases g1
        exact ⟨g2,cs',g3,y2⟩
      have hcap := at_ (cap - 1) (by omega)
      have hle : o + cap * E ≤ c.length := by
        have h1 := hcap.1
        have : cap * E = (cap - 1) * E + E := by rw [← Nat.succ_mul]; congr 1; omega
        omega
      have hz : (len == 0 && cap == 0) = false := by
        rw [Bool.and_eq_false_iff]; right; simpa using hc
      refine ⟨_,.slice (some ⟨b,o,some 0⟩) len cap,(List.range len).map fun i => (c.drop (o + i * E)).take E,rfl,⟨_,_,_,rfl⟩,?_,⟨?_,.inr ⟨b,o,some 0,cap,by simp,c,el,f,false,hg,?_⟩⟩,.inr ⟨b,o,len,cap,rfl,hl⟩,?_⟩
      · simp only [cv,hz,hlv,cond_false,cond_true]
      · intro r hr
        obtain ⟨i,hi,rfl⟩ := List.mem_map.1 hr
        have hi := List.mem_range.1 hi
        obtain ⟨q1,cs',q2,q3⟩ := at_ i (by omega)
        refine ⟨by rw [List.length_take,List.length_drop]; omega,?_⟩
        rw [q2]
        exact one q3
      · rw [flat_rows]
        have : len * E ≤ cap * E := Nat.mul_le_mul_right _ hl
        have hlen : ((c.drop o).take (len * E)).length = len * E := by rw [List.length_take,List.length_drop]; omega
        rw [hlen]
        exact ⟨by omega,rfl⟩
      · intro r hr
        obtain ⟨i,hi,rfl⟩ := List.mem_map.1 hr
        have hi := List.mem_range.1 hi
        obtain ⟨q1,cs',q2,q3⟩ := at_ i (by omega)
        exact ⟨n,cs',_,q2,q3⟩
theorem cvC_one {v : Value} (h : v.oneCell' = true) : (cvC (lv W) v).oneCell' = true := by
  unfold cvC
  split
  · rename_i u hu
    cases v <;> first | (cases h; done) | skip
    all_goals (first | (simp only [cv,Option.some.injEq] at hu; subst hu; rfl) | skip)
    · rename_i a; rcases a with _ | ⟨b,o,_ | s⟩ <;> simp only [cv] at hu
      · cases hu; rfl
      · cases hb : lv W b <;> rw [hb] at hu <;> cases hu; rfl
      · cases hu
    · rename_i a n c; rcases a with _ | ⟨b,o,_ | s⟩ <;> simp only [cv] at hu
      · cases hu; rfl
      · rcases cv_none hu with ⟨_,_,rfl⟩ | hu
        · rfl
        · cases hb : lv W b <;> rw [hb] at hu <;> cases hu; rfl
      · rcases cv_none hu with ⟨_,_,rfl⟩ | hu
        · rfl
        · cases hu
    · rename_i a; cases a <;> simp only [cv] at hu <;> cases hu; rfl
    · simp only [cv] at hu; cases hu
    · rename_i g f c
      obtain ⟨f⟩ := f
      obtain ⟨c⟩ := c
      cases g <;> simp only [cv] at hu <;> first | (cases hu; done) | skip
      split at hu <;> cases hu; rfl
    · simp only [cv] at hu; split at hu <;> cases hu; rfl
  · cases v <;> first | (cases h; done) | rfl
theorem ones_cvC {l : List Value} (h : ones l = true) : ones (l.map (cvC (lv W))) = true := by
  rw [ones_iff] at *
  intro x hx
  obtain ⟨v,hv,rfl⟩ := List.mem_map.1 hx
  exact cvC_one (h v hv)
variable {n : Nat} {cs : List Value} {x : DataW HH × List MemPlace}
theorem read_string (h : DataW.trod enc Try.prog W 0 (fun _ => true) true n 9 cs = some x) : ∃ s,cs = [.string s] := by
  obtain ⟨s,e,_⟩ := DataW.trod_string Try.underlying9 h
  exact ⟨s,e⟩
theorem read_int (h : DataW.trod enc Try.prog W 0 (fun _ => true) true n 3 cs = some x) : ∃ z,cs = [.int .i64 z] ∧ (Lit.int .i64 z).wf = true := by
  obtain ⟨z,e,_,w⟩ := DataW.trod_int Try.underlying3 h
  exact ⟨z,e,w⟩
theorem read_one {t e : Nat} (hu : Try.prog.underlying t = some (.slice e)) (h : DataW.trod enc Try.prog W 0 (fun _ => true) true n t cs = some x) : ∃ v,cs = [v] ∧ v.oneCell' = true := by
  rcases Go.Deep.open_slice hu h with ⟨rfl,hx⟩ | ⟨a,len,cap,m,n,D,Pl,rfl,_⟩
  · exact ⟨_,rfl,rfl⟩
  · exact ⟨_,rfl,rfl⟩
theorem strs_one (h : DataW.trod enc Try.prog W 0 (fun _ => true) true n 9 cs = some x) : ones (cs.map (cvC (lv W))) = true := by
  obtain ⟨s,rfl⟩ := read_string h
  rfl
theorem read_strs (h : DataW.trod enc Try.prog W 0 (fun _ => true) true n 52 cs = some x) : ∃ v u l,cs = [v] ∧ v.oneCell' = true ∧ cvC (lv W) v = u ∧ StrSl (hOf W) u l ∧ Zs u := by
  obtain ⟨v,u,rows,rfl,⟨a,m,c,rfl⟩,e,q,z,f⟩ := read_sl (E := 1) Try.underlying52 (by kernel_rfl) (by omega) h (fun q => strs_one q)
  obtain ⟨l,hl,hp⟩ := list_choose (p := fun r (s : ByteArray) => r = [.string s]) rows (fun r hr => by
    obtain ⟨n',cs',x',rfl,h'⟩ := f r hr
    obtain ⟨s,rfl⟩ := read_string h'
    exact ⟨s,rfl⟩)
  refine ⟨_,u,l,rfl,rfl,by unfold cvC; rw [e],?_,z⟩
  have : rows = l.map fun s => [.string s] := by
    apply List.ext_getElem?
    intro i
    rw [List.getElem?_map]
    cases hq : l[i]? with
    | none => rw [List.getElem?_eq_none_iff] at hq; rw [List.getElem?_eq_none (by omega : rows.length ≤ i)]; rfl
    | some s => obtain ⟨r,e1,rfl⟩ := hp i s hq; exact e1
  unfold StrSl
  rw [← this]
  exact q
theorem trod_struct5' {H : Type} {enc : TypeId × Value → H} {P : Program} {w : World} {base : Nat} {spare : Nat → Bool} {held : Bool} {t : TypeId} {f0 f1 f2 f3 f4 : Field} {fuel : Nat} {cs : List Value} {x : DataW H × List MemPlace} (ht : P.underlying t = some (.struct #[f0,f1,f2,f3,f4]))
    (h : DataW.trod enc P w base spare held fuel t cs = some x) :
    ∃ y0 y1 y2 y3 y4 n,cs.length = P.cellsOf t ∧ DataW.trod enc P w base spare held n f0.type ((cs.drop f0.offset).take (P.cellsOf f0.type)) = some y0 ∧
      DataW.trod enc P w base spare held n f1.type ((cs.drop f1.offset).take (P.cellsOf f1.type)) = some y1 ∧ DataW.trod enc P w base spare held n f2.type ((cs.drop f2.offset).take (P.cellsOf f2.type)) = some y2 ∧
      DataW.trod enc P w base spare held n f3.type ((cs.drop f3.offset).take (P.cellsOf f3.type)) = some y3 ∧ DataW.trod enc P w base spare held n f4.type ((cs.drop f4.offset).take (P.cellsOf f4.type)) = some y4 := by
  obtain ⟨xs,n,_,_,hl,hlen,hf⟩ := DataW.trod_struct ht h
  match xs,hlen with
  | [y0,y1,y2,y3,y4],_ => exact ⟨y0,y1,y2,y3,y4,n,hl,by simpa using hf 0 f0 rfl,by simpa using hf 1 f1 rfl,by simpa using hf 2 f2 rfl,by simpa using hf 3 f3 rfl,by simpa using hf 4 f4 rfl⟩
theorem read_node (h : DataW.trod enc Try.prog W 0 (fun _ => true) true n 61 cs = some x) : cs.length = 5 ∧ ones cs = true := by
  obtain ⟨y0,y1,y2,y3,y4,m,hl,h0,h1,h2,h3,h4⟩ := trod_struct5' Try.underlying61 h
  rw [show Try.prog.cellsOf 61 = 5 by kernel_rfl] at hl
  simp only [show Try.prog.cellsOf 3 = 1 by kernel_rfl,show Try.prog.cellsOf 9 = 1 by kernel_rfl,show Try.prog.cellsOf 59 = 1 by kernel_rfl] at h0 h1 h2 h3 h4
  obtain ⟨z0,e0,_⟩ := read_int h0
  obtain ⟨z1,e1⟩ := read_string h1
  obtain ⟨z2,e2,_⟩ := read_int h2
  obtain ⟨z3,e3,_⟩ := read_int h3
  obtain ⟨z4,e4,o4⟩ := read_one Try.underlying59 h4
  match cs,hl with
  | [c0,c1,c2,c3,c4],_ =>
    simp at e0 e1 e2 e3 e4
    subst e0 e1 e2 e3 e4
    refine ⟨rfl,?_⟩
    show (true && (true && (true && (true && (c4.oneCell' && true))))) = true
    rw [o4]; rfl
theorem read_out (h : DataW.trod enc Try.prog W 0 (fun _ => true) true n 63 cs = some x) : ∃ s r,cs = .string s :: r ∧ ones cs = true := by
  obtain ⟨y0,y1,m,_,hl,h0,h1⟩ := trod_struct2 Try.underlying63 h
  rw [show Try.prog.cellsOf 63 = 6 by kernel_rfl] at hl
  simp only [show Try.prog.cellsOf 9 = 1 by kernel_rfl,show Try.prog.cellsOf 61 = 5 by kernel_rfl] at h0 h1
  obtain ⟨s,e0⟩ := read_string h0
  obtain ⟨_,o1⟩ := read_node h1
  match cs,hl with
  | c :: r,hl =>
    have hr : r.length = 5 := by simpa using hl
    simp at e0
    subst e0
    refine ⟨s,r,rfl,?_⟩
    rw [show ((Value.string s :: r).drop 1).take 5 = r by rw [List.drop_succ_cons,List.drop_zero]; exact List.take_of_length_le (by omega)] at o1
    show (true && ones r) = true
    rw [o1]; rfl
theorem read_outs (h : DataW.trod enc Try.prog W 0 (fun _ => true) true n 53 cs = some x) : ∃ v u l,cs = [v] ∧ v.oneCell' = true ∧ cvC (lv W) v = u ∧ OutSl (hOf W) u l ∧ Zs u := by
  obtain ⟨v,u,rows,rfl,⟨a,m,c,rfl⟩,e,q,z,f⟩ := read_sl (E := 6) Try.underlying53 (by kernel_rfl) (by omega) h (fun q => by
    obtain ⟨s,r,_,o⟩ := read_out q
    exact ones_cvC o)
  obtain ⟨l,hl,hp⟩ := list_choose (p := fun r (s : ByteArray) => ∃ r',r = .string s :: r') rows (fun r hr => by
    obtain ⟨n',cs',x',rfl,h'⟩ := f r hr
    obtain ⟨s,r,rfl,_⟩ := read_out h'
    exact ⟨s,_,rfl⟩)
  refine ⟨_,u,l,rfl,rfl,by unfold cvC; rw [e],⟨rows,q,?_⟩,z⟩
  apply List.ext_getElem?
  intro i
  rw [List.getElem?_map,List.getElem?_map]
  cases hq : l[i]? with
  | none => rw [List.getElem?_eq_none_iff] at hq; rw [List.getElem?_eq_none (by omega : rows.length ≤ i)]; rfl
  | some s => obtain ⟨r,e1,r',rfl⟩ := hp i s hq; rw [e1]; rfl
theorem trod_struct4' {H : Type} {enc : TypeId × Value → H} {P : Program} {w : World} {base : Nat} {spare : Nat → Bool} {held : Bool} {t : TypeId} {f0 f1 f2 f3 : Field} {fuel : Nat} {cs : List Value} {x : DataW H × List MemPlace} (ht : P.underlying t = some (.struct #[f0,f1,f2,f3]))
    (h : DataW.trod enc P w base spare held fuel t cs = some x) :
    ∃ y0 y1 y2 y3 n,cs.length = P.cellsOf t ∧ DataW.trod enc P w base spare held n f0.type ((cs.drop f0.offset).take (P.cellsOf f0.type)) = some y0 ∧
      DataW.trod enc P w base spare held n f1.type ((cs.drop f1.offset).take (P.cellsOf f1.type)) = some y1 ∧ DataW.trod enc P w base spare held n f2.type ((cs.drop f2.offset).take (P.cellsOf f2.type)) = some y2 ∧
      DataW.trod enc P w base spare held n f3.type ((cs.drop f3.offset).take (P.cellsOf f3.type)) = some y3 := by
  obtain ⟨xs,n,_,_,hl,hlen,hf⟩ := DataW.trod_struct ht h
  match xs,hlen with
  | [y0,y1,y2,y3],_ => exact ⟨y0,y1,y2,y3,n,hl,by simpa using hf 0 f0 rfl,by simpa using hf 1 f1 rfl,by simpa using hf 2 f2 rfl,by simpa using hf 3 f3 rfl⟩
theorem read_task (h : DataW.trod enc Try.prog W 0 (fun _ => true) true n 55 cs = some x) : ones cs = true ∧ ∃ t vi vo,cs.map (cvC (lv W)) = [.string (TK.name t),.int .i64 t.bud,vi,vo] ∧ StrSl (hOf W) vi t.ins ∧ OutSl (hOf W) vo t.outs ∧ Zs vi ∧ Zs vo := by
  obtain ⟨y0,y1,y2,y3,m,hl,h0,h1,h2,h3⟩ := trod_struct4' Try.underlying55 h
  rw [show Try.prog.cellsOf 55 = 4 by kernel_rfl] at hl
  simp only [show Try.prog.cellsOf 3 = 1 by kernel_rfl,show Try.prog.cellsOf 9 = 1 by kernel_rfl,show Try.prog.cellsOf 52 = 1 by kernel_rfl,show Try.prog.cellsOf 53 = 1 by kernel_rfl] at h0 h1 h2 h3
  obtain ⟨s,e0⟩ := read_string h0
  obtain ⟨z,e1,_⟩ := read_int h1
  obtain ⟨v2,u2,l2,e2,o2,c2,q2,z2⟩ := read_strs h2
  obtain ⟨v3,u3,l3,e3,o3,c3,q3,z3⟩ := read_outs h3
  match cs,hl with
  | [c0,c1,c2',c3'],_ =>
    simp at e0 e1 e2 e3
    subst e0 e1 e2 e3
    refine ⟨by show (true && (true && (c2'.oneCell' && (c3'.oneCell' && true)))) = true; rw [o2,o3]; rfl,⟨s,z,l2,l3⟩,u2,u3,?_,q2,q3,z2,z3⟩
    simp only [List.map_cons,List.map_nil,c2,c3]
    rfl
theorem read_tasks {v : Value} {d : DataW HH} {p : List MemPlace} {base : Nat} (hval : Value.okWide Try.prog W .any base 22 v) (h : DataW.Trod enc Try.prog W 0 (fun _ => true) true 22 v d p) :
    ∃ u ts,R (io W) u v ∧ TasksA (hOf W) u ts ∧ Zs u := by
  obtain ⟨fuel,h⟩ := h
  have hsl : ∃ o l c,v = .slice o l c := by
    have hv := hval
    unfold Value.okWide at hv
    rw [Try.underlying22] at hv
    cases v <;> first | exact ⟨_,_,_,rfl⟩ | (simp [Cell.okWide,Try.underlying22,Cell.ok] at hv)
  obtain ⟨o,l,c,rfl⟩ := hsl
  obtain ⟨v',u,rows,e1,_,e,q,z,f⟩ := read_sl (E := 4) Try.underlying22 (by kernel_rfl) (by omega) h (fun q => ones_cvC (read_task q).1)
  have hv : v' = .slice o l c := by
    have : [Value.slice o l c] = [v'] := by simpa [Value.cells] using e1
    simpa using this.symm
  subst hv
  obtain ⟨ts,hl,hp⟩ := list_choose (p := fun r (t : TK) => ∃ vi vo,r = [.string t.name,.int .i64 t.bud,vi,vo] ∧ StrSl (hOf W) vi t.ins ∧ OutSl (hOf W) vo t.outs ∧ Zs vi ∧ Zs vo) rows (fun r hr => by
    obtain ⟨n',cs',x',rfl,h'⟩ := f r hr
    exact (read_task h').2)
  refine ⟨u,ts,cv_R _ e,⟨rows,q,hl.symm,fun i t ht => ?_⟩,z⟩
  obtain ⟨r,e1,vi,vo,rest⟩ := hp i t ht
  exact ⟨r,vi,vo,e1,rest⟩
end
end Go.Proofs.Ytdadiidfhnojcaa.K
namespace Go.Proofs.Ytdadiidfhnojcaa.K
open Go Go.Kx Go.ChangeShapes Go.WideShapes Go.ChangeAt Go.RowKit
set_option maxRecDepth 100000
set_option linter.unusedVariables false
theorem laidOut' : laidOutB Try.prog = true := by kernel_rfl
theorem own' : ownKnob Try.prog.godebug = none := by kernel_rfl
theorem trodAll_two' {H : Type} {enc : TypeId × Value → H} {P : Program} {w : World} {base : Nat} {spare : Nat → Bool} {held : Bool} {t0 t1 : TypeId} {args : Array Value} {ds : List (DataW H)} {ps : List MemPlace} (h : DataW.TrodAll enc P w base spare held [t0,t1] args.toList ds ps) :
    ∃ v0 v1 d0 d1 p0 p1,args = #[v0,v1] ∧ ds = [d0,d1] ∧ DataW.Trod enc P w base spare held t0 v0 d0 p0 ∧ DataW.Trod enc P w base spare held t1 v1 d1 p1 := by
  obtain ⟨v0,vs,d0,ds',p0,q,hargs,rfl,rfl,hd,hrest⟩ := trodAll_cons h
  obtain ⟨v1,vs1,d1,ds1,p1,q1,rfl,rfl,rfl,hd1,hrest1⟩ := trodAll_cons hrest
  obtain ⟨rfl,rfl,rfl⟩ := trodAll_nil hrest1
  exact ⟨v0,v1,d0,d1,p0,p1,by cases args; simp_all,rfl,hd,hd1⟩
end Go.Proofs.Ytdadiidfhnojcaa.K
namespace Go.Proofs.Ytdadiidfhnojcaa
open Go
set_option maxRecDepth 100000
end Go.Proofs.Ytdadiidfhnojcaa
namespace Go.Proofs.Ytdadiidfhnojcaa.K
open Go Go.Kx
set_option linter.unusedVariables false
set_option linter.unusedSimpArgs false
set_option maxRecDepth 20000
theorem xrem (P : Program) (t : TypeId) (k : IntKind) {a b : Int} (h : H) (hb : b ≠ 0) : xbin P .rem t (.int k a) (.int k b) h = .ok (.int k (a.tmod b)) h := by simp [xbin,flat,binOp,Op.intDiv,hb,prun,xflat,pure,Sem.pure]
theorem eWhole (n : Int) {lo hi : Int} (h1 : 0 ≤ lo) (h2 : lo ≤ hi) (h3 : hi ≤ 2000000000) : ∃ r : Nat,lo ≤ (r : Int) ∧ (r : Int) ≤ hi ∧ ∀ h,CLM (.f 20) [.int .i64 n,.int .i64 lo,.int .i64 hi] h = .ok (.int .i64 (r : Nat)) h := by
  have hd : 0 < hi - lo + 1 := by omega
  have b1 := Int.tmod_lt_of_pos n hd
  have b2 : -(hi - lo + 1) < n.tmod (hi - lo + 1) := Int.lt_tmod_of_pos n hd
  obtain ⟨m,hm⟩ : ∃ m,m = n.tmod (hi - lo + 1) := ⟨_,rfl⟩
  rw [← hm] at b1 b2
  have e : ∀ h,CLM (.f 20) [.int .i64 n,.int .i64 lo,.int .i64 hi] h = if m < 0 then .ok (.int .i64 (lo + (m + hi - lo + 1))) h else .ok (.int .i64 (lo + m)) h := by
    intro h
    rw [cM20,F20.eq,xsub,go_ok,wrap64 (by omega),xadd,go_ok,wrap64 (by omega),xrem _ _ _ _ (by omega),go_ok,← hm,xlss,go_ok,ifV_dec]
    split
    · rw [xadd,go_ok,wrap64 (by omega),xsub,go_ok,wrap64 (by omega),xadd,go_ok,wrap64 (by omega),xadd,go_ok,wrap64 (by omega)]
    · rw [xadd,go_ok,wrap64 (by omega)]
  by_cases hz : m < 0
  · refine ⟨(lo + (m + hi - lo + 1)).toNat,by omega,by omega,fun h => ?_⟩
    rw [e,if_pos hz,show (((lo + (m + hi - lo + 1)).toNat : Nat) : Int) = lo + (m + hi - lo + 1) by omega]
  · refine ⟨(lo + m).toNat,by omega,by omega,fun h => ?_⟩
    rw [e,if_neg hz,show (((lo + m).toNat : Nat) : Int) = lo + m by omega]
theorem few60 {ts : List TK} (hl : ts.length ≤ 60) (hi : ∀ t ∈ ts,t.ins.length ≤ 12) (ho : ∀ t ∈ ts,t.outs.length ≤ 12) : Few ts := by
  refine ⟨by omega,hi,ho,?_⟩
  have h1 := sumN_le (n := ts.length) (f := fun _ => 60) (f' := fun k => (nd ts k).length) fun k _ => Nat.le_trans (nd_len _ _) hl
  have h2 : ∀ n,sumN n (fun _ => 60) = n * 60 := by
    intro n
    induction n with
    | zero => rfl
    | succ n ih => rw [sumN_succ,ih]; omega
  rw [h2] at h1
  have : ts.length * 60 ≤ 60 * 60 := Nat.mul_le_mul_right _ hl
  omega
theorem nodup_at {l : List Nat} : l.Nodup ↔ ∀ (i j x : Nat),l[i]? = some x → l[j]? = some x → i = j := by
  rw [List.Nodup,List.pairwise_iff_getElem]
  constructor
  · intro h i j x hi hj
    obtain ⟨i1,i2⟩ := List.getElem?_eq_some_iff.1 hi
    obtain ⟨j1,j2⟩ := List.getElem?_eq_some_iff.1 hj
    rcases Nat.lt_trichotomy i j with q | q | q
    · exact absurd (i2.trans j2.symm) (h i j i1 j1 q)
    · exact q
    · exact absurd (j2.trans i2.symm) (h j i j1 i1 q)
  · intro h i j hi hj hlt e
    have := h i j l[i] (List.getElem?_eq_getElem hi) (by rw [e]; exact List.getElem?_eq_getElem hj)
    omega
theorem swap_at {α : Type} {l : List α} {i k : Nat} {x y : α} (hi : l[i]? = some x) (hk : l[k]? = some y) (a : Nat) : ((l.set i y).set k x)[a]? = l[if a = k then i else if a = i then k else a]? := by
  have li := (List.getElem?_eq_some_iff.1 hi).1
  have lk := (List.getElem?_eq_some_iff.1 hk).1
  by_cases h1 : a = k
  · subst h1
    rw [if_pos rfl,List.getElem?_set_self (by rw [List.length_set]; exact lk),hi]
  · rw [if_neg h1,List.getElem?_set_ne (fun z => h1 z.symm)]
    by_cases h2 : a = i
    · subst h2
      rw [if_pos rfl,List.getElem?_set_self li,hk]
    · rw [if_neg h2,List.getElem?_set_ne (fun z => h2 z.symm)]
theorem swap_nodup {l : List (Nat × Nat)} {i k : Nat} {x y : Nat × Nat} (hi : l[i]? = some x) (hk : l[k]? = some y) (f : Nat × Nat → Nat) (d : (l.map f).Nodup) : (((l.set i y).set k x).map f).Nodup := by
  rw [nodup_at] at *
  intro a b z ha hb
  rw [List.getElem?_map,swap_at hi hk,← List.getElem?_map] at ha hb
  have := d _ _ z ha hb
  split at this <;> split at this <;> (try split at this) <;> (try split at this) <;> omega
theorem LT.ne {h : H} {t : TK} {bi bo bm : Nat} {r : List Value} {rows : List (List Value)} (q : LT h t bi bo r) (m : RB h bm 55 4 false rows) : bi ≠ bm ∧ bo ≠ bm := by
  obtain ⟨_,i,_,o,_⟩ := q
  exact ⟨i.ne m (by decide),o.ne m (by decide)⟩
theorem Lent.set {h h' : H} {v : Value} {bm : Nat} {rows : List (List Value)} {bs : List (Nat × Nat)} {ts : List TK} (Q : Lent h v bm rows bs ts) {i : Nat} {t' : TK} {p : Nat × Nat} {r' : List Value} (hi : i < ts.length) (hp : bs[i]? = some p)
    (u : Upd (fun y => y = bm ∨ y = p.1 ∨ y = p.2) h h') (m : RB h' bm 55 4 false (rows.set i r')) (lt : LT h' t' p.1 p.2 r') : Lent h' v bm (rows.set i r') bs (ts.set i t') := by
  have hl := Q.len
  refine ⟨by rw [List.length_set]; exact Q.v,m,by rw [List.length_set,List.length_set]; exact hl,by rw [List.length_set]; exact Q.bl,fun j t hj => ?_,fun j h1 h2 => ?_,Q.d1,Q.d2⟩
  · by_cases e : j = i
    · subst e
      rw [List.getElem?_set_self hi] at hj
      cases hj
      exact ⟨p,r',hp,List.getElem?_set_self (by omega),lt⟩
    · rw [List.getElem?_set_ne (fun z => e z.symm)] at hj
      obtain ⟨q,r,a,b,c⟩ := Q.t j t hj
      have c' := c.ne Q.m
      obtain ⟨p0,r0,a0,b0,c0⟩ := Q.t i _ (List.getElem?_eq_getElem hi)
      rw [hp] at a0; cases a0
      refine ⟨q,r,a,by rw [List.getElem?_set_ne (fun z => e z.symm)]; exact b,c.upd u (fun z => ?_) (fun z => ?_)⟩
      · rcases z with z | z | z
        · exact c'.1 z
        · exact e (nodup_at.1 Q.d1 j i q.1 (by rw [List.getElem?_map,a]; rfl) (by rw [List.getElem?_map,hp,z]; rfl))
        · obtain ⟨_,ci,_⟩ := c
          obtain ⟨_,_,_,co,_⟩ := c0
          exact ci.ne co (by decide) z
      · rcases z with z | z | z
        · exact c'.2 z
        · obtain ⟨_,_,_,co,_⟩ := c
          obtain ⟨_,ci,_⟩ := c0
          exact ci.ne co (by decide) z.symm
        · exact e (nodup_at.1 Q.d2 j i q.2 (by rw [List.getElem?_map,a]; rfl) (by rw [List.getElem?_map,hp,z]; rfl))
  · rw [List.length_set] at h1 h2
    rw [List.getElem?_set_ne (by omega)]
    exact Q.r j h1 h2
theorem Lent.swap {h h' : H} {v : Value} {bm : Nat} {rows : List (List Value)} {bs : List (Nat × Nat)} {ts : List TK} (Q : Lent h v bm rows bs ts) {i k : Nat} {ti tk : TK} {pi pk : Nat × Nat} {ri rk : List Value} (hi : ts[i]? = some ti) (hk : ts[k]? = some tk) (pi' : bs[i]? = some pi) (pk' : bs[k]? = some pk)
    (ri' : rows[i]? = some ri) (rk' : rows[k]? = some rk) (u : Upd (fun y => y = bm) h h') (m : RB h' bm 55 4 false ((rows.set i rk).set k ri)) : Lent h' v bm ((rows.set i rk).set k ri) ((bs.set i pk).set k pi) ((ts.set i tk).set k ti) := by
  have hl := Q.len
  have li := (List.getElem?_eq_some_iff.1 hi).1
  have lk := (List.getElem?_eq_some_iff.1 hk).1
  refine ⟨by simp only [List.length_set]; exact Q.v,m,by simp only [List.length_set]; exact hl,by simp only [List.length_set]; exact Q.bl,fun j t hj => ?_,fun j h1 h2 => ?_,swap_nodup pi' pk' _ Q.d1,swap_nodup pi' pk' _ Q.d2⟩
  · rw [swap_at hi hk] at hj
    obtain ⟨q,r,a,b,c⟩ := Q.t _ t hj
    have c' := c.ne Q.m
    exact ⟨q,r,by rw [swap_at pi' pk']; exact a,by rw [swap_at ri' rk']; exact b,c.upd u c'.1 c'.2⟩
  · simp only [List.length_set] at h1 h2
    rw [List.getElem?_set_ne (by omega),List.getElem?_set_ne (by omega)]
    exact Q.r j h1 h2
end Go.Proofs.Ytdadiidfhnojcaa.K
namespace Go.Proofs.Ytdadiidfhnojcaa.K
open Go Go.Kx
set_option linter.unusedVariables false
set_option linter.unusedSimpArgs false
set_option maxRecDepth 20000
theorem is_loop {h : H} {v : Value} {l : List Nat} (I : IL h v (nl l)) (few : l.length ≤ 60000) {n : Nat} (hl : ∀ k ∈ l,k < n) : ∀ (d i : Nat),l.length - i = d → i ≤ l.length →
    F25.l2 Try.prog CLM nu0 nu0 v (.int .i64 (n : Nat)) (.int .i64 (i : Nat)) h = .ok (.bool true) h := by
  intro d
  induction d with
  | zero =>
    intro i hd hi
    rw [F25.l2_eq,I.len,go_ok,nl_len,xlss,go_ok,ifV_dec,if_neg (by omega),F25.j6_eq]
  | succ d ih =>
    intro i hd hi
    have hil : i < l.length := by omega
    have hk := hl _ (List.getElem_mem hil)
    obtain ⟨a,a1,a2⟩ := I.at_ (i := i) (z := (l[i] : Nat)) (by unfold nl; rw [List.getElem?_map,List.getElem?_eq_getElem hil]; rfl)
    rw [F25.l2_eq,I.len,go_ok,nl_len,xlss,go_ok,ifV_dec,if_pos (by omega),F25.j4_eq,a1,go_ok,a2,go_ok,xlss,go_ok,ifV_dec,if_neg (by omega),a1,go_ok,a2,go_ok,xgeq,go_ok,ifV_dec,if_neg (by omega),xadd,go_ok,wadd1 (by omega)]
    exact ih (i + 1) (by omega) (by omega)
theorem eInside {h : H} {v : Value} {l : List Nat} (I : IL h v (nl l)) (few : l.length ≤ 60000) {n : Nat} (hl : ∀ k ∈ l,k < n) : CLM (.f 25) [v,.int .i64 (n : Nat)] h = .ok (.bool true) h := by
  rw [cM25,F25.eq,show (Value.int .i64 0) = .int .i64 ((0 : Nat) : Int) from rfl]
  exact is_loop I few hl _ 0 rfl (Nat.zero_le _)
def ZL (h : H) (b n : Nat) (Z : Nat → Int) : Prop := h.get b = some (.cells (tb n fun j => .int .i64 (Z j)) 3 0 false)
theorem ZL.ld {h : H} {b n : Nat} {Z : Nat → Int} (q : ZL h b n Z) {j m cap : Nat} (hj : j < n) (hm : j < m) :
    (∀ h',xindexAddr Try.prog 27 (.slice (some ⟨b,0,none⟩) m cap) (.int .i64 (j : Nat)) h' = .ok (.pointer (some ⟨b,0 + j * 1,none⟩)) h') ∧ xload Try.prog 3 (.pointer (some ⟨b,0 + j * 1,none⟩)) h = .ok (.int .i64 (Z j)) h := by
  refine ⟨fun h' => ia27 _ _ _ _ _ _ _ h' hm,?_⟩
  rw [ld3,H.cell_eq q,Nat.zero_add,Nat.mul_one,tb_at _ hj,ofO_some]
theorem ZL.st {h : H} {b n : Nat} {Z : Nat → Int} (q : ZL h b n Z) {j : Nat} (hj : j < n) (x : Int) :
    ∃ h',xstore Try.prog 3 (.pointer (some ⟨b,0 + j * 1,none⟩)) (.int .i64 x) h = .ok undef h' ∧ Upd (fun y => y = b) h h' ∧ ZL h' b n (updN Z j x) := by
  have hs : (Value.int .i64 x).cells.size = 1 := rfl
  refine ⟨h.put b (.cells (tb n fun i => .int .i64 (updN Z j x i)) 3 0 false),?_,(Upd.refl (fun y => y = b) h).put (.inl rfl) (H.get_lt q) _,H.put_self q⟩
  rw [st3 _ _ _ hs,cells_int,Nat.zero_add,Nat.mul_one,write_cell' q (by rw [tb_len]; exact hj) rfl,tb_set _ hj,ofU_some]
  congr 3
  refine tb_congr fun k _ => ?_
  unfold updN
  split <;> rfl
theorem ZL.grow {h h' : H} (g : Grow h h') {b n : Nat} {Z : Nat → Int} (q : ZL h b n Z) : ZL h' b n Z := g.old _ _ q
section
variable {h0 : H} {x0 : Value} {ts : List TK} (T : Tasks h0 x0 ts) (F : Few ts)
include T F
def PosI (R : List Nat) (i : Nat) (Z : Nat → Int) : Prop := (∀ (k x : Nat),k < i → R[k]? = some x → Z x = k) ∧ ∀ x,x < R.length → x ∉ R.take i → Z x = -1
end
section
variable {h : H} {x0 x3 x6 : Value} {ts : List TK} {R : List Nat} {b : Nat} {Z : Nat → Int} (T : Tasks h x0 ts) (F : Few ts) (io : IsOrd ts R) (hl : R.length = ts.length) (I : IL h x3 (nl R)) (q : ZL h b ts.length Z) (P : PosI R ts.length Z)
include T F io hl I q P
end
end Go.Proofs.Ytdadiidfhnojcaa.K
namespace Go.Proofs.Ytdadiidfhnojcaa.K
open Go Go.Kx
set_option linter.unusedVariables false
set_option linter.unusedSimpArgs false
set_option maxRecDepth 20000
structure Iso (ts us : List TK) (f g : Nat → Nat) : Prop where
  len : us.length = ts.length
  fl : ∀ i,i < ts.length → f i < ts.length
  gl : ∀ i,i < ts.length → g i < ts.length
  gf : ∀ i,i < ts.length → g (f i) = i
  fg : ∀ i,i < ts.length → f (g i) = i
  at_ : ∀ i,i < ts.length → us[f i]? = ts[i]?
theorem Iso.refl (ts : List TK) : Iso ts ts id id := ⟨rfl,fun _ => id,fun _ => id,fun _ _ => rfl,fun _ _ => rfl,fun _ _ => rfl⟩
theorem Iso.symm {ts us : List TK} {f g : Nat → Nat} (I : Iso ts us f g) : Iso us ts g f :=
  ⟨I.len.symm,fun i hi => by rw [I.len] at *; exact I.gl i hi,fun i hi => by rw [I.len] at *; exact I.fl i hi,fun i hi => I.fg i (by rw [← I.len]; exact hi),fun i hi => I.gf i (by rw [← I.len]; exact hi),fun i hi => by
    rw [I.len] at hi
    rw [← I.at_ (g i) (I.gl i hi),I.fg i hi]⟩
def swp (i k : Nat) (a : Nat) : Nat := if a = k then i else if a = i then k else a
theorem swp_swp (i k a : Nat) : swp i k (swp i k a) = a := by unfold swp; split <;> split <;> (try split) <;> omega
theorem swp_lt {i k a n : Nat} (hi : i < n) (hk : k < n) (ha : a < n) : swp i k a < n := by unfold swp; split <;> (try split) <;> omega
theorem Iso.swap {ts us : List TK} {f g : Nat → Nat} (I : Iso ts us f g) {i k : Nat} {x y : TK} (hi : us[i]? = some x) (hk : us[k]? = some y) : Iso ts ((us.set i y).set k x) (fun a => swp i k (f a)) (fun a => g (swp i k a)) := by
  have li := (List.getElem?_eq_some_iff.1 hi).1
  have lk := (List.getElem?_eq_some_iff.1 hk).1
  rw [I.len] at li lk
  refine ⟨by simp only [List.length_set]; exact I.len,fun a ha => swp_lt li lk (I.fl a ha),fun a ha => I.gl _ (swp_lt li lk ha),fun a ha => ?_,fun a ha => ?_,fun a ha => ?_⟩
  · show g (swp i k (swp i k (f a))) = a
    rw [swp_swp]; exact I.gf a ha
  · show swp i k (f (g (swp i k a))) = a
    rw [I.fg _ (swp_lt li lk ha),swp_swp]
  · show ((us.set i y).set k x)[swp i k (f a)]? = _
    rw [swap_at hi hk]
    show us[swp i k (swp i k (f a))]? = _
    rw [swp_swp]
    exact I.at_ a ha
def Dis (ts : List TK) : Prop := ∀ i j : Nat,i < ts.length → j < ts.length → nm ts (i : Int) = nm ts (j : Int) → i = j
section
variable {ts us : List TK} {f g : Nat → Nat} (I : Iso ts us f g)
include I
theorem Iso.nm {i : Nat} (hi : i < ts.length) : nm us ((f i : Nat) : Int) = nm ts (i : Int) := by unfold K.nm; rw [Int.toNat_natCast,Int.toNat_natCast,I.at_ i hi]
theorem Iso.inj {i j : Nat} (hi : i < ts.length) (hj : j < ts.length) (h : f i = f j) : i = j := by rw [← I.gf i hi,← I.gf j hj,h]
theorem Iso.alt (D : Dis ts) {i j : Nat} (hi : i < ts.length) (hj : j < ts.length) : aLt us ((f i : Nat) : Int) ((f j : Nat) : Int) = aLt ts (i : Int) (j : Int) := by
  unfold aLt
  rw [I.nm hi,I.nm hj]
  by_cases e : K.nm ts (i : Int) = K.nm ts (j : Int)
  · have := D i j hi hj e
    subst this
    simp
  · rw [decide_eq_false e,Bool.false_and,Bool.false_and]
theorem Iso.need {i k : Nat} (hi : i < ts.length) (hk : k < ts.length) : need us (f i) (f k) = need ts i k := by
  unfold K.need insAt outsAt
  rw [I.at_ i hi,I.at_ k hk]
theorem Iso.nd {i k : Nat} (hi : i < ts.length) (hk : k < ts.length) : f k ∈ nd us (f i) ↔ k ∈ nd ts i := by
  rw [nd_mem,nd_mem,I.len,I.need hi hk]
  exact ⟨fun ⟨_,h⟩ => ⟨hk,h⟩,fun ⟨_,h⟩ => ⟨I.fl k hk,h⟩⟩
theorem Iso.nd' {i k : Nat} (hi : i < ts.length) (hk : k ∈ K.nd us (f i)) : ∃ j,k = f j ∧ j ∈ K.nd ts i := by
  have hl : k < ts.length := by rw [← I.len]; exact nd_lt hk
  refine ⟨g k,(I.fg k hl).symm,?_⟩
  rw [← I.fg k hl] at hk
  exact (I.nd hi (I.gl k hl)).1 hk
theorem Iso.path {i k : Nat} (p : Path (K.nd ts) i k) : i < ts.length → Path (K.nd us) (f i) (f k) := by
  induction p with
  | one e => exact fun hi => .one ((I.nd hi (nd_lt e)).2 e)
  | cons e _ ih => exact fun hi => .cons ((I.nd hi (nd_lt e)).2 e) (ih (nd_lt e))
theorem Iso.onc {i : Nat} (hi : i < ts.length) : OnC (K.nd ts) i → OnC (K.nd us) (f i) := fun h => I.path h hi
theorem Iso.onc' {i : Nat} (h : OnC (K.nd us) i) : i < ts.length ∧ OnC (K.nd ts) (g i) := by
  have hl : i < ts.length := by rw [← I.len]; exact OnC_lt h
  exact ⟨hl,I.symm.onc (by rw [I.len]; exact hl) h⟩
theorem Iso.cyc (D : Dis ts) {c : Nat} (C : CycMin ts c) : CycMin us (f c) := by
  refine ⟨by rw [I.len]; exact I.fl c C.1,I.onc C.1 C.2.1,fun j hj => ?_⟩
  obtain ⟨hl,h⟩ := I.onc' hj
  have := C.2.2 (g j) h
  rw [← I.alt D (I.gl j hl) C.1,I.fg j hl] at this
  exact this
theorem Iso.noc (no : NoC ts) : NoC us := fun k h => no _ (I.onc' h).2
theorem Iso.mem {S : List Nat} (hS : ∀ s ∈ S,s < ts.length) {x : Nat} (hx : x < ts.length) : f x ∈ S.map f ↔ x ∈ S := by
  rw [List.mem_map]
  constructor
  · rintro ⟨y,hy,e⟩
    rw [← I.inj (hS y hy) hx e]; exact hy
  · exact fun h => ⟨x,h,rfl⟩
theorem Iso.ready {S : List Nat} (hS : ∀ s ∈ S,s < ts.length) {x : Nat} (hx : x < ts.length) : Ready us (S.map f) (f x) ↔ Ready ts S x := by
  unfold Ready
  rw [I.mem hS hx,I.len]
  constructor
  · rintro ⟨_,h2,h3⟩
    exact ⟨hx,h2,fun k hk => (I.mem hS (nd_lt hk)).1 (h3 _ ((I.nd hx (nd_lt hk)).2 hk))⟩
  · rintro ⟨_,h2,h3⟩
    refine ⟨I.fl x hx,h2,fun k hk => ?_⟩
    obtain ⟨j,rfl,hj⟩ := I.nd' hx hk
    exact (I.mem hS (nd_lt hj)).2 (h3 j hj)
theorem Iso.ord (D : Dis ts) {R : List Nat} (io : IsOrd ts R) : IsOrd us (R.map f) := by
  intro k y hy
  rw [List.getElem?_map] at hy
  cases hx : R[k]? with
  | none => rw [hx] at hy; cases hy
  | some x =>
    rw [hx] at hy
    simp only [Option.map_some,Option.some.injEq] at hy
    subst hy
    have hS : ∀ s ∈ R.take k,s < ts.length := fun s hs => io.lt (List.mem_of_mem_take hs)
    have hxl := io.lt (List.mem_of_getElem? hx)
    have pk := io k x hx
    rw [← List.map_take]
    refine ⟨(I.ready hS hxl).2 pk.1,fun j hj => ?_⟩
    have hjl : j < ts.length := by rw [← I.len]; exact hj.1
    rw [← I.fg j hjl] at hj ⊢
    rcases pk.2 (g j) ((I.ready hS (I.gl j hjl)).1 hj) with e | e
    · exact .inl (by rw [e])
    · exact .inr (by rw [I.alt D hxl (I.gl j hjl)]; exact e)
end
theorem lvS_is {ts : List TK} {L : Nat → Nat} {i v : Nat} (h1 : ∀ j ∈ nd ts i,L j < v) (h2 : v = 0 ∨ ∃ j ∈ nd ts i,v = L j + 1) : v = lvS ts L i := by
  obtain ⟨_,a2,a3⟩ := foldl_max (L := L) (nd ts i) 0
  unfold lvS
  rcases h2 with e | ⟨j,hj,e⟩
  · rcases a3 with z | ⟨k,hk,z⟩
    · omega
    · have := h1 k hk; omega
  · have b1 := a2 j hj
    rcases a3 with z | ⟨k,hk,z⟩
    · omega
    · have := h1 k hk; omega
theorem Iso.levs {ts us : List TK} {f g : Nat → Nat} (I : Iso ts us f g) (D : Dis ts) {L : Nat → Nat} {ls : List (List Nat)} (V : IsLevs ts L ls) : IsLevs us (fun a => L (g a)) (ls.map fun l => l.map f) := by
  have hlt : ∀ l ∈ ls,∀ i ∈ l,i < ts.length := fun l hl i hi => by
    obtain ⟨k,hk⟩ := List.mem_iff_getElem?.1 hl
    exact ((V.m k l hk i).1 hi).1
  refine ⟨fun i hi => ?_,fun l hl => ?_,fun k l hl i => ?_,fun i hi => ?_,fun l hl => ?_⟩
  · rw [I.len] at hi
    have hgi := I.gl i hi
    refine lvS_is (fun j hj => ?_) ?_
    · rw [← I.fg i hi] at hj
      obtain ⟨k,rfl,hk⟩ := I.nd' hgi hj
      show L (g (f k)) < L (g i)
      rw [I.gf k (nd_lt hk)]
      exact lv_lt V.lv hgi hk
    · show L (g i) = 0 ∨ _
      cases hv : L (g i) with
      | zero => exact .inl rfl
      | succ v =>
        obtain ⟨j,hj,e⟩ := lv_pos V.lv hgi hv
        refine .inr ⟨f j,?_,?_⟩
        · rw [← I.fg i hi]; exact (I.nd hgi (nd_lt hj)).2 hj
        · show v + 1 = L (g (f j)) + 1
          rw [I.gf j (nd_lt hj),e]
  · obtain ⟨l0,h0,rfl⟩ := List.mem_map.1 hl
    refine List.pairwise_map.2 ?_
    refine List.Pairwise.imp_of_mem ?_ (V.s l0 h0)
    intro a b ha hb h
    rw [I.alt D (hlt l0 h0 a ha) (hlt l0 h0 b hb)]
    exact h
  · rw [List.getElem?_map] at hl
    cases h0 : ls[k]? with
    | none => rw [h0] at hl; cases hl
    | some l0 =>
      rw [h0] at hl
      simp only [Option.map_some,Option.some.injEq] at hl
      subst hl
      rw [List.mem_map,I.len]
      constructor
      · rintro ⟨a,ha,rfl⟩
        have := (V.m k l0 h0 a).1 ha
        refine ⟨I.fl a this.1,?_⟩
        show L (g (f a)) = k
        rw [I.gf a this.1]; exact this.2
      · rintro ⟨h1,h2⟩
        exact ⟨g i,(V.m k l0 h0 (g i)).2 ⟨I.gl i h1,h2⟩,I.fg i h1⟩
  · rw [I.len] at hi
    rw [List.length_map]
    exact V.a (g i) (I.gl i hi)
  · obtain ⟨l0,h0,rfl⟩ := List.mem_map.1 hl
    intro z
    exact V.ne l0 h0 (List.map_eq_nil_iff.1 z)
end Go.Proofs.Ytdadiidfhnojcaa.K
namespace Go.Proofs.Ytdadiidfhnojcaa.K
open Go Go.Kx
set_option linter.unusedVariables false
set_option linter.unusedSimpArgs false
set_option maxRecDepth 20000
theorem Lst.firstL {e E : Nat} {h : H} {v : Value} {br : Option Nat} {rows : List (List Value)} (l : Lst e E h v br rows) (g : GoodR E rows) : lenV v = some rows.length ∧ firstC h E rows.length v = some rows.flatten := by
  have hl := flat_len g
  rcases l with ⟨_,rfl,rfl⟩ | ⟨b,sp,cap,_,rfl,hg,_⟩
  · exact ⟨rfl,rfl⟩
  · refine ⟨rfl,?_⟩
    show h.row ⟨b,0,none⟩ (rows.length * E) = _
    rw [H.row_eq hg (by rw [List.length_append]; omega),List.drop_zero,List.take_left' hl]
theorem eFew2 {h0 : H} {vt : Value} {ts : List TK} (T : TasksA h0 vt ts) : ∃ h' v br rows,Grow h0 h' ∧ Lst 55 4 h' v br rows ∧ GoodR 4 rows ∧ rows.length = (fewL ts).length ∧ (∀ (i : Nat) (t : TK),(fewL ts)[i]? = some t → ∃ r,rows[i]? = some r ∧ TaskR h' t r) ∧ CLM (.f 10) [vt] h0 = .ok v h' := by
  obtain ⟨h',v,br,rows,g,l,gd,hl,hT,e⟩ := fw_loop T _ 0 rfl (Nat.zero_le _) (Grow.refl h0) (v := .slice none 0 0) (br := none) (rows := []) Lst.nil GoodR.nil (fun b z => by cases z) rfl (fun k t hk => absurd hk (Nat.not_lt_zero _))
  refine ⟨h',v,br,rows,g,l,gd,by rw [hl,fewL_len],fun i t ht => ?_,?_⟩
  · obtain ⟨t0,h1,rfl,h2⟩ := fewL_at ht
    obtain ⟨r,a,b⟩ := hT i t0 h2 h1
    exact ⟨r,a,b.grow g⟩
  · rw [cM10,F10.eq,show (Value.int .i64 0) = .int .i64 ((0 : Nat) : Int) from rfl,e]
theorem Tasks.name {h : H} {v : Value} {ts : List TK} (T : Tasks h v ts) {i : Nat} (hi : i < ts.length) :
    ∃ b o,(∀ h',xindexAddr Try.prog 22 v (.int .i64 (i : Nat)) h' = .ok (.pointer (some ⟨b,o,none⟩)) h') ∧ xload Try.prog 9 (.pointer (some ⟨b,o,none⟩)) h = .ok (.string (nm ts (i : Int))) h := by
  obtain ⟨b,o,vi,vo,a,r,-⟩ := T.at_ (List.getElem?_eq_getElem hi)
  have c := r.cell (j := 0) rfl
  rw [Nat.add_zero,← nm_at (List.getElem?_eq_getElem hi)] at c
  exact ⟨b,o,a,by rw [ld9,c,ofO_some]⟩
theorem mv_in {h : H} {x0 x1 : Value} {ts : List TK} (T : Tasks h x0 ts) (hn : ts.length ≤ 3000) {i : Nat} (hi : i < ts.length) : ∀ (d k : Nat),i - k = d → k ≤ i → (∀ q,q < k → nm ts (i : Int) ≠ nm ts (q : Int)) →
    (∃ h',Grow h h' ∧ F6.l6 Try.prog CLM nu0 nu0 x0 x1 (.int .i64 (i : Nat)) (.int .i64 (k : Nat)) h = .ok (.bool true) h') ∨ ((∀ q,q < i → nm ts (i : Int) ≠ nm ts (q : Int)) ∧ F6.l6 Try.prog CLM nu0 nu0 x0 x1 (.int .i64 (i : Nat)) (.int .i64 (k : Nat)) h = F6.j4 Try.prog CLM nu0 nu0 x0 x1 (.int .i64 (i : Nat)) h) := by
  intro d
  induction d with
  | zero =>
    intro k hd hk hq
    refine .inr ⟨fun q h => hq q (by omega),?_⟩
    rw [F6.l6_eq,xlss,go_ok,ifV_dec,if_neg (by omega)]
  | succ d ih =>
    intro k hd hk hq
    obtain ⟨b1,o1,a1,l1⟩ := T.name hi
    obtain ⟨b2,o2,a2,l2⟩ := T.name (show k < ts.length by omega)
    have top : F6.l6 Try.prog CLM nu0 nu0 x0 x1 (.int .i64 (i : Nat)) (.int .i64 (k : Nat)) h = if nm ts (i : Int) = nm ts (k : Int) then ((CLM (.f 11) [] h).go .pan fun t18 h => .ok t18 h) else F6.l6 Try.prog CLM nu0 nu0 x0 x1 (.int .i64 (i : Nat)) (.int .i64 ((k + 1 : Nat) : Int)) h := by
      rw [F6.l6_eq,xlss,go_ok,ifV_dec,if_pos (by omega),F6.j8_eq,a1,Res.ok1_ok,fa55_0,Res.ok1_ok,l1,Res.ok1_ok,a2,Res.ok1_ok,fa55_0,Res.ok1_ok,l2,Res.ok1_ok,plain2_str,cond_true,xseql,Res.ok1_ok,ifV_dec,xadd,go_ok,wadd1 (by omega)]
    rw [top]
    by_cases e : nm ts (i : Int) = nm ts (k : Int)
    · rw [if_pos e]
      obtain ⟨h',g',e'⟩ := eStarted h
      exact .inl ⟨h',g',by rw [e',go_ok]⟩
    · rw [if_neg e]
      exact ih (k + 1) (by omega) (by omega) fun q hq2 => by
        by_cases e2 : q = k
        · subst e2; exact e
        · exact hq q (by omega)
theorem mv_out {h : H} {x0 x1 : Value} {ts : List TK} (T : Tasks h x0 ts) (hn : ts.length ≤ 3000) : ∀ (d i : Nat),ts.length - i = d → i ≤ ts.length → (∀ p q,p < i → q < p → nm ts ((p : Nat) : Int) ≠ nm ts ((q : Nat) : Int)) →
    (∃ h',Grow h h' ∧ F6.l3 Try.prog CLM nu0 nu0 x0 x1 (.int .i64 (i : Nat)) h = .ok (.bool true) h') ∨ (Dis ts ∧ F6.l3 Try.prog CLM nu0 nu0 x0 x1 (.int .i64 (i : Nat)) h = F6.j10 Try.prog CLM nu0 nu0 x0 x1 h) := by
  intro d
  induction d with
  | zero =>
    intro i hd hi hq
    refine .inr ⟨fun p q hp hq2 e => ?_,?_⟩
    · rcases Nat.lt_trichotomy p q with w | w | w
      · exact absurd e.symm (hq q p (by omega) w)
      · exact w
      · exact absurd e (hq p q (by omega) w)
    · rw [F6.l3_eq,T.len,go_ok,xlss,go_ok,ifV_dec,if_neg (by omega)]
  | succ d ih =>
    intro i hd hi hq
    have hil : i < ts.length := by omega
    rw [F6.l3_eq,T.len,go_ok,xlss,go_ok,ifV_dec,if_pos (by omega),F6.j5_eq,show (Value.int .i64 0) = .int .i64 ((0 : Nat) : Int) from rfl]
    rcases mv_in (x1 := x1) T hn hil _ 0 rfl (Nat.zero_le _) (fun q h => absurd h (Nat.not_lt_zero q)) with h1 | ⟨h1,e1⟩
    · exact .inl h1
    · rw [e1,F6.j4_eq,xadd,go_ok,wadd1 (by omega)]
      exact ih (i + 1) (by omega) (by omega) fun p q hp hq2 => by
        by_cases e : p = i
        · subst e; exact h1 q hq2
        · exact hq p q (by omega) hq2
structure MvR (hB h : H) (bm : Nat) (op : Bool) (rows : List (List Value)) (us : List TK) : Prop where
  m : RB h bm 55 4 op rows
  l : rows.length = us.length
  t : ∀ (i : Nat) (t : TK),us[i]? = some t → ∃ r,rows[i]? = some r ∧ TaskR hB t r
theorem MvR.tasks {hB h : H} (g : Grow hB h) {bm : Nat} {op : Bool} {rows : List (List Value)} {us : List TK} (q : MvR hB h bm op rows us) : Tasks h (.slice (some ⟨bm,0,none⟩) us.length us.length) us :=
  ⟨rows,⟨q.m.1,.inr ⟨bm,0,none,us.length,by rw [q.l],q.m.all⟩⟩,q.l,fun i t ht => by obtain ⟨r,a,b⟩ := q.t i t ht; exact ⟨r,a,b.grow g⟩⟩
theorem mv_copy {hB : H} {x0 : Value} {br : Option Nat} {rows : List (List Value)} {ts : List TK} (l : Lst 55 4 hB x0 br rows) (gd : GoodR 4 rows) (hl : rows.length = ts.length) (few : ts.length ≤ 3000) (ht : ∀ (i : Nat) (t : TK),ts[i]? = some t → ∃ r,rows[i]? = some r ∧ TaskR hB t r) :
    ∃ h' bm op v,Grow hB h' ∧ hB.next ≤ bm ∧ MvR hB h' bm op rows ts ∧ xbuildSlice Try.prog 22 0 [] hB = .ok v (hB.alloc (.cells [] 55 0 false)) ∧ xbuiltin Try.prog .append [22,22] [v,x0] (hB.alloc (.cells [] 55 0 false)) = .ok (.slice (some ⟨bm,0,none⟩) ts.length ts.length) h' := by
  have eb : xbuildSlice Try.prog 22 0 [] hB = .ok (.slice (some ⟨hB.next,0,none⟩) 0 0) (hB.alloc (.cells [] 55 0 false)) := by kernel_rfl
  obtain ⟨h1,hh1⟩ : ∃ h1,h1 = hB.alloc (.cells [] 55 0 false) := ⟨_,rfl⟩
  have g1 : Grow hB h1 := by rw [hh1]; exact (Grow.refl hB).alloc _
  have hb : h1.get hB.next = some (.cells [] 55 0 false) := by rw [hh1]; exact H.alloc_self _ _
  have n1 : h1.next = hB.next + 1 := by rw [hh1]; rfl
  rw [← hh1] at eb ⊢
  have l1 : Lst 55 4 h1 x0 br rows := l.upd (g1.upd fun _ => False) fun _ _ => id
  obtain ⟨f1,f2⟩ := Lst.firstL l1 gd
  have hc : Try.prog.cellsOf 55 = 4 := by kernel_rfl
  by_cases h0 : rows.length = 0
  · have hr : rows = [] := List.length_eq_zero_iff.1 h0
    have h0' : ts.length = 0 := by omega
    rw [h0] at f1 f2
    have ea := xapp_0 (P := Try.prog) (t := 22) (xt := 22) (b := hB.next) (o := 0) (n := 0) (cap := 0) TT.el TT.sz TT.iss f1 (by rw [hc]; exact f2) (Nat.le_refl 0)
    refine ⟨h1,hB.next,false,_,g1,Nat.le_refl _,⟨⟨gd,by rw [hr]; exact hb⟩,hl,ht⟩,eb,?_⟩
    rw [h0']; exact ea
  · have ea := xapp_new (P := Try.prog) (t := 22) (e := 55) (xt := 22) (base := some ⟨hB.next,0,none⟩) (n := 0) (cap := 0) (k := rows.length) (x := x0) (old := []) (new := rows.flatten) (h := h1) TT.el TT.sz TT.iss f1 (by rw [hc]; exact f2)
      (by show h1.row ⟨hB.next,0,none⟩ (0 * _) = _; rw [Nat.zero_mul]; exact H.row_all hb rfl) (by omega)
      (by have := Nat.mul_le_mul (show 0 + rows.length ≤ 65536 by omega) TT.by_; omega) (by omega) (by have := TT.by_; omega) TT.zf (flat_ones gd) (by unfold appOk; simp only [hb])
    have hlv : h1.leave (some ⟨hB.next,0,none⟩) = h1 := by unfold H.leave; simp only [hb]
    rw [hlv,Nat.zero_add,List.nil_append,hl] at ea
    exact ⟨_,h1.next,true,_,g1.alloc _,by omega,⟨⟨gd,H.alloc_self _ _⟩,hl,ht⟩,eb,ea⟩
theorem mv_moves {hB : H} {x0 x1 : Value} {mr : List (List Value)} (S : Sl 1 hB x1 mr) (hm : ∀ r ∈ mr,∃ z,r = [.int .i64 z]) {bm : Nat} (hbm : hB.next ≤ bm) {op : Bool} {ts : List TK} (hn : ts.length ≤ 60) : ∀ (d i : Nat) {h : H} {rows : List (List Value)} {us : List TK} {f g : Nat → Nat},ts.length - i = d → i ≤ ts.length → Grow hB h → MvR hB h bm op rows us → Iso ts us f g →
    ∃ h' rows' us' f' g',Grow hB h' ∧ MvR hB h' bm op rows' us' ∧ Iso ts us' f' g' ∧ F6.l12 Try.prog CLM nu0 nu0 x0 x1 (.slice (some ⟨bm,0,none⟩) ts.length ts.length) (.int .i64 (i : Nat)) h = F6.j18 Try.prog CLM nu0 nu0 x0 (.slice (some ⟨bm,0,none⟩) ts.length ts.length) h' := by
  intro d
  obtain ⟨a0,cap0,hv1⟩ := S.val
  have hlen : ∀ hh : H,xbuiltin Try.prog .len [27] [x1] hh = .ok (.int .i64 (mr.length : Nat)) hh := fun hh => by rw [hv1]; exact ln27 _ _ _ _
  induction d with
  | zero =>
    intro i h rows us f g hd hi gr q I
    refine ⟨h,rows,us,f,g,gr,q,I,?_⟩
    rw [F6.l12_eq,hlen,go_ok,xlss,go_ok,ifV_dec]
    split
    · rw [ln22,go_ok,xlss,go_ok,ifV_dec,if_neg (by omega)]
    · rfl
  | succ d ih =>
    intro i h rows us f g hd hi gr q I
    by_cases hlt : i < mr.length
    · have hr := List.getElem?_eq_getElem hlt
      obtain ⟨z,er⟩ := hm _ (List.getElem_mem hlt)
      rw [er] at hr
      obtain ⟨b,o,sp,cap',hv2,row,_,_⟩ := S.at_ hr
      have ix : xindexAddr Try.prog 27 x1 (.int .i64 (i : Nat)) h = .ok (.pointer (some ⟨b,o + i * 1,none⟩)) h := by rw [hv2]; exact ia27 _ _ _ _ _ _ _ _ hlt
      have lz : xload Try.prog 3 (.pointer (some ⟨b,o + i * 1,none⟩)) h = .ok (.int .i64 z) h := by
        have := (row.grow gr).cell (j := 0) rfl
        rw [Nat.add_zero] at this
        rw [ld3,this,ofO_some]
      obtain ⟨k,k1,k2,k3⟩ := eWhole z (lo := 0) (hi := (ts.length : Int) - 1) (by omega) (by omega) (by omega)
      have hil : i < us.length := by rw [I.len]; omega
      have hkl : k < us.length := by rw [I.len]; omega
      have hti : us[i]? = some us[i] := List.getElem?_eq_getElem hil
      have htk : us[k]? = some us[k] := List.getElem?_eq_getElem hkl
      obtain ⟨ri,hri,Ri⟩ := q.t i _ hti
      obtain ⟨rk,hrk,Rk⟩ := q.t k _ htk
      have gi := q.m.1 ri (List.mem_of_getElem? hri)
      have gk := q.m.1 rk (List.mem_of_getElem? hrk)
      obtain ⟨h2,hh2⟩ : ∃ h2,h2 = h.alloc (.cells zc55 55 0 false) := ⟨_,rfl⟩
      have g2 : Grow h h2 := by rw [hh2]; exact (Grow.refl h).alloc _
      have n2 : h.next < h2.next := by rw [hh2]; exact Nat.lt_succ_self _
      have hb2 : h2.get h.next = some (.cells zc55 55 0 false) := by rw [hh2]; exact H.alloc_self _ _
      have w3 := H.write_all (l := ri) hb2 (by rw [gi.1]; rfl) gi.2
      obtain ⟨h3,hh3⟩ : ∃ h3,h3 = h2.put h.next (.cells ri 55 0 false) := ⟨_,rfl⟩
      rw [← hh3] at w3
      have g3 : Grow h h3 := by rw [hh3]; exact g2.put (Nat.le_refl _) n2 _
      have hb3 : h3.get h.next = some (.cells ri 55 0 false) := by rw [hh3]; exact H.put_self hb2
      have M3 := q.m.grow g3
      have hbm1 := H.get_lt q.m.2
      have hl := q.l
      obtain ⟨h4,w4,u4,M4⟩ := M3.wrow (i := i) (r := rk) (by omega) gk.1 gk.2
      have hb4 : h4.get h.next = some (.cells ri 55 0 false) := u4.old _ _ (by omega) hb3
      obtain ⟨h5,w5,u5,M5⟩ := M4.wrow (i := k) (r := ri) (by rw [List.length_set]; omega) gi.1 gi.2
      have U : Upd (fun y => y = bm) h h5 := ((g3.upd _).trans u4).trans u5
      have g5 : Grow hB h5 := grow_then gr U fun y hy => by rw [hy]; exact hbm
      have q5 : MvR hB h5 bm op ((rows.set i rk).set k ri) ((us.set i us[k]).set k us[i]) := ⟨M5,by simp only [List.length_set]; exact hl,fun j t hj => by
        rw [swap_at hti htk] at hj
        obtain ⟨r,a,b⟩ := q.t _ t hj
        exact ⟨r,by rw [swap_at hri hrk]; exact a,b⟩⟩
      obtain ⟨h',rows',us',f',g',r1,r2,r3,r4⟩ := ih (i + 1) (by omega) (by omega) g5 q5 (I.swap hti htk)
      refine ⟨h',rows',us',f',g',r1,r2,r3,?_⟩
      have ixm : ∀ (p : Nat) (hh : H),p < ts.length → xindexAddr Try.prog 22 (.slice (some ⟨bm,0,none⟩) ts.length ts.length) (.int .i64 (p : Nat)) hh = .ok (.pointer (some ⟨bm,p * 4,none⟩)) hh := fun p hh hp => by
        have := ia22 bm 0 ts.length ts.length p none .i64 hh hp
        rwa [Nat.zero_add] at this
      have e1 := (q.m.row hri).row gi.1
      have e2 := (M3.row hrk).row gk.1
      have e3 : h4.row ⟨h.next,0,none⟩ 4 = some ri := H.row_all hb4 gi.1
      have s2 : xstore Try.prog 55 (.pointer (some ⟨h.next,0,none⟩)) (.agg ⟨ri⟩) h2 = .ok undef h3 := by rw [st55 _ _ _ (by rw [asz]; exact gi.1),cells_agg,w3,ofU_some]
      have s4 : xstore Try.prog 55 (.pointer (some ⟨bm,i * 4,none⟩)) (.agg ⟨rk⟩) h3 = .ok undef h4 := by rw [st55 _ _ _ (by rw [asz]; exact gk.1),cells_agg,w4,ofU_some]
      have s5 : xstore Try.prog 55 (.pointer (some ⟨bm,k * 4,none⟩)) (.agg ⟨ri⟩) h4 = .ok undef h5 := by rw [st55 _ _ _ (by rw [asz]; exact gi.1),cells_agg,w5,ofU_some]
      rw [F6.l12_eq,hlen,go_ok,xlss,go_ok,ifV_dec,if_pos (by omega),ln22,go_ok,xlss,go_ok,ifV_dec,if_pos (by omega),F6.j14_eq,ix,go_ok,lz,go_ok,ln22,go_ok,xsub,go_ok,wrap64 (by omega),k3,go_ok,ixm _ _ (by omega),go_ok,ld55,e1,ofA_some,go_ok,al55,go_ok,← hh2,s2,go_ok,ixm _ _ (by omega),go_ok,ld55,e2,ofA_some,go_ok,ixm _ _ (by omega),go_ok,s4,go_ok,ld55,e3,ofA_some,go_ok,ixm _ _ (by omega),go_ok,s5,go_ok,xadd,go_ok,wadd1 (by omega)]
      exact r4
    · refine ⟨h,rows,us,f,g,gr,q,I,?_⟩
      rw [F6.l12_eq,hlen,go_ok,xlss,go_ok,ifV_dec,if_neg (by omega)]
section
variable {h : H} {x0 x7 : Value} {ts us : List TK} {f g : Nat → Nat} (T : Tasks h x0 ts) (U : Tasks h x7 us) (I : Iso ts us f g) (hn : ts.length ≤ 3000)
include T U I hn
theorem mv_names {xa xb xc xd : Value} {A : List Nat} (hA : ∀ a ∈ A,a < ts.length) (few : A.length ≤ 3000) (Ia : IL h xa (nl A)) (Ib : IL h xb (nl (A.map f))) : ∀ (d i : Nat),A.length - i = d → i ≤ A.length →
    F6.l25 Try.prog CLM nu0 nu0 x0 x7 xa xb xc xd (.int .i64 (i : Nat)) h = F6.j29 Try.prog CLM nu0 nu0 x0 x7 xc xd h := by
  have _ := hn
  intro d
  induction d with
  | zero =>
    intro i hd hi
    rw [F6.l25_eq,Ia.len,go_ok,nl_len,xlss,go_ok,ifV_dec,if_neg (by omega)]
  | succ d ih =>
    intro i hd hi
    have hx : A[i]? = some A[i] := List.getElem?_eq_getElem (by omega)
    obtain ⟨x,ex⟩ : ∃ x,x = A[i] := ⟨_,rfl⟩
    rw [← ex] at hx
    have hxl := hA x (List.mem_of_getElem? hx)
    obtain ⟨a,a1,a2⟩ := Ia.at_ (i := i) (z := (x : Nat)) (by unfold nl; rw [List.getElem?_map,hx]; rfl)
    obtain ⟨b,b1,b2⟩ := Ib.at_ (i := i) (z := ((f x : Nat) : Int)) (by unfold nl; rw [List.getElem?_map,List.getElem?_map,hx]; rfl)
    obtain ⟨c1,o1,n1,m1⟩ := T.name hxl
    obtain ⟨c2,o2,n2,m2⟩ := U.name (i := f x) (by rw [I.len]; exact I.fl x hxl)
    rw [I.nm hxl] at m2
    rw [F6.l25_eq,Ia.len,go_ok,nl_len,xlss,go_ok,ifV_dec,if_pos (by omega),F6.j27_eq,a1,Res.ok1_ok,a2,Res.ok1_ok,n1,Res.ok1_ok,fa55_0,Res.ok1_ok,m1,Res.ok1_ok,b1,Res.ok1_ok,b2,Res.ok1_ok,n2,Res.ok1_ok,fa55_0,Res.ok1_ok,m2,Res.ok1_ok,plain2_str,cond_true,xsneq,Res.ok1_ok,ifV_not,if_pos rfl,xadd,go_ok,wadd1 (by omega)]
    exact ih (i + 1) (by omega) (by omega)
variable {xc xd : Value} {ls : List (List Nat)} (hls : ∀ l ∈ ls,(∀ a ∈ l,a < ts.length) ∧ l.length ≤ 3000) (few : ls.length ≤ 3000) (J : LvV h xc ls) (K : LvV h xd (ls.map fun l => l.map f))
include hls few J K
theorem mv_row {q : Nat} {l : List Nat} (hq : ls[q]? = some l) : ∀ (d i : Nat),l.length - i = d → i ≤ l.length →
    F6.l35 Try.prog CLM nu0 nu0 x0 x7 xc xd (.int .i64 (q : Nat)) (.int .i64 (i : Nat)) h = F6.j31 Try.prog CLM nu0 nu0 x0 x7 xc xd (.int .i64 (q : Nat)) h := by
  have _ := hn
  have _ := few
  obtain ⟨_,_,w1,J⟩ := J
  obtain ⟨_,_,w2,K⟩ := K
  rw [List.length_map] at K
  have hql := (List.getElem?_eq_some_iff.1 hq).1
  obtain ⟨p1,a1,a2,_⟩ := J.ld hql
  obtain ⟨p2,b1,b2,_⟩ := K.ld hql
  have o1 := (J.ol q hql).1
  have o2 := (K.ol q hql).1
  rw [hq,Option.getD_some] at o1
  rw [List.getElem?_map,hq,Option.map_some,Option.getD_some] at o2
  obtain ⟨hl1,hl2⟩ := hls l (List.mem_of_getElem? hq)
  intro d
  induction d with
  | zero =>
    intro i hd hi
    rw [F6.l35_eq,a1,go_ok,a2 _ (Grow.refl h),go_ok,o1.il.len,go_ok,nl_len,xlss,go_ok,ifV_dec,if_neg (by omega)]
  | succ d ih =>
    intro i hd hi
    have hx : l[i]? = some l[i] := List.getElem?_eq_getElem (by omega)
    obtain ⟨x,ex⟩ : ∃ x,x = l[i] := ⟨_,rfl⟩
    rw [← ex] at hx
    have hxl := hl1 x (List.mem_of_getElem? hx)
    obtain ⟨a,d1,d2⟩ := o1.il.at_ (i := i) (z := (x : Nat)) (by unfold nl; rw [List.getElem?_map,hx]; rfl)
    obtain ⟨b,e1,e2⟩ := o2.il.at_ (i := i) (z := ((f x : Nat) : Int)) (by unfold nl; rw [List.getElem?_map,List.getElem?_map,hx]; rfl)
    obtain ⟨c1,q1,n1,m1⟩ := T.name hxl
    obtain ⟨c2,q2,n2,m2⟩ := U.name (i := f x) (by rw [I.len]; exact I.fl x hxl)
    rw [I.nm hxl] at m2
    rw [F6.l35_eq,a1,go_ok,a2 _ (Grow.refl h),go_ok,o1.il.len,go_ok,nl_len,xlss,go_ok,ifV_dec,if_pos (by omega),F6.j37_eq,a1,Res.ok1_ok,a2 _ (Grow.refl h),Res.ok1_ok,d1,Res.ok1_ok,d2,Res.ok1_ok,n1,Res.ok1_ok,fa55_0,Res.ok1_ok,m1,Res.ok1_ok,b1,Res.ok1_ok,b2 _ (Grow.refl h),Res.ok1_ok,e1,Res.ok1_ok,e2,Res.ok1_ok,n2,Res.ok1_ok,fa55_0,Res.ok1_ok,m2,Res.ok1_ok,plain2_str,cond_true,xsneq,Res.ok1_ok,ifV_not,if_pos rfl,xadd,go_ok,wadd1 (by omega)]
    exact ih (i + 1) (by omega) (by omega)
theorem mv_levels : ∀ (d q : Nat),ls.length - q = d → q ≤ ls.length →
    F6.l30 Try.prog CLM nu0 nu0 x0 x7 xc xd (.int .i64 (q : Nat)) h = F6.j39 Try.prog CLM nu0 nu0 h := by
  have row := fun q l => mv_row (xc := xc) (xd := xd) (q := q) (l := l) T U I hn hls few J K
  obtain ⟨_,_,w1,J⟩ := J
  obtain ⟨_,_,w2,K⟩ := K
  rw [List.length_map] at K
  obtain ⟨av,cv,hv0⟩ := T.val
  intro d
  induction d with
  | zero =>
    intro q hd hq
    rw [F6.l30_eq,J.len,go_ok,xlss,go_ok,ifV_dec,if_neg (by omega)]
  | succ d ih =>
    intro q hd hq
    have hql : q < ls.length := by omega
    have hl : ls[q]? = some ls[q] := List.getElem?_eq_getElem hql
    obtain ⟨l,el⟩ : ∃ l,l = ls[q] := ⟨_,rfl⟩
    rw [← el] at hl
    obtain ⟨hl1,hl2⟩ := hls l (List.mem_of_getElem? hl)
    obtain ⟨p1,a1,a2,_⟩ := J.ld hql
    obtain ⟨p2,b1,b2,_⟩ := K.ld hql
    have o1 := (J.ol q hql).1
    have o2 := (K.ol q hql).1
    rw [hl,Option.getD_some] at o1
    rw [List.getElem?_map,hl,Option.map_some,Option.getD_some] at o2
    have i1 := eInside o1.il (by omega) (n := ts.length) hl1
    have i2 := eInside o2.il (by rw [List.length_map]; omega) (n := ts.length) (fun k hk => by
      obtain ⟨a,ha,rfl⟩ := List.mem_map.1 hk
      exact I.fl a (hl1 a ha))
    have hz : (lenV x0).isSome = true := by rw [hv0]; rfl
    rw [F6.l30_eq,J.len,go_ok,xlss,go_ok,ifV_dec,if_pos (by omega),F6.j32_eq,a1,Res.ok1_ok,a2 _ (Grow.refl h),Res.ok1_ok,o1.il.first.1,show (some (nl l).length).isSome = true from rfl,cond_true,o1.il.len,Res.ok1_ok,nl_len,b1,Res.ok1_ok,b2 _ (Grow.refl h),Res.ok1_ok,o2.il.first.1,show (some (nl (l.map f)).length).isSome = true from rfl,cond_true,o2.il.len,Res.ok1_ok,nl_len,List.length_map,plain2_int,cond_true,xneq,Res.ok1_ok,ifV_not,if_pos rfl,
      a1,Res.ok1_ok,a2 _ (Grow.refl h),Res.ok1_ok,hz,cond_true,T.len,Res.ok1_ok,i1,go_ok,xun_not,Res.ok1_ok,show (!true) = false from rfl,ifV_f,b1,Res.ok1_ok,b2 _ (Grow.refl h),Res.ok1_ok,cond_true,T.len,Res.ok1_ok,i2,go_ok,xun_not,Res.ok1_ok,show (!true) = false from rfl,ifV_f,
      F6.j34_eq,show (Value.int .i64 0) = .int .i64 ((0 : Nat) : Int) from rfl,row q l hl _ 0 rfl (Nat.zero_le _),F6.j31_eq,xadd,go_ok,wadd1 (by omega)]
    exact ih (q + 1) (by omega) (by omega)
end
end Go.Proofs.Ytdadiidfhnojcaa.K
namespace Go.Proofs.Ytdadiidfhnojcaa.K
open Go Go.Kx Go.ChangeShapes Go.WideShapes Go.ChangeAt Go.RowKit
set_option maxRecDepth 100000
set_option linter.unusedVariables false
theorem LvV.len {h : H} {v : Value} {ls : List (List Nat)} (q : LvV h v ls) (h' : H) : xbuiltin Try.prog .len [33] [v] h' = .ok (.int .i64 (ls.length : Nat)) h' := by
  obtain ⟨_,_,_,q⟩ := q
  exact q.len h'
theorem Iso.few {ts us : List TK} {f g : Nat → Nat} (I : Iso ts us f g) (F : Few ts) (hl : ts.length ≤ 60) : Few us := by
  have hm : ∀ t ∈ us,t ∈ ts := fun t ht => by
    obtain ⟨i,hi⟩ := List.mem_iff_getElem?.1 ht
    have hil := (List.getElem?_eq_some_iff.1 hi).1
    rw [I.len] at hil
    have := I.at_ (g i) (I.gl i hil)
    rw [I.fg i hil,hi] at this
    exact List.mem_of_getElem? this.symm
  exact few60 (by rw [I.len]; exact hl) (fun t ht => F.i t (hm t ht)) fun t ht => F.o t (hm t ht)
theorem moved_ord {ts us : List TK} {f g : Nat → Nat} (I : Iso ts us f g) (D : Dis ts) (hn : ts.length ≤ 3000) {k0 k1 k2 k3 : H} {a b : Value} {ca cb : Int} {na nb : ByteArray} (p : OrdR k0 k1 ts a ca na) (q : OrdR k2 k3 us b cb nb) :
    ca = cb ∧ na = nb ∧ ∃ A : List Nat,(∀ x ∈ A,x < ts.length) ∧ A.length ≤ 3000 ∧ IL k1 a (nl A) ∧ IL k3 b (nl (A.map f)) := by
  rcases p with ⟨x,hx,rfl,rfl,rfl⟩ | ⟨no,R,bo,io,hl,_,o,rfl,rfl,rfl⟩
  · rcases q with ⟨y,hy,rfl,rfl,rfl⟩ | ⟨no,_⟩
    · have := (I.cyc D hx).uniq hy
      subst this
      exact ⟨rfl,(I.nm hx.1).symm,[],(fun x hx => by cases hx),by simp,.inl ⟨rfl,rfl⟩,.inl ⟨rfl,rfl⟩⟩
    · exact absurd (I.onc hx.1 hx.2.1) (no _)
  · rcases q with ⟨y,hy,_⟩ | ⟨_,R',b',io',hl',_,o',rfl,rfl,rfl⟩
    · exact absurd hy.2.1 (I.noc no y)
    · have := (I.ord D io).uniq io' (by rw [List.length_map,hl,hl',I.len])
      subst this
      exact ⟨rfl,rfl,R,fun x hx => io.lt hx,by omega,Out.il o hl,by rw [I.len] at *; exact Out.il o' hl'⟩
theorem moved_lev {ts us : List TK} {f g : Nat → Nat} (I : Iso ts us f g) (D : Dis ts) (hn : ts.length ≤ 3000) {k0 k1 k2 k3 : H} {a b : Value} {ca cb : Int} {na nb : ByteArray} (p : LevR k0 k1 ts a ca na) (q : LevR k2 k3 us b cb nb) :
    ∃ ls : List (List Nat),(∀ l ∈ ls,(∀ x ∈ l,x < ts.length) ∧ l.length ≤ 3000) ∧ ls.length ≤ 3000 ∧ LvV k1 a ls ∧ LvV k3 b (ls.map fun l => l.map f) := by
  rcases p with ⟨x,hx,rfl,rfl,rfl⟩ | ⟨no,L,ls,bo,w,V,o,rfl,rfl⟩
  · rcases q with ⟨y,hy,rfl,rfl,rfl⟩ | ⟨no,_⟩
    · exact ⟨[],(fun l hl => by cases hl),by simp,LvV.nil _,LvV.nil _⟩
    · exact absurd (I.onc hx.1 hx.2.1) (no _)
  · rcases q with ⟨y,hy,_⟩ | ⟨_,L',ls',b',w',V',o',rfl,rfl⟩
    · exact absurd hy.2.1 (I.noc no y)
    · have := (I.levs D V).uniq V'
      subst this
      obtain ⟨h1,h2⟩ := levs_len V
      refine ⟨ls,fun l hl => ⟨fun x hx => ?_,by have := h2 l hl; omega⟩,by omega,⟨_,_,_,o⟩,⟨_,_,_,o'⟩⟩
      obtain ⟨k,hk⟩ := List.mem_iff_getElem?.1 hl
      exact ((V.m k l hk x).1 hx).1
theorem moved {h0 : H} {x0 x1 : Value} {ts0 : List TK} {mr : List (List Value)} (T0 : TasksA h0 x0 ts0) (S : Sl 1 h0 x1 mr) (hm : ∀ r ∈ mr,∃ z,r = [.int .i64 z]) : ∃ h',CLM (.f 6) [x0,x1] h0 = .ok (.bool true) h' ∧ Grow h0 h' := by
  obtain ⟨h1,v,br,rows,g1,l,gd,hl,hT,e1⟩ := eFew2 T0
  have F : Few (fewL ts0) := few_few
  have h60 : (fewL ts0).length ≤ 60 := by rw [fewL_len]; exact Nat.min_le_right _ _
  obtain ⟨ts,ets⟩ : ∃ ts,ts = fewL ts0 := ⟨_,rfl⟩
  rw [← ets] at F h60 hl hT
  have hn := F.n
  have T : Tasks h1 v ts := ⟨rows,Lst.sl l gd,hl,hT⟩
  have top : CLM (.f 6) [x0,x1] h0 = F6.l3 Try.prog CLM nu0 nu0 v x1 (.int .i64 ((0 : Nat) : Int)) h1 := by
    rw [cM6,F6.eq,e1,go_ok]
    rfl
  rw [top]
  rcases mv_out (x1 := x1) T hn _ 0 rfl (Nat.zero_le _) (fun p q hp => absurd hp (Nat.not_lt_zero p)) with ⟨h',g',e'⟩ | ⟨D,e2⟩
  · exact ⟨h',e',g1.trans g'⟩
  rw [e2]
  obtain ⟨h2,bm,op,v0,g2,hbm,Q2,w1,w2⟩ := mv_copy l gd hl hn hT
  obtain ⟨h3,rows',us,f,g,g3,Q3,I,e3⟩ := mv_moves (x0 := v) (S.grow g1) hm hbm h60 _ 0 rfl (Nat.zero_le _) g2 Q2 (Iso.refl ts)
  have T3 := T.grow g3
  have U3 := Q3.tasks g3
  rw [I.len] at U3
  have FU := I.few F h60
  obtain ⟨h4,a,ca,na,g4,ra,e4⟩ := eOrder T3 F
  obtain ⟨h5,b,cb,nb,g5,rb,e5⟩ := eOrder (U3.grow g4) FU
  obtain ⟨h6,c,cc,nc,g6,rc,e6⟩ := eLevels (T3.grow (g4.trans g5)) F
  obtain ⟨h7,d,cd,nd,g7,rd,e7⟩ := eLevels (U3.grow ((g4.trans g5).trans g6)) FU
  obtain ⟨rfl,rfl,A,hA,few,Ia,Ib⟩ := moved_ord I D hn ra rb
  obtain ⟨ls,hls,fewl,J,K⟩ := moved_lev I D hn rc rd
  have G7 := ((g4.trans g5).trans g6).trans g7
  have T7 := T3.grow G7
  have U7 := U3.grow G7
  have Ia := Ia.grow ((g5.trans g6).trans g7)
  have Ib := Ib.grow (g6.trans g7)
  have J := J.grow g7
  have i1 := eInside Ia (by omega) (n := ts.length) hA
  have i2 := eInside Ib (by rw [List.length_map]; omega) (n := ts.length) (fun k hk => by
    obtain ⟨x,hx,rfl⟩ := List.mem_map.1 hk
    exact I.fl x (hA x hx))
  obtain ⟨h8,g8,e8⟩ := eStarted h7
  refine ⟨h8,?_,((g1.trans g3).trans G7).trans g8⟩
  rw [F6.j10_eq,w1,go_ok,w2,go_ok,show (Value.int .i64 0) = .int .i64 ((0 : Nat) : Int) from rfl,e3,F6.j18_eq,e4,go_ok,xextract_0,go_ok,xextract_1,go_ok,xextract_2,go_ok,e5,go_ok,xextract_0,go_ok,xextract_1,go_ok,xextract_2,go_ok,e6,go_ok,xextract_0,go_ok,xextract_1,go_ok,xextract_2,go_ok,e7,go_ok,xextract_0,go_ok,xextract_1,go_ok,xextract_2,go_ok,
    eNum,go_ok,eNum,go_ok,xneq,go_ok,ifV_not,if_pos rfl,xsneq,go_ok,ifV_not,if_pos rfl,Ia.len,go_ok,nl_len,Ib.len,go_ok,nl_len,List.length_map,xneq,go_ok,ifV_not,if_pos rfl,J.len,go_ok,K.len,go_ok,List.length_map,xneq,go_ok,ifV_not,if_pos rfl,T7.len,go_ok,i1,go_ok,xun_not,go_ok,show (!true) = false from rfl,ifV_f,T7.len,go_ok,i2,go_ok,xun_not,go_ok,show (!true) = false from rfl,ifV_f,
    F6.j24_eq,show (Value.int .i64 0) = .int .i64 ((0 : Nat) : Int) from rfl,mv_names T7 U7 I hn hA few Ia Ib _ 0 rfl (Nat.zero_le _),F6.j29_eq,show (Value.int .i64 0) = .int .i64 ((0 : Nat) : Int) from rfl,mv_levels T7 U7 I hn hls fewl J K _ 0 rfl (Nat.zero_le _),F6.j39_eq,e8,go_ok]
section
variable {HH : Type} {enc : TypeId × Value → HH} {W : World}
theorem read_ints {v : Value} {d : DataW HH} {p : List MemPlace} {base : Nat} (hval : Value.okWide Try.prog W .any base 27 v) (h : DataW.Trod enc Try.prog W 0 (fun _ => true) true 27 v d p) :
    ∃ u rows,R (io W) u v ∧ Sl 1 (hOf W) u rows ∧ ∀ r ∈ rows,∃ z,r = [.int .i64 z] := by
  obtain ⟨fuel,h⟩ := h
  have hsl : ∃ o l c,v = .slice o l c := by
    have hv := hval
    unfold Value.okWide at hv
    rw [Try.underlying27] at hv
    cases v <;> first | exact ⟨_,_,_,rfl⟩ | (simp [Cell.okWide,Try.underlying27,Cell.ok] at hv)
  obtain ⟨o,l,c,rfl⟩ := hsl
  obtain ⟨v',u,rows,e1,_,e,q,z,f⟩ := read_sl (E := 1) Try.underlying27 (by kernel_rfl) (by omega) h (fun q => by
    obtain ⟨z,rfl,_⟩ := read_int q
    rfl)
  have hv : v' = .slice o l c := by
    have : [Value.slice o l c] = [v'] := by simpa [Value.cells] using e1
    simpa using this.symm
  subst hv
  refine ⟨u,_,cv_R _ e,q,fun r hr => ?_⟩
  obtain ⟨n',cs',x',rfl,h'⟩ := f r hr
  obtain ⟨z,rfl,_⟩ := read_int h'
  exact ⟨z,rfl⟩
end
theorem contract6 (H : Type) (enc : TypeId × Value → H) (W : World) (base : Nat) (args : Array Value) (ds gs : List (DataW H)) (before : List MemPlace)
    (hval : ∀ (j : Nat) t v,Try.f6.params[j]? = some t → args[j]? = some v → Value.okWide Try.prog W .any base t v)
    (hW : DataW.Whole enc Try.prog Try.f6.params.toList Rows.graphMovedSpec.vars false W args.toList ds gs before) :
    Calls Try.prog 6 args W fun e W' => ∃ v,e = .returned v ∧ Rows.graphMovedSpec.post enc Try.prog Try.f6 false true false false W args v W' := by
  have hW' := hW
  obtain ⟨p,q,hA0,hV,rfl,hfz,hnd⟩ := hW
  have hA : DataW.TrodAll enc Try.prog W 0 (fun _ => true) true Try.f6.params.toList args.toList ds p := hA0
  rw [Try.params6] at hA hval
  obtain ⟨v0,v1,d0,d1,p0,p1,rfl,rfl,h0,h1⟩ := trodAll_two' hA
  obtain ⟨u,ts,rx0,T,_⟩ := read_tasks (hval 0 _ v0 rfl rfl) h0
  obtain ⟨u1,mr,rx1,S,hm⟩ := read_ints (hval 1 _ v1 rfl rfl) h1
  obtain ⟨h',hr,hg⟩ := moved T S hm
  refine bare_true laidOut' ?_ rfl Try.func6 (by kernel_rfl) (by kernel_rfl) (tb := 4) (by kernel_rfl) Try.underlying4 rfl hW' CLM_ok ?_ hr hg
  · rw [Try.params6]
    intro t ht
    simp only [List.mem_cons,List.not_mem_nil,or_false] at ht
    rcases ht with rfl | rfl <;> exact ⟨by kernel_rfl,of_decide_eq_true (by kernel_rfl)⟩
  · exact .cons rx0 (.cons rx1 .nil)
theorem lifted6 (os : Os) (started : os.Started) (H : Type) (enc : TypeId × Value → H) :
    ReturnsInHanded {} Try.checked os 6 .any (Rows.graphMovedSpec.pre6 enc Try.prog Try.f6 Rows.graphMovedRow.domain false) (Rows.graphMovedSpec.post enc Try.prog Try.f6 false true false false) := by
  refine returnsInHanded_of_change (C := Try.checked) own' started (by kernel_rfl) Try.func6
    (ChangeSpec.witness6 (enc := enc) (C := Try.checked) false ⟨#[],#[.slice none 0 0,.slice none 0 0],[]⟩ 8 (by kernel_rfl) (by kernel_rfl) (by kernel_rfl) (by kernel_rfl)) ?_
  intro W base args ds gs before hval hW _ _
  exact contract6 H enc W base args ds gs before hval hW
end Go.Proofs.Ytdadiidfhnojcaa.K
namespace Go.Proofs.Ytdadiidfhnojcaa
open Go
set_option maxRecDepth 100000
theorem graphMoved_holds : Rows.GraphMovedSaid :=
  OpenClaim.holds_of_wide 6 Try.f6 rfl rfl rfl rfl rfl rfl rfl ⟨rfl,rfl,rfl,rfl,rfl⟩ rfl rfl rfl rfl rfl (by kernel_rfl) Try.func6 (by kernel_rfl)
    (of_decide_eq_true (by kernel_rfl)) (by unfold Func.isWrapper; first | (rw [if_pos (by decide +kernel)]; kernel_rfl) | (rw [if_neg (by decide +kernel)]; exact ⟨rfl,rfl⟩))
    (fun os started H enc _ => K.lifted6 os started H enc)
end Go.Proofs.Ytdadiidfhnojcaa
#print axioms Go.Proofs.Ytdadiidfhnojcaa.graphMoved_holds
