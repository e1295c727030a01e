/- My texts for this claim, in one file: part 33. -/
import Derived.Test.YtdadiidfhnojcaaWe32
namespace Go.Proofs.Ytdadiidfhnojcaa.K.SrtO
open Go Go.Kx Go.Proofs.Ytdadiidfhnojcaa.K
set_option linter.unusedVariables false
set_option linter.unusedSimpArgs false
set_option linter.unusedSectionVars false
set_option maxRecDepth 20000
section
variable {b n cap : Nat} {sp : List Value} {J : H → Prop} {cv : Value} {lt : Int → Int → Bool} {ok : Int → Prop} {h0 : H}
theorem par_up (L : LessOk b J cv lt ok h0) (hn : n < 65536) {F G : Value → Value → H → Res Value} {a j : Nat} (ha : a < n) (hj : j < n)
    (heq : ∀ x12 x13 h,F x12 x13 h = (bif plain2 x12 x13 then ((xbin Try.prog .leq 3 x12 x13 h).ok1 fun t21 h22 => (ifV t21 ((xindexAddr Try.prog 27 (sl b n cap) x12 h22).ok1 fun t23 h24 => ((xload Try.prog 3 t23 h24).ok1 fun t25 h26 => ((xindexAddr Try.prog 27 (sl b n cap) (.int .i64 (a : Nat)) h26).ok1 fun t27 h28 => ((xload Try.prog 3 t27 h28).ok1 fun t29 h30 => (((CLM (.f 86) [t25,t29] h30).go .pan (fun t33 h34 => (ifV t33 ((xbin Try.prog .add 3 x12 (.int .i64 1) h34).go .pan fun t35 h36 => (F t35 x13 h36)) (G x12 x13 h34))))))))) (G x12 x13 h22))) else .bad)) :
    ∀ (m i : Nat) {h : H} {d : Array Int},j + 1 - i = m → i ≤ j + 1 → SS b n sp J ok h0 h d → ∃ h',SS b n sp J ok h0 h' d ∧ F (.int .i64 (i : Nat)) (.int .i64 (j : Nat)) h = G (.int .i64 (Go.Sort.scanUp (fun x => lt x d[a]!) d j i : Nat)) (.int .i64 (j : Nat)) h' := by
  intro m
  induction m with
  | zero =>
    intro i h d hm hi s
    refine ⟨h,s,?_⟩
    rw [heq,plain2_int,cond_true,xleq,Res.ok1_ok,ifV_dec,if_neg (by omega),Go.Sort.scanUp,if_neg (by simp; omega)]
  | succ m ih =>
    intro i h d hm hi s
    obtain ⟨h1,s1,e1⟩ := s.less L (s.ok i (by omega)) (s.ok a ha)
    have hE : F (.int .i64 (i : Nat)) (.int .i64 (j : Nat)) h = ifV (.bool (lt d[i]! d[a]!)) (F (.int .i64 ((i + 1 : Nat) : Int)) (.int .i64 (j : Nat)) h1) (G (.int .i64 (i : Nat)) (.int .i64 (j : Nat)) h1) := by
      rw [heq,plain2_int,cond_true,xleq,Res.ok1_ok,ifV_dec,if_pos (by omega),s.ld (by omega),s.ld ha,e1,xadd,go_ok,wadd1 (by omega)]
    rw [hE]
    cases q : lt d[i]! d[a]! with
    | true =>
      obtain ⟨h2,s2,e2⟩ := ih (i + 1) (by omega) (by omega) s1
      refine ⟨h2,s2,?_⟩
      rw [ifV_t,e2]
      conv => rhs; rw [Go.Sort.scanUp,if_pos (by simp [q]; omega)]
    | false =>
      refine ⟨h1,s1,?_⟩
      rw [ifV_f,Go.Sort.scanUp,if_neg (by simp [q])]
theorem par_down (L : LessOk b J cv lt ok h0) (hn : n < 65536) {F G : Value → Value → H → Res Value} {a i : Nat} (ha : a < n) (hi : 1 ≤ i) (hin : i < 65537)
    (heq : ∀ x12 x13 h,F x12 x13 h = (bif plain2 x12 x13 then ((xbin Try.prog .leq 3 x12 x13 h).ok1 fun t37 h38 => (ifV t37 ((xindexAddr Try.prog 27 (sl b n cap) x13 h38).ok1 fun t39 h40 => ((xload Try.prog 3 t39 h40).ok1 fun t41 h42 => ((xindexAddr Try.prog 27 (sl b n cap) (.int .i64 (a : Nat)) h42).ok1 fun t43 h44 => ((xload Try.prog 3 t43 h44).ok1 fun t45 h46 => (((CLM (.f 86) [t41,t45] h46).go .pan (fun t49 h50 => ((xun Try.prog .not t49 h50).ok1 fun t51 h52 => (ifV t51 ((xbin Try.prog .sub 3 x13 (.int .i64 1) h52).go .pan fun t53 h54 => (F x12 t53 h54)) (G x12 x13 h52)))))))))) (G x12 x13 h38))) else .bad)) :
    ∀ (j : Nat) {h : H} {d : Array Int},j < n → SS b n sp J ok h0 h d → ∃ h',SS b n sp J ok h0 h' d ∧ F (.int .i64 (i : Nat)) (.int .i64 (j : Nat)) h = G (.int .i64 (i : Nat)) (.int .i64 (Go.Sort.scanDown (fun x => !lt x d[a]!) d i j : Nat)) h' := by
  intro j
  induction j with
  | zero =>
    intro h d hj s
    refine ⟨h,s,?_⟩
    rw [heq,plain2_int,cond_true,xleq,Res.ok1_ok,ifV_dec,if_neg (by omega)]
    simp only [Go.Sort.scanDown]
  | succ j ih =>
    intro h d hj s
    by_cases q0 : i ≤ j + 1
    · obtain ⟨h1,s1,e1⟩ := s.less L (s.ok (j + 1) hj) (s.ok a ha)
      have hE : F (.int .i64 (i : Nat)) (.int .i64 ((j + 1 : Nat) : Int)) h = ifV (.bool (!lt d[j + 1]! d[a]!)) (F (.int .i64 (i : Nat)) (.int .i64 (j : Nat)) h1) (G (.int .i64 (i : Nat)) (.int .i64 ((j + 1 : Nat) : Int)) h1) := by
        rw [heq,plain2_int,cond_true,xleq,Res.ok1_ok,ifV_dec,if_pos (by omega),s.ld hj,s.ld ha,e1,xun_not,Res.ok1_ok,xsub,go_ok,wsub1 (by omega) (by omega),Nat.add_sub_cancel]
      rw [hE]
      cases q : lt d[j + 1]! d[a]! with
      | false =>
        obtain ⟨h2,s2,e2⟩ := ih (by omega) s1
        refine ⟨h2,s2,?_⟩
        rw [show (!false) = true from rfl,ifV_t,e2]
        conv => rhs; rw [Go.Sort.scanDown,if_pos (by simp [q]; omega)]
      | true =>
        refine ⟨h1,s1,?_⟩
        rw [show (!true) = false from rfl,ifV_f,Go.Sort.scanDown,if_neg (by simp [q])]
    · refine ⟨h,s,?_⟩
      rw [heq,plain2_int,cond_true,xleq,Res.ok1_ok,ifV_dec,if_neg (by omega),Go.Sort.scanDown,if_neg (by simp; omega)]
theorem peq_up (L : LessOk b J cv lt ok h0) (hn : n < 65536) {F G : Value → Value → H → Res Value} {a j : Nat} (ha : a < n) (hj : j < n)
    (heq : ∀ x12 x13 h,F x12 x13 h = (bif plain2 x12 x13 then ((xbin Try.prog .leq 3 x12 x13 h).ok1 fun t21 h22 => (ifV t21 ((xindexAddr Try.prog 27 (sl b n cap) (.int .i64 (a : Nat)) h22).ok1 fun t23 h24 => ((xload Try.prog 3 t23 h24).ok1 fun t25 h26 => ((xindexAddr Try.prog 27 (sl b n cap) x12 h26).ok1 fun t27 h28 => ((xload Try.prog 3 t27 h28).ok1 fun t29 h30 => (((CLM (.f 86) [t25,t29] h30).go .pan (fun t33 h34 => ((xun Try.prog .not t33 h34).ok1 fun t35 h36 => (ifV t35 ((xbin Try.prog .add 3 x12 (.int .i64 1) h36).go .pan fun t35 h36 => (F t35 x13 h36)) (G x12 x13 h36)))))))))) (G x12 x13 h22))) else .bad)) :
    ∀ (m i : Nat) {h : H} {d : Array Int},j + 1 - i = m → i ≤ j + 1 → SS b n sp J ok h0 h d → ∃ h',SS b n sp J ok h0 h' d ∧ F (.int .i64 (i : Nat)) (.int .i64 (j : Nat)) h = G (.int .i64 (Go.Sort.scanUp (fun x => !lt d[a]! x) d j i : Nat)) (.int .i64 (j : Nat)) h' := by
  intro m
  induction m with
  | zero =>
    intro i h d hm hi s
    refine ⟨h,s,?_⟩
    rw [heq,plain2_int,cond_true,xleq,Res.ok1_ok,ifV_dec,if_neg (by omega),Go.Sort.scanUp,if_neg (by simp; omega)]
  | succ m ih =>
    intro i h d hm hi s
    obtain ⟨h1,s1,e1⟩ := s.less L (s.ok a ha) (s.ok i (by omega))
    have hE : F (.int .i64 (i : Nat)) (.int .i64 (j : Nat)) h = ifV (.bool (!lt d[a]! d[i]!)) (F (.int .i64 ((i + 1 : Nat) : Int)) (.int .i64 (j : Nat)) h1) (G (.int .i64 (i : Nat)) (.int .i64 (j : Nat)) h1) := by
      rw [heq,plain2_int,cond_true,xleq,Res.ok1_ok,ifV_dec,if_pos (by omega),s.ld ha,s.ld (by omega),e1,xun_not,Res.ok1_ok,xadd,go_ok,wadd1 (by omega)]
    rw [hE]
    cases q : lt d[a]! d[i]! with
    | false =>
      obtain ⟨h2,s2,e2⟩ := ih (i + 1) (by omega) (by omega) s1
      refine ⟨h2,s2,?_⟩
      rw [show (!false) = true from rfl,ifV_t,e2]
      conv => rhs; rw [Go.Sort.scanUp,if_pos (by simp [q]; omega)]
    | true =>
      refine ⟨h1,s1,?_⟩
      rw [show (!true) = false from rfl,ifV_f,Go.Sort.scanUp,if_neg (by simp [q])]
theorem peq_down (L : LessOk b J cv lt ok h0) (hn : n < 65536) {F G : Value → Value → H → Res Value} {a i : Nat} (ha : a < n) (hi : 1 ≤ i) (hin : i < 65537)
    (heq : ∀ x12 x13 h,F x12 x13 h = (bif plain2 x12 x13 then ((xbin Try.prog .leq 3 x12 x13 h).ok1 fun t37 h38 => (ifV t37 ((xindexAddr Try.prog 27 (sl b n cap) (.int .i64 (a : Nat)) h38).ok1 fun t39 h40 => ((xload Try.prog 3 t39 h40).ok1 fun t41 h42 => ((xindexAddr Try.prog 27 (sl b n cap) x13 h42).ok1 fun t43 h44 => ((xload Try.prog 3 t43 h44).ok1 fun t45 h46 => (((CLM (.f 86) [t41,t45] h46).go .pan (fun t49 h50 => (ifV t49 ((xbin Try.prog .sub 3 x13 (.int .i64 1) h50).go .pan fun t53 h54 => (F x12 t53 h54)) (G x12 x13 h50))))))))) (G x12 x13 h38))) else .bad)) :
    ∀ (j : Nat) {h : H} {d : Array Int},j < n → SS b n sp J ok h0 h d → ∃ h',SS b n sp J ok h0 h' d ∧ F (.int .i64 (i : Nat)) (.int .i64 (j : Nat)) h = G (.int .i64 (i : Nat)) (.int .i64 (Go.Sort.scanDown (fun x => lt d[a]! x) d i j : Nat)) h' := by
  intro j
  induction j with
  | zero =>
    intro h d hj s
    refine ⟨h,s,?_⟩
    rw [heq,plain2_int,cond_true,xleq,Res.ok1_ok,ifV_dec,if_neg (by omega)]
    simp only [Go.Sort.scanDown]
  | succ j ih =>
    intro h d hj s
    by_cases q0 : i ≤ j + 1
    · obtain ⟨h1,s1,e1⟩ := s.less L (s.ok a ha) (s.ok (j + 1) hj)
      have hE : F (.int .i64 (i : Nat)) (.int .i64 ((j + 1 : Nat) : Int)) h = ifV (.bool (lt d[a]! d[j + 1]!)) (F (.int .i64 (i : Nat)) (.int .i64 (j : Nat)) h1) (G (.int .i64 (i : Nat)) (.int .i64 ((j + 1 : Nat) : Int)) h1) := by
        rw [heq,plain2_int,cond_true,xleq,Res.ok1_ok,ifV_dec,if_pos (by omega),s.ld ha,s.ld hj,e1,xsub,go_ok,wsub1 (by omega) (by omega),Nat.add_sub_cancel]
      rw [hE]
      cases q : lt d[a]! d[j + 1]! with
      | true =>
        obtain ⟨h2,s2,e2⟩ := ih (by omega) s1
        refine ⟨h2,s2,?_⟩
        rw [ifV_t,e2]
        conv => rhs; rw [Go.Sort.scanDown,if_pos (by simp [q]; omega)]
      | false =>
        refine ⟨h1,s1,?_⟩
        rw [ifV_f,Go.Sort.scanDown,if_neg (by simp [q])]
    · refine ⟨h,s,?_⟩
      rw [heq,plain2_int,cond_true,xleq,Res.ok1_ok,ifV_dec,if_neg (by omega),Go.Sort.scanDown,if_neg (by simp; omega)]
theorem scans {p q : Int → Bool} (hq : ∀ x,q x = !p x) {d : Array Int} {i j : Nat} (hi : 1 ≤ i) (hij : i ≤ j + 1) :
    i ≤ Go.Sort.scanUp p d j i ∧ Go.Sort.scanUp p d j i ≤ j + 1 ∧ Go.Sort.scanDown q d (Go.Sort.scanUp p d j i) j ≤ j ∧ Go.Sort.scanUp p d j i ≤ Go.Sort.scanDown q d (Go.Sort.scanUp p d j i) j + 1 ∧
      (¬ Go.Sort.scanUp p d j i > Go.Sort.scanDown q d (Go.Sort.scanUp p d j i) j → Go.Sort.scanUp p d j i < Go.Sort.scanDown q d (Go.Sort.scanUp p d j i) j) := by
  obtain ⟨a1,a2,a3,a4⟩ := Go.Sort.scanUp_spec p d j _ i rfl
  obtain ⟨b1,b2,b3,b4⟩ := Go.Sort.scanDown_spec q d (Go.Sort.scanUp p d j i) j
  refine ⟨a1,a2 hij,b1,b2 (a2 hij),fun h => ?_⟩
  rcases Nat.lt_or_ge (Go.Sort.scanUp p d j i) (Go.Sort.scanDown q d (Go.Sort.scanUp p d j i) j) with z | z
  · exact z
  · exfalso
    have e : Go.Sort.scanUp p d j i = Go.Sort.scanDown q d (Go.Sort.scanUp p d j i) j := by omega
    have c1 := a4 (by omega)
    have c2 := b4 (by omega) (by omega)
    rw [← e,hq,c1] at c2
    cases c2
theorem par_l13 (L : LessOk b J cv lt ok h0) (hn : n < 65536) {a : Nat} (ha : a < n) : ∀ (m i j : Nat) {h : H} {d : Array Int},j + 1 - i = m → a < i → i ≤ j + 1 → j < n → SS b n sp J ok h0 h d →
    ∃ h',SS b n sp J ok h0 h' (Go.Sort.swp (Go.Sort.partLoop lt a i j d).2 (Go.Sort.partLoop lt a i j d).1 a) ∧
      F88.l13 Try.prog CLM nu0 nu0 (sl b n cap) (.int .i64 (a : Nat)) (.int .i64 (i : Nat)) (.int .i64 (j : Nat)) h = .ok (.tuple ⟨[.int .i64 ((Go.Sort.partLoop lt a i j d).1 : Nat),.bool false]⟩) h' := by
  intro m
  induction m using Nat.strongRecOn with
  | ind m ih =>
    intro i j h d hm hai hij hj s
    obtain ⟨c1,c2,c3,c4,c5⟩ := scans (p := fun x => lt x d[a]!) (q := fun x => !lt x d[a]!) (fun _ => rfl) (d := d) (i := i) (j := j) (by omega) hij
    obtain ⟨h1,s1,e1⟩ := par_up (cap := cap) (F := fun x y h => F88.l13_1 Try.prog CLM nu0 nu0 (sl b n cap) (.int .i64 (a : Nat)) x y h) (G := fun x y h => F88.j15 Try.prog CLM nu0 nu0 (sl b n cap) (.int .i64 (a : Nat)) x y h) L hn ha hj (fun _ _ _ => F88.l13_1_eq ..) _ i rfl hij s
    obtain ⟨h2,s2,e2⟩ := par_down (cap := cap) (F := fun x y h => F88.l15 Try.prog CLM nu0 nu0 (sl b n cap) (.int .i64 (a : Nat)) x y h) (G := fun x y h => F88.j17 Try.prog CLM nu0 nu0 (sl b n cap) (.int .i64 (a : Nat)) x y h) (i := Go.Sort.scanUp (fun x => lt x d[a]!) d j i) L hn ha (by omega) (by omega) (fun _ _ _ => F88.l15_eq ..) j hj s1
    have hE : F88.l13 Try.prog CLM nu0 nu0 (sl b n cap) (.int .i64 (a : Nat)) (.int .i64 (i : Nat)) (.int .i64 (j : Nat)) h = F88.j17 Try.prog CLM nu0 nu0 (sl b n cap) (.int .i64 (a : Nat)) (.int .i64 (Go.Sort.scanUp (fun x => lt x d[a]!) d j i : Nat)) (.int .i64 (Go.Sort.scanDown (fun x => !lt x d[a]!) d (Go.Sort.scanUp (fun x => lt x d[a]!) d j i) j : Nat)) h2 := by
      rw [F88.l13_eq]
      exact e1.trans ((F88.j15_eq ..).trans e2)
    rw [hE,Go.Sort.partLoop_eq,F88.j17_eq,xgtr,go_ok,ifV_dec]
    generalize Go.Sort.scanUp (fun x => lt x d[a]!) d j i = i2 at *
    generalize Go.Sort.scanDown (fun x => !lt x d[a]!) d i2 j = j2 at *
    by_cases q : i2 > j2
    · obtain ⟨h3,s3,e3⟩ := s2.swap (cap := cap) L (i := j2) (j := a) (by omega) ha
      simp only [if_pos q]
      rw [if_pos (by omega),F88.j21_eq,e3]
      exact ⟨h3,s3,rfl⟩
    · obtain ⟨h3,s3,e3⟩ := s2.swap (cap := cap) L (i := i2) (j := j2) (by omega) (by omega)
      have := c5 q
      obtain ⟨h4,s4,e4⟩ := ih (j2 - 1 + 1 - (i2 + 1)) (by omega) (i2 + 1) (j2 - 1) rfl (by omega) (by omega) (by omega) s3
      simp only [if_neg q]
      rw [if_neg (by omega),F88.j18_eq,e3,xadd,go_ok,wadd1 (by omega),xsub,go_ok,wsub1 (by omega) (by omega)]
      exact ⟨h4,s4,e4⟩
theorem ePar (L : LessOk b J cv lt ok h0) (hn : n < 65536) {a bb pv : Nat} (ha : a ≤ pv) (hp : pv < bb) (hb : bb ≤ n) {h : H} {d : Array Int} (s : SS b n sp J ok h0 h d) :
    ∃ h',SS b n sp J ok h0 h' (Go.Sort.partition lt d a bb pv).2.2 ∧
      CLM (.f 88) [sl b n cap,.int .i64 (a : Nat),.int .i64 (bb : Nat),.int .i64 (pv : Nat)] h = .ok (.tuple ⟨[.int .i64 ((Go.Sort.partition lt d a bb pv).1 : Nat),.bool (Go.Sort.partition lt d a bb pv).2.1]⟩) h' := by
  obtain ⟨h0',s0',e0'⟩ := s.swap (cap := cap) L (i := a) (j := pv) (by omega) (by omega)
  obtain ⟨d',hd'⟩ : ∃ d',d' = Go.Sort.swp d a pv := ⟨_,rfl⟩
  rw [← hd'] at s0'
  have hx : CLM (.f 88) [sl b n cap,.int .i64 (a : Nat),.int .i64 (bb : Nat),.int .i64 (pv : Nat)] h = F88.l3 Try.prog CLM nu0 nu0 (sl b n cap) (.int .i64 (a : Nat)) (.int .i64 ((a + 1 : Nat) : Int)) (.int .i64 ((bb - 1 : Nat) : Int)) h0' := by
    rw [cM88,F88.eq,e0',xadd,go_ok,wadd1 (by omega),xsub,go_ok,wsub1 (by omega) (by omega)]
  obtain ⟨c1,c2,c3,c4,c5⟩ := scans (p := fun x => lt x d'[a]!) (q := fun x => !lt x d'[a]!) (fun _ => rfl) (d := d') (i := a + 1) (j := bb - 1) (by omega) (by omega)
  obtain ⟨h1,s1,e1⟩ := par_up (cap := cap) (F := fun x y h => F88.l3 Try.prog CLM nu0 nu0 (sl b n cap) (.int .i64 (a : Nat)) x y h) (G := fun x y h => F88.j5 Try.prog CLM nu0 nu0 (sl b n cap) (.int .i64 (a : Nat)) x y h) (a := a) (j := bb - 1) L hn (by omega) (by omega) (fun _ _ _ => F88.l3_eq ..) _ (a + 1) rfl (by omega) s0'
  obtain ⟨h2,s2,e2⟩ := par_down (cap := cap) (F := fun x y h => F88.l5 Try.prog CLM nu0 nu0 (sl b n cap) (.int .i64 (a : Nat)) x y h) (G := fun x y h => F88.j7 Try.prog CLM nu0 nu0 (sl b n cap) (.int .i64 (a : Nat)) x y h) (a := a) (i := Go.Sort.scanUp (fun x => lt x d'[a]!) d' (bb - 1) (a + 1)) L hn (by omega) (by omega) (by omega) (fun _ _ _ => F88.l5_eq ..) (bb - 1) (by omega) s1
  have hE : CLM (.f 88) [sl b n cap,.int .i64 (a : Nat),.int .i64 (bb : Nat),.int .i64 (pv : Nat)] h = F88.j7 Try.prog CLM nu0 nu0 (sl b n cap) (.int .i64 (a : Nat)) (.int .i64 (Go.Sort.scanUp (fun x => lt x d'[a]!) d' (bb - 1) (a + 1) : Nat)) (.int .i64 (Go.Sort.scanDown (fun x => !lt x d'[a]!) d' (Go.Sort.scanUp (fun x => lt x d'[a]!) d' (bb - 1) (a + 1)) (bb - 1) : Nat)) h2 :=
    hx.trans (e1.trans ((F88.j5_eq ..).trans e2))
  rw [hE]
  unfold Go.Sort.partition
  simp only [← hd']
  rw [F88.j7_eq,xgtr,go_ok,ifV_dec]
  generalize Go.Sort.scanUp (fun x => lt x d'[a]!) d' (bb - 1) (a + 1) = i2 at *
  generalize Go.Sort.scanDown (fun x => !lt x d'[a]!) d' i2 (bb - 1) = j2 at *
  by_cases q : i2 > j2
  · obtain ⟨h3,s3,e3⟩ := s2.swap (cap := cap) L (i := j2) (j := a) (by omega) (by omega)
    simp only [if_pos q]
    rw [if_pos (by omega),e3]
    exact ⟨h3,s3,rfl⟩
  · obtain ⟨h3,s3,e3⟩ := s2.swap (cap := cap) L (i := i2) (j := j2) (by omega) (by omega)
    have := c5 q
    obtain ⟨h4,s4,e4⟩ := par_l13 (cap := cap) L hn (a := a) (by omega) (j2 - 1 + 1 - (i2 + 1)) (i2 + 1) (j2 - 1) rfl (by omega) (by omega) (by omega) s3
    simp only [if_neg q]
    rw [if_neg (by omega),F88.j10_eq,e3,xadd,go_ok,wadd1 (by omega),xsub,go_ok,wsub1 (by omega) (by omega)]
    exact ⟨h4,s4,e4⟩
theorem peq_l3 (L : LessOk b J cv lt ok h0) (hn : n < 65536) {a : Nat} (ha : a < n) : ∀ (m i j : Nat) {h : H} {d : Array Int},j + 1 - i = m → a < i → i ≤ j + 1 → j < n → SS b n sp J ok h0 h d →
    ∃ h',SS b n sp J ok h0 h' (Go.Sort.partEqLoop lt a i j d).2 ∧
      F87.l3 Try.prog CLM nu0 nu0 (sl b n cap) (.int .i64 (a : Nat)) (.int .i64 (i : Nat)) (.int .i64 (j : Nat)) h = .ok (.int .i64 ((Go.Sort.partEqLoop lt a i j d).1 : Nat)) h' := by
  intro m
  induction m using Nat.strongRecOn with
  | ind m ih =>
    intro i j h d hm hai hij hj s
    obtain ⟨c1,c2,c3,c4,c5⟩ := scans (p := fun x => !lt d[a]! x) (q := fun x => lt d[a]! x) (fun _ => by simp) (d := d) (i := i) (j := j) (by omega) hij
    obtain ⟨h1,s1,e1⟩ := peq_up (cap := cap) (F := fun x y h => F87.l3_1 Try.prog CLM nu0 nu0 (sl b n cap) (.int .i64 (a : Nat)) x y h) (G := fun x y h => F87.j5 Try.prog CLM nu0 nu0 (sl b n cap) (.int .i64 (a : Nat)) x y h) L hn ha hj (fun _ _ _ => F87.l3_1_eq ..) _ i rfl hij s
    obtain ⟨h2,s2,e2⟩ := peq_down (cap := cap) (F := fun x y h => F87.l5 Try.prog CLM nu0 nu0 (sl b n cap) (.int .i64 (a : Nat)) x y h) (G := fun x y h => F87.j7 Try.prog CLM nu0 nu0 (sl b n cap) (.int .i64 (a : Nat)) x y h) (i := Go.Sort.scanUp (fun x => !lt d[a]! x) d j i) L hn ha (by omega) (by omega) (fun _ _ _ => F87.l5_eq ..) j hj s1
    have hE : F87.l3 Try.prog CLM nu0 nu0 (sl b n cap) (.int .i64 (a : Nat)) (.int .i64 (i : Nat)) (.int .i64 (j : Nat)) h = F87.j7 Try.prog CLM nu0 nu0 (sl b n cap) (.int .i64 (a : Nat)) (.int .i64 (Go.Sort.scanUp (fun x => !lt d[a]! x) d j i : Nat)) (.int .i64 (Go.Sort.scanDown (fun x => lt d[a]! x) d (Go.Sort.scanUp (fun x => !lt d[a]! x) d j i) j : Nat)) h2 := by
      rw [F87.l3_eq]
      exact e1.trans ((F87.j5_eq ..).trans e2)
    rw [hE,Go.Sort.partEqLoop_eq,F87.j7_eq,xgtr,go_ok,ifV_dec]
    generalize Go.Sort.scanUp (fun x => !lt d[a]! x) d j i = i2 at *
    generalize Go.Sort.scanDown (fun x => lt d[a]! x) d i2 j = j2 at *
    by_cases q : i2 > j2
    · simp only [if_pos q]
      rw [if_pos (by omega),F87.j11_eq]
      exact ⟨h2,s2,rfl⟩
    · obtain ⟨h3,s3,e3⟩ := s2.swap (cap := cap) L (i := i2) (j := j2) (by omega) (by omega)
      have := c5 q
      obtain ⟨h4,s4,e4⟩ := ih (j2 - 1 + 1 - (i2 + 1)) (by omega) (i2 + 1) (j2 - 1) rfl (by omega) (by omega) (by omega) s3
      simp only [if_neg q]
      rw [if_neg (by omega),F87.j8_eq,e3,xadd,go_ok,wadd1 (by omega),xsub,go_ok,wsub1 (by omega) (by omega)]
      exact ⟨h4,s4,e4⟩
theorem ePeq (L : LessOk b J cv lt ok h0) (hn : n < 65536) {a bb pv : Nat} (ha : a ≤ pv) (hp : pv < bb) (hb : bb ≤ n) {h : H} {d : Array Int} (s : SS b n sp J ok h0 h d) :
    ∃ h',SS b n sp J ok h0 h' (Go.Sort.partitionEqual lt d a bb pv).2 ∧
      CLM (.f 87) [sl b n cap,.int .i64 (a : Nat),.int .i64 (bb : Nat),.int .i64 (pv : Nat)] h = .ok (.int .i64 ((Go.Sort.partitionEqual lt d a bb pv).1 : Nat)) h' := by
  obtain ⟨h1,s1,e1⟩ := s.swap (cap := cap) L (i := a) (j := pv) (by omega) (by omega)
  obtain ⟨h2,s2,e2⟩ := peq_l3 (cap := cap) L hn (a := a) (by omega) (bb - 1 + 1 - (a + 1)) (a + 1) (bb - 1) rfl (by omega) (by omega) (by omega) s1
  refine ⟨h2,s2,?_⟩
  rw [cM87,F87.eq,e1,xadd,go_ok,wadd1 (by omega),xsub,go_ok,wsub1 (by omega) (by omega)]
  exact e2
end
end Go.Proofs.Ytdadiidfhnojcaa.K.SrtO
namespace Go.Proofs.Ytdadiidfhnojcaa.K.SrtO
open Go Go.Kx Go.Proofs.Ytdadiidfhnojcaa.K
set_option linter.unusedVariables false
set_option linter.unusedSimpArgs false
set_option linter.unusedSectionVars false
set_option maxRecDepth 20000
section
variable {b n cap : Nat} {sp : List Value} {J : H → Prop} {cv : Value} {lt : Int → Int → Bool} {ok : Int → Prop} {h0 : H}
theorem pis_scan (L : LessOk b J cv lt ok h0) (hn : n < 65536) {a bb : Nat} (hb : bb ≤ n) (st : Value) : ∀ (m i : Nat) {h : H} {d : Array Int},bb - i = m → 1 ≤ i → i ≤ bb → SS b n sp J ok h0 h d →
    ∃ h',SS b n sp J ok h0 h' d ∧ i ≤ Go.Sort.scanSorted lt d bb i ∧ Go.Sort.scanSorted lt d bb i ≤ bb ∧
      F85.l5 Try.prog CLM nu0 nu0 (sl b n cap) (.int .i64 (a : Nat)) (.int .i64 (bb : Nat)) (.int .i64 (i : Nat)) st h = F85.j7 Try.prog CLM nu0 nu0 (sl b n cap) (.int .i64 (a : Nat)) (.int .i64 (bb : Nat)) (.int .i64 (Go.Sort.scanSorted lt d bb i : Nat)) st h' := by
  intro m
  induction m with
  | zero =>
    intro i h d hm hi hib s
    have e : Go.Sort.scanSorted lt d bb i = i := by rw [Go.Sort.scanSorted,if_neg (by simp; omega)]
    refine ⟨h,s,by omega,by omega,?_⟩
    rw [F85.l5_eq,plain2_int,cond_true,xlss,Res.ok1_ok,ifV_dec,if_neg (by omega),e]
  | succ m ih =>
    intro i h d hm hi hib s
    obtain ⟨h1,s1,e1⟩ := s.less L (s.ok i (by omega)) (s.ok (i - 1) (by omega))
    have hE : F85.l5 Try.prog CLM nu0 nu0 (sl b n cap) (.int .i64 (a : Nat)) (.int .i64 (bb : Nat)) (.int .i64 (i : Nat)) st h = ifV (.bool (!lt d[i]! d[i - 1]!)) (F85.l5 Try.prog CLM nu0 nu0 (sl b n cap) (.int .i64 (a : Nat)) (.int .i64 (bb : Nat)) (.int .i64 ((i + 1 : Nat) : Int)) st h1) (F85.j7 Try.prog CLM nu0 nu0 (sl b n cap) (.int .i64 (a : Nat)) (.int .i64 (bb : Nat)) (.int .i64 (i : Nat)) st h1) := by
      rw [F85.l5_eq,plain2_int,cond_true,xlss,Res.ok1_ok,ifV_dec,if_pos (by omega),s.ld (by omega),plain2_int,cond_true,xsub,Res.ok1_ok,wsub1 hi (by omega),s.ld (by omega),e1,xun_not,Res.ok1_ok,xadd,go_ok,wadd1 (by omega)]
    rw [hE]
    cases q : lt d[i]! d[i - 1]! with
    | false =>
      have e : Go.Sort.scanSorted lt d bb i = Go.Sort.scanSorted lt d bb (i + 1) := by rw [Go.Sort.scanSorted,if_pos (by simp [q]; omega)]
      obtain ⟨h2,s2,a1,a2,e2⟩ := ih (i + 1) (by omega) (by omega) (by omega) s1
      exact ⟨h2,s2,by omega,by omega,by rw [show (!false) = true from rfl,ifV_t,e2,e]⟩
    | true =>
      have e : Go.Sort.scanSorted lt d bb i = i := by rw [Go.Sort.scanSorted,if_neg (by simp [q])]
      exact ⟨h1,s1,by omega,by omega,by rw [show (!true) = false from rfl,ifV_f,e]⟩
theorem pis_down (L : LessOk b J cv lt ok h0) (hn : n < 65536) {a bb i : Nat} (st : Value) : ∀ (j : Nat) {h : H} {d : Array Int},j < n → SS b n sp J ok h0 h d →
    ∃ h',SS b n sp J ok h0 h' (Go.Sort.shiftDown lt j d) ∧ F85.l14 Try.prog CLM nu0 nu0 (sl b n cap) (.int .i64 (a : Nat)) (.int .i64 (bb : Nat)) (.int .i64 (i : Nat)) st (.int .i64 (j : Nat)) h = F85.j18 Try.prog CLM nu0 nu0 (sl b n cap) (.int .i64 (a : Nat)) (.int .i64 (bb : Nat)) (.int .i64 (i : Nat)) st h' := by
  intro j
  induction j with
  | zero =>
    intro h d hj s
    refine ⟨h,by simp only [Go.Sort.shiftDown]; exact s,?_⟩
    rw [F85.l14_eq,xgeq,go_ok,ifV_dec,if_neg (by omega)]
  | succ j ih =>
    intro h d hj s
    obtain ⟨h1,s1,e1⟩ := s.less L (s.ok (j + 1) hj) (s.ok j (by omega))
    have hE : F85.l14 Try.prog CLM nu0 nu0 (sl b n cap) (.int .i64 (a : Nat)) (.int .i64 (bb : Nat)) (.int .i64 (i : Nat)) st (.int .i64 ((j + 1 : Nat) : Int)) h = ifV (.bool (!lt d[j + 1]! d[j]!)) (F85.j18 Try.prog CLM nu0 nu0 (sl b n cap) (.int .i64 (a : Nat)) (.int .i64 (bb : Nat)) (.int .i64 (i : Nat)) st h1) (F85.j17 Try.prog CLM nu0 nu0 (sl b n cap) (.int .i64 (a : Nat)) (.int .i64 (bb : Nat)) (.int .i64 (i : Nat)) st (.int .i64 ((j + 1 : Nat) : Int)) h1) := by
      rw [F85.l14_eq,xgeq,go_ok,ifV_dec,if_pos (by omega),F85.j16_eq,s.ld hj,plain2_int,cond_true,xsub,Res.ok1_ok,wsub1 (by omega) (by omega),Nat.add_sub_cancel,s.ld (by omega),e1,xun_not,Res.ok1_ok]
    rw [hE]
    cases q : lt d[j + 1]! d[j]! with
    | false => exact ⟨h1,by simp only [Go.Sort.shiftDown,q]; exact s1,rfl⟩
    | true =>
      obtain ⟨h2,s2,e2⟩ := s1.swap (cap := cap) L (i := j + 1) (j := j) hj (by omega)
      obtain ⟨h3,s3,e3⟩ := ih (by omega) s2
      refine ⟨h3,by simp only [Go.Sort.shiftDown,q]; exact s3,?_⟩
      rw [show (!true) = false from rfl,ifV_f,F85.j17_eq]
      simp only [plain2_int,cond_true,xsub,Res.ok1_ok,go_ok]
      rw [wsub1 (by omega) (by omega),Nat.add_sub_cancel,e2]
      exact e3
theorem pis_up (L : LessOk b J cv lt ok h0) (hn : n < 65536) {a bb i : Nat} (hb : bb ≤ n) (st : Value) : ∀ (m j : Nat) {h : H} {d : Array Int},bb - j = m → 1 ≤ j → j < 65537 → SS b n sp J ok h0 h d →
    ∃ h',SS b n sp J ok h0 h' (Go.Sort.shiftUp lt bb j d) ∧ F85.l20 Try.prog CLM nu0 nu0 (sl b n cap) (.int .i64 (a : Nat)) (.int .i64 (bb : Nat)) (.int .i64 (i : Nat)) st (.int .i64 (j : Nat)) h = F85.j4 Try.prog CLM nu0 nu0 (sl b n cap) (.int .i64 (a : Nat)) (.int .i64 (bb : Nat)) (.int .i64 (i : Nat)) st h' := by
  intro m
  induction m with
  | zero =>
    intro j h d hm hj hj2 s
    refine ⟨h,by rw [Go.Sort.shiftUp,if_neg (by omega)]; exact s,?_⟩
    rw [F85.l20_eq,xlss,go_ok,ifV_dec,if_neg (by omega)]
  | succ m ih =>
    intro j h d hm hj hj2 s
    obtain ⟨h1,s1,e1⟩ := s.less L (s.ok j (by omega)) (s.ok (j - 1) (by omega))
    have hE : F85.l20 Try.prog CLM nu0 nu0 (sl b n cap) (.int .i64 (a : Nat)) (.int .i64 (bb : Nat)) (.int .i64 (i : Nat)) st (.int .i64 (j : Nat)) h = ifV (.bool (!lt d[j]! d[j - 1]!)) (F85.j4 Try.prog CLM nu0 nu0 (sl b n cap) (.int .i64 (a : Nat)) (.int .i64 (bb : Nat)) (.int .i64 (i : Nat)) st h1) (F85.j23 Try.prog CLM nu0 nu0 (sl b n cap) (.int .i64 (a : Nat)) (.int .i64 (bb : Nat)) (.int .i64 (i : Nat)) st (.int .i64 (j : Nat)) h1) := by
      rw [F85.l20_eq,xlss,go_ok,ifV_dec,if_pos (by omega),F85.j22_eq,s.ld (by omega),plain2_int,cond_true,xsub,Res.ok1_ok,wsub1 hj (by omega),s.ld (by omega),e1,xun_not,Res.ok1_ok]
    rw [hE]
    cases q : lt d[j]! d[j - 1]! with
    | false => exact ⟨h1,by rw [Go.Sort.shiftUp,if_pos (by omega),if_pos (by simp [q])]; exact s1,rfl⟩
    | true =>
      obtain ⟨h2,s2,e2⟩ := s1.swap (cap := cap) L (i := j) (j := j - 1) (by omega) (by omega)
      obtain ⟨h3,s3,e3⟩ := ih (j + 1) (by omega) (by omega) (by omega) s2
      refine ⟨h3,by rw [Go.Sort.shiftUp,if_pos (by omega),if_neg (by simp [q])]; exact s3,?_⟩
      rw [show (!true) = false from rfl,ifV_f,F85.j23_eq]
      simp only [plain2_int,cond_true,xsub,xadd,Res.ok1_ok,go_ok]
      rw [wsub1 (by omega) (by omega),e2,wadd1 (by omega)]
      exact e3
theorem pis_l3 (L : LessOk b J cv lt ok h0) (hn : n < 65536) {a bb : Nat} (hb : bb ≤ n) : ∀ (k i : Nat) {h : H} {d : Array Int},k ≤ 5 → a < i → i ≤ bb → SS b n sp J ok h0 h d →
    ∃ h',SS b n sp J ok h0 h' (Go.Sort.partialIns lt a bb k i d).1 ∧ F85.l3 Try.prog CLM nu0 nu0 (sl b n cap) (.int .i64 (a : Nat)) (.int .i64 (bb : Nat)) (.int .i64 (i : Nat)) (.int .i64 ((5 - k : Nat) : Int)) h = .ok (.bool (Go.Sort.partialIns lt a bb k i d).2) h' := by
  intro k
  induction k with
  | zero =>
    intro i h d hk ha hib s
    refine ⟨h,s,?_⟩
    rw [F85.l3_eq,xlss,go_ok,ifV_dec,if_neg (by omega),F85.j24_eq]
    rfl
  | succ k ih =>
    intro i h d hk ha hib s
    obtain ⟨h1,s1,a1,a2,e1⟩ := pis_scan (cap := cap) (a := a) L hn hb (.int .i64 ((5 - (k + 1) : Nat) : Int)) (bb - i) i rfl (by omega) hib s
    have hp := Go.Sort.partialIns_succ (lt := lt) a bb k i d
    unfold Go.Sort.fixUp Go.Sort.fixDown at hp
    have h0E : F85.l3 Try.prog CLM nu0 nu0 (sl b n cap) (.int .i64 (a : Nat)) (.int .i64 (bb : Nat)) (.int .i64 (i : Nat)) (.int .i64 ((5 - (k + 1) : Nat) : Int)) h = F85.j7 Try.prog CLM nu0 nu0 (sl b n cap) (.int .i64 (a : Nat)) (.int .i64 (bb : Nat)) (.int .i64 (Go.Sort.scanSorted lt d bb i : Nat)) (.int .i64 ((5 - (k + 1) : Nat) : Int)) h1 := by
      rw [F85.l3_eq,xlss,go_ok,ifV_dec,if_pos (by omega),F85.j5_eq,e1]
    rw [h0E]
    clear h0E e1
    generalize Go.Sort.scanSorted lt d bb i = i2 at *
    by_cases q1 : i2 = bb
    · rw [if_pos q1] at hp
      refine ⟨h1,by rw [hp]; exact s1,?_⟩
      rw [hp,F85.j7_eq,xeql,go_ok,ifV_dec,if_pos (by omega)]
    rw [if_neg q1] at hp
    by_cases q2 : bb - a < 50
    · rw [if_pos q2] at hp
      refine ⟨h1,by rw [hp]; exact s1,?_⟩
      rw [hp,F85.j7_eq,xeql,go_ok,ifV_dec,if_neg (by omega),F85.j9_eq,xsub,go_ok,wsub (by omega) (by omega),xlss,go_ok,ifV_dec,if_pos (by omega)]
    rw [if_neg q2] at hp
    rw [hp]
    have h1E : F85.j7 Try.prog CLM nu0 nu0 (sl b n cap) (.int .i64 (a : Nat)) (.int .i64 (bb : Nat)) (.int .i64 (i2 : Nat)) (.int .i64 ((5 - (k + 1) : Nat) : Int)) h1 = F85.j11 Try.prog CLM nu0 nu0 (sl b n cap) (.int .i64 (a : Nat)) (.int .i64 (bb : Nat)) (.int .i64 (i2 : Nat)) (.int .i64 ((5 - (k + 1) : Nat) : Int)) h1 := by
      rw [F85.j7_eq,xeql,go_ok,ifV_dec,if_neg (by omega),F85.j9_eq,xsub,go_ok,wsub (by omega) (by omega),xlss,go_ok,ifV_dec,if_neg (by omega)]
    rw [h1E]
    clear h1E
    obtain ⟨h2,s2,e2⟩ := s1.swap (cap := cap) L (i := i2) (j := i2 - 1) (by omega) (by omega)
    have hE : F85.j11 Try.prog CLM nu0 nu0 (sl b n cap) (.int .i64 (a : Nat)) (.int .i64 (bb : Nat)) (.int .i64 (i2 : Nat)) (.int .i64 ((5 - (k + 1) : Nat) : Int)) h1 =
        if (2 : Int) ≤ ((i2 - a : Nat) : Int) then F85.l14 Try.prog CLM nu0 nu0 (sl b n cap) (.int .i64 (a : Nat)) (.int .i64 (bb : Nat)) (.int .i64 (i2 : Nat)) (.int .i64 ((5 - (k + 1) : Nat) : Int)) (.int .i64 ((i2 - 1 : Nat) : Int)) h2
        else F85.j18 Try.prog CLM nu0 nu0 (sl b n cap) (.int .i64 (a : Nat)) (.int .i64 (bb : Nat)) (.int .i64 (i2 : Nat)) (.int .i64 ((5 - (k + 1) : Nat) : Int)) h2 := by
      rw [F85.j11_eq]
      simp only [plain2_int,cond_true,xsub,Res.ok1_ok,go_ok]
      rw [wsub1 (by omega) (by omega),e2,wsub (by omega) (by omega),xgeq,go_ok,ifV_dec]
    rw [hE]
    have down : ∃ h3,SS b n sp J ok h0 h3 (if i2 - a ≥ 2 then Go.Sort.shiftDown lt (i2 - 1) (Go.Sort.swp d i2 (i2 - 1)) else Go.Sort.swp d i2 (i2 - 1)) ∧
        (if (2 : Int) ≤ ((i2 - a : Nat) : Int) then F85.l14 Try.prog CLM nu0 nu0 (sl b n cap) (.int .i64 (a : Nat)) (.int .i64 (bb : Nat)) (.int .i64 (i2 : Nat)) (.int .i64 ((5 - (k + 1) : Nat) : Int)) (.int .i64 ((i2 - 1 : Nat) : Int)) h2
        else F85.j18 Try.prog CLM nu0 nu0 (sl b n cap) (.int .i64 (a : Nat)) (.int .i64 (bb : Nat)) (.int .i64 (i2 : Nat)) (.int .i64 ((5 - (k + 1) : Nat) : Int)) h2) = F85.j18 Try.prog CLM nu0 nu0 (sl b n cap) (.int .i64 (a : Nat)) (.int .i64 (bb : Nat)) (.int .i64 (i2 : Nat)) (.int .i64 ((5 - (k + 1) : Nat) : Int)) h3 := by
      by_cases q3 : i2 - a ≥ 2
      · obtain ⟨h3,s3,e3⟩ := pis_down (cap := cap) (a := a) (bb := bb) (i := i2) L hn (.int .i64 ((5 - (k + 1) : Nat) : Int)) (i2 - 1) (by omega) s2
        exact ⟨h3,by rw [if_pos q3]; exact s3,by rw [if_pos (by omega)]; exact e3⟩
      · exact ⟨h2,by rw [if_neg q3]; exact s2,by rw [if_neg (by omega)]⟩
    obtain ⟨h3,s3,e3⟩ := down
    rw [e3,F85.j18_eq,xsub,go_ok,wsub (by omega) (by omega),xgeq,go_ok,ifV_dec]
    generalize (if i2 - a ≥ 2 then Go.Sort.shiftDown lt (i2 - 1) (Go.Sort.swp d i2 (i2 - 1)) else Go.Sort.swp d i2 (i2 - 1)) = d3 at *
    have up : ∃ h4,SS b n sp J ok h0 h4 (if bb - i2 ≥ 2 then Go.Sort.shiftUp lt bb (i2 + 1) d3 else d3) ∧
        (if (2 : Int) ≤ ((bb - i2 : Nat) : Int) then ((xbin Try.prog .add 3 (.int .i64 (i2 : Nat)) (.int .i64 1) h3).go .pan fun t63 h64 => (F85.l20 Try.prog CLM nu0 nu0 (sl b n cap) (.int .i64 (a : Nat)) (.int .i64 (bb : Nat)) (.int .i64 (i2 : Nat)) (.int .i64 ((5 - (k + 1) : Nat) : Int)) t63 h64))
        else F85.j4 Try.prog CLM nu0 nu0 (sl b n cap) (.int .i64 (a : Nat)) (.int .i64 (bb : Nat)) (.int .i64 (i2 : Nat)) (.int .i64 ((5 - (k + 1) : Nat) : Int)) h3) = F85.j4 Try.prog CLM nu0 nu0 (sl b n cap) (.int .i64 (a : Nat)) (.int .i64 (bb : Nat)) (.int .i64 (i2 : Nat)) (.int .i64 ((5 - (k + 1) : Nat) : Int)) h4 := by
      by_cases q4 : bb - i2 ≥ 2
      · obtain ⟨h4,s4,e4⟩ := pis_up (cap := cap) (a := a) (bb := bb) (i := i2) L hn hb (.int .i64 ((5 - (k + 1) : Nat) : Int)) (bb - (i2 + 1)) (i2 + 1) rfl (by omega) (by omega) s3
        exact ⟨h4,by rw [if_pos q4]; exact s4,by rw [if_pos (by omega),xadd,go_ok,wadd1 (by omega)]; exact e4⟩
      · exact ⟨h3,by rw [if_neg q4]; exact s3,by rw [if_neg (by omega)]⟩
    obtain ⟨h4,s4,e4⟩ := up
    obtain ⟨h5,s5,e5⟩ := ih i2 (by omega) (by omega) a2 s4
    rw [e4,F85.j4_eq,xadd,go_ok,wadd1 (by omega),show 5 - (k + 1) + 1 = 5 - k by omega]
    exact ⟨h5,s5,e5⟩
theorem ePis (L : LessOk b J cv lt ok h0) (hn : n < 65536) {a bb : Nat} (ha : a < bb) (hb : bb ≤ n) {h : H} {d : Array Int} (s : SS b n sp J ok h0 h d) :
    ∃ h',SS b n sp J ok h0 h' (Go.Sort.partialInsertionSort lt d a bb).1 ∧ CLM (.f 85) [sl b n cap,.int .i64 (a : Nat),.int .i64 (bb : Nat)] h = .ok (.bool (Go.Sort.partialInsertionSort lt d a bb).2) h' := by
  obtain ⟨h1,s1,e1⟩ := pis_l3 (cap := cap) (a := a) L hn hb 5 (a + 1) (by omega) (by omega) (by omega) s
  refine ⟨h1,s1,?_⟩
  rw [cM85,F85.eq,xadd,go_ok,wadd1 (by omega)]
  exact e1
end
end Go.Proofs.Ytdadiidfhnojcaa.K.SrtO
namespace Go.Proofs.Ytdadiidfhnojcaa.K.SrtO
open Go Go.Kx Go.Proofs.Ytdadiidfhnojcaa.K
set_option linter.unusedVariables false
set_option linter.unusedSimpArgs false
set_option linter.unusedSectionVars false
set_option maxRecDepth 20000
section
variable {b n cap : Nat} {sp : List Value} {J : H → Prop} {cv : Value} {lt : Int → Int → Bool} {ok : Int → Prop} {h0 : H}
structure Own (h0 h : H) (b w t : Nat) (v : Value) : Prop where
  g : h.get w = some (.cells [v] t 0 false)
  ne : w ≠ b
  lo : h0.next ≤ w
theorem Own.grow {h h' : H} {w t : Nat} {v : Value} (o : Own h0 h b w t v) (g : Grow h h') : Own h0 h' b w t v := ⟨g.old _ _ o.g,o.ne,o.lo⟩
theorem SS.put {h : H} {d : Array Int} (L : LessOk b J cv lt ok h0) (s : SS b n sp J ok h0 h d) {w t : Nat} {v v' : Value} (o : Own h0 h b w t v) : SS b n sp J ok h0 (h.put w (.cells [v'] t 0 false)) d ∧ Own h0 (h.put w (.cells [v'] t 0 false)) b w t v' :=
  ⟨⟨s.u.put (.inr o.lo) (H.get_lt o.g) _,H.put_ne o.g (Ne.symm o.ne) s.g,s.sz,s.ok,L.upd _ _ s.j ((Upd.refl _ h).put (.inl (.inr o.lo)) (H.get_lt o.g) _)⟩,⟨H.put_self o.g,o.ne,o.lo⟩⟩
theorem SS.oth {h h' : H} {d : Array Int} (L : LessOk b J cv lt ok h0) (s : SS b n sp J ok h0 h d) {w t : Nat} {v : Value} (o : Own h0 h b w t v) (u : Upd (fun x => x = w) h h') : SS b n sp J ok h0 h' d :=
  ⟨⟨Nat.le_trans s.u.next u.next,fun c x hc hx => u.old c x (fun q => by have := H.get_lt hx; have := o.lo; omega) (s.u.old c x hc hx)⟩,u.old _ _ (Ne.symm o.ne) s.g,s.sz,s.ok,L.upd _ _ s.j (u.mono fun x _ q => .inr (by have := o.lo; omega))⟩
theorem SS.new {h : H} {d : Array Int} (L : LessOk b J cv lt ok h0) (s : SS b n sp J ok h0 h d) (t : Nat) (v : Value) : SS b n sp J ok h0 (h.alloc (.cells [v] t 0 false)) d ∧ Own h0 (h.alloc (.cells [v] t 0 false)) b h.next t v := by
  have g : Grow h (h.alloc (.cells [v] t 0 false)) := (Grow.refl h).alloc _
  exact ⟨s.grow L g,⟨H.alloc_self _ _,by have := H.get_lt s.g; omega,s.u.next⟩⟩
theorem eOrd (L : LessOk b J cv lt ok h0) (hn : n < 65536) {x y w : Nat} (hx : x < n) (hy : y < n) {h : H} {d : Array Int} (s : SS b n sp J ok h0 h d) {k : Int} (o : Own h0 h b w 3 (.int .i64 k)) :
    ∃ h' k' x' y',SS b n sp J ok h0 h' d ∧ Own h0 h' b w 3 (.int .i64 k') ∧ (x' = x ∧ y' = y ∨ x' = y ∧ y' = x) ∧
      CLM (.f 94) [sl b n cap,.int .i64 (x : Nat),.int .i64 (y : Nat),.pointer (some ⟨w,0,none⟩)] h = .ok (.tuple ⟨[.int .i64 (x' : Nat),.int .i64 (y' : Nat)]⟩) h' := by
  obtain ⟨h1,g1,j1,e1⟩ := L.call h d[y]! d[x]! s.j (s.ok y hy) (s.ok x hx)
  have s1 := s.grow L g1
  have o1 := o.grow g1
  have hE : CLM (.f 94) [sl b n cap,.int .i64 (x : Nat),.int .i64 (y : Nat),.pointer (some ⟨w,0,none⟩)] h = ifV (.bool (lt d[y]! d[x]!)) (.ok (.tuple ⟨[.int .i64 (y : Nat),.int .i64 (x : Nat)]⟩) (h1.put w (.cells [.int .i64 (IntKind.i64.wrap (k + 1))] 3 0 false))) (.ok (.tuple ⟨[.int .i64 (x : Nat),.int .i64 (y : Nat)]⟩) h1) := by
    have hs : (Value.int .i64 (IntKind.i64.wrap (k + 1))).cells.size = 1 := rfl
    rw [cM94,F94.eq,s.ld hy,s.ld hx,e1,xnil_ptr,go_ok,ld3,H.cell_eq o1.g,List.getElem?_cons_zero,ofO_some,go_ok,xadd,go_ok,xnil_ptr,go_ok,st3 _ _ _ hs,cells_int,H.write_all o1.g (l := [.int .i64 (IntKind.i64.wrap (k + 1))]) rfl rfl,ofU_some,go_ok]
  rw [hE]
  cases q : lt d[y]! d[x]! with
  | true =>
    obtain ⟨s2,o2⟩ := s1.put (v' := .int .i64 (IntKind.i64.wrap (k + 1))) L o1
    exact ⟨_,_,y,x,s2,o2,.inr ⟨rfl,rfl⟩,rfl⟩
  | false => exact ⟨_,k,x,y,s1,o1,.inl ⟨rfl,rfl⟩,rfl⟩
theorem eMed (L : LessOk b J cv lt ok h0) (hn : n < 65536) {x y z w : Nat} (hx : x < n) (hy : y < n) (hz : z < n) {h : H} {d : Array Int} (s : SS b n sp J ok h0 h d) {k : Int} (o : Own h0 h b w 3 (.int .i64 k)) :
    ∃ h' k' r,SS b n sp J ok h0 h' d ∧ Own h0 h' b w 3 (.int .i64 k') ∧ (r = x ∨ r = y ∨ r = z) ∧
      CLM (.f 93) [sl b n cap,.int .i64 (x : Nat),.int .i64 (y : Nat),.int .i64 (z : Nat),.pointer (some ⟨w,0,none⟩)] h = .ok (.int .i64 (r : Nat)) h' := by
  obtain ⟨h1,k1,x1,y1,s1,o1,c1,e1⟩ := eOrd (cap := cap) L hn hx hy s o
  obtain ⟨h2,k2,x2,y2,s2,o2,c2,e2⟩ := eOrd (cap := cap) L hn (x := y1) (y := z) (by omega) hz s1 o1
  obtain ⟨h3,k3,x3,y3,s3,o3,c3,e3⟩ := eOrd (cap := cap) L hn (x := x1) (y := x2) (by omega) (by omega) s2 o2
  refine ⟨h3,k3,y3,s3,o3,by omega,?_⟩
  rw [cM93,F93.eq,e1,go_ok,xextract_0,go_ok,xextract_1,go_ok,e2,go_ok,xextract_0,go_ok,xextract_1,go_ok,e3,go_ok,xextract_0,go_ok,xextract_1,go_ok]
theorem eMedA (L : LessOk b J cv lt ok h0) (hn : n < 65536) {x w : Nat} (hx : 1 ≤ x) (hx2 : x + 1 < n) {h : H} {d : Array Int} (s : SS b n sp J ok h0 h d) {k : Int} (o : Own h0 h b w 3 (.int .i64 k)) :
    ∃ h' k' r,SS b n sp J ok h0 h' d ∧ Own h0 h' b w 3 (.int .i64 k') ∧ (r = x - 1 ∨ r = x ∨ r = x + 1) ∧
      CLM (.f 92) [sl b n cap,.int .i64 (x : Nat),.pointer (some ⟨w,0,none⟩)] h = .ok (.int .i64 (r : Nat)) h' := by
  obtain ⟨h1,k1,r,s1,o1,c1,e1⟩ := eMed (cap := cap) L hn (x := x - 1) (y := x) (z := x + 1) (by omega) (by omega) (by omega) s o
  refine ⟨h1,k1,r,s1,o1,c1,?_⟩
  rw [cM92,F92.eq,xsub,go_ok,wsub1 hx (by omega),xadd,go_ok,wadd1 (by omega),e1,go_ok]
theorem quo4 (l : Nat) (hl : l < 65536) (h : H) : xbin Try.prog .quo 3 (.int .i64 (l : Nat)) (.int .i64 4) h = .ok (.int .i64 ((l / 4 : Nat) : Int)) h := by
  rw [xquo _ _ _ _ _ _ (by omega),show ((l : Nat) : Int).tdiv 4 = ((l / 4 : Nat) : Int) from tdivn _ 4,wn (by omega)]
theorem piv_j12 {x w : Nat} {k : Int} {h : H} (o : Own h0 h b w 3 (.int .i64 k)) : ∃ z,(z = 0 ∨ z = 1 ∨ z = 2) ∧ F83.j12 Try.prog CLM nu0 nu0 (.pointer (some ⟨w,0,none⟩)) (.int .i64 (x : Nat)) h = .ok (.tuple ⟨[.int .i64 (x : Nat),.int .i64 z]⟩) h := by
  rw [F83.j12_eq,ld3,H.cell_eq o.g,List.getElem?_cons_zero,ofO_some,go_ok,xeql,go_ok,ifV_dec]
  by_cases q : k = 0
  · rw [if_pos q]; exact ⟨1,by omega,rfl⟩
  · rw [if_neg q,xeql,go_ok,ifV_dec]
    by_cases q : k = 12
    · rw [if_pos q]; exact ⟨2,by omega,rfl⟩
    · rw [if_neg q]; exact ⟨0,by omega,rfl⟩
theorem ePiv (L : LessOk b J cv lt ok h0) (hn : n < 65536) {a bb : Nat} (ha : a + 13 ≤ bb) (hb : bb ≤ n) {h : H} {d : Array Int} (s : SS b n sp J ok h0 h d) :
    ∃ h' c z,SS b n sp J ok h0 h' d ∧ a ≤ c ∧ c < bb ∧ (z = 0 ∨ z = 1 ∨ z = 2) ∧ CLM (.f 83) [sl b n cap,.int .i64 (a : Nat),.int .i64 (bb : Nat)] h = .ok (.tuple ⟨[.int .i64 (c : Nat),.int .i64 z]⟩) h' := by
  obtain ⟨s1,o1⟩ := s.new L 3 (.int .i64 0)
  have hz : zc3 = [.int .i64 0] := by kernel_rfl
  have hE : CLM (.f 83) [sl b n cap,.int .i64 (a : Nat),.int .i64 (bb : Nat)] h =
      if (50 : Int) ≤ ((bb - a : Nat) : Int) then ((CLM (.f 92) [sl b n cap,.int .i64 ((a + (bb - a) / 4 * 1 : Nat) : Int),.pointer (some ⟨h.next,0,none⟩)] (h.alloc (.cells [.int .i64 0] 3 0 false))).go .pan fun t27 h28 => ((CLM (.f 92) [sl b n cap,.int .i64 ((a + (bb - a) / 4 * 2 : Nat) : Int),.pointer (some ⟨h.next,0,none⟩)] h28).go .pan fun t29 h30 => ((CLM (.f 92) [sl b n cap,.int .i64 ((a + (bb - a) / 4 * 3 : Nat) : Int),.pointer (some ⟨h.next,0,none⟩)] h30).go .pan fun t31 h32 => ((CLM (.f 93) [sl b n cap,t27,t29,t31,.pointer (some ⟨h.next,0,none⟩)] h32).go .pan fun t33 h34 => (F83.j12 Try.prog CLM nu0 nu0 (.pointer (some ⟨h.next,0,none⟩)) t33 h34)))))
      else ((CLM (.f 93) [sl b n cap,.int .i64 ((a + (bb - a) / 4 * 1 : Nat) : Int),.int .i64 ((a + (bb - a) / 4 * 2 : Nat) : Int),.int .i64 ((a + (bb - a) / 4 * 3 : Nat) : Int),.pointer (some ⟨h.next,0,none⟩)] (h.alloc (.cells [.int .i64 0] 3 0 false))).go .pan fun t35 h36 => (F83.j12 Try.prog CLM nu0 nu0 (.pointer (some ⟨h.next,0,none⟩)) t35 h36)) := by
    have m1 : IntKind.i64.wrap ((((bb - a) / 4 : Nat) : Int) * 1) = (((bb - a) / 4 * 1 : Nat) : Int) := wmul (b := 1) (by omega)
    have m2 : IntKind.i64.wrap ((((bb - a) / 4 : Nat) : Int) * 2) = (((bb - a) / 4 * 2 : Nat) : Int) := wmul (b := 2) (by omega)
    have m3 : IntKind.i64.wrap ((((bb - a) / 4 : Nat) : Int) * 3) = (((bb - a) / 4 * 3 : Nat) : Int) := wmul (b := 3) (by omega)
    rw [cM83,F83.eq,xsub,go_ok,wsub (by omega) (by omega),al3,hz,go_ok]
    rw [quo4 _ (by omega),go_ok,xmul,go_ok,m1,xadd,go_ok,wadd (by omega),quo4 _ (by omega),go_ok,xmul,go_ok,m2,xadd,go_ok,wadd (by omega),quo4 _ (by omega),go_ok,xmul,go_ok,m3,xadd,go_ok,wadd (by omega),xgeq,go_ok,ifV_dec,if_pos (by omega),xgeq,go_ok,ifV_dec]
  rw [hE]
  clear hE
  have hQ : 4 * ((bb - a) / 4) ≤ bb - a := Nat.mul_div_le _ _
  have hQ2 : bb - a < 4 * ((bb - a) / 4) + 4 := by omega
  generalize (bb - a) / 4 = Q at *
  by_cases q : 50 ≤ bb - a
  · obtain ⟨h2,k2,r2,s2,o2,c2,e2⟩ := eMedA (cap := cap) L hn (x := a + Q * 1) (by omega) (by omega) s1 o1
    have b2 : a ≤ r2 ∧ r2 < bb := by rcases c2 with z | z | z <;> (subst z; omega)
    clear c2
    obtain ⟨h3,k3,r3,s3,o3,c3,e3⟩ := eMedA (cap := cap) L hn (x := a + Q * 2) (by omega) (by omega) s2 o2
    have b3 : a ≤ r3 ∧ r3 < bb := by rcases c3 with z | z | z <;> (subst z; omega)
    clear c3
    obtain ⟨h4,k4,r4,s4,o4,c4,e4⟩ := eMedA (cap := cap) L hn (x := a + Q * 3) (by omega) (by omega) s3 o3
    have b4 : a ≤ r4 ∧ r4 < bb := by rcases c4 with z | z | z <;> (subst z; omega)
    clear c4
    obtain ⟨h5,k5,r5,s5,o5,c5,e5⟩ := eMed (cap := cap) L hn (x := r2) (y := r3) (z := r4) (by omega) (by omega) (by omega) s4 o4
    have b5 : a ≤ r5 ∧ r5 < bb := by rcases c5 with z | z | z <;> (subst z; assumption)
    clear c5
    obtain ⟨z,hz2,e6⟩ := piv_j12 (x := r5) o5
    rw [if_pos (by omega),e2,go_ok,e3,go_ok,e4,go_ok,e5,go_ok,e6]
    exact ⟨h5,r5,z,s5,b5.1,b5.2,hz2,rfl⟩
  · obtain ⟨h5,k5,r5,s5,o5,c5,e5⟩ := eMed (cap := cap) L hn (x := a + Q * 1) (y := a + Q * 2) (z := a + Q * 3) (by omega) (by omega) (by omega) s1 o1
    have b5 : a ≤ r5 ∧ r5 < bb := by rcases c5 with z | z | z <;> (subst z; omega)
    clear c5
    obtain ⟨z,hz2,e6⟩ := piv_j12 (x := r5) o5
    rw [if_neg (by omega),e5,go_ok,e6]
    exact ⟨h5,r5,z,s5,b5.1,b5.2,hz2,rfl⟩
theorem brk_l5 (L : LessOk b J cv lt ok h0) (hn : n < 65536) {a len M w : Nat} (h8 : 8 ≤ len) (hb : a + len ≤ n) (hM : M ≤ 2 * len) (hM1 : 1 ≤ M) : ∀ (m idx : Nat) {h : H} {d : Array Int} {v : Int},a + len / 4 * 2 + 2 - idx = m → a ≤ idx → idx < 65537 → SS b n sp J ok h0 h d → Own h0 h b w 114 (.int .u64 v) →
    ∃ h' d',SS b n sp J ok h0 h' d' ∧ Go.Sort.PermIn a (a + len) d d' ∧ F82.l5 Try.prog CLM nu0 nu0 (sl b n cap) (.int .i64 (a : Nat)) (.int .i64 (len : Nat)) (.pointer (some ⟨w,0,none⟩)) (.int .u64 (M : Nat)) (.int .i64 (idx : Nat)) h = .ok (.tuple ⟨[]⟩) h' := by
  have mE : IntKind.i64.wrap (((len / 4 : Nat) : Int) * 2) = ((len / 4 * 2 : Nat) : Int) := wmul (b := 2) (by omega)
  intro m
  induction m with
  | zero =>
    intro idx h d v hm ha hi s o
    refine ⟨h,d,s,Go.Sort.permIn_refl _ _ _,?_⟩
    rw [F82.l5_eq,quo4 _ (by omega),go_ok,xmul,go_ok,mE,xadd,go_ok,wadd (by omega),xadd,go_ok,wadd1 (by omega),xleq,go_ok,ifV_dec,if_neg (by omega)]
  | succ m ih =>
    intro idx h d v hm ha hi s o
    obtain ⟨h1,v1,v2,e1,u1,g1⟩ := eNext (v := v) o.g
    have s1 := s.oth L o u1
    have o1 : Own h0 h1 b w 114 (.int .u64 v1) := ⟨g1,o.ne,o.lo⟩
    obtain ⟨r,hr,eAnd⟩ := and_le (P := Try.prog) (t := 95) (a := v2) (M := M) (by omega) (by omega)
    have step : ∀ oth : Nat,oth < len → ∃ h' d',SS b n sp J ok h0 h' d' ∧ Go.Sort.PermIn a (a + len) d d' ∧ F82.j10 Try.prog CLM nu0 nu0 (sl b n cap) (.int .i64 (a : Nat)) (.int .i64 (len : Nat)) (.pointer (some ⟨w,0,none⟩)) (.int .u64 (M : Nat)) (.int .i64 (idx : Nat)) (.int .i64 (oth : Nat)) h1 = .ok (.tuple ⟨[]⟩) h' := by
      intro oth ho
      obtain ⟨h2,s2,u2,e2⟩ := s1.swapU (cap := cap) L (i := idx) (j := a + oth) (by omega) (by omega)
      have o2 : Own h0 h2 b w 114 (.int .u64 v1) := ⟨u2.old _ _ o1.ne o1.g,o1.ne,o1.lo⟩
      obtain ⟨h3,d3,s3,p3,e3⟩ := ih (idx + 1) (by omega) (by omega) (by omega) s2 o2
      refine ⟨h3,d3,s3,Go.Sort.permIn_trans _ _ _ _ _ (Go.Sort.swp_permIn d a (a + len) idx (a + oth) ha (by omega) (by omega) (by omega) (by rw [s.sz]; exact hb)) p3,?_⟩
      rw [F82.j10_eq]
      simp only [plain2_int,cond_true,xadd,Res.ok1_ok,go_ok]
      rw [wadd (by omega),e2,wadd1 (by omega)]
      exact e3
    have hE : F82.l5 Try.prog CLM nu0 nu0 (sl b n cap) (.int .i64 (a : Nat)) (.int .i64 (len : Nat)) (.pointer (some ⟨w,0,none⟩)) (.int .u64 (M : Nat)) (.int .i64 (idx : Nat)) h =
        if (len : Int) ≤ (r : Int) then F82.j10 Try.prog CLM nu0 nu0 (sl b n cap) (.int .i64 (a : Nat)) (.int .i64 (len : Nat)) (.pointer (some ⟨w,0,none⟩)) (.int .u64 (M : Nat)) (.int .i64 (idx : Nat)) (.int .i64 (IntKind.i64.wrap ((r : Int) - (len : Int)))) h1
        else F82.j10 Try.prog CLM nu0 nu0 (sl b n cap) (.int .i64 (a : Nat)) (.int .i64 (len : Nat)) (.pointer (some ⟨w,0,none⟩)) (.int .u64 (M : Nat)) (.int .i64 (idx : Nat)) (.int .i64 (r : Nat)) h1 := by
      rw [F82.l5_eq,quo4 _ (by omega),go_ok,xmul,go_ok,mE,xadd,go_ok,wadd (by omega),xadd,go_ok,wadd1 (by omega),xleq,go_ok,ifV_dec,if_pos (by omega),F82.j7_eq,e1,go_ok,xsub,go_ok,show IntKind.u64.wrap ((M : Int) - 1) = ((M - 1 : Nat) : Int) by rw [wrapu64 (by omega)]; omega,eAnd,go_ok,cv95_3,go_ok,wn (by omega),xgeq,go_ok,ifV_dec]
      split
      · rw [xsub,go_ok]
      · rfl
    rw [hE]
    by_cases q : len ≤ r
    · rw [if_pos (by omega),wsub q (by omega)]
      exact step (r - len) (by omega)
    · rw [if_neg (by omega)]
      exact step r (by omega)
theorem eBrk (L : LessOk b J cv lt ok h0) (hn : n < 65536) {a bb : Nat} (ha : a + 13 ≤ bb) (hb : bb ≤ n) {h : H} {d : Array Int} (s : SS b n sp J ok h0 h d) :
    ∃ h' d',SS b n sp J ok h0 h' d' ∧ Go.Sort.PermIn a bb d d' ∧ CLM (.f 82) [sl b n cap,.int .i64 (a : Nat),.int .i64 (bb : Nat)] h = .ok (.tuple ⟨[]⟩) h' := by
  have hz : zc114 = [.int .u64 0] := by kernel_rfl
  obtain ⟨s1,o1⟩ := s.new L 114 (.int .u64 0)
  obtain ⟨s2,o2⟩ := s1.put (v' := .int .u64 (IntKind.u64.wrap ((bb - a : Nat) : Int))) L o1
  obtain ⟨M,m1,m2,eN⟩ := eNpow (len := bb - a) (by omega) (by omega) ((h.alloc (.cells [.int .u64 0] 114 0 false)).put h.next (.cells [.int .u64 (IntKind.u64.wrap ((bb - a : Nat) : Int))] 114 0 false))
  obtain ⟨h3,d3,s3,p3,e3⟩ := brk_l5 (cap := cap) (a := a) (len := bb - a) (M := M) L hn (by omega) (by omega) m2 m1 _ (a + (bb - a) / 4 * 2 - 1) rfl (by omega) (by omega) s2 o2
  rw [show a + (bb - a) = bb by omega] at p3
  refine ⟨h3,d3,s3,p3,?_⟩
  have mE : IntKind.i64.wrap ((((bb - a) / 4 : Nat) : Int) * 2) = (((bb - a) / 4 * 2 : Nat) : Int) := wmul (b := 2) (by omega)
  have hs : (Value.int .u64 (IntKind.u64.wrap ((bb - a : Nat) : Int))).cells.size = 1 := rfl
  rw [cM82,F82.eq,xsub,go_ok,wsub (by omega) (by omega),xgeq,go_ok,ifV_dec,if_pos (by omega),cv3_114,go_ok,al114,hz,go_ok,st114 _ _ _ hs,cells_int,H.write_all o1.g (l := [.int .u64 (IntKind.u64.wrap ((bb - a : Nat) : Int))]) rfl rfl,ofU_some,go_ok,eN,go_ok,
    quo4 _ (by omega),go_ok,xmul,go_ok,mE,xadd,go_ok,wadd (by omega),xsub,go_ok,wsub1 (by omega) (by omega)]
  exact e3
end
end Go.Proofs.Ytdadiidfhnojcaa.K.SrtO
namespace Go.Proofs.Ytdadiidfhnojcaa.K.SrtO
open Go Go.Kx Go.Proofs.Ytdadiidfhnojcaa.K
set_option linter.unusedVariables false
set_option linter.unusedSimpArgs false
set_option linter.unusedSectionVars false
set_option maxRecDepth 20000
section
variable {b n cap : Nat} {sp : List Value} {J : H → Prop} {cv : Value} {lt : Int → Int → Bool} {ok : Int → Prop} {h0 : H}
theorem quo8 (l : Nat) (hl : l < 65536) (h : H) : xbin Try.prog .quo 3 (.int .i64 (l : Nat)) (.int .i64 8) h = .ok (.int .i64 ((l / 8 : Nat) : Int)) h := by
  rw [xquo _ _ _ _ _ _ (by omega),show ((l : Nat) : Int).tdiv 8 = ((l / 8 : Nat) : Int) from tdivn _ 8,wn (by omega)]
def Done (b n : Nat) (sp : List Value) (J : H → Prop) (ok : Int → Prop) (lt : Int → Int → Bool) (h0 : H) (a bb : Nat) (d : Array Int) (r : Res Value) : Prop :=
  ∃ h' d',SS b n sp J ok h0 h' d' ∧ Go.Sort.PermIn a bb d d' ∧ Go.Sort.SortedIn lt a bb d' ∧ r = .ok (.tuple ⟨[]⟩) h'
theorem Done.perm {a bb : Nat} {d d1 : Array Int} {r : Res Value} (p : Go.Sort.PermIn a bb d d1) (q : Done b n sp J ok lt h0 a bb d1 r) : Done b n sp J ok lt h0 a bb d r := by
  obtain ⟨h',d',s,p',t,e⟩ := q
  exact ⟨h',d',s,Go.Sort.permIn_trans _ _ _ _ _ p p',t,e⟩
theorem pdq_l2 (hS : Go.Sort.SWO lt) (L : LessOk b J cv lt ok h0) (hn : n < 65536) : ∀ (m a bb : Nat) {limit : Nat} {wb wp : Bool} {h : H} {d : Array Int},bb - a = m → a ≤ bb → bb ≤ n → limit < 1000 → Go.Sort.Below lt a bb d → SS b n sp J ok h0 h d →
    Done b n sp J ok lt h0 a bb d (F73.l2 Try.prog CLM nu0 nu0 (sl b n cap) (.int .i64 (a : Nat)) (.int .i64 (bb : Nat)) (.int .i64 (limit : Nat)) (.bool wb) (.bool wp) h) := by
  intro m
  induction m using Nat.strongRecOn with
  | ind m ih =>
    intro a bb limit wb wp h d hm hab hb hlim hB s
    have call : ∀ (a' b' : Nat) {limit : Nat} {h : H} {d : Array Int},b' - a' < m → a' ≤ b' → b' ≤ n → limit < 1000 → Go.Sort.Below lt a' b' d → SS b n sp J ok h0 h d → Done b n sp J ok lt h0 a' b' d (CLM (.f 73) [sl b n cap,.int .i64 (a' : Nat),.int .i64 (b' : Nat),.int .i64 (limit : Nat)] h) := by
      intro a' b' limit h d q1 q2 q3 q4 q5 q6
      rw [cM73,F73.eq]
      exact ih _ q1 a' b' rfl q2 q3 q4 q5 q6
    have j20 : ∀ {x70 x73 x74 : Value} {limit pv : Nat} {h : H} {d : Array Int},limit < 1000 → a ≤ pv → pv < bb → Go.Sort.Below lt a bb d → SS b n sp J ok h0 h d →
        Done b n sp J ok lt h0 a bb d (F73.j20 Try.prog CLM nu0 nu0 (sl b n cap) (.int .i64 (a : Nat)) (.int .i64 (bb : Nat)) (.int .i64 (limit : Nat)) (.int .i64 ((bb - a : Nat) : Int)) (.int .i64 (pv : Nat)) x70 x73 x74 h) := by
      intro x70 x73 x74 limit pv h d hlim hp1 hp2 hB s
      obtain ⟨h1,s1,e1⟩ := ePar (cap := cap) L hn hp1 hp2 hb s
      have hsz : bb ≤ d.size := by rw [s.sz]; exact hb
      cases hx : Go.Sort.partition lt d a bb pv with
      | mk mid r =>
      obtain ⟨ap,d4⟩ := r
      rw [hx] at s1 e1
      simp only at s1 e1
      obtain ⟨r1,r2,r3,r4,r5,r6,r7⟩ := Go.Sort.round_part hS (Go.Sort.partition_holds lt) hp1 hp2 hsz hB hx
      have hE : F73.j20 Try.prog CLM nu0 nu0 (sl b n cap) (.int .i64 (a : Nat)) (.int .i64 (bb : Nat)) (.int .i64 (limit : Nat)) (.int .i64 ((bb - a : Nat) : Int)) (.int .i64 (pv : Nat)) x70 x73 x74 h =
          if ((mid - a : Nat) : Int) < ((bb - mid : Nat) : Int) then ((CLM (.f 73) [sl b n cap,.int .i64 (a : Nat),.int .i64 (mid : Nat),.int .i64 (limit : Nat)] h1).go .pan fun t73 h74 => (F73.l2 Try.prog CLM nu0 nu0 (sl b n cap) (.int .i64 ((mid + 1 : Nat) : Int)) (.int .i64 (bb : Nat)) (.int .i64 (limit : Nat)) (.bool (decide ((((bb - a) / 8 : Nat) : Int) ≤ ((mid - a : Nat) : Int)))) (.bool ap) h74))
          else ((CLM (.f 73) [sl b n cap,.int .i64 ((mid + 1 : Nat) : Int),.int .i64 (bb : Nat),.int .i64 (limit : Nat)] h1).go .pan fun t81 h82 => (F73.l2 Try.prog CLM nu0 nu0 (sl b n cap) (.int .i64 (a : Nat)) (.int .i64 (mid : Nat)) (.int .i64 (limit : Nat)) (.bool (decide ((((bb - a) / 8 : Nat) : Int) ≤ ((bb - mid : Nat) : Int)))) (.bool ap) h82)) := by
        rw [F73.j20_eq,e1,go_ok,xextract_0,go_ok,xextract_1,go_ok,xsub,go_ok,wsub r1 (by omega),xsub,go_ok,wsub (by omega) (by omega),quo8 _ (by omega),go_ok,xlss,go_ok,ifV_dec]
        split
        · rw [xgeq,go_ok]
          simp only [xadd,go_ok]
          rw [wadd1 (by omega)]
        · rw [xgeq,go_ok,xadd,go_ok,wadd1 (by omega)]
      rw [hE]
      by_cases q : mid - a < bb - mid
      · obtain ⟨h2,d2,s2,p2,t2,e2⟩ := call a mid (by omega) (by omega) (by omega) hlim r4 s1
        obtain ⟨b6,g6⟩ := r6 d2 p2 t2
        obtain ⟨h3,d3,s3,p3,t3,e3⟩ := ih (bb - (mid + 1)) (by omega) (mid + 1) bb rfl (by omega) hb (wb := decide ((((bb - a) / 8 : Nat) : Int) ≤ ((mid - a : Nat) : Int))) (wp := ap) hlim b6 s2
        obtain ⟨g7,g8⟩ := g6 d3 p3 t3
        exact ⟨h3,d3,s3,g7,g8,by rw [if_pos (by omega),e2,go_ok,e3]⟩
      · obtain ⟨h2,d2,s2,p2,t2,e2⟩ := call (mid + 1) bb (by omega) (by omega) hb hlim r5 s1
        obtain ⟨b6,g6⟩ := r7 d2 p2 t2
        obtain ⟨h3,d3,s3,p3,t3,e3⟩ := ih (mid - a) (by omega) a mid rfl (by omega) (by omega) (wb := decide ((((bb - a) / 8 : Nat) : Int) ≤ ((bb - mid : Nat) : Int))) (wp := ap) hlim b6 s2
        obtain ⟨g7,g8⟩ := g6 d3 p3 t3
        exact ⟨h3,d3,s3,g7,g8,by rw [if_neg (by omega),e2,go_ok,e3]⟩
    have j17 : ∀ {x70 x73 x74 : Value} {limit pv : Nat} {h : H} {d : Array Int},limit < 1000 → a ≤ pv → pv < bb → Go.Sort.Below lt a bb d → SS b n sp J ok h0 h d →
        Done b n sp J ok lt h0 a bb d (F73.j17 Try.prog CLM nu0 nu0 (sl b n cap) (.int .i64 (a : Nat)) (.int .i64 (bb : Nat)) (.int .i64 (limit : Nat)) (.bool wb) (.bool wp) (.int .i64 ((bb - a : Nat) : Int)) (.int .i64 (pv : Nat)) x70 x73 x74 h) := by
      intro x70 x73 x74 limit pv h d hlim hp1 hp2 hB s
      have hsz : bb ≤ d.size := by rw [s.sz]; exact hb
      rw [F73.j17_eq,plain2_int,cond_true,xgtr,Res.ok1_ok,ifV_dec]
      by_cases q : 0 < a
      · obtain ⟨h1,s1,e1⟩ := s.less L (s.ok (a - 1) (by omega)) (s.ok pv (by omega))
        rw [if_pos (by omega),plain2_int,cond_true,xsub,Res.ok1_ok,wsub1 q (by omega),s.ld (by omega),s.ld (by omega),e1,xun_not,Res.ok1_ok]
        cases ql : lt d[a - 1]! d[pv]! with
        | true =>
          rw [show (!true) = false from rfl,ifV_f]
          exact j20 hlim hp1 hp2 hB s1
        | false =>
          obtain ⟨h2,s2,e2⟩ := ePeq (cap := cap) L hn hp1 hp2 hb s1
          cases hx : Go.Sort.partitionEqual lt d a bb pv with
          | mk mid d4 =>
          rw [hx] at s2 e2
          simp only at s2 e2
          obtain ⟨r1,r2,r3,r4,r5⟩ := Go.Sort.round_eq hS (Go.Sort.partitionEqual_holds lt) q hp1 hp2 hsz hB ql hx
          obtain ⟨h3,d3,s3,p3,t3,e3⟩ := ih (bb - mid) (by omega) mid bb rfl r2 hb (wb := wb) (wp := wp) hlim r4 s2
          obtain ⟨g7,g8⟩ := r5 d3 p3 t3
          exact ⟨h3,d3,s3,g7,g8,by rw [show (!false) = true from rfl,ifV_t,e2,go_ok,e3]⟩
      · rw [if_neg (by omega)]
        exact j20 hlim hp1 hp2 hB s
    have j15 : ∀ {limit pv : Nat} {z : Int} {h : H} {d : Array Int},limit < 1000 → a ≤ pv → pv < bb → Go.Sort.Below lt a bb d → SS b n sp J ok h0 h d →
        Done b n sp J ok lt h0 a bb d (F73.j15 Try.prog CLM nu0 nu0 (sl b n cap) (.int .i64 (a : Nat)) (.int .i64 (bb : Nat)) (.int .i64 (limit : Nat)) (.bool wb) (.bool wp) (.int .i64 ((bb - a : Nat) : Int)) (.int .i64 (pv : Nat)) (.int .i64 z) h) := by
      intro limit pv z h d hlim hp1 hp2 hB s
      have hsz : bb ≤ d.size := by rw [s.sz]; exact hb
      rw [F73.j15_eq]
      have h17 := fun x70 x73 x74 => j17 (x70 := x70) (x73 := x73) (x74 := x74) hlim hp1 hp2 hB s
      cases wb with
      | false =>
        rw [ifV_f]
        exact h17 _ _ _
      | true =>
        cases wp with
        | false =>
          rw [ifV_t,ifV_f]
          exact h17 _ _ _
        | true =>
          rw [ifV_t,ifV_t,xeql,go_ok,ifV_dec]
          by_cases q : z = 1
          · obtain ⟨h1,s1,e1⟩ := ePis (cap := cap) L hn (a := a) (bb := bb) (by omega) hb s
            obtain ⟨p1,p2⟩ := Go.Sort.partialInsertionSort_holds hS d a bb (by omega) hsz hB
            rw [if_pos q,e1,go_ok]
            cases qr : (Go.Sort.partialInsertionSort lt d a bb).2 with
            | true => exact ⟨h1,_,s1,p1,p2 qr,by rw [ifV_t]⟩
            | false =>
              rw [ifV_f]
              exact (j17 hlim hp1 hp2 (hB.perm hsz p1) s1).perm p1
          · rw [if_neg q]
            exact h17 _ _ _
    have j10 : ∀ {limit : Nat} {h : H} {d : Array Int},12 < bb - a → limit < 1000 → Go.Sort.Below lt a bb d → SS b n sp J ok h0 h d →
        Done b n sp J ok lt h0 a bb d (F73.j10 Try.prog CLM nu0 nu0 (sl b n cap) (.int .i64 (a : Nat)) (.int .i64 (bb : Nat)) (.int .i64 (limit : Nat)) (.bool wb) (.bool wp) (.int .i64 ((bb - a : Nat) : Int)) h) := by
      intro limit h d h12 hlim hB s
      have hsz : bb ≤ d.size := by rw [s.sz]; exact hb
      obtain ⟨h1,pv,z,s1,c1,c2,c3,e1⟩ := ePiv (cap := cap) L hn (a := a) (bb := bb) (by omega) hb s
      rw [F73.j10_eq,e1,go_ok,xextract_0,go_ok,xextract_1,go_ok,xeql,go_ok,ifV_dec]
      by_cases q : z = 2
      · obtain ⟨h2,s2,e2⟩ := eRev (cap := cap) L hn (a := a) (bb := bb) (by omega) hb s1
        have p2 := Go.Sort.reverseRange_holds d a bb (by omega) hsz
        rw [if_pos q,e2,go_ok,xsub,go_ok,wsub1 (by omega) (by omega),xsub,go_ok,wsub c1 (by omega),xsub,go_ok,wsub (by omega) (by omega)]
        exact (j15 (pv := bb - 1 - (pv - a)) hlim (by omega) (by omega) (hB.perm hsz p2) s2).perm p2
      · rw [if_neg q]
        exact j15 hlim c1 c2 hB s1
    have hsz : bb ≤ d.size := by rw [s.sz]; exact hb
    rw [F73.l2_eq,xsub,go_ok,wsub hab (by omega),xleq,go_ok,ifV_dec]
    by_cases q : bb - a ≤ 12
    · obtain ⟨h1,s1,e1⟩ := eIns (cap := cap) L hn hab hb s
      obtain ⟨p1,p2⟩ := Go.Sort.insertionSort_holds hS d a bb hab hsz
      exact ⟨h1,_,s1,p1,p2,by rw [if_pos (by omega),e1,go_ok]⟩
    rw [if_neg (by omega),F73.j5_eq,xeql,go_ok,ifV_dec]
    by_cases q0 : limit = 0
    · obtain ⟨h1,s1,e1⟩ := eHeap (cap := cap) L hn (a := a) (bb := bb) (by omega) hb s
      obtain ⟨p1,p2⟩ := Go.Sort.heapSort_holds hS d a bb hab hsz
      exact ⟨h1,_,s1,p1,p2,by rw [if_pos (by omega),e1,go_ok]⟩
    rw [if_neg (by omega),F73.j7_eq,xun_not,go_ok]
    cases wb with
    | true =>
      rw [show (!true) = false from rfl,ifV_f]
      exact j10 (by omega) hlim hB s
    | false =>
      obtain ⟨h1,d1,s1,p1,e1⟩ := eBrk (cap := cap) L hn (a := a) (bb := bb) (by omega) hb s
      rw [show (!false) = true from rfl,ifV_t,e1,go_ok,xsub,go_ok,wsub1 (by omega) (by omega)]
      exact (j10 (by omega) (by omega) (hB.perm hsz p1) s1).perm p1
theorem eTop (hS : Go.Sort.SWO lt) {h : H} {d : Array Int} (L : LessOk b J cv lt ok h) (hn : n < 65536) (hg : h.get b = some (.cells (ar d ++ sp) 3 0 true)) (hsz : d.size = n) (hok : ∀ i,i < n → ok d[i]!) (hj : J h) :
    ∃ h' d',Upd (fun x => x = b) h h' ∧ h'.get b = some (.cells (ar d' ++ sp) 3 0 true) ∧ d'.size = n ∧ Go.Sort.PermIn 0 n d d' ∧ Go.Sort.SortedIn lt 0 n d' ∧ J h' ∧ CLM (.f 54) [sl b n cap] h = .ok (.tuple ⟨[]⟩) h' := by
  have s : SS b n sp J ok h h d := ⟨Upd.refl _ _,hg,hsz,hok,hj⟩
  have hlim : ∃ limit : Nat,limit < 1000 ∧ CLM (.f 50) [.int .u64 (n : Nat)] h = .ok (.int .i64 (limit : Nat)) h := by
    rcases Nat.eq_zero_or_pos n with q | q
    · subst q
      refine ⟨0,by omega,?_⟩
      obtain ⟨c,c1,c2,c3,c4,c5⟩ := len_j10 (x := 0) (k := 0) (by omega) (by omega) h
      rw [show len8[0]? = some 0 from rfl] at c1
      cases c1
      rw [cM50,F50.eq,cM70,F70.eq,xgeq,go_ok,ifV_dec,if_neg (by omega),F70.j4_eq,xgeq,go_ok,ifV_dec,if_neg (by omega),F70.j7_eq,xgeq,go_ok,ifV_dec,if_neg (by omega)]
      rw [show (Value.int .i64 0) = .int .i64 ((0 : Nat) : Int) from rfl,c2,go_ok]
      rfl
    · obtain ⟨k,e,_,_,h3⟩ := eBits (x := n) q hn h
      exact ⟨k,by omega,e⟩
  obtain ⟨limit,hl,e1⟩ := hlim
  obtain ⟨h',d',s',p',t',e'⟩ := pdq_l2 (cap := cap) hS L hn n 0 n (limit := limit) (wb := true) (wp := true) rfl (Nat.zero_le _) (Nat.le_refl _) hl (.inl rfl) s
  refine ⟨h',d',s'.u,s'.g,s'.sz,p',t',s'.j,?_⟩
  rw [cM54,F54.eq,ln27,go_ok,cv3_95,go_ok,wun (by omega),e1,go_ok,cM73,F73.eq]
  rw [show (Value.int .i64 0) = .int .i64 ((0 : Nat) : Int) from rfl,e',go_ok]
end
end Go.Proofs.Ytdadiidfhnojcaa.K.SrtO
namespace Go.Proofs.Ytdadiidfhnojcaa.K
open Go Go.Kx
set_option linter.unusedVariables false
set_option linter.unusedSimpArgs false
set_option maxRecDepth 20000
theorem lessO (h0 : H) (b : Nat) (cv : Value) : SrtO.LessOk b (fun _ => True) cv Go.Sort.ltInt (fun _ => True) h0 :=
  ⟨fun h x y _ _ _ => ⟨h,Grow.refl h,trivial,fun K => by rw [eCmpLess,go_ok]; rfl⟩,fun _ _ _ _ => trivial⟩
theorem nil_sort (h : H) : CLM (.f 54) [.slice none 0 0] h = .ok (.tuple ⟨[]⟩) h := by
  obtain ⟨c,c1,c2,c3,c4,c5⟩ := len_j10 (x := 0) (k := 0) (by omega) (by omega) h
  rw [show len8[0]? = some 0 from rfl] at c1
  cases c1
  have e1 : CLM (.f 50) [.int .u64 ((0 : Nat) : Int)] h = .ok (.int .i64 ((0 : Nat) : Int)) h := by
    rw [cM50,F50.eq,cM70,F70.eq,xgeq,go_ok,ifV_dec,if_neg (by omega),F70.j4_eq,xgeq,go_ok,ifV_dec,if_neg (by omega),F70.j7_eq,xgeq,go_ok,ifV_dec,if_neg (by omega)]
    rw [show (Value.int .i64 0) = .int .i64 ((0 : Nat) : Int) from rfl,c2,go_ok]
    rfl
  have w0 : IntKind.i64.wrap (((0 : Nat) : Int) - 0) = 0 := by rw [wrap64 (by omega)]; rfl
  have w1 : IntKind.i64.wrap (0 + 1) = 1 := by rw [wrap64 (by omega)]; rfl
  rw [cM54,F54.eq,ln27,go_ok,cv3_95,go_ok,wun (by omega),e1,go_ok,cM73,F73.eq,F73.l2_eq,xsub,go_ok,w0,xleq,go_ok,ifV_dec,if_pos (by omega),cM80,F80.eq,xadd,go_ok,w1,F80.l1_eq,xlss,go_ok,ifV_dec,if_neg (by omega),go_ok,go_ok]
def Rise (l : List Int) : Prop := l.Pairwise (· ≤ ·)
theorem eSortInts {h : H} {v : Value} {br : Option Nat} {l : List Int} (q : OL h v br l) (few : l.length < 65536) :
    ∃ h' l',Upd (fun x => some x = br) h h' ∧ OL h' v br l' ∧ l'.Perm l ∧ Rise l' ∧ CLM (.f 54) [v] h = .ok (.tuple ⟨[]⟩) h' := by
  rcases q with ⟨rfl,rfl,rfl⟩ | ⟨b,sp,cap,rfl,rfl,hg,e3,e4⟩
  · exact ⟨h,[],Upd.refl _ _,OL.nil,List.Perm.refl _,List.Pairwise.nil,nil_sort h⟩
  · have hd : SrtO.ar l.toArray = iv l := rfl
    obtain ⟨h',d',u,g',sz,p,s,_,e⟩ := SrtO.eTop (cap := cap) (sp := sp) (n := l.length) Go.Sort.swo_ltInt (lessO h b (.int .i64 0)) few (d := l.toArray) (by rw [hd]; exact hg) (by simp) (fun _ _ => trivial) trivial
    have hsz : d'.toList.length = l.length := by simpa using sz
    refine ⟨h',d'.toList,u.mono fun x _ q => by rw [q],.inr ⟨b,sp,cap,rfl,by rw [hsz],g',by rw [hsz]; exact e3,e4⟩,?_,?_,e⟩
    · have hp := p.2.2
      have ee : d'.toList.take l.length = d'.toList := by rw [← hsz,List.take_length]
      simpa [ee] using hp
    · refine List.pairwise_iff_getElem.2 fun i j hi hj hij => ?_
      have h1 := s i j (Nat.zero_le _) hij (by rw [← hsz]; exact hj)
      have hj' : j < d'.size := by simpa using hj
      have hi' : i < d'.size := by simpa using hi
      rw [getElem!_pos d' j hj',getElem!_pos d' i hi'] at h1
      simp only [Go.Sort.ltInt,decide_eq_false_iff_not,Int.not_lt] at h1
      simpa using h1
def dd : List Int → List Int
  | [] => []
  | [a] => [a]
  | a :: b :: l => if a = b then dd (b :: l) else a :: dd (b :: l)
theorem dd_snoc : ∀ (l : List Int) (y z : Int),dd (l ++ [y,z]) = if y = z then dd (l ++ [y]) else dd (l ++ [y]) ++ [z]
  | [],y,z => by simp only [List.nil_append,dd]; split <;> simp_all
  | [a],y,z => by
    have := dd_snoc [] y z
    simp only [List.nil_append] at this
    simp only [List.cons_append,List.nil_append]
    simp only [dd] at this ⊢
    split <;> split <;> simp_all
  | a :: b :: l,y,z => by
    have := dd_snoc (b :: l) y z
    simp only [List.cons_append] at this ⊢
    simp only [dd]
    rw [this]
    split <;> split <;> simp_all
theorem dd_mem : ∀ (l : List Int) (z : Int),z ∈ dd l ↔ z ∈ l
  | [],z => by simp [dd]
  | [a],z => by simp [dd]
  | a :: b :: l,z => by
    have := dd_mem (b :: l) z
    simp only [dd]
    split
    · rename_i q; subst q; rw [this]; simp
    · rw [List.mem_cons,this,List.mem_cons (a := z) (b := a)]
theorem dd_rise : ∀ (l : List Int),Rise l → (dd l).Pairwise (· < ·)
  | [],_ => List.Pairwise.nil
  | [a],_ => List.pairwise_singleton _ _
  | a :: b :: l,h => by
    have h2 := dd_rise (b :: l) (List.pairwise_cons.1 h).2
    simp only [dd]
    split
    · exact h2
    · rename_i q
      refine List.pairwise_cons.2 ⟨fun z hz => ?_,h2⟩
      rw [dd_mem] at hz
      have h3 := (List.pairwise_cons.1 h).1 b (by simp)
      rcases List.mem_cons.1 hz with rfl | hz
      · omega
      · have h4 := (List.pairwise_cons.1 (List.pairwise_cons.1 h).2).1 z hz
        omega
theorem dd_len : ∀ (l : List Int),(dd l).length ≤ l.length
  | [] => Nat.le_refl _
  | [a] => Nat.le_refl _
  | a :: b :: l => by
    have := dd_len (b :: l)
    simp only [dd]
    split <;> simp only [List.length_cons] at * <;> omega
theorem dd_take (l : List Int) {k : Nat} (hk : 1 ≤ k) {x y : Int} (hx : l[k - 1]? = some x) (hy : l[k]? = some y) : dd (l.take (k + 1)) = if x = y then dd (l.take k) else dd (l.take k) ++ [y] := by
  obtain ⟨j,rfl⟩ : ∃ j,k = j + 1 := ⟨k - 1,by omega⟩
  rw [Nat.add_sub_cancel] at hx
  have e1 : l.take (j + 1) = l.take j ++ [x] := by rw [List.take_add_one,hx]; rfl
  have e2 : l.take (j + 1 + 1) = l.take j ++ [x,y] := by
    rw [List.take_add_one,e1,hy,List.append_assoc]; rfl
  rw [e2,e1,dd_snoc]
structure CS (b : Nat) (sp : List Value) (l : List Int) (h0 h : H) (k q : Nat) : Prop where
  u : Upd (fun x => x = b) h0 h
  c : ∃ m : List Int,m.length = l.length ∧ h.get b = some (.cells (iv m ++ sp) 3 0 true) ∧ m.take k = dd (l.take q) ∧ m.drop (q - 1) = l.drop (q - 1)
  kl : k = (dd (l.take q)).length
  kq : k + 1 ≤ q
theorem eCompact {h : H} {v : Value} {br : Option Nat} {l : List Int} (q : OL h v br l) (few : l.length < 65536) :
    ∃ h' v',Upd (fun x => some x = br) h h' ∧ OL h' v' br (dd l) ∧ (l ≠ [] → br ≠ none) ∧ CLM (.f 56) [v] h = .ok v' h' := by
  rcases q with ⟨rfl,rfl,rfl⟩ | ⟨b,sp,cap,rfl,rfl,hg,e3,e4⟩
  · refine ⟨h,.slice none 0 0,Upd.refl _ _,OL.nil,fun q => absurd rfl q,?_⟩
    rw [cM56,F56.eq,ln27,go_ok,xlss,go_ok,ifV_dec,if_pos (by omega)]
  have hlen := e3
  by_cases hs : l.length < 2
  · refine ⟨h,_,Upd.refl _ _,?_,(fun _ q => by cases q),by rw [cM56,F56.eq,ln27,go_ok,xlss,go_ok,ifV_dec,if_pos (by omega)]⟩
    have : dd l = l := by
      match l,hs with
      | [],_ => rfl
      | [a],_ => rfl
    rw [this]
    exact .inr ⟨b,sp,cap,rfl,rfl,hg,e3,e4⟩
  have inner : ∀ (m p k k0 : Nat) {h1 : H},l.length - p = m → k0 < p → p ≤ l.length → k0 ≤ l.length → 1 ≤ k0 → CS b sp l h h1 k p →
      ∃ h' v',Upd (fun x => x = b) h h' ∧ OL h' v' (some b) (dd l) ∧ F56.l9 Try.prog CLM nu0 nu0 (.slice (some ⟨b,0,none⟩) l.length cap) (.int .i64 (k : Nat)) (.slice (some ⟨b,0 + k0 * 1,none⟩) (l.length - k0) (cap - k0)) (.int .i64 ((p - k0 : Nat) : Int)) h1 = .ok v' h' := by
    intro m
    induction m with
    | zero =>
      intro p k k0 h1 hm hk0 hp hk0l hk1 s
      have hp2 : p = l.length := by omega
      subst hp2
      obtain ⟨mm,c1,c2,c3,c4⟩ := s.c
      have hk := s.kl
      rw [List.take_length] at c3 hk
      have hkl : k < l.length := by have := s.kq; omega
      have T1 := xslice_o (P := Try.prog) (t := 27) (lo := some (.int .i64 (k : Nat))) (hi := none) (o := 0) (n := l.length) (cap := cap) un27 sz3 c2 rfl (l := k) (u := l.length) rfl rfl (by omega) (by omega) (by omega)
      have hz : zeroOf Try.prog 3 = some (.int .i64 0) := by kernel_rfl
      have cl := xclear_eq (P := Try.prog) (t := 27) (e := 3) (b := b) (o := 0 + k * Try.prog.cellsOf 3) (n := l.length - k) (cap := cap - k) (sp := none) (h := h1) un27 hz (by omega) (h' := h1.put b (.cells (mm.take k |> iv |> fun x => x ++ (repeatL [Value.int .i64 0] (l.length - k) ++ sp)) 3 0 true)) (by
        have hr : (repeatL [Value.int .i64 0] (l.length - k)).length = l.length - k := by
          rw [← repeat_range]; simp
        have h1' : ones (repeatL [Value.int .i64 0] (l.length - k)) = true := by
          generalize l.length - k = z
          induction z with
          | zero => rfl
          | succ z ih => show ones ([Value.int .i64 0] ++ repeatL [Value.int .i64 0] z) = true; exact ones_append rfl ih
        rw [show (0 + k * Try.prog.cellsOf 3) = k by rw [show Try.prog.cellsOf 3 = 1 by kernel_rfl]; omega]
        show h1.write ⟨b,k,none⟩ (repeatL [Value.int .i64 0] (l.length - k)) = _
        rw [H.write_eq c2 (by rw [List.length_append,iv_len,hr]; omega) h1',hr]
        have t1 : (iv mm ++ sp).take k = iv (mm.take k) := by
          rw [List.take_append_of_le_length (by rw [iv_len]; omega)]; unfold iv; rw [List.map_take]
        have t2 : (iv mm ++ sp).drop (k + (l.length - k)) = sp := by
          rw [show k + (l.length - k) = (iv mm).length by rw [iv_len]; omega,List.drop_left]
        rw [t1,t2])
      obtain ⟨h2,hh2⟩ : ∃ h2,h2 = h1.put b (.cells (mm.take k |> iv |> fun x => x ++ (repeatL [Value.int .i64 0] (l.length - k) ++ sp)) 3 0 true) := ⟨_,rfl⟩
      have g2 : h2.get b = some (.cells (iv (dd l) ++ (repeatL [Value.int .i64 0] (l.length - k) ++ sp)) 3 0 true) := by rw [hh2,H.put_self c2,← c3]
      have T2 := xslice_o (P := Try.prog) (t := 27) (lo := none) (hi := some (.int .i64 (k : Nat))) (o := 0) (n := l.length) (cap := cap) un27 sz3 g2 rfl (l := 0) (u := k) rfl rfl (by omega) (by omega) (by omega)
      rw [Nat.zero_mul,Nat.zero_add,Nat.sub_zero,Nat.sub_zero] at T2
      refine ⟨h2,.slice (some ⟨b,0,none⟩) k cap,s.u.trans (by rw [hh2]; exact (Upd.refl (fun x => x = b) h1).put (.inl rfl) (H.get_lt c2) _),.inr ⟨b,_,cap,rfl,by rw [hk],g2,?_,?_⟩,?_⟩
      · have hr : (repeatL [Value.int .i64 0] (l.length - k)).length = l.length - k := by rw [← repeat_range]; simp
        rw [List.length_append,hr,← hk]; omega
      · generalize l.length - k = z
        induction z with
        | zero => exact e4
        | succ z ih => show ones (([Value.int .i64 0] ++ repeatL [Value.int .i64 0] z) ++ sp) = true; rw [List.append_assoc]; exact ones_append rfl ih
      · rw [F56.l9_eq,ln27,go_ok,xlss,go_ok,ifV_dec,if_neg (by omega),F56.j14_eq,T1,go_ok,cl,go_ok,← hh2,T2,go_ok]
    | succ m ih =>
      intro p k k0 h1 hm hk0 hp hk0l hk1 s
      have hpl : p < l.length := by omega
      obtain ⟨mm,c1,c2,c3,c4⟩ := s.c
      have hd1 : mm[p - 1]? = l[p - 1]? := by
        have := congrArg (fun x => x[0]?) c4
        simpa using this
      have hd2 : mm[p]? = l[p]? := by
        have := congrArg (fun x => x[1]?) c4
        simp only [List.getElem?_drop] at this
        rw [show p - 1 + 1 = p by omega] at this
        exact this
      have v1 : l[p - 1]? = some l[p - 1] := List.getElem?_eq_getElem (by omega)
      have v2 : l[p]? = some l[p] := List.getElem?_eq_getElem hpl
      have hstep := dd_take l (k := p) (by omega) v1 v2
      have ldat : ∀ {j : Nat} {z : Int} (K : Value → H → Res Value),j < l.length - k0 → mm[k0 + j]? = some z → ((xindexAddr Try.prog 27 (.slice (some ⟨b,0 + k0 * 1,none⟩) (l.length - k0) (cap - k0)) (.int .i64 (j : Nat)) h1).ok1 fun t h' => ((xload Try.prog 3 t h').ok1 K)) = K (.int .i64 z) h1 := by
        intro j z K hj hz
        rw [ia27 _ _ _ _ _ _ _ _ hj,Res.ok1_ok,ld3,H.cell_eq c2,show 0 + k0 * 1 + j * 1 = k0 + j by omega,iv_get hz,ofO_some,Res.ok1_ok]
      have ldat2 : ∀ {j : Nat} {z : Int} (K : Value → H → Res Value),j < l.length - k0 → mm[k0 + j]? = some z → ((xindexAddr Try.prog 27 (.slice (some ⟨b,0 + k0 * 1,none⟩) (l.length - k0) (cap - k0)) (.int .i64 (j : Nat)) h1).go .pan fun t h' => ((xload Try.prog 3 t h').go .pan K)) = K (.int .i64 z) h1 := by
        intro j z K hj hz
        rw [ia27 _ _ _ _ _ _ _ _ hj,go_ok,ld3,H.cell_eq c2,show 0 + k0 * 1 + j * 1 = k0 + j by omega,iv_get hz,ofO_some,go_ok]
      have hE : F56.l9 Try.prog CLM nu0 nu0 (.slice (some ⟨b,0,none⟩) l.length cap) (.int .i64 (k : Nat)) (.slice (some ⟨b,0 + k0 * 1,none⟩) (l.length - k0) (cap - k0)) (.int .i64 ((p - k0 : Nat) : Int)) h1 =
          if l[p] = l[p - 1] then F56.l9 Try.prog CLM nu0 nu0 (.slice (some ⟨b,0,none⟩) l.length cap) (.int .i64 (k : Nat)) (.slice (some ⟨b,0 + k0 * 1,none⟩) (l.length - k0) (cap - k0)) (.int .i64 ((p + 1 - k0 : Nat) : Int)) h1
          else F56.l9 Try.prog CLM nu0 nu0 (.slice (some ⟨b,0,none⟩) l.length cap) (.int .i64 ((k + 1 : Nat) : Int)) (.slice (some ⟨b,0 + k0 * 1,none⟩) (l.length - k0) (cap - k0)) (.int .i64 ((p + 1 - k0 : Nat) : Int)) (h1.put b (.cells (iv (mm.set k l[p]) ++ sp) 3 0 true)) := by
        rw [F56.l9_eq,ln27,go_ok,xlss,go_ok,ifV_dec,if_pos (by omega),F56.j11_eq,ldat _ (by omega) (by rw [show k0 + (p - k0) = p by omega,hd2]; exact v2),plain2_int,cond_true,xsub,Res.ok1_ok,wsub1 (by omega) (by omega),ldat _ (by omega) (by rw [show k0 + (p - k0 - 1) = p - 1 by omega,hd1]; exact v1),
          plain2_int,cond_true,xneq,Res.ok1_ok,ifV_not]
        by_cases q : l[p] = l[p - 1]
        · rw [if_pos q,if_pos q,xadd,go_ok,wadd1 (by omega),show p - k0 + 1 = p + 1 - k0 by omega]
        · rw [if_neg q,if_neg q,ldat2 _ (by omega) (by rw [show k0 + (p - k0) = p by omega,hd2]; exact v2)]
          obtain ⟨h2,hh2,e2⟩ := il_set (n := 0) (sp := none) (cap := cap) c2 (i := k) (by rw [c1]; have := s.kq; omega) l[p]
          rw [← c1,e2,hh2,xadd,go_ok,wadd1 (by have := s.kq; omega),xadd,go_ok,wadd1 (by omega),show p - k0 + 1 = p + 1 - k0 by omega]
      rw [hE]
      have kq := s.kq
      have hk := s.kl
      by_cases q : l[p] = l[p - 1]
      · rw [if_pos q]
        have hst : dd (l.take (p + 1)) = dd (l.take p) := by rw [hstep,if_pos q.symm]
        exact ih (p + 1) k k0 (by omega) (by omega) (by omega) hk0l hk1 ⟨s.u,⟨mm,c1,c2,by rw [hst]; exact c3,by
          have := congrArg (List.drop 1) c4
          rw [List.drop_drop,List.drop_drop] at this
          rw [show p - 1 + 1 = p by omega] at this
          rw [show p + 1 - 1 = p by omega]; exact this⟩,by rw [hst]; exact hk,by omega⟩
      · rw [if_neg q]
        have hst : dd (l.take (p + 1)) = dd (l.take p) ++ [l[p]] := by rw [hstep,if_neg (fun z => q z.symm)]
        refine ih (p + 1) (k + 1) k0 (by omega) (by omega) (by omega) hk0l hk1 ⟨s.u.put (.inl rfl) (H.get_lt c2) _,⟨mm.set k l[p],by simp [c1],H.put_self c2,?_,?_⟩,by rw [hst,List.length_append,← hk]; rfl,by omega⟩
        · rw [hst,List.take_add_one,List.take_set_of_le (Nat.le_refl _),c3,List.getElem?_set_self (by omega)]; rfl
        · rw [show p + 1 - 1 = p by omega,List.drop_set_of_lt (by omega)]
          have := congrArg (List.drop 1) c4
          rw [List.drop_drop,List.drop_drop,show p - 1 + 1 = p by omega] at this
          exact this
  have outer : ∀ (m k : Nat),l.length - k = m → 1 ≤ k → k ≤ l.length → dd (l.take k) = l.take k →
      ∃ h' v',Upd (fun x => x = b) h h' ∧ OL h' v' (some b) (dd l) ∧ F56.l4 Try.prog CLM nu0 nu0 (.slice (some ⟨b,0,none⟩) l.length cap) (.int .i64 (k : Nat)) h = .ok v' h' := by
    intro m
    induction m with
    | zero =>
      intro k hm hk hkl hdd
      have : k = l.length := by omega
      subst this
      rw [List.take_length] at hdd
      refine ⟨h,_,Upd.refl _ _,.inr ⟨b,sp,cap,rfl,by rw [hdd],by rw [hdd]; exact hg,by rw [hdd]; exact e3,e4⟩,?_⟩
      rw [F56.l4_eq,ln27,go_ok,xlss,go_ok,ifV_dec,if_neg (by omega),F56.j16_eq]
    | succ m ih =>
      intro k hm hk hkl hdd
      have hkl2 : k < l.length := by omega
      have v1 : l[k - 1]? = some l[k - 1] := List.getElem?_eq_getElem (by omega)
      have v2 : l[k]? = some l[k] := List.getElem?_eq_getElem hkl2
      have il : IL h (.slice (some ⟨b,0,none⟩) l.length cap) l := .inr ⟨b,none,cap,sp,true,rfl,hg⟩
      have hstep := dd_take l (k := k) hk v1 v2
      have T1 := xslice_o (P := Try.prog) (t := 27) (lo := some (.int .i64 (k : Nat))) (hi := none) (o := 0) (n := l.length) (cap := cap) un27 sz3 hg rfl (l := k) (u := l.length) rfl rfl (by omega) (by omega) (by omega)
      rw [show Try.prog.cellsOf 3 = 1 by kernel_rfl] at T1
      by_cases q : l[k] = l[k - 1]
      · have hst : dd (l.take (k + 1)) = dd (l.take k) := by rw [hstep,if_pos q.symm]
        have htk : (dd (l.take (k + 1))).length = k := by rw [hst,hdd,List.length_take]; omega
        obtain ⟨h',v',u,o,e⟩ := inner (l.length - (k + 1)) (k + 1) k k rfl (by omega) (by omega) (by omega) hk (h1 := h) ⟨Upd.refl _ _,⟨l,rfl,hg,by rw [hst,hdd],rfl⟩,htk.symm,by omega⟩
        refine ⟨h',v',u,o,?_⟩
        rw [F56.l4_eq,ln27,go_ok,xlss,go_ok,ifV_dec,if_pos (by omega),F56.j6_eq,il.ld1 v2,plain2_int,cond_true,xsub,Res.ok1_ok,wsub1 hk (by omega),il.ld1 v1,plain2_int,cond_true,xeql,Res.ok1_ok,ifV_dec,if_pos q,T1,go_ok]
        rw [show k + 1 - k = 1 by omega] at e
        exact e
      · have hst : dd (l.take (k + 1)) = l.take (k + 1) := by
          rw [hstep,if_neg (fun z => q z.symm),hdd,List.take_add_one,v2]; rfl
        obtain ⟨h',v',u,o,e⟩ := ih (k + 1) (by omega) (by omega) (by omega) hst
        refine ⟨h',v',u,o,?_⟩
        rw [F56.l4_eq,ln27,go_ok,xlss,go_ok,ifV_dec,if_pos (by omega),F56.j6_eq,il.ld1 v2,plain2_int,cond_true,xsub,Res.ok1_ok,wsub1 hk (by omega),il.ld1 v1,plain2_int,cond_true,xeql,Res.ok1_ok,ifV_dec,if_neg q,F56.j5_eq,xadd,go_ok,wadd1 (by omega)]
        exact e
  obtain ⟨h',v',u,o,e⟩ := outer (l.length - 1) 1 rfl (Nat.le_refl _) (by omega) (by
    match l,hs with
    | a :: t,_ => rfl
    | [],hs => simp at hs)
  refine ⟨h',v',u.mono (fun x _ q => by rw [q]),o,(fun _ q => by cases q),?_⟩
  rw [cM56,F56.eq,ln27,go_ok,xlss,go_ok,ifV_dec,if_neg (by omega),F56.j3_eq]
  exact e
def NL (h : H) (v : Value) (l : List Int) : Prop := IL h v l ∧ (l = [] → v = .slice none 0 0)
theorem NL.grow {h h' : H} (g : Grow h h') {v : Value} {l : List Int} (q : NL h v l) : NL h' v l := ⟨q.1.grow g,q.2⟩
def PL (h : H) (v : Value) (br : Option Nat) (l : List Int) : Prop :=
  (v = .slice none 0 0 ∧ l = []) ∨ ∃ b sp,br = some b ∧ v = .slice (some ⟨b,0,some 0⟩) l.length l.length ∧ h.get b = some (.cells (iv l ++ sp) 3 0 true) ∧ l ≠ []
theorem PL.nl {h : H} {v : Value} {br : Option Nat} {l : List Int} (q : PL h v br l) : NL h v l := by
  rcases q with ⟨rfl,rfl⟩ | ⟨b,sp,rfl,rfl,hg,hl⟩
  · exact ⟨.inl ⟨rfl,rfl⟩,fun _ => rfl⟩
  · exact ⟨.inr ⟨b,some 0,_,sp,true,rfl,hg⟩,fun q => absurd q hl⟩
theorem PL.upd {S : Nat → Prop} {h h' : H} (u : Upd S h h') {v : Value} {br : Option Nat} {l : List Int} (q : PL h v br l) (hS : ∀ b,br = some b → ¬ S b) : PL h' v br l := by
  refine q.imp id ?_
  rintro ⟨b,sp,e1,e2,hg,e3⟩
  exact ⟨b,sp,e1,e2,u.old _ _ (hS b e1) hg,e3⟩
theorem PL.updT {S : Nat → Prop} {h h' : H} (u : Upd S h h') {v : Value} {br : Option Nat} {l : List Int} (q : PL h v br l) (hS : ∀ b c,br = some b → h.get b = some (.cells c 3 0 true) → ¬ S b) : PL h' v br l := by
  refine q.imp id ?_
  rintro ⟨b,sp,e1,e2,hg,e3⟩
  exact ⟨b,sp,e1,e2,u.old _ _ (hS b _ e1 hg) hg,e3⟩
theorem PL.grow {h h' : H} (g : Grow h h') {v : Value} {br : Option Nat} {l : List Int} (q : PL h v br l) : PL h' v br l := q.upd (g.upd fun _ => False) fun _ _ => id
theorem eClip {h : H} {v : Value} {br : Option Nat} {l : List Int} (q : OL h v br l) (few : l.length < 65536) (hne : br ≠ none → l ≠ []) : ∃ v',PL h v' br l ∧ CLM (.f 55) [v] h = .ok v' h := by
  rcases q with ⟨rfl,rfl,rfl⟩ | ⟨b,sp,cap,rfl,rfl,hg,e3,e4⟩
  · refine ⟨.slice none 0 0,.inl ⟨rfl,rfl⟩,?_⟩
    have e : xslice Try.prog 27 (.slice none 0 0) none (some (.int .i64 ((0 : Nat) : Int))) (some (.int .i64 ((0 : Nat) : Int))) h = .ok (.slice none 0 0) h := by kernel_rfl
    rw [cM55,F55.eq,ln27,go_ok,ln27,go_ok,e,go_ok]
  · have hl : l ≠ [] := hne (by simp)
    have e := xslice_m0 (P := Try.prog) (t := 27) (e := 3) (b := b) (o := 0) (n := l.length) (cap := cap) (h := h) un27 sz3 (by omega)
    refine ⟨.slice (some ⟨b,0,some 0⟩) l.length l.length,.inr ⟨b,sp,rfl,rfl,hg,hl⟩,?_⟩
    rw [cM55,F55.eq,ln27,go_ok,ln27,go_ok,e,go_ok]
theorem xapp_n0 {P : Program} {t e xt : TypeId} {x : Value} {new : List Value} {h : H} (he : elemOf? P t = some e) (hz : szOk P e = true) (hx : isIntT P xt = some false) (hl : lenV x = some 0) (hf : firstC h (P.cellsOf e) 0 x = some new) :
    xbuiltin P .append [t,xt] [.slice none 0 0,x] h = .ok (.slice none 0 0) h := by
  show xappend P t xt _ x h = _
  unfold xappend appendC
  simp only [he,hz,hx,hl,hf,cond_true]
  rfl
theorem OL.app0 {h : H} {v w : Value} {br : Option Nat} {l : List Int} (q : OL h v br l) (r : IL h w []) : xbuiltin Try.prog .append [27,27] [v,w] h = .ok v h := by
  obtain ⟨f1,f2⟩ := r.first
  have f2' : firstC h (Try.prog.cellsOf 3) 0 w = some [] := f2
  rcases q with ⟨rfl,rfl,rfl⟩ | ⟨b,sp,cap,rfl,rfl,hg,e3,e4⟩
  · exact xapp_n0 LI.el LI.sz LI.iss f1 f2'
  · exact xapp_0 LI.el LI.sz LI.iss f1 f2' (by omega)
theorem eClone {h : H} {v : Value} {l : List Int} (q : NL h v l) (few : l.length < 65536) : ∃ h' v' br',Grow h h' ∧ OL h' v' br' l ∧ (∀ b,br' = some b → h.next ≤ b) ∧ CLM (.f 58) [v] h = .ok v' h' := by
  rcases q.1 with ⟨rfl,rfl⟩ | ⟨b,sp,cap,tl,op,rfl,hg⟩
  · refine ⟨h,.slice none 0 0,none,Grow.refl h,OL.nil,fun b e => (by cases e),?_⟩
    have e : xbin Try.prog .eql 27 (.slice none 0 0) (.slice none 0 0) h = .ok (.bool true) h := by kernel_rfl
    rw [cM58,F58.eq,e,go_ok,ifV_t]
  · have hl : l ≠ [] := fun z => by have := q.2 z; cases this
    have e : xbin Try.prog .eql 27 (.slice (some ⟨b,0,sp⟩) l.length cap) (.slice none 0 0) h = .ok (.bool false) h := by kernel_rfl
    have eb : xbuildSlice Try.prog 27 0 [] h = .ok (.slice (some ⟨h.next,0,none⟩) 0 0) (h.alloc (.cells [] 3 0 false)) := by kernel_rfl
    have g1 : Grow h (h.alloc (.cells [] 3 0 false)) := (Grow.refl h).alloc _
    obtain ⟨f1,f2⟩ := (q.1.grow g1).first
    have hb : (h.alloc (.cells [] 3 0 false)).get h.next = some (.cells [] 3 0 false) := H.alloc_self _ _
    have ea := xapp_new (P := Try.prog) (t := 27) (e := 3) (xt := 27) (base := some ⟨h.next,0,none⟩) (n := 0) (cap := 0) (k := l.length) (x := .slice (some ⟨b,0,sp⟩) l.length cap) (old := []) (new := iv l) (h := h.alloc (.cells [] 3 0 false)) LI.el LI.sz LI.iss f1 (by rw [LI.ce]; exact f2)
      (by show (h.alloc (.cells [] 3 0 false)).row ⟨h.next,0,none⟩ (0 * _) = _; rw [Nat.zero_mul]; exact H.row_all hb rfl) (by have : l.length ≠ 0 := fun z => hl (List.length_eq_zero_iff.1 z); omega)
      (by have := Nat.mul_le_mul (show 0 + l.length ≤ 65536 by omega) LI.by_; omega) (by omega) (by have := LI.by_; omega) LI.zf (iv_ones l) (by unfold appOk; simp only [hb])
    have hlv : (h.alloc (.cells [] 3 0 false)).leave (some ⟨h.next,0,none⟩) = h.alloc (.cells [] 3 0 false) := by unfold H.leave; simp only [hb]
    rw [hlv,Nat.zero_add,List.nil_append] at ea
    refine ⟨_,_,some (h.alloc (.cells [] 3 0 false)).next,g1.alloc _,.inr ⟨_,[],l.length,rfl,rfl,by rw [List.append_nil]; exact H.alloc_self _ _,by simp,rfl⟩,fun b' e' => by cases e'; exact Nat.le_succ _,?_⟩
    rw [cM58,F58.eq,e,go_ok,ifV_f,eb,go_ok,ea,go_ok]
end Go.Proofs.Ytdadiidfhnojcaa.K
