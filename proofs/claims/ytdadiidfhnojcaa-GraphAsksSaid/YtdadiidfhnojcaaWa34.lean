/- My texts for this claim, in one file: part 34. -/
import Derived.Test.YtdadiidfhnojcaaWa33
namespace Go.Proofs.Ytdadiidfhnojcaa.K.SrtO
open Go Go.Kx Go.Proofs.Ytdadiidfhnojcaa.K
set_option linter.unusedVariables false
set_option linter.unusedSimpArgs false
set_option linter.unusedSectionVars false
set_option maxRecDepth 20000
section
variable {b n cap : Nat} {sp : List Value} {J : H → Prop} {cv : Value} {lt : Int → Int → Bool} {ok : Int → Prop} {h0 : H}
structure Own (h0 h : H) (b w t : Nat) (v : Value) : Prop where
  g : h.get w = some (.cells [v] t 0 false)
  ne : w ≠ b
  lo : h0.next ≤ w
theorem Own.grow {h h' : H} {w t : Nat} {v : Value} (o : Own h0 h b w t v) (g : Grow h h') : Own h0 h' b w t v := ⟨g.old _ _ o.g,o.ne,o.lo⟩
theorem SS.put {h : H} {d : Array Int} (L : LessOk b J cv lt ok h0) (s : SS b n sp J ok h0 h d) {w t : Nat} {v v' : Value} (o : Own h0 h b w t v) : SS b n sp J ok h0 (h.put w (.cells [v'] t 0 false)) d ∧ Own h0 (h.put w (.cells [v'] t 0 false)) b w t v' :=
  ⟨⟨s.u.put (.inr o.lo) (H.get_lt o.g) _,H.put_ne o.g (Ne.symm o.ne) s.g,s.sz,s.ok,L.upd _ _ s.j ((Upd.refl _ h).put (.inl (.inr o.lo)) (H.get_lt o.g) _)⟩,⟨H.put_self o.g,o.ne,o.lo⟩⟩
theorem SS.oth {h h' : H} {d : Array Int} (L : LessOk b J cv lt ok h0) (s : SS b n sp J ok h0 h d) {w t : Nat} {v : Value} (o : Own h0 h b w t v) (u : Upd (fun x => x = w) h h') : SS b n sp J ok h0 h' d :=
  ⟨⟨Nat.le_trans s.u.next u.next,fun c x hc hx => u.old c x (fun q => by have := H.get_lt hx; have := o.lo; omega) (s.u.old c x hc hx)⟩,u.old _ _ (Ne.symm o.ne) s.g,s.sz,s.ok,L.upd _ _ s.j (u.mono fun x _ q => .inr (by have := o.lo; omega))⟩
theorem SS.new {h : H} {d : Array Int} (L : LessOk b J cv lt ok h0) (s : SS b n sp J ok h0 h d) (t : Nat) (v : Value) : SS b n sp J ok h0 (h.alloc (.cells [v] t 0 false)) d ∧ Own h0 (h.alloc (.cells [v] t 0 false)) b h.next t v := by
  have g : Grow h (h.alloc (.cells [v] t 0 false)) := (Grow.refl h).alloc _
  exact ⟨s.grow L g,⟨H.alloc_self _ _,by have := H.get_lt s.g; omega,s.u.next⟩⟩
theorem eOrd (L : LessOk b J cv lt ok h0) (hn : n < 65536) {x y w : Nat} (hx : x < n) (hy : y < n) {h : H} {d : Array Int} (s : SS b n sp J ok h0 h d) {k : Int} (o : Own h0 h b w 3 (.int .i64 k)) :
    ∃ h' k' x' y',SS b n sp J ok h0 h' d ∧ Own h0 h' b w 3 (.int .i64 k') ∧ (x' = x ∧ y' = y ∨ x' = y ∧ y' = x) ∧
      CLM (.f 94) [sl b n cap,.int .i64 (x : Nat),.int .i64 (y : Nat),.pointer (some ⟨w,0,none⟩)] h = .ok (.tuple ⟨[.int .i64 (x' : Nat),.int .i64 (y' : Nat)]⟩) h' := by
  obtain ⟨h1,g1,j1,e1⟩ := L.call h d[y]! d[x]! s.j (s.ok y hy) (s.ok x hx)
  have s1 := s.grow L g1
  have o1 := o.grow g1
  have hE : CLM (.f 94) [sl b n cap,.int .i64 (x : Nat),.int .i64 (y : Nat),.pointer (some ⟨w,0,none⟩)] h = ifV (.bool (lt d[y]! d[x]!)) (.ok (.tuple ⟨[.int .i64 (y : Nat),.int .i64 (x : Nat)]⟩) (h1.put w (.cells [.int .i64 (IntKind.i64.wrap (k + 1))] 3 0 false))) (.ok (.tuple ⟨[.int .i64 (x : Nat),.int .i64 (y : Nat)]⟩) h1) := by
    have hs : (Value.int .i64 (IntKind.i64.wrap (k + 1))).cells.size = 1 := rfl
    rw [cM94,F94.eq,s.ld hy,s.ld hx,e1,xnil_ptr,go_ok,ld3,H.cell_eq o1.g,List.getElem?_cons_zero,ofO_some,go_ok,xadd,go_ok,xnil_ptr,go_ok,st3 _ _ _ hs,cells_int,H.write_all o1.g (l := [.int .i64 (IntKind.i64.wrap (k + 1))]) rfl rfl,ofU_some,go_ok]
  rw [hE]
  cases q : lt d[y]! d[x]! with
  | true =>
    obtain ⟨s2,o2⟩ := s1.put (v' := .int .i64 (IntKind.i64.wrap (k + 1))) L o1
    exact ⟨_,_,y,x,s2,o2,.inr ⟨rfl,rfl⟩,rfl⟩
  | false => exact ⟨_,k,x,y,s1,o1,.inl ⟨rfl,rfl⟩,rfl⟩
theorem eMed (L : LessOk b J cv lt ok h0) (hn : n < 65536) {x y z w : Nat} (hx : x < n) (hy : y < n) (hz : z < n) {h : H} {d : Array Int} (s : SS b n sp J ok h0 h d) {k : Int} (o : Own h0 h b w 3 (.int .i64 k)) :
    ∃ h' k' r,SS b n sp J ok h0 h' d ∧ Own h0 h' b w 3 (.int .i64 k') ∧ (r = x ∨ r = y ∨ r = z) ∧
      CLM (.f 93) [sl b n cap,.int .i64 (x : Nat),.int .i64 (y : Nat),.int .i64 (z : Nat),.pointer (some ⟨w,0,none⟩)] h = .ok (.int .i64 (r : Nat)) h' := by
  obtain ⟨h1,k1,x1,y1,s1,o1,c1,e1⟩ := eOrd (cap := cap) L hn hx hy s o
  obtain ⟨h2,k2,x2,y2,s2,o2,c2,e2⟩ := eOrd (cap := cap) L hn (x := y1) (y := z) (by omega) hz s1 o1
  obtain ⟨h3,k3,x3,y3,s3,o3,c3,e3⟩ := eOrd (cap := cap) L hn (x := x1) (y := x2) (by omega) (by omega) s2 o2
  refine ⟨h3,k3,y3,s3,o3,by omega,?_⟩
  rw [cM93,F93.eq,e1,go_ok,xextract_0,go_ok,xextract_1,go_ok,e2,go_ok,xextract_0,go_ok,xextract_1,go_ok,e3,go_ok,xextract_0,go_ok,xextract_1,go_ok]
theorem eMedA (L : LessOk b J cv lt ok h0) (hn : n < 65536) {x w : Nat} (hx : 1 ≤ x) (hx2 : x + 1 < n) {h : H} {d : Array Int} (s : SS b n sp J ok h0 h d) {k : Int} (o : Own h0 h b w 3 (.int .i64 k)) :
    ∃ h' k' r,SS b n sp J ok h0 h' d ∧ Own h0 h' b w 3 (.int .i64 k') ∧ (r = x - 1 ∨ r = x ∨ r = x + 1) ∧
      CLM (.f 92) [sl b n cap,.int .i64 (x : Nat),.pointer (some ⟨w,0,none⟩)] h = .ok (.int .i64 (r : Nat)) h' := by
  obtain ⟨h1,k1,r,s1,o1,c1,e1⟩ := eMed (cap := cap) L hn (x := x - 1) (y := x) (z := x + 1) (by omega) (by omega) (by omega) s o
  refine ⟨h1,k1,r,s1,o1,c1,?_⟩
  rw [cM92,F92.eq,xsub,go_ok,wsub1 hx (by omega),xadd,go_ok,wadd1 (by omega),e1,go_ok]
theorem quo4 (l : Nat) (hl : l < 65536) (h : H) : xbin Try.prog .quo 3 (.int .i64 (l : Nat)) (.int .i64 4) h = .ok (.int .i64 ((l / 4 : Nat) : Int)) h := by
  rw [xquo _ _ _ _ _ _ (by omega),show ((l : Nat) : Int).tdiv 4 = ((l / 4 : Nat) : Int) from tdivn _ 4,wn (by omega)]
theorem piv_j12 {x w : Nat} {k : Int} {h : H} (o : Own h0 h b w 3 (.int .i64 k)) : ∃ z,(z = 0 ∨ z = 1 ∨ z = 2) ∧ F83.j12 Try.prog CLM nu0 nu0 (.pointer (some ⟨w,0,none⟩)) (.int .i64 (x : Nat)) h = .ok (.tuple ⟨[.int .i64 (x : Nat),.int .i64 z]⟩) h := by
  rw [F83.j12_eq,ld3,H.cell_eq o.g,List.getElem?_cons_zero,ofO_some,go_ok,xeql,go_ok,ifV_dec]
  by_cases q : k = 0
  · rw [if_pos q]; exact ⟨1,by omega,rfl⟩
  · rw [if_neg q,xeql,go_ok,ifV_dec]
    by_cases q : k = 12
    · rw [if_pos q]; exact ⟨2,by omega,rfl⟩
    · rw [if_neg q]; exact ⟨0,by omega,rfl⟩
theorem ePiv (L : LessOk b J cv lt ok h0) (hn : n < 65536) {a bb : Nat} (ha : a + 13 ≤ bb) (hb : bb ≤ n) {h : H} {d : Array Int} (s : SS b n sp J ok h0 h d) :
    ∃ h' c z,SS b n sp J ok h0 h' d ∧ a ≤ c ∧ c < bb ∧ (z = 0 ∨ z = 1 ∨ z = 2) ∧ CLM (.f 83) [sl b n cap,.int .i64 (a : Nat),.int .i64 (bb : Nat)] h = .ok (.tuple ⟨[.int .i64 (c : Nat),.int .i64 z]⟩) h' := by
  obtain ⟨s1,o1⟩ := s.new L 3 (.int .i64 0)
  have hz : zc3 = [.int .i64 0] := by kernel_rfl
  have hE : CLM (.f 83) [sl b n cap,.int .i64 (a : Nat),.int .i64 (bb : Nat)] h =
      if (50 : Int) ≤ ((bb - a : Nat) : Int) then ((CLM (.f 92) [sl b n cap,.int .i64 ((a + (bb - a) / 4 * 1 : Nat) : Int),.pointer (some ⟨h.next,0,none⟩)] (h.alloc (.cells [.int .i64 0] 3 0 false))).go .pan fun t27 h28 => ((CLM (.f 92) [sl b n cap,.int .i64 ((a + (bb - a) / 4 * 2 : Nat) : Int),.pointer (some ⟨h.next,0,none⟩)] h28).go .pan fun t29 h30 => ((CLM (.f 92) [sl b n cap,.int .i64 ((a + (bb - a) / 4 * 3 : Nat) : Int),.pointer (some ⟨h.next,0,none⟩)] h30).go .pan fun t31 h32 => ((CLM (.f 93) [sl b n cap,t27,t29,t31,.pointer (some ⟨h.next,0,none⟩)] h32).go .pan fun t33 h34 => (F83.j12 Try.prog CLM nu0 nu0 (.pointer (some ⟨h.next,0,none⟩)) t33 h34)))))
      else ((CLM (.f 93) [sl b n cap,.int .i64 ((a + (bb - a) / 4 * 1 : Nat) : Int),.int .i64 ((a + (bb - a) / 4 * 2 : Nat) : Int),.int .i64 ((a + (bb - a) / 4 * 3 : Nat) : Int),.pointer (some ⟨h.next,0,none⟩)] (h.alloc (.cells [.int .i64 0] 3 0 false))).go .pan fun t35 h36 => (F83.j12 Try.prog CLM nu0 nu0 (.pointer (some ⟨h.next,0,none⟩)) t35 h36)) := by
    have m1 : IntKind.i64.wrap ((((bb - a) / 4 : Nat) : Int) * 1) = (((bb - a) / 4 * 1 : Nat) : Int) := wmul (b := 1) (by omega)
    have m2 : IntKind.i64.wrap ((((bb - a) / 4 : Nat) : Int) * 2) = (((bb - a) / 4 * 2 : Nat) : Int) := wmul (b := 2) (by omega)
    have m3 : IntKind.i64.wrap ((((bb - a) / 4 : Nat) : Int) * 3) = (((bb - a) / 4 * 3 : Nat) : Int) := wmul (b := 3) (by omega)
    rw [cM83,F83.eq,xsub,go_ok,wsub (by omega) (by omega),al3,hz,go_ok]
    rw [quo4 _ (by omega),go_ok,xmul,go_ok,m1,xadd,go_ok,wadd (by omega),quo4 _ (by omega),go_ok,xmul,go_ok,m2,xadd,go_ok,wadd (by omega),quo4 _ (by omega),go_ok,xmul,go_ok,m3,xadd,go_ok,wadd (by omega),xgeq,go_ok,ifV_dec,if_pos (by omega),xgeq,go_ok,ifV_dec]
  rw [hE]
  clear hE
  have hQ : 4 * ((bb - a) / 4) ≤ bb - a := Nat.mul_div_le _ _
  have hQ2 : bb - a < 4 * ((bb - a) / 4) + 4 := by omega
  generalize (bb - a) / 4 = Q at *
  by_cases q : 50 ≤ bb - a
  · obtain ⟨h2,k2,r2,s2,o2,c2,e2⟩ := eMedA (cap := cap) L hn (x := a + Q * 1) (by omega) (by omega) s1 o1
    have b2 : a ≤ r2 ∧ r2 < bb := by rcases c2 with z | z | z <;> (subst z; omega)
    clear c2
    obtain ⟨h3,k3,r3,s3,o3,c3,e3⟩ := eMedA (cap := cap) L hn (x := a + Q * 2) (by omega) (by omega) s2 o2
    have b3 : a ≤ r3 ∧ r3 < bb := by rcases c3 with z | z | z <;> (subst z; omega)
    clear c3
    obtain ⟨h4,k4,r4,s4,o4,c4,e4⟩ := eMedA (cap := cap) L hn (x := a + Q * 3) (by omega) (by omega) s3 o3
    have b4 : a ≤ r4 ∧ r4 < bb := by rcases c4 with z | z | z <;> (subst z; omega)
    clear c4
    obtain ⟨h5,k5,r5,s5,o5,c5,e5⟩ := eMed (cap := cap) L hn (x := r2) (y := r3) (z := r4) (by omega) (by omega) (by omega) s4 o4
    have b5 : a ≤ r5 ∧ r5 < bb := by rcases c5 with z | z | z <;> (subst z; assumption)
    clear c5
    obtain ⟨z,hz2,e6⟩ := piv_j12 (x := r5) o5
    rw [if_pos (by omega),e2,go_ok,e3,go_ok,e4,go_ok,e5,go_ok,e6]
    exact ⟨h5,r5,z,s5,b5.1,b5.2,hz2,rfl⟩
  · obtain ⟨h5,k5,r5,s5,o5,c5,e5⟩ := eMed (cap := cap) L hn (x := a + Q * 1) (y := a + Q * 2) (z := a + Q * 3) (by omega) (by omega) (by omega) s1 o1
    have b5 : a ≤ r5 ∧ r5 < bb := by rcases c5 with z | z | z <;> (subst z; omega)
    clear c5
    obtain ⟨z,hz2,e6⟩ := piv_j12 (x := r5) o5
    rw [if_neg (by omega),e5,go_ok,e6]
    exact ⟨h5,r5,z,s5,b5.1,b5.2,hz2,rfl⟩
theorem brk_l5 (L : LessOk b J cv lt ok h0) (hn : n < 65536) {a len M w : Nat} (h8 : 8 ≤ len) (hb : a + len ≤ n) (hM : M ≤ 2 * len) (hM1 : 1 ≤ M) : ∀ (m idx : Nat) {h : H} {d : Array Int} {v : Int},a + len / 4 * 2 + 2 - idx = m → a ≤ idx → idx < 65537 → SS b n sp J ok h0 h d → Own h0 h b w 114 (.int .u64 v) →
    ∃ h' d',SS b n sp J ok h0 h' d' ∧ Go.Sort.PermIn a (a + len) d d' ∧ F82.l5 Try.prog CLM nu0 nu0 (sl b n cap) (.int .i64 (a : Nat)) (.int .i64 (len : Nat)) (.pointer (some ⟨w,0,none⟩)) (.int .u64 (M : Nat)) (.int .i64 (idx : Nat)) h = .ok (.tuple ⟨[]⟩) h' := by
  have mE : IntKind.i64.wrap (((len / 4 : Nat) : Int) * 2) = ((len / 4 * 2 : Nat) : Int) := wmul (b := 2) (by omega)
  intro m
  induction m with
  | zero =>
    intro idx h d v hm ha hi s o
    refine ⟨h,d,s,Go.Sort.permIn_refl _ _ _,?_⟩
    rw [F82.l5_eq,quo4 _ (by omega),go_ok,xmul,go_ok,mE,xadd,go_ok,wadd (by omega),xadd,go_ok,wadd1 (by omega),xleq,go_ok,ifV_dec,if_neg (by omega)]
  | succ m ih =>
    intro idx h d v hm ha hi s o
    obtain ⟨h1,v1,v2,e1,u1,g1⟩ := eNext (v := v) o.g
    have s1 := s.oth L o u1
    have o1 : Own h0 h1 b w 114 (.int .u64 v1) := ⟨g1,o.ne,o.lo⟩
    obtain ⟨r,hr,eAnd⟩ := and_le (P := Try.prog) (t := 95) (a := v2) (M := M) (by omega) (by omega)
    have step : ∀ oth : Nat,oth < len → ∃ h' d',SS b n sp J ok h0 h' d' ∧ Go.Sort.PermIn a (a + len) d d' ∧ F82.j10 Try.prog CLM nu0 nu0 (sl b n cap) (.int .i64 (a : Nat)) (.int .i64 (len : Nat)) (.pointer (some ⟨w,0,none⟩)) (.int .u64 (M : Nat)) (.int .i64 (idx : Nat)) (.int .i64 (oth : Nat)) h1 = .ok (.tuple ⟨[]⟩) h' := by
      intro oth ho
      obtain ⟨h2,s2,u2,e2⟩ := s1.swapU (cap := cap) L (i := idx) (j := a + oth) (by omega) (by omega)
      have o2 : Own h0 h2 b w 114 (.int .u64 v1) := ⟨u2.old _ _ o1.ne o1.g,o1.ne,o1.lo⟩
      obtain ⟨h3,d3,s3,p3,e3⟩ := ih (idx + 1) (by omega) (by omega) (by omega) s2 o2
      refine ⟨h3,d3,s3,Go.Sort.permIn_trans _ _ _ _ _ (Go.Sort.swp_permIn d a (a + len) idx (a + oth) ha (by omega) (by omega) (by omega) (by rw [s.sz]; exact hb)) p3,?_⟩
      rw [F82.j10_eq]
      simp only [plain2_int,cond_true,xadd,Res.ok1_ok,go_ok]
      rw [wadd (by omega),e2,wadd1 (by omega)]
      exact e3
    have hE : F82.l5 Try.prog CLM nu0 nu0 (sl b n cap) (.int .i64 (a : Nat)) (.int .i64 (len : Nat)) (.pointer (some ⟨w,0,none⟩)) (.int .u64 (M : Nat)) (.int .i64 (idx : Nat)) h =
        if (len : Int) ≤ (r : Int) then F82.j10 Try.prog CLM nu0 nu0 (sl b n cap) (.int .i64 (a : Nat)) (.int .i64 (len : Nat)) (.pointer (some ⟨w,0,none⟩)) (.int .u64 (M : Nat)) (.int .i64 (idx : Nat)) (.int .i64 (IntKind.i64.wrap ((r : Int) - (len : Int)))) h1
        else F82.j10 Try.prog CLM nu0 nu0 (sl b n cap) (.int .i64 (a : Nat)) (.int .i64 (len : Nat)) (.pointer (some ⟨w,0,none⟩)) (.int .u64 (M : Nat)) (.int .i64 (idx : Nat)) (.int .i64 (r : Nat)) h1 := by
      rw [F82.l5_eq,quo4 _ (by omega),go_ok,xmul,go_ok,mE,xadd,go_ok,wadd (by omega),xadd,go_ok,wadd1 (by omega),xleq,go_ok,ifV_dec,if_pos (by omega),F82.j7_eq,e1,go_ok,xsub,go_ok,show IntKind.u64.wrap ((M : Int) - 1) = ((M - 1 : Nat) : Int) by rw [wrapu64 (by omega)]; omega,eAnd,go_ok,cv95_3,go_ok,wn (by omega),xgeq,go_ok,ifV_dec]
      split
      · rw [xsub,go_ok]
      · rfl
    rw [hE]
    by_cases q : len ≤ r
    · rw [if_pos (by omega),wsub q (by omega)]
      exact step (r - len) (by omega)
    · rw [if_neg (by omega)]
      exact step r (by omega)
theorem eBrk (L : LessOk b J cv lt ok h0) (hn : n < 65536) {a bb : Nat} (ha : a + 13 ≤ bb) (hb : bb ≤ n) {h : H} {d : Array Int} (s : SS b n sp J ok h0 h d) :
    ∃ h' d',SS b n sp J ok h0 h' d' ∧ Go.Sort.PermIn a bb d d' ∧ CLM (.f 82) [sl b n cap,.int .i64 (a : Nat),.int .i64 (bb : Nat)] h = .ok (.tuple ⟨[]⟩) h' := by
  have hz : zc114 = [.int .u64 0] := by kernel_rfl
  obtain ⟨s1,o1⟩ := s.new L 114 (.int .u64 0)
  obtain ⟨s2,o2⟩ := s1.put (v' := .int .u64 (IntKind.u64.wrap ((bb - a : Nat) : Int))) L o1
  obtain ⟨M,m1,m2,eN⟩ := eNpow (len := bb - a) (by omega) (by omega) ((h.alloc (.cells [.int .u64 0] 114 0 false)).put h.next (.cells [.int .u64 (IntKind.u64.wrap ((bb - a : Nat) : Int))] 114 0 false))
  obtain ⟨h3,d3,s3,p3,e3⟩ := brk_l5 (cap := cap) (a := a) (len := bb - a) (M := M) L hn (by omega) (by omega) m2 m1 _ (a + (bb - a) / 4 * 2 - 1) rfl (by omega) (by omega) s2 o2
  rw [show a + (bb - a) = bb by omega] at p3
  refine ⟨h3,d3,s3,p3,?_⟩
  have mE : IntKind.i64.wrap ((((bb - a) / 4 : Nat) : Int) * 2) = (((bb - a) / 4 * 2 : Nat) : Int) := wmul (b := 2) (by omega)
  have hs : (Value.int .u64 (IntKind.u64.wrap ((bb - a : Nat) : Int))).cells.size = 1 := rfl
  rw [cM82,F82.eq,xsub,go_ok,wsub (by omega) (by omega),xgeq,go_ok,ifV_dec,if_pos (by omega),cv3_114,go_ok,al114,hz,go_ok,st114 _ _ _ hs,cells_int,H.write_all o1.g (l := [.int .u64 (IntKind.u64.wrap ((bb - a : Nat) : Int))]) rfl rfl,ofU_some,go_ok,eN,go_ok,
    quo4 _ (by omega),go_ok,xmul,go_ok,mE,xadd,go_ok,wadd (by omega),xsub,go_ok,wsub1 (by omega) (by omega)]
  exact e3
end
end Go.Proofs.Ytdadiidfhnojcaa.K.SrtO
namespace Go.Proofs.Ytdadiidfhnojcaa.K.SrtO
open Go Go.Kx Go.Proofs.Ytdadiidfhnojcaa.K
set_option linter.unusedVariables false
set_option linter.unusedSimpArgs false
set_option linter.unusedSectionVars false
set_option maxRecDepth 20000
section
variable {b n cap : Nat} {sp : List Value} {J : H → Prop} {cv : Value} {lt : Int → Int → Bool} {ok : Int → Prop} {h0 : H}
theorem quo8 (l : Nat) (hl : l < 65536) (h : H) : xbin Try.prog .quo 3 (.int .i64 (l : Nat)) (.int .i64 8) h = .ok (.int .i64 ((l / 8 : Nat) : Int)) h := by
  rw [xquo _ _ _ _ _ _ (by omega),show ((l : Nat) : Int).tdiv 8 = ((l / 8 : Nat) : Int) from tdivn _ 8,wn (by omega)]
def Done (b n : Nat) (sp : List Value) (J : H → Prop) (ok : Int → Prop) (lt : Int → Int → Bool) (h0 : H) (a bb : Nat) (d : Array Int) (r : Res Value) : Prop :=
  ∃ h' d',SS b n sp J ok h0 h' d' ∧ Go.Sort.PermIn a bb d d' ∧ Go.Sort.SortedIn lt a bb d' ∧ r = .ok (.tuple ⟨[]⟩) h'
theorem Done.perm {a bb : Nat} {d d1 : Array Int} {r : Res Value} (p : Go.Sort.PermIn a bb d d1) (q : Done b n sp J ok lt h0 a bb d1 r) : Done b n sp J ok lt h0 a bb d r := by
  obtain ⟨h',d',s,p',t,e⟩ := q
  exact ⟨h',d',s,Go.Sort.permIn_trans _ _ _ _ _ p p',t,e⟩
theorem pdq_l2 (hS : Go.Sort.SWO lt) (L : LessOk b J cv lt ok h0) (hn : n < 65536) : ∀ (m a bb : Nat) {limit : Nat} {wb wp : Bool} {h : H} {d : Array Int},bb - a = m → a ≤ bb → bb ≤ n → limit < 1000 → Go.Sort.Below lt a bb d → SS b n sp J ok h0 h d →
    Done b n sp J ok lt h0 a bb d (F73.l2 Try.prog CLM nu0 nu0 (sl b n cap) (.int .i64 (a : Nat)) (.int .i64 (bb : Nat)) (.int .i64 (limit : Nat)) (.bool wb) (.bool wp) h) := by
  intro m
  induction m using Nat.strongRecOn with
  | ind m ih =>
    intro a bb limit wb wp h d hm hab hb hlim hB s
    have call : ∀ (a' b' : Nat) {limit : Nat} {h : H} {d : Array Int},b' - a' < m → a' ≤ b' → b' ≤ n → limit < 1000 → Go.Sort.Below lt a' b' d → SS b n sp J ok h0 h d → Done b n sp J ok lt h0 a' b' d (CLM (.f 73) [sl b n cap,.int .i64 (a' : Nat),.int .i64 (b' : Nat),.int .i64 (limit : Nat)] h) := by
      intro a' b' limit h d q1 q2 q3 q4 q5 q6
      rw [cM73,F73.eq]
      exact ih _ q1 a' b' rfl q2 q3 q4 q5 q6
    have j20 : ∀ {x70 x73 x74 : Value} {limit pv : Nat} {h : H} {d : Array Int},limit < 1000 → a ≤ pv → pv < bb → Go.Sort.Below lt a bb d → SS b n sp J ok h0 h d →
        Done b n sp J ok lt h0 a bb d (F73.j20 Try.prog CLM nu0 nu0 (sl b n cap) (.int .i64 (a : Nat)) (.int .i64 (bb : Nat)) (.int .i64 (limit : Nat)) (.int .i64 ((bb - a : Nat) : Int)) (.int .i64 (pv : Nat)) x70 x73 x74 h) := by
      intro x70 x73 x74 limit pv h d hlim hp1 hp2 hB s
      obtain ⟨h1,s1,e1⟩ := ePar (cap := cap) L hn hp1 hp2 hb s
      have hsz : bb ≤ d.size := by rw [s.sz]; exact hb
      cases hx : Go.Sort.partition lt d a bb pv with
      | mk mid r =>
      obtain ⟨ap,d4⟩ := r
      rw [hx] at s1 e1
      simp only at s1 e1
      obtain ⟨r1,r2,r3,r4,r5,r6,r7⟩ := Go.Sort.round_part hS (Go.Sort.partition_holds lt) hp1 hp2 hsz hB hx
      have hE : F73.j20 Try.prog CLM nu0 nu0 (sl b n cap) (.int .i64 (a : Nat)) (.int .i64 (bb : Nat)) (.int .i64 (limit : Nat)) (.int .i64 ((bb - a : Nat) : Int)) (.int .i64 (pv : Nat)) x70 x73 x74 h =
          if ((mid - a : Nat) : Int) < ((bb - mid : Nat) : Int) then ((CLM (.f 73) [sl b n cap,.int .i64 (a : Nat),.int .i64 (mid : Nat),.int .i64 (limit : Nat)] h1).go .pan fun t73 h74 => (F73.l2 Try.prog CLM nu0 nu0 (sl b n cap) (.int .i64 ((mid + 1 : Nat) : Int)) (.int .i64 (bb : Nat)) (.int .i64 (limit : Nat)) (.bool (decide ((((bb - a) / 8 : Nat) : Int) ≤ ((mid - a : Nat) : Int)))) (.bool ap) h74))
          else ((CLM (.f 73) [sl b n cap,.int .i64 ((mid + 1 : Nat) : Int),.int .i64 (bb : Nat),.int .i64 (limit : Nat)] h1).go .pan fun t81 h82 => (F73.l2 Try.prog CLM nu0 nu0 (sl b n cap) (.int .i64 (a : Nat)) (.int .i64 (mid : Nat)) (.int .i64 (limit : Nat)) (.bool (decide ((((bb - a) / 8 : Nat) : Int) ≤ ((bb - mid : Nat) : Int)))) (.bool ap) h82)) := by
        rw [F73.j20_eq,e1,go_ok,xextract_0,go_ok,xextract_1,go_ok,xsub,go_ok,wsub r1 (by omega),xsub,go_ok,wsub (by omega) (by omega),quo8 _ (by omega),go_ok,xlss,go_ok,ifV_dec]
        split
        · rw [xgeq,go_ok]
          simp only [xadd,go_ok]
          rw [wadd1 (by omega)]
        · rw [xgeq,go_ok,xadd,go_ok,wadd1 (by omega)]
      rw [hE]
      by_cases q : mid - a < bb - mid
      · obtain ⟨h2,d2,s2,p2,t2,e2⟩ := call a mid (by omega) (by omega) (by omega) hlim r4 s1
        obtain ⟨b6,g6⟩ := r6 d2 p2 t2
        obtain ⟨h3,d3,s3,p3,t3,e3⟩ := ih (bb - (mid + 1)) (by omega) (mid + 1) bb rfl (by omega) hb (wb := decide ((((bb - a) / 8 : Nat) : Int) ≤ ((mid - a : Nat) : Int))) (wp := ap) hlim b6 s2
        obtain ⟨g7,g8⟩ := g6 d3 p3 t3
        exact ⟨h3,d3,s3,g7,g8,by rw [if_pos (by omega),e2,go_ok,e3]⟩
      · obtain ⟨h2,d2,s2,p2,t2,e2⟩ := call (mid + 1) bb (by omega) (by omega) hb hlim r5 s1
        obtain ⟨b6,g6⟩ := r7 d2 p2 t2
        obtain ⟨h3,d3,s3,p3,t3,e3⟩ := ih (mid - a) (by omega) a mid rfl (by omega) (by omega) (wb := decide ((((bb - a) / 8 : Nat) : Int) ≤ ((bb - mid : Nat) : Int))) (wp := ap) hlim b6 s2
        obtain ⟨g7,g8⟩ := g6 d3 p3 t3
        exact ⟨h3,d3,s3,g7,g8,by rw [if_neg (by omega),e2,go_ok,e3]⟩
    have j17 : ∀ {x70 x73 x74 : Value} {limit pv : Nat} {h : H} {d : Array Int},limit < 1000 → a ≤ pv → pv < bb → Go.Sort.Below lt a bb d → SS b n sp J ok h0 h d →
        Done b n sp J ok lt h0 a bb d (F73.j17 Try.prog CLM nu0 nu0 (sl b n cap) (.int .i64 (a : Nat)) (.int .i64 (bb : Nat)) (.int .i64 (limit : Nat)) (.bool wb) (.bool wp) (.int .i64 ((bb - a : Nat) : Int)) (.int .i64 (pv : Nat)) x70 x73 x74 h) := by
      intro x70 x73 x74 limit pv h d hlim hp1 hp2 hB s
      have hsz : bb ≤ d.size := by rw [s.sz]; exact hb
      rw [F73.j17_eq,plain2_int,cond_true,xgtr,Res.ok1_ok,ifV_dec]
      by_cases q : 0 < a
      · obtain ⟨h1,s1,e1⟩ := s.less L (s.ok (a - 1) (by omega)) (s.ok pv (by omega))
        rw [if_pos (by omega),plain2_int,cond_true,xsub,Res.ok1_ok,wsub1 q (by omega),s.ld (by omega),s.ld (by omega),e1,xun_not,Res.ok1_ok]
        cases ql : lt d[a - 1]! d[pv]! with
        | true =>
          rw [show (!true) = false from rfl,ifV_f]
          exact j20 hlim hp1 hp2 hB s1
        | false =>
          obtain ⟨h2,s2,e2⟩ := ePeq (cap := cap) L hn hp1 hp2 hb s1
          cases hx : Go.Sort.partitionEqual lt d a bb pv with
          | mk mid d4 =>
          rw [hx] at s2 e2
          simp only at s2 e2
          obtain ⟨r1,r2,r3,r4,r5⟩ := Go.Sort.round_eq hS (Go.Sort.partitionEqual_holds lt) q hp1 hp2 hsz hB ql hx
          obtain ⟨h3,d3,s3,p3,t3,e3⟩ := ih (bb - mid) (by omega) mid bb rfl r2 hb (wb := wb) (wp := wp) hlim r4 s2
          obtain ⟨g7,g8⟩ := r5 d3 p3 t3
          exact ⟨h3,d3,s3,g7,g8,by rw [show (!false) = true from rfl,ifV_t,e2,go_ok,e3]⟩
      · rw [if_neg (by omega)]
        exact j20 hlim hp1 hp2 hB s
    have j15 : ∀ {limit pv : Nat} {z : Int} {h : H} {d : Array Int},limit < 1000 → a ≤ pv → pv < bb → Go.Sort.Below lt a bb d → SS b n sp J ok h0 h d →
        Done b n sp J ok lt h0 a bb d (F73.j15 Try.prog CLM nu0 nu0 (sl b n cap) (.int .i64 (a : Nat)) (.int .i64 (bb : Nat)) (.int .i64 (limit : Nat)) (.bool wb) (.bool wp) (.int .i64 ((bb - a : Nat) : Int)) (.int .i64 (pv : Nat)) (.int .i64 z) h) := by
      intro limit pv z h d hlim hp1 hp2 hB s
      have hsz : bb ≤ d.size := by rw [s.sz]; exact hb
      rw [F73.j15_eq]
      have h17 := fun x70 x73 x74 => j17 (x70 := x70) (x73 := x73) (x74 := x74) hlim hp1 hp2 hB s
      cases wb with
      | false =>
        rw [ifV_f]
        exact h17 _ _ _
      | true =>
        cases wp with
        | false =>
          rw [ifV_t,ifV_f]
          exact h17 _ _ _
        | true =>
          rw [ifV_t,ifV_t,xeql,go_ok,ifV_dec]
          by_cases q : z = 1
          · obtain ⟨h1,s1,e1⟩ := ePis (cap := cap) L hn (a := a) (bb := bb) (by omega) hb s
            obtain ⟨p1,p2⟩ := Go.Sort.partialInsertionSort_holds hS d a bb (by omega) hsz hB
            rw [if_pos q,e1,go_ok]
            cases qr : (Go.Sort.partialInsertionSort lt d a bb).2 with
            | true => exact ⟨h1,_,s1,p1,p2 qr,by rw [ifV_t]⟩
            | false =>
              rw [ifV_f]
              exact (j17 hlim hp1 hp2 (hB.perm hsz p1) s1).perm p1
          · rw [if_neg q]
            exact h17 _ _ _
    have j10 : ∀ {limit : Nat} {h : H} {d : Array Int},12 < bb - a → limit < 1000 → Go.Sort.Below lt a bb d → SS b n sp J ok h0 h d →
        Done b n sp J ok lt h0 a bb d (F73.j10 Try.prog CLM nu0 nu0 (sl b n cap) (.int .i64 (a : Nat)) (.int .i64 (bb : Nat)) (.int .i64 (limit : Nat)) (.bool wb) (.bool wp) (.int .i64 ((bb - a : Nat) : Int)) h) := by
      intro limit h d h12 hlim hB s
      have hsz : bb ≤ d.size := by rw [s.sz]; exact hb
      obtain ⟨h1,pv,z,s1,c1,c2,c3,e1⟩ := ePiv (cap := cap) L hn (a := a) (bb := bb) (by omega) hb s
      rw [F73.j10_eq,e1,go_ok,xextract_0,go_ok,xextract_1,go_ok,xeql,go_ok,ifV_dec]
      by_cases q : z = 2
      · obtain ⟨h2,s2,e2⟩ := eRev (cap := cap) L hn (a := a) (bb := bb) (by omega) hb s1
        have p2 := Go.Sort.reverseRange_holds d a bb (by omega) hsz
        rw [if_pos q,e2,go_ok,xsub,go_ok,wsub1 (by omega) (by omega),xsub,go_ok,wsub c1 (by omega),xsub,go_ok,wsub (by omega) (by omega)]
        exact (j15 (pv := bb - 1 - (pv - a)) hlim (by omega) (by omega) (hB.perm hsz p2) s2).perm p2
      · rw [if_neg q]
        exact j15 hlim c1 c2 hB s1
    have hsz : bb ≤ d.size := by rw [s.sz]; exact hb
    rw [F73.l2_eq,xsub,go_ok,wsub hab (by omega),xleq,go_ok,ifV_dec]
    by_cases q : bb - a ≤ 12
    · obtain ⟨h1,s1,e1⟩ := eIns (cap := cap) L hn hab hb s
      obtain ⟨p1,p2⟩ := Go.Sort.insertionSort_holds hS d a bb hab hsz
      exact ⟨h1,_,s1,p1,p2,by rw [if_pos (by omega),e1,go_ok]⟩
    rw [if_neg (by omega),F73.j5_eq,xeql,go_ok,ifV_dec]
    by_cases q0 : limit = 0
    · obtain ⟨h1,s1,e1⟩ := eHeap (cap := cap) L hn (a := a) (bb := bb) (by omega) hb s
      obtain ⟨p1,p2⟩ := Go.Sort.heapSort_holds hS d a bb hab hsz
      exact ⟨h1,_,s1,p1,p2,by rw [if_pos (by omega),e1,go_ok]⟩
    rw [if_neg (by omega),F73.j7_eq,xun_not,go_ok]
    cases wb with
    | true =>
      rw [show (!true) = false from rfl,ifV_f]
      exact j10 (by omega) hlim hB s
    | false =>
      obtain ⟨h1,d1,s1,p1,e1⟩ := eBrk (cap := cap) L hn (a := a) (bb := bb) (by omega) hb s
      rw [show (!false) = true from rfl,ifV_t,e1,go_ok,xsub,go_ok,wsub1 (by omega) (by omega)]
      exact (j10 (by omega) (by omega) (hB.perm hsz p1) s1).perm p1
theorem eTop (hS : Go.Sort.SWO lt) {h : H} {d : Array Int} (L : LessOk b J cv lt ok h) (hn : n < 65536) (hg : h.get b = some (.cells (ar d ++ sp) 3 0 true)) (hsz : d.size = n) (hok : ∀ i,i < n → ok d[i]!) (hj : J h) :
    ∃ h' d',Upd (fun x => x = b) h h' ∧ h'.get b = some (.cells (ar d' ++ sp) 3 0 true) ∧ d'.size = n ∧ Go.Sort.PermIn 0 n d d' ∧ Go.Sort.SortedIn lt 0 n d' ∧ J h' ∧ CLM (.f 54) [sl b n cap] h = .ok (.tuple ⟨[]⟩) h' := by
  have s : SS b n sp J ok h h d := ⟨Upd.refl _ _,hg,hsz,hok,hj⟩
  have hlim : ∃ limit : Nat,limit < 1000 ∧ CLM (.f 50) [.int .u64 (n : Nat)] h = .ok (.int .i64 (limit : Nat)) h := by
    rcases Nat.eq_zero_or_pos n with q | q
    · subst q
      refine ⟨0,by omega,?_⟩
      obtain ⟨c,c1,c2,c3,c4,c5⟩ := len_j10 (x := 0) (k := 0) (by omega) (by omega) h
      rw [show len8[0]? = some 0 from rfl] at c1
      cases c1
      rw [cM50,F50.eq,cM70,F70.eq,xgeq,go_ok,ifV_dec,if_neg (by omega),F70.j4_eq,xgeq,go_ok,ifV_dec,if_neg (by omega),F70.j7_eq,xgeq,go_ok,ifV_dec,if_neg (by omega)]
      rw [show (Value.int .i64 0) = .int .i64 ((0 : Nat) : Int) from rfl,c2,go_ok]
      rfl
    · obtain ⟨k,e,_,_,h3⟩ := eBits (x := n) q hn h
      exact ⟨k,by omega,e⟩
  obtain ⟨limit,hl,e1⟩ := hlim
  obtain ⟨h',d',s',p',t',e'⟩ := pdq_l2 (cap := cap) hS L hn n 0 n (limit := limit) (wb := true) (wp := true) rfl (Nat.zero_le _) (Nat.le_refl _) hl (.inl rfl) s
  refine ⟨h',d',s'.u,s'.g,s'.sz,p',t',s'.j,?_⟩
  rw [cM54,F54.eq,ln27,go_ok,cv3_95,go_ok,wun (by omega),e1,go_ok,cM73,F73.eq]
  rw [show (Value.int .i64 0) = .int .i64 ((0 : Nat) : Int) from rfl,e',go_ok]
end
end Go.Proofs.Ytdadiidfhnojcaa.K.SrtO
namespace Go.Proofs.Ytdadiidfhnojcaa.K
open Go Go.Kx
set_option linter.unusedVariables false
set_option linter.unusedSimpArgs false
set_option maxRecDepth 20000
theorem lessO (h0 : H) (b : Nat) (cv : Value) : SrtO.LessOk b (fun _ => True) cv Go.Sort.ltInt (fun _ => True) h0 :=
  ⟨fun h x y _ _ _ => ⟨h,Grow.refl h,trivial,fun K => by rw [eCmpLess,go_ok]; rfl⟩,fun _ _ _ _ => trivial⟩
theorem nil_sort (h : H) : CLM (.f 54) [.slice none 0 0] h = .ok (.tuple ⟨[]⟩) h := by
  obtain ⟨c,c1,c2,c3,c4,c5⟩ := len_j10 (x := 0) (k := 0) (by omega) (by omega) h
  rw [show len8[0]? = some 0 from rfl] at c1
  cases c1
  have e1 : CLM (.f 50) [.int .u64 ((0 : Nat) : Int)] h = .ok (.int .i64 ((0 : Nat) : Int)) h := by
    rw [cM50,F50.eq,cM70,F70.eq,xgeq,go_ok,ifV_dec,if_neg (by omega),F70.j4_eq,xgeq,go_ok,ifV_dec,if_neg (by omega),F70.j7_eq,xgeq,go_ok,ifV_dec,if_neg (by omega)]
    rw [show (Value.int .i64 0) = .int .i64 ((0 : Nat) : Int) from rfl,c2,go_ok]
    rfl
  have w0 : IntKind.i64.wrap (((0 : Nat) : Int) - 0) = 0 := by rw [wrap64 (by omega)]; rfl
  have w1 : IntKind.i64.wrap (0 + 1) = 1 := by rw [wrap64 (by omega)]; rfl
  rw [cM54,F54.eq,ln27,go_ok,cv3_95,go_ok,wun (by omega),e1,go_ok,cM73,F73.eq,F73.l2_eq,xsub,go_ok,w0,xleq,go_ok,ifV_dec,if_pos (by omega),cM80,F80.eq,xadd,go_ok,w1,F80.l1_eq,xlss,go_ok,ifV_dec,if_neg (by omega),go_ok,go_ok]
def Rise (l : List Int) : Prop := l.Pairwise (· ≤ ·)
theorem eSortInts {h : H} {v : Value} {br : Option Nat} {l : List Int} (q : OL h v br l) (few : l.length < 65536) :
    ∃ h' l',Upd (fun x => some x = br) h h' ∧ OL h' v br l' ∧ l'.Perm l ∧ Rise l' ∧ CLM (.f 54) [v] h = .ok (.tuple ⟨[]⟩) h' := by
  rcases q with ⟨rfl,rfl,rfl⟩ | ⟨b,sp,cap,rfl,rfl,hg,e3,e4⟩
  · exact ⟨h,[],Upd.refl _ _,OL.nil,List.Perm.refl _,List.Pairwise.nil,nil_sort h⟩
  · have hd : SrtO.ar l.toArray = iv l := rfl
    obtain ⟨h',d',u,g',sz,p,s,_,e⟩ := SrtO.eTop (cap := cap) (sp := sp) (n := l.length) Go.Sort.swo_ltInt (lessO h b (.int .i64 0)) few (d := l.toArray) (by rw [hd]; exact hg) (by simp) (fun _ _ => trivial) trivial
    have hsz : d'.toList.length = l.length := by simpa using sz
    refine ⟨h',d'.toList,u.mono fun x _ q => by rw [q],.inr ⟨b,sp,cap,rfl,by rw [hsz],g',by rw [hsz]; exact e3,e4⟩,?_,?_,e⟩
    · have hp := p.2.2
      have ee : d'.toList.take l.length = d'.toList := by rw [← hsz,List.take_length]
      simpa [ee] using hp
    · refine List.pairwise_iff_getElem.2 fun i j hi hj hij => ?_
      have h1 := s i j (Nat.zero_le _) hij (by rw [← hsz]; exact hj)
      have hj' : j < d'.size := by simpa using hj
      have hi' : i < d'.size := by simpa using hi
      rw [getElem!_pos d' j hj',getElem!_pos d' i hi'] at h1
      simp only [Go.Sort.ltInt,decide_eq_false_iff_not,Int.not_lt] at h1
      simpa using h1
def dd : List Int → List Int
  | [] => []
  | [a] => [a]
  | a :: b :: l => if a = b then dd (b :: l) else a :: dd (b :: l)
theorem dd_snoc : ∀ (l : List Int) (y z : Int),dd (l ++ [y,z]) = if y = z then dd (l ++ [y]) else dd (l ++ [y]) ++ [z]
  | [],y,z => by simp only [List.nil_append,dd]; split <;> simp_all
  | [a],y,z => by
    have := dd_snoc [] y z
    simp only [List.nil_append] at this
    simp only [List.cons_append,List.nil_append]
    simp only [dd] at this ⊢
    split <;> split <;> simp_all
  | a :: b :: l,y,z => by
    have := dd_snoc (b :: l) y z
    simp only [List.cons_append] at this ⊢
    simp only [dd]
    rw [this]
    split <;> split <;> simp_all
theorem dd_mem : ∀ (l : List Int) (z : Int),z ∈ dd l ↔ z ∈ l
  | [],z => by simp [dd]
  | [a],z => by simp [dd]
  | a :: b :: l,z => by
    have := dd_mem (b :: l) z
    simp only [dd]
    split
    · rename_i q; subst q; rw [this]; simp
    · rw [List.mem_cons,this,List.mem_cons (a := z) (b := a)]
theorem dd_rise : ∀ (l : List Int),Rise l → (dd l).Pairwise (· < ·)
  | [],_ => List.Pairwise.nil
  | [a],_ => List.pairwise_singleton _ _
  | a :: b :: l,h => by
    have h2 := dd_rise (b :: l) (List.pairwise_cons.1 h).2
    simp only [dd]
    split
    · exact h2
    · rename_i q
      refine List.pairwise_cons.2 ⟨fun z hz => ?_,h2⟩
      rw [dd_mem] at hz
      have h3 := (List.pairwise_cons.1 h).1 b (by simp)
      rcases List.mem_cons.1 hz with rfl | hz
      · omega
      · have h4 := (List.pairwise_cons.1 (List.pairwise_cons.1 h).2).1 z hz
        omega
theorem dd_len : ∀ (l : List Int),(dd l).length ≤ l.length
  | [] => Nat.le_refl _
  | [a] => Nat.le_refl _
  | a :: b :: l => by
    have := dd_len (b :: l)
    simp only [dd]
    split <;> simp only [List.length_cons] at * <;> omega
theorem dd_take (l : List Int) {k : Nat} (hk : 1 ≤ k) {x y : Int} (hx : l[k - 1]? = some x) (hy : l[k]? = some y) : dd (l.take (k + 1)) = if x = y then dd (l.take k) else dd (l.take k) ++ [y] := by
  obtain ⟨j,rfl⟩ : ∃ j,k = j + 1 := ⟨k - 1,by omega⟩
  rw [Nat.add_sub_cancel] at hx
  have e1 : l.take (j + 1) = l.take j ++ [x] := by rw [List.take_add_one,hx]; rfl
  have e2 : l.take (j + 1 + 1) = l.take j ++ [x,y] := by
    rw [List.take_add_one,e1,hy,List.append_assoc]; rfl
  rw [e2,e1,dd_snoc]
structure CS (b : Nat) (sp : List Value) (l : List Int) (h0 h : H) (k q : Nat) : Prop where
  u : Upd (fun x => x = b) h0 h
  c : ∃ m : List Int,m.length = l.length ∧ h.get b = some (.cells (iv m ++ sp) 3 0 true) ∧ m.take k = dd (l.take q) ∧ m.drop (q - 1) = l.drop (q - 1)
  kl : k = (dd (l.take q)).length
  kq : k + 1 ≤ q
theorem eCompact {h : H} {v : Value} {br : Option Nat} {l : List Int} (q : OL h v br l) (few : l.length < 65536) :
    ∃ h' v',Upd (fun x => some x = br) h h' ∧ OL h' v' br (dd l) ∧ (l ≠ [] → br ≠ none) ∧ CLM (.f 56) [v] h = .ok v' h' := by
  rcases q with ⟨rfl,rfl,rfl⟩ | ⟨b,sp,cap,rfl,rfl,hg,e3,e4⟩
  · refine ⟨h,.slice none 0 0,Upd.refl _ _,OL.nil,fun q => absurd rfl q,?_⟩
    rw [cM56,F56.eq,ln27,go_ok,xlss,go_ok,ifV_dec,if_pos (by omega)]
  have hlen := e3
  by_cases hs : l.length < 2
  · refine ⟨h,_,Upd.refl _ _,?_,(fun _ q => by cases q),by rw [cM56,F56.eq,ln27,go_ok,xlss,go_ok,ifV_dec,if_pos (by omega)]⟩
    have : dd l = l := by
      match l,hs with
      | [],_ => rfl
      | [a],_ => rfl
    rw [this]
    exact .inr ⟨b,sp,cap,rfl,rfl,hg,e3,e4⟩
  have inner : ∀ (m p k k0 : Nat) {h1 : H},l.length - p = m → k0 < p → p ≤ l.length → k0 ≤ l.length → 1 ≤ k0 → CS b sp l h h1 k p →
      ∃ h' v',Upd (fun x => x = b) h h' ∧ OL h' v' (some b) (dd l) ∧ F56.l9 Try.prog CLM nu0 nu0 (.slice (some ⟨b,0,none⟩) l.length cap) (.int .i64 (k : Nat)) (.slice (some ⟨b,0 + k0 * 1,none⟩) (l.length - k0) (cap - k0)) (.int .i64 ((p - k0 : Nat) : Int)) h1 = .ok v' h' := by
    intro m
    induction m with
    | zero =>
      intro p k k0 h1 hm hk0 hp hk0l hk1 s
      have hp2 : p = l.length := by omega
      subst hp2
      obtain ⟨mm,c1,c2,c3,c4⟩ := s.c
      have hk := s.kl
      rw [List.take_length] at c3 hk
      have hkl : k < l.length := by have := s.kq; omega
      have T1 := xslice_o (P := Try.prog) (t := 27) (lo := some (.int .i64 (k : Nat))) (hi := none) (o := 0) (n := l.length) (cap := cap) un27 sz3 c2 rfl (l := k) (u := l.length) rfl rfl (by omega) (by omega) (by omega)
      have hz : zeroOf Try.prog 3 = some (.int .i64 0) := by kernel_rfl
      have cl := xclear_eq (P := Try.prog) (t := 27) (e := 3) (b := b) (o := 0 + k * Try.prog.cellsOf 3) (n := l.length - k) (cap := cap - k) (sp := none) (h := h1) un27 hz (by omega) (h' := h1.put b (.cells (mm.take k |> iv |> fun x => x ++ (repeatL [Value.int .i64 0] (l.length - k) ++ sp)) 3 0 true)) (by
        have hr : (repeatL [Value.int .i64 0] (l.length - k)).length = l.length - k := by
          rw [← repeat_range]; simp
        have h1' : ones (repeatL [Value.int .i64 0] (l.length - k)) = true := by
          generalize l.length - k = z
          induction z with
          | zero => rfl
          | succ z ih => show ones ([Value.int .i64 0] ++ repeatL [Value.int .i64 0] z) = true; exact ones_append rfl ih
        rw [show (0 + k * Try.prog.cellsOf 3) = k by rw [show Try.prog.cellsOf 3 = 1 by kernel_rfl]; omega]
        show h1.write ⟨b,k,none⟩ (repeatL [Value.int .i64 0] (l.length - k)) = _
        rw [H.write_eq c2 (by rw [List.length_append,iv_len,hr]; omega) h1',hr]
        have t1 : (iv mm ++ sp).take k = iv (mm.take k) := by
          rw [List.take_append_of_le_length (by rw [iv_len]; omega)]; unfold iv; rw [List.map_take]
        have t2 : (iv mm ++ sp).drop (k + (l.length - k)) = sp := by
          rw [show k + (l.length - k) = (iv mm).length by rw [iv_len]; omega,List.drop_left]
        rw [t1,t2])
      obtain ⟨h2,hh2⟩ : ∃ h2,h2 = h1.put b (.cells (mm.take k |> iv |> fun x => x ++ (repeatL [Value.int .i64 0] (l.length - k) ++ sp)) 3 0 true) := ⟨_,rfl⟩
      have g2 : h2.get b = some (.cells (iv (dd l) ++ (repeatL [Value.int .i64 0] (l.length - k) ++ sp)) 3 0 true) := by rw [hh2,H.put_self c2,← c3]
      have T2 := xslice_o (P := Try.prog) (t := 27) (lo := none) (hi := some (.int .i64 (k : Nat))) (o := 0) (n := l.length) (cap := cap) un27 sz3 g2 rfl (l := 0) (u := k) rfl rfl (by omega) (by omega) (by omega)
      rw [Nat.zero_mul,Nat.zero_add,Nat.sub_zero,Nat.sub_zero] at T2
      refine ⟨h2,.slice (some ⟨b,0,none⟩) k cap,s.u.trans (by rw [hh2]; exact (Upd.refl (fun x => x = b) h1).put (.inl rfl) (H.get_lt c2) _),.inr ⟨b,_,cap,rfl,by rw [hk],g2,?_,?_⟩,?_⟩
      · have hr : (repeatL [Value.int .i64 0] (l.length - k)).length = l.length - k := by rw [← repeat_range]; simp
        rw [List.length_append,hr,← hk]; omega
      · generalize l.length - k = z
        induction z with
        | zero => exact e4
        | succ z ih => show ones (([Value.int .i64 0] ++ repeatL [Value.int .i64 0] z) ++ sp) = true; rw [List.append_assoc]; exact ones_append rfl ih
      · rw [F56.l9_eq,ln27,go_ok,xlss,go_ok,ifV_dec,if_neg (by omega),F56.j14_eq,T1,go_ok,cl,go_ok,← hh2,T2,go_ok]
    | succ m ih =>
      intro p k k0 h1 hm hk0 hp hk0l hk1 s
      have hpl : p < l.length := by omega
      obtain ⟨mm,c1,c2,c3,c4⟩ := s.c
      have hd1 : mm[p - 1]? = l[p - 1]? := by
        have := congrArg (fun x => x[0]?) c4
        simpa using this
      have hd2 : mm[p]? = l[p]? := by
        have := congrArg (fun x => x[1]?) c4
        simp only [List.getElem?_drop] at this
        rw [show p - 1 + 1 = p by omega] at this
        exact this
      have v1 : l[p - 1]? = some l[p - 1] := List.getElem?_eq_getElem (by omega)
      have v2 : l[p]? = some l[p] := List.getElem?_eq_getElem hpl
      have hstep := dd_take l (k := p) (by omega) v1 v2
      have ldat : ∀ {j : Nat} {z : Int} (K : Value → H → Res Value),j < l.length - k0 → mm[k0 + j]? = some z → ((xindexAddr Try.prog 27 (.slice (some ⟨b,0 + k0 * 1,none⟩) (l.length - k0) (cap - k0)) (.int .i64 (j : Nat)) h1).ok1 fun t h' => ((xload Try.prog 3 t h').ok1 K)) = K (.int .i64 z) h1 := by
        intro j z K hj hz
        rw [ia27 _ _ _ _ _ _ _ _ hj,Res.ok1_ok,ld3,H.cell_eq c2,show 0 + k0 * 1 + j * 1 = k0 + j by omega,iv_get hz,ofO_some,Res.ok1_ok]
      have ldat2 : ∀ {j : Nat} {z : Int} (K : Value → H → Res Value),j < l.length - k0 → mm[k0 + j]? = some z → ((xindexAddr Try.prog 27 (.slice (some ⟨b,0 + k0 * 1,none⟩) (l.length - k0) (cap - k0)) (.int .i64 (j : Nat)) h1).go .pan fun t h' => ((xload Try.prog 3 t h').go .pan K)) = K (.int .i64 z) h1 := by
        intro j z K hj hz
        rw [ia27 _ _ _ _ _ _ _ _ hj,go_ok,ld3,H.cell_eq c2,show 0 + k0 * 1 + j * 1 = k0 + j by omega,iv_get hz,ofO_some,go_ok]
      have hE : F56.l9 Try.prog CLM nu0 nu0 (.slice (some ⟨b,0,none⟩) l.length cap) (.int .i64 (k : Nat)) (.slice (some ⟨b,0 + k0 * 1,none⟩) (l.length - k0) (cap - k0)) (.int .i64 ((p - k0 : Nat) : Int)) h1 =
          if l[p] = l[p - 1] then F56.l9 Try.prog CLM nu0 nu0 (.slice (some ⟨b,0,none⟩) l.length cap) (.int .i64 (k : Nat)) (.slice (some ⟨b,0 + k0 * 1,none⟩) (l.length - k0) (cap - k0)) (.int .i64 ((p + 1 - k0 : Nat) : Int)) h1
          else F56.l9 Try.prog CLM nu0 nu0 (.slice (some ⟨b,0,none⟩) l.length cap) (.int .i64 ((k + 1 : Nat) : Int)) (.slice (some ⟨b,0 + k0 * 1,none⟩) (l.length - k0) (cap - k0)) (.int .i64 ((p + 1 - k0 : Nat) : Int)) (h1.put b (.cells (iv (mm.set k l[p]) ++ sp) 3 0 true)) := by
        rw [F56.l9_eq,ln27,go_ok,xlss,go_ok,ifV_dec,if_pos (by omega),F56.j11_eq,ldat _ (by omega) (by rw [show k0 + (p - k0) = p by omega,hd2]; exact v2),plain2_int,cond_true,xsub,Res.ok1_ok,wsub1 (by omega) (by omega),ldat _ (by omega) (by rw [show k0 + (p - k0 - 1) = p - 1 by omega,hd1]; exact v1),
          plain2_int,cond_true,xneq,Res.ok1_ok,ifV_not]
        by_cases q : l[p] = l[p - 1]
        · rw [if_pos q,if_pos q,xadd,go_ok,wadd1 (by omega),show p - k0 + 1 = p + 1 - k0 by omega]
        · rw [if_neg q,if_neg q,ldat2 _ (by omega) (by rw [show k0 + (p - k0) = p by omega,hd2]; exact v2)]
          obtain ⟨h2,hh2,e2⟩ := il_set (n := 0) (sp := none) (cap := cap) c2 (i := k) (by rw [c1]; have := s.kq; omega) l[p]
          rw [← c1,e2,hh2,xadd,go_ok,wadd1 (by have := s.kq; omega),xadd,go_ok,wadd1 (by omega),show p - k0 + 1 = p + 1 - k0 by omega]
      rw [hE]
      have kq := s.kq
      have hk := s.kl
      by_cases q : l[p] = l[p - 1]
      · rw [if_pos q]
        have hst : dd (l.take (p + 1)) = dd (l.take p) := by rw [hstep,if_pos q.symm]
        exact ih (p + 1) k k0 (by omega) (by omega) (by omega) hk0l hk1 ⟨s.u,⟨mm,c1,c2,by rw [hst]; exact c3,by
          have := congrArg (List.drop 1) c4
          rw [List.drop_drop,List.drop_drop] at this
          rw [show p - 1 + 1 = p by omega] at this
          rw [show p + 1 - 1 = p by omega]; exact this⟩,by rw [hst]; exact hk,by omega⟩
      · rw [if_neg q]
        have hst : dd (l.take (p + 1)) = dd (l.take p) ++ [l[p]] := by rw [hstep,if_neg (fun z => q z.symm)]
        refine ih (p + 1) (k + 1) k0 (by omega) (by omega) (by omega) hk0l hk1 ⟨s.u.put (.inl rfl) (H.get_lt c2) _,⟨mm.set k l[p],by simp [c1],H.put_self c2,?_,?_⟩,by rw [hst,List.length_append,← hk]; rfl,by omega⟩
        · rw [hst,List.take_add_one,List.take_set_of_le (Nat.le_refl _),c3,List.getElem?_set_self (by omega)]; rfl
        · rw [show p + 1 - 1 = p by omega,List.drop_set_of_lt (by omega)]
          have := congrArg (List.drop 1) c4
          rw [List.drop_drop,List.drop_drop,show p - 1 + 1 = p by omega] at this
          exact this
  have outer : ∀ (m k : Nat),l.length - k = m → 1 ≤ k → k ≤ l.length → dd (l.take k) = l.take k →
      ∃ h' v',Upd (fun x => x = b) h h' ∧ OL h' v' (some b) (dd l) ∧ F56.l4 Try.prog CLM nu0 nu0 (.slice (some ⟨b,0,none⟩) l.length cap) (.int .i64 (k : Nat)) h = .ok v' h' := by
    intro m
    induction m with
    | zero =>
      intro k hm hk hkl hdd
      have : k = l.length := by omega
      subst this
      rw [List.take_length] at hdd
      refine ⟨h,_,Upd.refl _ _,.inr ⟨b,sp,cap,rfl,by rw [hdd],by rw [hdd]; exact hg,by rw [hdd]; exact e3,e4⟩,?_⟩
      rw [F56.l4_eq,ln27,go_ok,xlss,go_ok,ifV_dec,if_neg (by omega),F56.j16_eq]
    | succ m ih =>
      intro k hm hk hkl hdd
      have hkl2 : k < l.length := by omega
      have v1 : l[k - 1]? = some l[k - 1] := List.getElem?_eq_getElem (by omega)
      have v2 : l[k]? = some l[k] := List.getElem?_eq_getElem hkl2
      have il : IL h (.slice (some ⟨b,0,none⟩) l.length cap) l := .inr ⟨b,none,cap,sp,true,rfl,hg⟩
      have hstep := dd_take l (k := k) hk v1 v2
      have T1 := xslice_o (P := Try.prog) (t := 27) (lo := some (.int .i64 (k : Nat))) (hi := none) (o := 0) (n := l.length) (cap := cap) un27 sz3 hg rfl (l := k) (u := l.length) rfl rfl (by omega) (by omega) (by omega)
      rw [show Try.prog.cellsOf 3 = 1 by kernel_rfl] at T1
      by_cases q : l[k] = l[k - 1]
      · have hst : dd (l.take (k + 1)) = dd (l.take k) := by rw [hstep,if_pos q.symm]
        have htk : (dd (l.take (k + 1))).length = k := by rw [hst,hdd,List.length_take]; omega
        obtain ⟨h',v',u,o,e⟩ := inner (l.length - (k + 1)) (k + 1) k k rfl (by omega) (by omega) (by omega) hk (h1 := h) ⟨Upd.refl _ _,⟨l,rfl,hg,by rw [hst,hdd],rfl⟩,htk.symm,by omega⟩
        refine ⟨h',v',u,o,?_⟩
        rw [F56.l4_eq,ln27,go_ok,xlss,go_ok,ifV_dec,if_pos (by omega),F56.j6_eq,il.ld1 v2,plain2_int,cond_true,xsub,Res.ok1_ok,wsub1 hk (by omega),il.ld1 v1,plain2_int,cond_true,xeql,Res.ok1_ok,ifV_dec,if_pos q,T1,go_ok]
        rw [show k + 1 - k = 1 by omega] at e
        exact e
      · have hst : dd (l.take (k + 1)) = l.take (k + 1) := by
          rw [hstep,if_neg (fun z => q z.symm),hdd,List.take_add_one,v2]; rfl
        obtain ⟨h',v',u,o,e⟩ := ih (k + 1) (by omega) (by omega) (by omega) hst
        refine ⟨h',v',u,o,?_⟩
        rw [F56.l4_eq,ln27,go_ok,xlss,go_ok,ifV_dec,if_pos (by omega),F56.j6_eq,il.ld1 v2,plain2_int,cond_true,xsub,Res.ok1_ok,wsub1 hk (by omega),il.ld1 v1,plain2_int,cond_true,xeql,Res.ok1_ok,ifV_dec,if_neg q,F56.j5_eq,xadd,go_ok,wadd1 (by omega)]
        exact e
  obtain ⟨h',v',u,o,e⟩ := outer (l.length - 1) 1 rfl (Nat.le_refl _) (by omega) (by
    match l,hs with
    | a :: t,_ => rfl
    | [],hs => simp at hs)
  refine ⟨h',v',u.mono (fun x _ q => by rw [q]),o,(fun _ q => by cases q),?_⟩
  rw [cM56,F56.eq,ln27,go_ok,xlss,go_ok,ifV_dec,if_neg (by omega),F56.j3_eq]
  exact e
def NL (h : H) (v : Value) (l : List Int) : Prop := IL h v l ∧ (l = [] → v = .slice none 0 0)
theorem NL.grow {h h' : H} (g : Grow h h') {v : Value} {l : List Int} (q : NL h v l) : NL h' v l := ⟨q.1.grow g,q.2⟩
def PL (h : H) (v : Value) (br : Option Nat) (l : List Int) : Prop :=
  (v = .slice none 0 0 ∧ l = []) ∨ ∃ b sp,br = some b ∧ v = .slice (some ⟨b,0,some 0⟩) l.length l.length ∧ h.get b = some (.cells (iv l ++ sp) 3 0 true) ∧ l ≠ []
theorem PL.nl {h : H} {v : Value} {br : Option Nat} {l : List Int} (q : PL h v br l) : NL h v l := by
  rcases q with ⟨rfl,rfl⟩ | ⟨b,sp,rfl,rfl,hg,hl⟩
  · exact ⟨.inl ⟨rfl,rfl⟩,fun _ => rfl⟩
  · exact ⟨.inr ⟨b,some 0,_,sp,true,rfl,hg⟩,fun q => absurd q hl⟩
theorem PL.upd {S : Nat → Prop} {h h' : H} (u : Upd S h h') {v : Value} {br : Option Nat} {l : List Int} (q : PL h v br l) (hS : ∀ b,br = some b → ¬ S b) : PL h' v br l := by
  refine q.imp id ?_
  rintro ⟨b,sp,e1,e2,hg,e3⟩
  exact ⟨b,sp,e1,e2,u.old _ _ (hS b e1) hg,e3⟩
theorem PL.updT {S : Nat → Prop} {h h' : H} (u : Upd S h h') {v : Value} {br : Option Nat} {l : List Int} (q : PL h v br l) (hS : ∀ b c,br = some b → h.get b = some (.cells c 3 0 true) → ¬ S b) : PL h' v br l := by
  refine q.imp id ?_
  rintro ⟨b,sp,e1,e2,hg,e3⟩
  exact ⟨b,sp,e1,e2,u.old _ _ (hS b _ e1 hg) hg,e3⟩
theorem PL.grow {h h' : H} (g : Grow h h') {v : Value} {br : Option Nat} {l : List Int} (q : PL h v br l) : PL h' v br l := q.upd (g.upd fun _ => False) fun _ _ => id
theorem eClip {h : H} {v : Value} {br : Option Nat} {l : List Int} (q : OL h v br l) (few : l.length < 65536) (hne : br ≠ none → l ≠ []) : ∃ v',PL h v' br l ∧ CLM (.f 55) [v] h = .ok v' h := by
  rcases q with ⟨rfl,rfl,rfl⟩ | ⟨b,sp,cap,rfl,rfl,hg,e3,e4⟩
  · refine ⟨.slice none 0 0,.inl ⟨rfl,rfl⟩,?_⟩
    have e : xslice Try.prog 27 (.slice none 0 0) none (some (.int .i64 ((0 : Nat) : Int))) (some (.int .i64 ((0 : Nat) : Int))) h = .ok (.slice none 0 0) h := by kernel_rfl
    rw [cM55,F55.eq,ln27,go_ok,ln27,go_ok,e,go_ok]
  · have hl : l ≠ [] := hne (by simp)
    have e := xslice_m0 (P := Try.prog) (t := 27) (e := 3) (b := b) (o := 0) (n := l.length) (cap := cap) (h := h) un27 sz3 (by omega)
    refine ⟨.slice (some ⟨b,0,some 0⟩) l.length l.length,.inr ⟨b,sp,rfl,rfl,hg,hl⟩,?_⟩
    rw [cM55,F55.eq,ln27,go_ok,ln27,go_ok,e,go_ok]
theorem xapp_n0 {P : Program} {t e xt : TypeId} {x : Value} {new : List Value} {h : H} (he : elemOf? P t = some e) (hz : szOk P e = true) (hx : isIntT P xt = some false) (hl : lenV x = some 0) (hf : firstC h (P.cellsOf e) 0 x = some new) :
    xbuiltin P .append [t,xt] [.slice none 0 0,x] h = .ok (.slice none 0 0) h := by
  show xappend P t xt _ x h = _
  unfold xappend appendC
  simp only [he,hz,hx,hl,hf,cond_true]
  rfl
theorem OL.app0 {h : H} {v w : Value} {br : Option Nat} {l : List Int} (q : OL h v br l) (r : IL h w []) : xbuiltin Try.prog .append [27,27] [v,w] h = .ok v h := by
  obtain ⟨f1,f2⟩ := r.first
  have f2' : firstC h (Try.prog.cellsOf 3) 0 w = some [] := f2
  rcases q with ⟨rfl,rfl,rfl⟩ | ⟨b,sp,cap,rfl,rfl,hg,e3,e4⟩
  · exact xapp_n0 LI.el LI.sz LI.iss f1 f2'
  · exact xapp_0 LI.el LI.sz LI.iss f1 f2' (by omega)
theorem eClone {h : H} {v : Value} {l : List Int} (q : NL h v l) (few : l.length < 65536) : ∃ h' v' br',Grow h h' ∧ OL h' v' br' l ∧ (∀ b,br' = some b → h.next ≤ b) ∧ CLM (.f 58) [v] h = .ok v' h' := by
  rcases q.1 with ⟨rfl,rfl⟩ | ⟨b,sp,cap,tl,op,rfl,hg⟩
  · refine ⟨h,.slice none 0 0,none,Grow.refl h,OL.nil,fun b e => (by cases e),?_⟩
    have e : xbin Try.prog .eql 27 (.slice none 0 0) (.slice none 0 0) h = .ok (.bool true) h := by kernel_rfl
    rw [cM58,F58.eq,e,go_ok,ifV_t]
  · have hl : l ≠ [] := fun z => by have := q.2 z; cases this
    have e : xbin Try.prog .eql 27 (.slice (some ⟨b,0,sp⟩) l.length cap) (.slice none 0 0) h = .ok (.bool false) h := by kernel_rfl
    have eb : xbuildSlice Try.prog 27 0 [] h = .ok (.slice (some ⟨h.next,0,none⟩) 0 0) (h.alloc (.cells [] 3 0 false)) := by kernel_rfl
    have g1 : Grow h (h.alloc (.cells [] 3 0 false)) := (Grow.refl h).alloc _
    obtain ⟨f1,f2⟩ := (q.1.grow g1).first
    have hb : (h.alloc (.cells [] 3 0 false)).get h.next = some (.cells [] 3 0 false) := H.alloc_self _ _
    have ea := xapp_new (P := Try.prog) (t := 27) (e := 3) (xt := 27) (base := some ⟨h.next,0,none⟩) (n := 0) (cap := 0) (k := l.length) (x := .slice (some ⟨b,0,sp⟩) l.length cap) (old := []) (new := iv l) (h := h.alloc (.cells [] 3 0 false)) LI.el LI.sz LI.iss f1 (by rw [LI.ce]; exact f2)
      (by show (h.alloc (.cells [] 3 0 false)).row ⟨h.next,0,none⟩ (0 * _) = _; rw [Nat.zero_mul]; exact H.row_all hb rfl) (by have : l.length ≠ 0 := fun z => hl (List.length_eq_zero_iff.1 z); omega)
      (by have := Nat.mul_le_mul (show 0 + l.length ≤ 65536 by omega) LI.by_; omega) (by omega) (by have := LI.by_; omega) LI.zf (iv_ones l) (by unfold appOk; simp only [hb])
    have hlv : (h.alloc (.cells [] 3 0 false)).leave (some ⟨h.next,0,none⟩) = h.alloc (.cells [] 3 0 false) := by unfold H.leave; simp only [hb]
    rw [hlv,Nat.zero_add,List.nil_append] at ea
    refine ⟨_,_,some (h.alloc (.cells [] 3 0 false)).next,g1.alloc _,.inr ⟨_,[],l.length,rfl,rfl,by rw [List.append_nil]; exact H.alloc_self _ _,by simp,rfl⟩,fun b' e' => by cases e'; exact Nat.le_succ _,?_⟩
    rw [cM58,F58.eq,e,go_ok,ifV_f,eb,go_ok,ea,go_ok]
end Go.Proofs.Ytdadiidfhnojcaa.K
namespace Go.Proofs.Ytdadiidfhnojcaa.K
open Go Go.Kx
set_option linter.unusedVariables false
set_option linter.unusedSimpArgs false
set_option maxRecDepth 20000
def Row (h : H) (b o : Nat) (r : List Value) : Prop := ∃ c el f op,h.get b = some (.cells c el f op) ∧ o + r.length ≤ c.length ∧ (c.drop o).take r.length = r
theorem Row.grow {h h' : H} (g : Grow h h') {b o : Nat} {r : List Value} (q : Row h b o r) : Row h' b o r := by
  obtain ⟨c,el,f,op,hg,h1,h2⟩ := q
  exact ⟨c,el,f,op,g.old _ _ hg,h1,h2⟩
theorem Row.upd {S : Nat → Prop} {h h' : H} (u : Upd S h h') {b o : Nat} {r : List Value} (q : Row h b o r) (hS : ¬ S b) : Row h' b o r := by
  obtain ⟨c,el,f,op,hg,h1,h2⟩ := q
  exact ⟨c,el,f,op,u.old _ _ hS hg,h1,h2⟩
theorem Row.row {h : H} {b o : Nat} {r : List Value} (q : Row h b o r) {n : Nat} (hn : r.length = n) : h.row ⟨b,o,none⟩ n = some r := by
  obtain ⟨c,el,f,op,hg,h1,h2⟩ := q
  subst hn
  rw [H.row_eq hg h1,h2]
theorem Row.cell {h : H} {b o : Nat} {r : List Value} (q : Row h b o r) {j : Nat} {v : Value} (hv : r[j]? = some v) : h.cell ⟨b,o + j,none⟩ = some v := by
  obtain ⟨c,el,f,op,hg,h1,h2⟩ := q
  have hj := (List.getElem?_eq_some_iff.1 hv).1
  rw [H.cell_eq hg]
  rw [← h2,List.getElem?_take_of_lt hj,List.getElem?_drop] at hv
  exact hv
theorem Row.sub {h : H} {b o : Nat} {r : List Value} (q : Row h b o r) {k m : Nat} (hk : k + m ≤ r.length) : Row h b (o + k) ((r.drop k).take m) := by
  obtain ⟨c,el,f,op,hg,h1,h2⟩ := q
  have hl : ((r.drop k).take m).length = m := by rw [List.length_take,List.length_drop]; omega
  obtain ⟨n,hn⟩ : ∃ n,n = r.length := ⟨_,rfl⟩
  rw [← hn] at h1 h2 hk
  refine ⟨c,el,f,op,hg,by rw [hl]; omega,?_⟩
  rw [hl,← h2,List.drop_take,List.take_take,Nat.min_eq_left (by omega),List.drop_drop]
theorem Row.lt {h : H} {b o : Nat} {r : List Value} (q : Row h b o r) : b < h.next := by
  obtain ⟨c,el,f,op,hg,h1,h2⟩ := q
  exact H.get_lt hg
def Nul (v : Value) : Prop := v = .slice none 0 0 ∨ ∃ b o k,v = .slice (some ⟨b,o,some (k + 2)⟩) 0 0
theorem Nul.nil : Nul (.slice none 0 0) := .inl rfl
theorem Nul.val {v : Value} (q : Nul v) : ∃ a,v = .slice a 0 0 := by
  rcases q with rfl | ⟨b,o,k,rfl⟩
  · exact ⟨_,rfl⟩
  · exact ⟨_,rfl⟩
def Sl (E : Nat) (h : H) (v : Value) (rows : List (List Value)) : Prop :=
  GoodR E rows ∧ ((Nul v ∧ rows = []) ∨ ∃ b o sp cap,v = .slice (some ⟨b,o,sp⟩) rows.length cap ∧ Row h b o rows.flatten)
theorem Sl.grow {E : Nat} {h h' : H} (g : Grow h h') {v : Value} {rows : List (List Value)} (q : Sl E h v rows) : Sl E h' v rows := by
  refine ⟨q.1,q.2.imp id ?_⟩
  rintro ⟨b,o,sp,cap,e,r⟩
  exact ⟨b,o,sp,cap,e,r.grow g⟩
theorem Sl.val {E : Nat} {h : H} {v : Value} {rows : List (List Value)} (q : Sl E h v rows) : ∃ a cap,v = .slice a rows.length cap := by
  rcases q.2 with ⟨e,rfl⟩ | ⟨b,o,sp,cap,e,_⟩
  · obtain ⟨a,e⟩ := e.val
    exact ⟨_,_,e⟩
  · exact ⟨_,_,e⟩
theorem Sl.at_ {E : Nat} {h : H} {v : Value} {rows : List (List Value)} (q : Sl E h v rows) {i : Nat} {r : List Value} (hr : rows[i]? = some r) :
    ∃ b o sp cap,v = .slice (some ⟨b,o,sp⟩) rows.length cap ∧ Row h b (o + i * E) r ∧ r.length = E ∧ ones r = true := by
  obtain ⟨hi,he⟩ := List.getElem?_eq_some_iff.1 hr
  rcases q.2 with ⟨_,e⟩ | ⟨b,o,sp,cap,e,row⟩
  · subst e; cases hr
  · have gr := q.1 r (List.mem_of_getElem? hr)
    have hl := flat_len q.1
    have h1 := Nat.mul_le_mul_right E (show i + 1 ≤ rows.length by omega)
    rw [Nat.add_mul,Nat.one_mul] at h1
    have := row.sub (k := i * E) (m := E) (by omega)
    rw [show (rows.flatten.drop (i * E)).take E = r by have := flat_at q.1 hr []; rwa [List.append_nil] at this] at this
    exact ⟨b,o,sp,cap,e,this,gr⟩
structure TK where
  name : ByteArray
  bud : Int
  ins : List ByteArray
  outs : List ByteArray
def StrSl (h : H) (v : Value) (l : List ByteArray) : Prop := Sl 1 h v (l.map fun s => [.string s])
def OutSl (h : H) (v : Value) (l : List ByteArray) : Prop := ∃ rows,Sl 6 h v rows ∧ rows.map (·.head?) = l.map fun s => some (.string s)
def TaskR (h : H) (t : TK) (r : List Value) : Prop := ∃ vi vo,r = [.string t.name,.int .i64 t.bud,vi,vo] ∧ StrSl h vi t.ins ∧ OutSl h vo t.outs
def Tasks (h : H) (v : Value) (ts : List TK) : Prop := ∃ rows,Sl 4 h v rows ∧ rows.length = ts.length ∧ ∀ (i : Nat) (t : TK),ts[i]? = some t → ∃ r,rows[i]? = some r ∧ TaskR h t r
theorem StrSl.grow {h h' : H} (g : Grow h h') {v : Value} {l : List ByteArray} (q : StrSl h v l) : StrSl h' v l := Sl.grow g q
theorem OutSl.grow {h h' : H} (g : Grow h h') {v : Value} {l : List ByteArray} (q : OutSl h v l) : OutSl h' v l := by
  obtain ⟨rows,s,e⟩ := q
  exact ⟨rows,s.grow g,e⟩
theorem TaskR.grow {h h' : H} (g : Grow h h') {t : TK} {r : List Value} (q : TaskR h t r) : TaskR h' t r := by
  obtain ⟨vi,vo,e,s,u⟩ := q
  exact ⟨vi,vo,e,s.grow g,u.grow g⟩
theorem Tasks.grow {h h' : H} (g : Grow h h') {v : Value} {ts : List TK} (q : Tasks h v ts) : Tasks h' v ts := by
  obtain ⟨rows,s,e,f⟩ := q
  exact ⟨rows,s.grow g,e,fun i t ht => by obtain ⟨r,e1,e2⟩ := f i t ht; exact ⟨r,e1,e2.grow g⟩⟩
theorem Tasks.val {h : H} {v : Value} {ts : List TK} (q : Tasks h v ts) : ∃ a cap,v = .slice a ts.length cap := by
  obtain ⟨rows,s,e,f⟩ := q
  rw [← e]; exact s.val
theorem StrSl.val {h : H} {v : Value} {l : List ByteArray} (q : StrSl h v l) : ∃ a cap,v = .slice a l.length cap := by
  have := Sl.val q
  rwa [List.length_map] at this
theorem OutSl.val {h : H} {v : Value} {l : List ByteArray} (q : OutSl h v l) : ∃ a cap,v = .slice a l.length cap := by
  obtain ⟨rows,s,e⟩ := q
  have h1 : rows.length = l.length := by have := congrArg List.length e; simpa using this
  rw [← h1]; exact s.val
theorem Tasks.len {h : H} {v : Value} {ts : List TK} (q : Tasks h v ts) (h' : H) : xbuiltin Try.prog .len [22] [v] h' = .ok (.int .i64 (ts.length : Nat)) h' := by
  obtain ⟨a,cap,rfl⟩ := q.val
  exact ln22 _ _ _ _
theorem StrSl.len {h : H} {v : Value} {l : List ByteArray} (q : StrSl h v l) (h' : H) : xbuiltin Try.prog .len [52] [v] h' = .ok (.int .i64 (l.length : Nat)) h' := by
  obtain ⟨a,cap,rfl⟩ := q.val
  exact ln52 _ _ _ _
theorem OutSl.len {h : H} {v : Value} {l : List ByteArray} (q : OutSl h v l) (h' : H) : xbuiltin Try.prog .len [53] [v] h' = .ok (.int .i64 (l.length : Nat)) h' := by
  obtain ⟨a,cap,rfl⟩ := q.val
  exact ln53 _ _ _ _
theorem Tasks.at_ {h : H} {v : Value} {ts : List TK} (q : Tasks h v ts) {i : Nat} {t : TK} (ht : ts[i]? = some t) :
    ∃ b o vi vo,(∀ h',xindexAddr Try.prog 22 v (.int .i64 (i : Nat)) h' = .ok (.pointer (some ⟨b,o,none⟩)) h') ∧ Row h b o [.string t.name,.int .i64 t.bud,vi,vo] ∧ StrSl h vi t.ins ∧ OutSl h vo t.outs ∧ ones [.string t.name,.int .i64 t.bud,vi,vo] = true := by
  obtain ⟨rows,s,e,f⟩ := q
  obtain ⟨r,hr,vi,vo,rfl,q1,q2⟩ := f i t ht
  have hi := (List.getElem?_eq_some_iff.1 hr).1
  obtain ⟨b,o,sp,cap,rfl,row,_,ho⟩ := s.at_ hr
  exact ⟨b,o + i * 4,vi,vo,fun h' => ia22 _ _ _ _ _ _ _ h' hi,row,q1,q2,ho⟩
theorem StrSl.at_ {h : H} {v : Value} {l : List ByteArray} (q : StrSl h v l) {i : Nat} {s : ByteArray} (hs : l[i]? = some s) :
    ∃ a,xindexAddr Try.prog 52 v (.int .i64 (i : Nat)) h = .ok (.pointer (some a)) h ∧ xload Try.prog 9 (.pointer (some a)) h = .ok (.string s) h := by
  have hr : (l.map fun s => [Value.string s])[i]? = some [.string s] := by rw [List.getElem?_map,hs]; rfl
  have hi := (List.getElem?_eq_some_iff.1 hr).1
  obtain ⟨b,o,sp,cap,rfl,row,_,ho⟩ := Sl.at_ q hr
  refine ⟨_,ia52 _ _ _ _ _ _ _ _ hi,?_⟩
  rw [ld9,show (⟨b,o + i * 1,none⟩ : Addr) = ⟨b,o + i * 1 + 0,none⟩ from rfl,row.cell (j := 0) rfl,ofO_some]
theorem OutSl.at_ {h : H} {v : Value} {l : List ByteArray} (q : OutSl h v l) {i : Nat} {s : ByteArray} (hs : l[i]? = some s) :
    ∃ b o r,(∀ h',xindexAddr Try.prog 53 v (.int .i64 (i : Nat)) h' = .ok (.pointer (some ⟨b,o,none⟩)) h') ∧ Row h b o (.string s :: r) ∧ r.length = 5 ∧ ones (.string s :: r) = true := by
  obtain ⟨rows,sl,e⟩ := q
  have h1 := congrArg (fun x => x[i]?) e
  simp only [List.getElem?_map,hs,Option.map_some] at h1
  cases hr : rows[i]? with
  | none => rw [hr] at h1; cases h1
  | some r =>
    rw [hr] at h1
    have hi := (List.getElem?_eq_some_iff.1 hr).1
    obtain ⟨b,o,sp,cap,rfl,row,hl,ho⟩ := sl.at_ hr
    match r,h1,hl with
    | x :: r,h1,hl =>
      simp only [Option.map_some,List.head?_cons,Option.some.injEq] at h1
      subst h1
      exact ⟨b,o + i * 6,r,fun h' => ia53 _ _ _ _ _ _ _ h' hi,row,by simpa using hl,ho⟩
def nm (ts : List TK) (i : Int) : ByteArray := ((ts[i.toNat]?).map TK.name).getD ⟨#[]⟩
def aLt (ts : List TK) (i j : Int) : Bool := sLt (nm ts i) (nm ts j) || (decide (nm ts i = nm ts j) && decide (i < j))
theorem nm_at {ts : List TK} {i : Nat} {t : TK} (h : ts[i]? = some t) : nm ts (i : Int) = t.name := by unfold nm; rw [Int.toNat_natCast,h]; rfl
theorem sLt_irrefl (a : ByteArray) : sLt a a = false := by rw [sLt_iff]; exact decide_eq_false (List.lt_irrefl _)
theorem sLt_trans {a b c : ByteArray} (h1 : sLt a b = true) (h2 : sLt b c = true) : sLt a c = true := by
  rw [sLt_iff,decide_eq_true_iff] at *
  exact List.lt_trans h1 h2
theorem toList_inj {a b : ByteArray} (h : a.toList = b.toList) : a = b := by
  by_cases q : a = b
  · exact q
  · exact absurd h (toList_ne q)
theorem sLt_tri (a b : ByteArray) : sLt a b = true ∨ a = b ∨ sLt b a = true := by
  rw [sLt_iff,sLt_iff,decide_eq_true_iff,decide_eq_true_iff]
  by_cases h1 : a.toList < b.toList
  · exact .inl h1
  · by_cases h2 : b.toList < a.toList
    · exact .inr (.inr h2)
    · exact .inr (.inl (toList_inj (List.le_antisymm (List.not_lt.1 h2) (List.not_lt.1 h1))))
theorem sLt_asymm {a b : ByteArray} (h : sLt a b = true) : sLt b a = false := by
  cases q : sLt b a with
  | false => rfl
  | true => have := sLt_trans h q; rw [sLt_irrefl] at this; cases this
theorem aLt_irrefl (ts : List TK) (i : Int) : aLt ts i i = false := by unfold aLt; simp [sLt_irrefl]
theorem aLt_trans {ts : List TK} {i j k : Int} (h1 : aLt ts i j = true) (h2 : aLt ts j k = true) : aLt ts i k = true := by
  unfold aLt at *
  simp only [Bool.or_eq_true,Bool.and_eq_true,decide_eq_true_eq] at *
  rcases h1 with h1 | ⟨e1,h1⟩ <;> rcases h2 with h2 | ⟨e2,h2⟩
  · exact .inl (sLt_trans h1 h2)
  · rw [← e2]; exact .inl h1
  · rw [e1]; exact .inl h2
  · exact .inr ⟨e1.trans e2,by omega⟩
theorem aLt_tri (ts : List TK) (i j : Int) : aLt ts i j = true ∨ i = j ∨ aLt ts j i = true := by
  unfold aLt
  simp only [Bool.or_eq_true,Bool.and_eq_true,decide_eq_true_eq]
  rcases sLt_tri (nm ts i) (nm ts j) with h | h | h
  · exact .inl (.inl h)
  · rcases Int.lt_trichotomy i j with q | q | q
    · exact .inl (.inr ⟨h,q⟩)
    · exact .inr (.inl q)
    · exact .inr (.inr (.inr ⟨h.symm,q⟩))
  · exact .inr (.inr (.inl h))
theorem aLt_asymm {ts : List TK} {i j : Int} (h : aLt ts i j = true) : aLt ts j i = false := by
  cases q : aLt ts j i with
  | false => rfl
  | true => have := aLt_trans h q; rw [aLt_irrefl] at this; cases this
theorem aLt_swo (ts : List TK) : Go.Sort.SWO (aLt ts) := ⟨aLt_irrefl ts,fun _ _ _ => aLt_trans,fun x y z h1 h2 => by
  cases q : aLt ts x z with
  | false => rfl
  | true =>
    rcases aLt_tri ts x y with a | a | a
    · rw [h1] at a; cases a
    · subst a; rw [h2] at q; cases q
    · have := aLt_trans a q; rw [h2] at this; cases this⟩
def NetR (h : H) (g : Nat) (vt vn vu : Value) : Prop := ∃ op,h.get g = some (.cells [vt,vn,vu] 79 0 op)
theorem NetR.grow {h h' : H} (w : Grow h h') {g : Nat} {vt vn vu : Value} (q : NetR h g vt vn vu) : NetR h' g vt vn vu := by
  obtain ⟨op,e⟩ := q
  exact ⟨op,w.old _ _ e⟩
theorem NetR.upd {S : Nat → Prop} {h h' : H} (u : Upd S h h') {g : Nat} {vt vn vu : Value} (q : NetR h g vt vn vu) (hS : ¬ S g) : NetR h' g vt vn vu := by
  obtain ⟨op,e⟩ := q
  exact ⟨op,u.old _ _ hS e⟩
theorem NetR.t {h : H} {g : Nat} {vt vn vu : Value} (q : NetR h g vt vn vu) : h.cell ⟨g,0,none⟩ = some vt := by obtain ⟨op,e⟩ := q; rw [H.cell_eq e]; rfl
theorem NetR.n {h : H} {g : Nat} {vt vn vu : Value} (q : NetR h g vt vn vu) : h.cell ⟨g,0 + 1,none⟩ = some vn := by obtain ⟨op,e⟩ := q; rw [H.cell_eq e]; rfl
theorem NetR.u {h : H} {g : Nat} {vt vn vu : Value} (q : NetR h g vt vn vu) : h.cell ⟨g,0 + 2,none⟩ = some vu := by obtain ⟨op,e⟩ := q; rw [H.cell_eq e]; rfl
theorem eOr {h : H} {v : Value} {a b : Int} (q : IL h v [a,b]) : CLM (.f 51) [v] h = .ok (.int .i64 (if a = 0 then b else a)) h := by
  have i0 : (Value.int .i64 0) = .int .i64 ((0 : Nat) : Int) := rfl
  have i1 : (Value.int .i64 1) = .int .i64 ((1 : Nat) : Int) := rfl
  have w1 : IntKind.i64.wrap (0 + 1) = 1 := by rw [wrap64 (by omega)]; rfl
  have w2 : IntKind.i64.wrap (1 + 1) = 2 := by rw [wrap64 (by omega)]; rfl
  have l1 : ∀ K : Value → H → Res Value,((xindexAddr Try.prog 27 v (.int .i64 0) h).go .pan fun t h' => ((xload Try.prog 3 t h').go .pan K)) = K (.int .i64 a) h := fun K => by rw [i0]; exact q.ld rfl K
  have l2 : ∀ K : Value → H → Res Value,((xindexAddr Try.prog 27 v (.int .i64 1) h).go .pan fun t h' => ((xload Try.prog 3 t h').go .pan K)) = K (.int .i64 b) h := fun K => by rw [i1]; exact q.ld rfl K
  have L : ((([a,b].length : Nat) : Int)) = 2 := rfl
  rw [cM51,F51.eq,q.len,go_ok,L,F51.l3_eq,xlss,go_ok,F51.j4_eq,ifV_dec,if_pos (by omega),F51.j4_1_eq,l1,xneq,go_ok,ifV_not]
  by_cases ha : a = 0
  · rw [if_pos ha,if_pos ha,xadd,go_ok,w1,F51.l3_eq,xlss,go_ok,F51.j4_eq,ifV_dec,if_pos (by omega),F51.j4_1_eq,l2,xneq,go_ok,ifV_not]
    by_cases hb : b = 0
    · rw [if_pos hb,xadd,go_ok,w2,F51.l3_eq,xlss,go_ok,F51.j4_eq,ifV_dec,if_neg (by omega),F51.j8_eq,hb]
    · rw [if_neg hb]
  · rw [if_neg ha,if_neg ha]
theorem eAhead {h : H} {g : Nat} {vt vn vu : Value} {ts : List TK} (q : NetR h g vt vn vu) (T : Tasks h vt ts) {i j : Nat} (hi : i < ts.length) (hj : j < ts.length) :
    ∃ h',Grow h h' ∧ CLM (.f 40) [.pointer (some ⟨g,0,none⟩),.int .i64 (i : Nat),.int .i64 (j : Nat)] h = .ok (.int .i64 (if aLt ts i j then -1 else if aLt ts j i then 1 else 0)) h' := by
  obtain ⟨b1,o1,vi1,vo1,a1,r1,-⟩ := T.at_ (List.getElem?_eq_getElem hi)
  obtain ⟨b2,o2,vi2,vo2,a2,r2,-⟩ := T.at_ (List.getElem?_eq_getElem hj)
  have c1 := r1.cell (j := 0) rfl
  have c2 := r2.cell (j := 0) rfl
  rw [Nat.add_zero] at c1 c2
  have n1 := nm_at (List.getElem?_eq_getElem hi)
  have n2 := nm_at (List.getElem?_eq_getElem hj)
  rw [← n1] at c1
  rw [← n2] at c2
  have eb : ∀ x y : Int,xbuildSlice Try.prog 27 2 [(0,.int .i64 x),(1,.int .i64 y)] h = .ok (.slice (some ⟨h.next,0,none⟩) 2 2) (h.alloc (.cells [.int .i64 x,.int .i64 y] 3 0 false)) := fun x y => by kernel_rfl
  have er : ∀ x y : Int,CLM (.f 51) [.slice (some ⟨h.next,0,none⟩) 2 2] (h.alloc (.cells [.int .i64 x,.int .i64 y] 3 0 false)) = .ok (.int .i64 (if x = 0 then y else x)) (h.alloc (.cells [.int .i64 x,.int .i64 y] 3 0 false)) := fun x y => eOr (.inr ⟨h.next,none,2,[],false,rfl,H.alloc_self _ _⟩)
  refine ⟨h.alloc (.cells [.int .i64 (if sLt (nm ts i) (nm ts j) then -1 else if nm ts i = nm ts j then 0 else 1),.int .i64 (if (i : Int) < j then -1 else if (j : Int) < i then 1 else 0)] 3 0 false),(Grow.refl h).alloc _,?_⟩
  rw [cM40,F40.eq,xnil_ptr,Res.ok1_ok,fa79_0,Res.ok1_ok,ld22,q.t,ofO_some,Res.ok1_ok,a1,Res.ok1_ok,fa55_0,Res.ok1_ok,ld9,c1,ofO_some,Res.ok1_ok,xnil_ptr,Res.ok1_ok,fa79_0,Res.ok1_ok,ld22,q.t,ofO_some,Res.ok1_ok,a2,Res.ok1_ok,fa55_0,Res.ok1_ok,ld9,c2,ofO_some,Res.ok1_ok,
    eCmpStr,go_ok,eCmpInt,go_ok,eb,go_ok,er,go_ok]
  refine congrArg (fun z => Res.ok (Value.int .i64 z) _) ?_
  unfold aLt
  rcases sLt_tri (nm ts i) (nm ts j) with s | s | s
  · simp [s]
  · rw [s]
    simp only [sLt_irrefl,Bool.false_or,decide_true,Bool.true_and,decide_eq_true_eq,if_true,Bool.false_eq_true,if_false]
  · have s2 := sLt_asymm s
    have s3 : nm ts i ≠ nm ts j := fun z => by rw [z,sLt_irrefl] at s; cases s
    simp [s,s2,s3]
end Go.Proofs.Ytdadiidfhnojcaa.K
namespace Go.Proofs.Ytdadiidfhnojcaa.K
open Go Go.Kx
set_option linter.unusedVariables false
set_option linter.unusedSimpArgs false
set_option maxRecDepth 20000
theorem bytes_beq (a b : ByteArray) : (a == b) = decide (a = b) := by
  have e : (a == b) = (a.data == b.data) := rfl
  rw [e]
  by_cases h : a = b
  · subst h; simp
  · have : ¬ a.data = b.data := fun q => h (ByteArray.ext q)
    simp [h,this]
instance : LawfulBEq ByteArray where
  eq_of_beq {a b} h := by rw [bytes_beq] at h; exact of_decide_eq_true h
  rfl {a} := by rw [bytes_beq]; exact decide_eq_true rfl
abbrev MkE := ByteArray × Value × Option Nat
def mkC (ms : List MkE) : List (Value × Value) := ms.map fun x => (.string x.1,x.2.1)
def esC (es : List MapEntry) : List (Value × Value) := es.map fun e => (e.key,e.val)
theorem findK_no (s : ByteArray) : ∀ (ms : List MkE) (es : List MapEntry) (i : Nat),esC es = mkC ms → s ∉ ms.map (·.1) → findK (.string s) es i = some none
  | [],[],i,_,_ => rfl
  | [],e :: es,i,h,_ => by cases h
  | x :: ms,[],i,h,_ => by cases h
  | x :: ms,e :: es,i,h,hs => by
    have h1 : (e.key,e.val) = (Value.string x.1,x.2.1) := (List.cons.inj h).1
    have h2 : esC es = mkC ms := (List.cons.inj h).2
    have hk : e.key = .string x.1 := (Prod.mk.inj h1).1
    have hn : ¬ s = x.1 := fun z => hs (by rw [z]; exact List.mem_cons_self)
    have ih := findK_no s ms es (i + 1) h2 (fun z => hs (List.mem_cons_of_mem _ z))
    unfold findK
    rw [hk]
    show (bif s == x.1 then _ else findK (.string s) es (i + 1)) = _
    rw [bytes_beq,decide_eq_false hn,cond_false,ih]
theorem findK_yes (s : ByteArray) (v : Value) (br : Option Nat) (post : List MkE) : ∀ (pre : List MkE) (es : List MapEntry) (i : Nat),esC es = mkC (pre ++ (s,v,br) :: post) → s ∉ pre.map (·.1) → findK (.string s) es i = some (some (i + pre.length,v))
  | [],[],i,h,_ => by cases h
  | [],e :: es,i,h,_ => by
    have h1 : (e.key,e.val) = (Value.string s,v) := (List.cons.inj h).1
    have hk : e.key = .string s := (Prod.mk.inj h1).1
    have hv : e.val = v := (Prod.mk.inj h1).2
    unfold findK
    rw [hk]
    show (bif s == s then some (some (i,e.val)) else _) = _
    rw [bytes_beq,decide_eq_true rfl,cond_true,hv]; rfl
  | x :: pre,[],i,h,_ => by cases h
  | x :: pre,e :: es,i,h,hs => by
    have h1 : (e.key,e.val) = (Value.string x.1,x.2.1) := (List.cons.inj h).1
    have h2 : esC es = mkC (pre ++ (s,v,br) :: post) := (List.cons.inj h).2
    have hk : e.key = .string x.1 := (Prod.mk.inj h1).1
    have hn : ¬ s = x.1 := fun z => hs (by rw [z]; exact List.mem_cons_self)
    have ih := findK_yes s v br post pre es (i + 1) h2 (fun z => hs (List.mem_cons_of_mem _ z))
    unfold findK
    rw [hk]
    show (bif s == x.1 then _ else findK (.string s) es (i + 1)) = _
    rw [bytes_beq,decide_eq_false hn,cond_false,ih,List.length_cons,show i + 1 + pre.length = i + (pre.length + 1) by omega]
structure MkR (h0 h : H) (m : Nat) (f : ByteArray → List Int) (ms : List MkE) : Prop where
  g : ∃ es clock,h.get m = some (.map es clock) ∧ esC es = mkC ms
  mf : h0.next ≤ m
  nd : (ms.map (·.1)).Nodup
  ol : ∀ x ∈ ms,OL h x.2.1 x.2.2 (f x.1) ∧ ∀ b,x.2.2 = some b → h0.next ≤ b
  no : ∀ s,s ∉ ms.map (·.1) → f s = []
  ap : ms.Pairwise fun x y => ∀ b,x.2.2 = some b → y.2.2 ≠ some b
theorem OL.cells {h : H} {v : Value} {br : Option Nat} {l : List Int} (q : OL h v br l) {b : Nat} (hb : br = some b) : ∃ c el f op,h.get b = some (.cells c el f op) := by
  rcases q with ⟨e,_⟩ | ⟨b',sp,cap,e,_,hg,_⟩
  · rw [e] at hb; cases hb
  · rw [e] at hb; cases hb; exact ⟨_,_,_,_,hg⟩
def HasM (ms : List MkE) (s : ByteArray) (v : Value) (br : Option Nat) : Prop :=
  (s ∉ ms.map (·.1) ∧ v = .slice none 0 0 ∧ br = none) ∨ ∃ pre post,ms = pre ++ (s,v,br) :: post ∧ s ∉ pre.map (·.1) ∧ s ∉ post.map (·.1)
theorem MkR.get {h0 h : H} {m : Nat} {f : ByteArray → List Int} {ms : List MkE} (q : MkR h0 h m f ms) (s : ByteArray) :
    ∃ v br,xlookup Try.prog 98 (.map (some m)) (.string s) false h = .ok v h ∧ HasM ms s v br ∧ OL h v br (f s) ∧ (∀ b,br = some b → h0.next ≤ b ∧ b ≠ m) := by
  obtain ⟨es,clock,hg,he⟩ := q.g
  have hu : Try.prog.underlying 98 = some (.map 9 27) := by kernel_rfl
  have hk : keyOk Try.prog 9 (.string s) = true := by kernel_rfl
  have hz : zeroOf Try.prog 27 = some (.slice none 0 0) := by kernel_rfl
  by_cases hs : s ∈ ms.map (·.1)
  · obtain ⟨x,hx,hxs⟩ := List.mem_map.1 hs
    obtain ⟨pre,post,e⟩ := List.append_of_mem hx
    obtain ⟨s',v,br⟩ := x
    simp only at hxs
    subst hxs
    have hnd := q.nd
    rw [e,List.map_append,List.map_cons,List.nodup_append] at hnd
    have h1 : s' ∉ pre.map (·.1) := fun z => hnd.2.2 _ z _ List.mem_cons_self rfl
    have h2 : s' ∉ post.map (·.1) := (List.nodup_cons.1 hnd.2.1).1
    refine ⟨v,br,?_,.inr ⟨pre,post,e,h1,h2⟩,(q.ol _ hx).1,fun b hb => ⟨(q.ol _ hx).2 b hb,fun z => ?_⟩⟩
    · have hf := findK_yes s' v br post pre es 0 (by rw [he,e]) h1
      unfold xlookup
      simp only [hu,hk,cond_true,hg,hf,cond_false]
    · obtain ⟨c,el,ff,op,hc⟩ := (q.ol _ hx).1.cells hb
      rw [z,hg] at hc; cases hc
  · refine ⟨.slice none 0 0,none,?_,.inl ⟨hs,rfl,rfl⟩,by rw [q.no s hs]; exact OL.nil,fun b hb => by cases hb⟩
    have hf := findK_no s ms es 0 he hs
    unfold xlookup
    simp only [hu,hk,cond_true,hg,hf,hz,show flat (.slice none 0 0) = true from rfl,cond_false]
def updF (f : ByteArray → List Int) (s : ByteArray) (l : List Int) : ByteArray → List Int := fun x => if x = s then l else f x
theorem updF_ne {f : ByteArray → List Int} {s x : ByteArray} {l : List Int} (h : x ≠ s) : updF f s l x = f x := if_neg h
theorem updF_eq {f : ByteArray → List Int} {s : ByteArray} {l : List Int} : updF f s l s = l := if_pos rfl
theorem MkR.put {h0 h h' : H} {m : Nat} {f : ByteArray → List Int} {ms : List MkE} (q : MkR h0 h m f ms) (hn : h0.next ≤ h.next) {s : ByteArray} {v v' : Value} {br br' : Option Nat} {l' : List Int} (hs : HasM ms s v br) (hb : ∀ b,br = some b → h0.next ≤ b ∧ b ≠ m)
    (u : Upd (fun x => some x = br) h h') (o : OL h' v' br' l') (nb : NewBr h br br') :
    ∃ h'' ms',xmapUpdate Try.prog 98 (.map (some m)) (.string s) v' h' = .ok undef h'' ∧ Upd (fun x => x = m ∨ some x = br) h h'' ∧ MkR h0 h'' m (updF f s l') ms' := by
  obtain ⟨es,clock,hg,he⟩ := q.g
  have hu : Try.prog.underlying 98 = some (.map 9 27) := by kernel_rfl
  have hk : keyOk Try.prog 9 (.string s) = true := by kernel_rfl
  have hg' : h'.get m = some (.map es clock) := u.old _ _ (fun z => (hb m z.symm).2 rfl) hg
  have hm := H.get_lt hg
  have hbr' : ∀ b,br' = some b → h0.next ≤ b := fun b e => by
    rcases nb with z | ⟨b2,z,z2⟩
    · rw [z] at e; exact (hb b e).1
    · rw [z] at e; cases e; omega
  have hbm : ∀ b,br' = some b → b ≠ m := fun b e z => by
    obtain ⟨c,el,ff,op,hc⟩ := o.cells e
    rw [z,hg'] at hc; cases hc
  rcases hs with ⟨h1,-,h2⟩ | ⟨pre,post,e,h1,h2⟩
  ·
    subst h2
    have hf := findK_no s ms es 0 he h1
    refine ⟨h'.put m (.map (es ++ [⟨.string s,v',clock⟩]) (clock + 1)),ms ++ [(s,v',br')],?_,?_,?_⟩
    · unfold xmapUpdate
      simp only [hu,hk,cond_true,hg',hf]
    · exact (u.mono fun x _ z => .inr z).put (.inl (.inl rfl)) (H.get_lt hg') _
    · have U : Upd (fun x => x = m) h' (h'.put m (.map (es ++ [⟨.string s,v',clock⟩]) (clock + 1))) := (Upd.refl (fun x => x = m) h').put (.inl rfl) (H.get_lt hg') _
      refine ⟨⟨_,_,H.put_self hg',?_⟩,q.mf,?_,?_,?_,?_⟩
      · show (es ++ [_]).map _ = (ms ++ [_]).map _
        rw [List.map_append,List.map_append]
        exact congrArg (· ++ _) he
      · rw [List.map_append,List.nodup_append]
        exact ⟨q.nd,List.pairwise_singleton _ _,fun a ha b hb2 => by
          simp only [List.map_cons,List.map_nil,List.mem_singleton] at hb2
          subst hb2; exact fun z => h1 (z ▸ ha)⟩
      · intro x hx
        rcases List.mem_append.1 hx with hx | hx
        · have hne : x.1 ≠ s := fun z => h1 (z ▸ List.mem_map_of_mem hx)
          refine ⟨?_,(q.ol x hx).2⟩
          rw [updF_ne hne]
          refine ((q.ol x hx).1.upd u fun b e z => by cases z).upd U fun b e z => ?_
          obtain ⟨c,el,ff,op,hc⟩ := (q.ol x hx).1.cells e
          rw [z,hg] at hc; cases hc
        · simp only [List.mem_singleton] at hx
          subst hx
          refine ⟨?_,hbr'⟩
          rw [updF_eq]
          exact o.upd U fun b e z => hbm b e z
      · intro x hx
        rw [List.map_append,List.mem_append] at hx
        have : x ≠ s := fun z => hx (.inr (by simp [z]))
        rw [updF_ne this]
        exact q.no x fun z => hx (.inl z)
      · rw [List.pairwise_append]
        refine ⟨q.ap,List.pairwise_singleton _ _,fun x hx y hy b e => ?_⟩
        simp only [List.mem_singleton] at hy
        subst hy
        intro z
        rcases nb with w | ⟨b2,w,w2⟩
        · rw [w] at z; cases z
        · simp only at z
          rw [w] at z
          cases z
          have := (q.ol x hx).1.lt e
          omega
  ·
    subst e
    have hf := findK_yes s v br post pre es 0 he h1
    have hlen : pre.length < es.length := by
      have := congrArg List.length he
      simp [esC,mkC] at this
      omega
    have ap := q.ap
    rw [List.pairwise_append,List.pairwise_cons] at ap
    refine ⟨h'.put m (.map (modE (0 + pre.length) (fun e => { e with val := v' }) es) clock),pre ++ (s,v',br') :: post,?_,?_,?_⟩
    · unfold xmapUpdate
      simp only [hu,hk,cond_true,hg',hf]
    · exact (u.mono fun x _ z => .inr z).put (.inl (.inl rfl)) (H.get_lt hg') _
    · have U : Upd (fun x => x = m) h' (h'.put m (.map (modE (0 + pre.length) (fun e => { e with val := v' }) es) clock)) := (Upd.refl (fun x => x = m) h').put (.inl rfl) (H.get_lt hg') _
      have oth : ∀ x,(x ∈ pre ∨ x ∈ post) → x.1 ≠ s ∧ x ∈ pre ++ (s,v,br) :: post ∧ (∀ b,x.2.2 = some b → br ≠ some b) := by
        rintro x (hx | hx)
        · exact ⟨fun z => h1 (z ▸ List.mem_map_of_mem hx),by simp [hx],fun b e => ap.2.2 x hx _ List.mem_cons_self b e⟩
        · exact ⟨fun z => h2 (z ▸ List.mem_map_of_mem hx),by simp [hx],fun b e z => ap.2.1.1 x hx b z e⟩
      refine ⟨⟨_,_,H.put_self hg',?_⟩,q.mf,?_,?_,?_,?_⟩
      · apply List.ext_getElem?
        intro i
        have hi := congrArg (fun x => x[i]?) he
        simp only [esC,mkC,List.getElem?_map,modE,List.getElem?_modify,Nat.zero_add] at hi ⊢
        by_cases hp : pre.length = i
        · subst hp
          rw [List.getElem?_append_right (Nat.le_refl _),Nat.sub_self] at hi ⊢
          cases hq : es[pre.length]? with
          | none => rw [hq] at hi; cases hi
          | some en =>
            rw [hq] at hi
            simp only [Option.map_some,List.getElem?_cons_zero,Option.some.injEq,Prod.mk.injEq] at hi
            simp [hi.1]
        · rw [show (pre ++ (s,v',br') :: post)[i]? = (pre ++ (s,v,br) :: post)[i]? by
            rw [List.getElem?_append,List.getElem?_append]
            split
            · rfl
            · obtain ⟨k,hk⟩ : ∃ k,i - pre.length = k + 1 := ⟨i - pre.length - 1,by omega⟩
              rw [hk,List.getElem?_cons_succ,List.getElem?_cons_succ],← hi]
          cases es[i]? <;> simp [hp]
      · have := q.nd
        rw [List.map_append,List.map_cons] at this ⊢
        exact this
      · intro x hx
        rcases List.mem_append.1 hx with hx | hx
        · obtain ⟨w1,w2,w3⟩ := oth x (.inl hx)
          refine ⟨?_,(q.ol x w2).2⟩
          rw [updF_ne w1]
          refine ((q.ol x w2).1.upd u fun b e z => w3 b e z.symm).upd U fun b e z => ?_
          obtain ⟨c,el,ff,op,hc⟩ := (q.ol x w2).1.cells e
          rw [z,hg] at hc; cases hc
        · rcases List.mem_cons.1 hx with hx | hx
          · subst hx
            refine ⟨?_,hbr'⟩
            rw [updF_eq]
            exact o.upd U fun b e z => hbm b e z
          · obtain ⟨w1,w2,w3⟩ := oth x (.inr hx)
            refine ⟨?_,(q.ol x w2).2⟩
            rw [updF_ne w1]
            refine ((q.ol x w2).1.upd u fun b e z => w3 b e z.symm).upd U fun b e z => ?_
            obtain ⟨c,el,ff,op,hc⟩ := (q.ol x w2).1.cells e
            rw [z,hg] at hc; cases hc
      · intro x hx
        have hx' : x ∉ (pre ++ (s,v,br) :: post).map (·.1) := by
          rw [List.map_append,List.map_cons] at hx ⊢
          exact hx
        have : x ≠ s := fun z => hx' (by simp [z])
        rw [updF_ne this]
        exact q.no x hx'
      · rw [List.pairwise_append,List.pairwise_cons]
        have fresh : ∀ x,(x ∈ pre ∨ x ∈ post) → ∀ b,x.2.2 = some b → br' ≠ some b := fun x hx b e z => by
          obtain ⟨w1,w2,w3⟩ := oth x hx
          rcases nb with w | ⟨b2,w,w3'⟩
          · exact w3 b e (w ▸ z)
          · rw [w] at z; cases z
            have := (q.ol x w2).1.lt e
            omega
        refine ⟨ap.1,⟨fun y hy b e z => fresh y (.inr hy) b z e,ap.2.1.2⟩,fun x hx y hy b e => ?_⟩
        rcases List.mem_cons.1 hy with hy | hy
        · subst hy; exact fresh x (.inl hx) b e
        · exact ap.2.2 x hx y (List.mem_cons_of_mem _ hy) b e
theorem MkR.upd {S : Nat → Prop} {h0 h h' : H} {m : Nat} {f : ByteArray → List Int} {ms : List MkE} (q : MkR h0 h m f ms) (u : Upd S h h') (hm : ¬ S m) (hS : ∀ x ∈ ms,∀ b,x.2.2 = some b → ¬ S b) : MkR h0 h' m f ms := by
  obtain ⟨es,clock,hg,he⟩ := q.g
  exact ⟨⟨es,clock,u.old _ _ hm hg,he⟩,q.mf,q.nd,fun x hx => ⟨(q.ol x hx).1.upd u (hS x hx),(q.ol x hx).2⟩,q.no,q.ap⟩
theorem MkR.grow {h0 h h' : H} {m : Nat} {f : ByteArray → List Int} {ms : List MkE} (q : MkR h0 h m f ms) (g : Grow h h') : MkR h0 h' m f ms := q.upd (g.upd fun _ => False) id fun _ _ _ _ => id
end Go.Proofs.Ytdadiidfhnojcaa.K
