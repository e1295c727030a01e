/- Proved here: GraphGreat: for every input the call tells true, and what it was handed reads as it did. Conditions: none beyond those of the given row. -/
import Derived.Test.YtdadiidfhnojcaaChecked
import Derived.Test.YtdadiidfhnojcaaRows
import Derived.Test.YtdadiidfhnojcaaWe36
namespace Go.Proofs.Ytdadiidfhnojcaa.K
open Go Go.Kx
set_option maxRecDepth 100000
set_option linter.unusedVariables false
theorem mixed : Try.prog.follows .mixedOrders = true := by kernel_rfl
noncomputable def primO : Pr := fun f args h => match f with
  | 59 => ovP args h
  | _ => .bad
noncomputable def CLO : Cl := clS Try.prog tab primO
theorem ovO (args args' : List Value) (ι : Io) (h : H) (w : World) (s : Sim Try.prog ι h w) (ha : RL ι args args') : SN Try.prog ι w (ovP args h) (callFunc 59 ⟨args'⟩) :=
  ovP_ok (sl := 27) (tR := 4) (e := 3) Try.func59 (by kernel_rfl) (by kernel_rfl) (by kernel_rfl) (by kernel_rfl) (by kernel_rfl) (rSizeOf (by kernel_rfl)) args args' ι h w s ha
theorem primO_ok : PrOk Try.prog 0 primO := by
  intro f args args' ι h w hg s ha
  unfold primO
  split
  · exact ovO args args' ι h w s ha
  · trivial
theorem CLO_ok : ClOk Try.prog 0 CLO := clS_ok mixed tab_ok primO_ok
theorem TI : InsT Try.prog 27 3 3 := ⟨by kernel_rfl,by kernel_rfl,by kernel_rfl,by kernel_rfl,by kernel_rfl,Nat.lt_of_lt_of_le (Nat.zero_lt_succ 0) (Nat.le_of_eq (by kernel_rfl : 1 = Try.prog.cellsOf 3))⟩
theorem bodyI (x0 x1 x2 : Value) (h : H) : CLO (.f 47) [x0,x1,x2] h = insB Try.prog 27 3 59 (F47.j18 Try.prog CLO nu0 nu0) CLO x0 x1 x2 h := by
  have e : CLO (.f 47) [x0,x1,x2] h = runX Try.prog CLO nu0 an47 Try.f47 [x0,x1,x2] h := clS_eq (by kernel_rfl) _ _
  rw [e,F47.eq]
  simp only [F47.j5_eq,F47.j8_eq,F47.j13_eq]
  rfl
theorem insI_ok (args args' : List Value) (ι : Io) (h : H) (w : World) (s : Sim Try.prog ι h w) (ha : RL ι args args') : SN Try.prog ι w (insP Try.prog 27 args h) (callFunc 47 ⟨args'⟩) :=
  insP_ok TI (G := 0) CLO_ok bodyI (fun args h => clS_prim (by kernel_rfl) args h) args args' ι h w s ha
theorem primM_ok : PrOk Try.prog 0 primM := by
  intro f args args' ι h w hg s ha
  unfold primM
  split
  · exact insI_ok args args' ι h w s ha
  · trivial
theorem tabM_ok : ∀ f fn an,tabM f = some (fn,an) → fnOk Try.prog 0 an f fn := by
  intro f fn an h
  unfold tabM at h
  split at h
  · cases h
  · exact tab_ok _ _ _ h
theorem CLM_ok : ClOk Try.prog 0 CLM := clS_ok mixed tabM_ok primM_ok
end Go.Proofs.Ytdadiidfhnojcaa.K
namespace Go.Proofs.Ytdadiidfhnojcaa.K
open Go Go.Kx Go.ChangeShapes Go.WideShapes Go.ChangeAt Go.RowKit
set_option maxRecDepth 100000
set_option linter.unusedVariables false
section
variable {HH : Type} {enc : TypeId × Value → HH} {W : World}
variable {n : Nat} {cs : List Value} {x : DataW HH × List MemPlace}
theorem read_int (h : DataW.trod enc Try.prog W 0 (fun _ => true) true n 3 cs = some x) : ∃ z,cs = [.int .i64 z] ∧ (Lit.int .i64 z).wf = true := by
  obtain ⟨z,e,_,w⟩ := DataW.trod_int Try.underlying3 h
  exact ⟨z,e,w⟩
end
end Go.Proofs.Ytdadiidfhnojcaa.K
namespace Go.Proofs.Ytdadiidfhnojcaa.K
open Go Go.Kx Go.ChangeShapes Go.WideShapes Go.ChangeAt Go.RowKit
set_option maxRecDepth 100000
set_option linter.unusedVariables false
theorem laidOut' : laidOutB Try.prog = true := by kernel_rfl
theorem own' : ownKnob Try.prog.godebug = none := by kernel_rfl
theorem read_intA {HH : Type} {enc : TypeId × Value → HH} {W : World} {v : Value} {d : DataW HH} {p : List MemPlace} {base : Nat} (hval : Value.okWide Try.prog W .any base 3 v) (h : DataW.Trod enc Try.prog W 0 (fun _ => true) true 3 v d p) : ∃ z : Int,v = .int .i64 z ∧ -9223372036854775808 ≤ z ∧ z ≤ 9223372036854775807 := by
  have hsl : ∃ k z,v = .int k z := by
    have hv := hval
    unfold Value.okWide at hv
    rw [Try.underlying3] at hv
    cases v <;> first | exact ⟨_,_,rfl⟩ | (simp [Cell.okWide,Try.underlying3,Cell.ok] at hv)
  obtain ⟨k,z,rfl⟩ := hsl
  obtain ⟨fuel,h⟩ := h
  obtain ⟨z',e,w⟩ := read_int h
  have : [Value.int k z] = [.int .i64 z'] := by simpa [Value.cells] using e
  simp only [List.cons.injEq,Value.int.injEq,and_true] at this
  obtain ⟨rfl,rfl⟩ := this
  refine ⟨_,rfl,?_⟩
  simp only [Lit.wf,IntKind.min,IntKind.max,IntKind.bits,IntKind.signed] at w
  simp at w
  omega
end Go.Proofs.Ytdadiidfhnojcaa.K
namespace Go.Proofs.Ytdadiidfhnojcaa
open Go
set_option maxRecDepth 100000
end Go.Proofs.Ytdadiidfhnojcaa
namespace Go.Proofs.Ytdadiidfhnojcaa.K
open Go Go.Kx
set_option linter.unusedVariables false
set_option linter.unusedSimpArgs false
set_option maxRecDepth 20000
theorem xrem (P : Program) (t : TypeId) (k : IntKind) {a b : Int} (h : H) (hb : b ≠ 0) : xbin P .rem t (.int k a) (.int k b) h = .ok (.int k (a.tmod b)) h := by simp [xbin,flat,binOp,Op.intDiv,hb,prun,xflat,pure,Sem.pure]
theorem eWhole (n : Int) {lo hi : Int} (h1 : 0 ≤ lo) (h2 : lo ≤ hi) (h3 : hi ≤ 2000000000) : ∃ r : Nat,lo ≤ (r : Int) ∧ (r : Int) ≤ hi ∧ ∀ h,CLM (.f 20) [.int .i64 n,.int .i64 lo,.int .i64 hi] h = .ok (.int .i64 (r : Nat)) h := by
  have hd : 0 < hi - lo + 1 := by omega
  have b1 := Int.tmod_lt_of_pos n hd
  have b2 : -(hi - lo + 1) < n.tmod (hi - lo + 1) := Int.lt_tmod_of_pos n hd
  obtain ⟨m,hm⟩ : ∃ m,m = n.tmod (hi - lo + 1) := ⟨_,rfl⟩
  rw [← hm] at b1 b2
  have e : ∀ h,CLM (.f 20) [.int .i64 n,.int .i64 lo,.int .i64 hi] h = if m < 0 then .ok (.int .i64 (lo + (m + hi - lo + 1))) h else .ok (.int .i64 (lo + m)) h := by
    intro h
    rw [cM20,F20.eq,xsub,go_ok,wrap64 (by omega),xadd,go_ok,wrap64 (by omega),xrem _ _ _ _ (by omega),go_ok,← hm,xlss,go_ok,ifV_dec]
    split
    · rw [xadd,go_ok,wrap64 (by omega),xsub,go_ok,wrap64 (by omega),xadd,go_ok,wrap64 (by omega),xadd,go_ok,wrap64 (by omega)]
    · rw [xadd,go_ok,wrap64 (by omega)]
  by_cases hz : m < 0
  · refine ⟨(lo + (m + hi - lo + 1)).toNat,by omega,by omega,fun h => ?_⟩
    rw [e,if_pos hz,show (((lo + (m + hi - lo + 1)).toNat : Nat) : Int) = lo + (m + hi - lo + 1) by omega]
  · refine ⟨(lo + m).toNat,by omega,by omega,fun h => ?_⟩
    rw [e,if_neg hz,show (((lo + m).toNat : Nat) : Int) = lo + m by omega]
theorem nodup_at {l : List Nat} : l.Nodup ↔ ∀ (i j x : Nat),l[i]? = some x → l[j]? = some x → i = j := by
  rw [List.Nodup,List.pairwise_iff_getElem]
  constructor
  · intro h i j x hi hj
    obtain ⟨i1,i2⟩ := List.getElem?_eq_some_iff.1 hi
    obtain ⟨j1,j2⟩ := List.getElem?_eq_some_iff.1 hj
    rcases Nat.lt_trichotomy i j with q | q | q
    · exact absurd (i2.trans j2.symm) (h i j i1 j1 q)
    · exact q
    · exact absurd (j2.trans i2.symm) (h j i j1 i1 q)
  · intro h i j hi hj hlt e
    have := h i j l[i] (List.getElem?_eq_getElem hi) (by rw [e]; exact List.getElem?_eq_getElem hj)
    omega
theorem swap_at {α : Type} {l : List α} {i k : Nat} {x y : α} (hi : l[i]? = some x) (hk : l[k]? = some y) (a : Nat) : ((l.set i y).set k x)[a]? = l[if a = k then i else if a = i then k else a]? := by
  have li := (List.getElem?_eq_some_iff.1 hi).1
  have lk := (List.getElem?_eq_some_iff.1 hk).1
  by_cases h1 : a = k
  · subst h1
    rw [if_pos rfl,List.getElem?_set_self (by rw [List.length_set]; exact lk),hi]
  · rw [if_neg h1,List.getElem?_set_ne (fun z => h1 z.symm)]
    by_cases h2 : a = i
    · subst h2
      rw [if_pos rfl,List.getElem?_set_self li,hk]
    · rw [if_neg h2,List.getElem?_set_ne (fun z => h2 z.symm)]
theorem swap_nodup {l : List (Nat × Nat)} {i k : Nat} {x y : Nat × Nat} (hi : l[i]? = some x) (hk : l[k]? = some y) (f : Nat × Nat → Nat) (d : (l.map f).Nodup) : (((l.set i y).set k x).map f).Nodup := by
  rw [nodup_at] at *
  intro a b z ha hb
  rw [List.getElem?_map,swap_at hi hk,← List.getElem?_map] at ha hb
  have := d _ _ z ha hb
  split at this <;> split at this <;> (try split at this) <;> (try split at this) <;> omega
theorem LT.ne {h : H} {t : TK} {bi bo bm : Nat} {r : List Value} {rows : List (List Value)} (q : LT h t bi bo r) (m : RB h bm 55 4 false rows) : bi ≠ bm ∧ bo ≠ bm := by
  obtain ⟨_,i,_,o,_⟩ := q
  exact ⟨i.ne m (by decide),o.ne m (by decide)⟩
theorem Lent.set {h h' : H} {v : Value} {bm : Nat} {rows : List (List Value)} {bs : List (Nat × Nat)} {ts : List TK} (Q : Lent h v bm rows bs ts) {i : Nat} {t' : TK} {p : Nat × Nat} {r' : List Value} (hi : i < ts.length) (hp : bs[i]? = some p)
    (u : Upd (fun y => y = bm ∨ y = p.1 ∨ y = p.2) h h') (m : RB h' bm 55 4 false (rows.set i r')) (lt : LT h' t' p.1 p.2 r') : Lent h' v bm (rows.set i r') bs (ts.set i t') := by
  have hl := Q.len
  refine ⟨by rw [List.length_set]; exact Q.v,m,by rw [List.length_set,List.length_set]; exact hl,by rw [List.length_set]; exact Q.bl,fun j t hj => ?_,fun j h1 h2 => ?_,Q.d1,Q.d2⟩
  · by_cases e : j = i
    · subst e
      rw [List.getElem?_set_self hi] at hj
      cases hj
      exact ⟨p,r',hp,List.getElem?_set_self (by omega),lt⟩
    · rw [List.getElem?_set_ne (fun z => e z.symm)] at hj
      obtain ⟨q,r,a,b,c⟩ := Q.t j t hj
      have c' := c.ne Q.m
      obtain ⟨p0,r0,a0,b0,c0⟩ := Q.t i _ (List.getElem?_eq_getElem hi)
      rw [hp] at a0; cases a0
      refine ⟨q,r,a,by rw [List.getElem?_set_ne (fun z => e z.symm)]; exact b,c.upd u (fun z => ?_) (fun z => ?_)⟩
      · rcases z with z | z | z
        · exact c'.1 z
        · exact e (nodup_at.1 Q.d1 j i q.1 (by rw [List.getElem?_map,a]; rfl) (by rw [List.getElem?_map,hp,z]; rfl))
        · obtain ⟨_,ci,_⟩ := c
          obtain ⟨_,_,_,co,_⟩ := c0
          exact ci.ne co (by decide) z
      · rcases z with z | z | z
        · exact c'.2 z
        · obtain ⟨_,_,_,co,_⟩ := c
          obtain ⟨_,ci,_⟩ := c0
          exact ci.ne co (by decide) z.symm
        · exact e (nodup_at.1 Q.d2 j i q.2 (by rw [List.getElem?_map,a]; rfl) (by rw [List.getElem?_map,hp,z]; rfl))
  · rw [List.length_set] at h1 h2
    rw [List.getElem?_set_ne (by omega)]
    exact Q.r j h1 h2
theorem Lent.swap {h h' : H} {v : Value} {bm : Nat} {rows : List (List Value)} {bs : List (Nat × Nat)} {ts : List TK} (Q : Lent h v bm rows bs ts) {i k : Nat} {ti tk : TK} {pi pk : Nat × Nat} {ri rk : List Value} (hi : ts[i]? = some ti) (hk : ts[k]? = some tk) (pi' : bs[i]? = some pi) (pk' : bs[k]? = some pk)
    (ri' : rows[i]? = some ri) (rk' : rows[k]? = some rk) (u : Upd (fun y => y = bm) h h') (m : RB h' bm 55 4 false ((rows.set i rk).set k ri)) : Lent h' v bm ((rows.set i rk).set k ri) ((bs.set i pk).set k pi) ((ts.set i tk).set k ti) := by
  have hl := Q.len
  have li := (List.getElem?_eq_some_iff.1 hi).1
  have lk := (List.getElem?_eq_some_iff.1 hk).1
  refine ⟨by simp only [List.length_set]; exact Q.v,m,by simp only [List.length_set]; exact hl,by simp only [List.length_set]; exact Q.bl,fun j t hj => ?_,fun j h1 h2 => ?_,swap_nodup pi' pk' _ Q.d1,swap_nodup pi' pk' _ Q.d2⟩
  · rw [swap_at hi hk] at hj
    obtain ⟨q,r,a,b,c⟩ := Q.t _ t hj
    have c' := c.ne Q.m
    exact ⟨q,r,by rw [swap_at pi' pk']; exact a,by rw [swap_at ri' rk']; exact b,c.upd u c'.1 c'.2⟩
  · simp only [List.length_set] at h1 h2
    rw [List.getElem?_set_ne (by omega),List.getElem?_set_ne (by omega)]
    exact Q.r j h1 h2
end Go.Proofs.Ytdadiidfhnojcaa.K
namespace Go.Proofs.Ytdadiidfhnojcaa.K
open Go Go.Kx
set_option linter.unusedVariables false
set_option linter.unusedSimpArgs false
set_option maxRecDepth 20000
def mk_ (N p : Nat → ByteArray) (q : Nat → List ByteArray) (n : Nat) : List TK := (List.range n).map fun i => ⟨N i,0,q i,[p i]⟩
section
variable {N p : Nat → ByteArray} {q : Nat → List ByteArray} {n : Nat}
theorem mk_len : (mk_ N p q n).length = n := by simp [mk_]
theorem mk_at {i : Nat} (hi : i < n) : (mk_ N p q n)[i]? = some ⟨N i,0,q i,[p i]⟩ := by simp [mk_,hi]
theorem mk_nm {i : Nat} (hi : i < n) : nm (mk_ N p q n) (i : Int) = N i := nm_at (mk_at hi)
theorem mk_nd {i k : Nat} (hi : i < n) : k ∈ nd (mk_ N p q n) i ↔ k < n ∧ p k ∈ q i := by
  rw [nd_mem,mk_len]
  constructor
  · rintro ⟨hk,h⟩
    refine ⟨hk,?_⟩
    unfold need at h
    rw [insAt_eq (mk_at hi),outsAt_eq (mk_at hk)] at h
    simp only [List.any_eq_true,decide_eq_true_eq,List.mem_singleton] at h
    obtain ⟨x,hx,rfl⟩ := h
    exact hx
  · rintro ⟨hk,h⟩
    refine ⟨hk,?_⟩
    unfold need
    rw [insAt_eq (mk_at hi),outsAt_eq (mk_at hk)]
    simp only [List.any_eq_true,decide_eq_true_eq,List.mem_singleton]
    exact ⟨p k,h,rfl⟩
theorem mk_few (hn : n ≤ 3000) (hq : ∀ i,i < n → (q i).length ≤ 2) (hp : ∀ i k,i < n → k < n → p i = p k → i = k) : Few (mk_ N p q n) := by
  refine ⟨by rw [mk_len]; exact hn,fun t ht => ?_,fun t ht => ?_,?_⟩
  · obtain ⟨i,hi,rfl⟩ := List.mem_map.1 ht
    exact Nat.le_trans (hq i (List.mem_range.1 hi)) (by omega)
  · obtain ⟨i,hi,rfl⟩ := List.mem_map.1 ht
    exact (by omega : 1 ≤ 12)
  · have h1 := sumN_le (n := (mk_ N p q n).length) (f := fun _ => 2) (f' := fun k => (nd (mk_ N p q n) k).length) fun k hk => by
      rw [mk_len] at hk
      have hd : ((nd (mk_ N p q n) k).map p).Nodup := by
        refine List.pairwise_map.2 ?_
        refine List.Pairwise.imp_of_mem ?_ (nd_rise (mk_ N p q n) k)
        intro a b ha hb h e
        have := hp a b ((mk_nd hk).1 ha).1 ((mk_nd hk).1 hb).1 e
        omega
      have := List.Nodup.length_le_of_subset hd (l₂ := q k) fun x hx => by
        obtain ⟨a,ha,rfl⟩ := List.mem_map.1 hx
        exact ((mk_nd hk).1 ha).2
      rw [List.length_map] at this
      exact Nat.le_trans this (hq k hk)
    have h2 : ∀ m,sumN m (fun _ => 2) = m * 2 := by
      intro m
      induction m with
      | zero => rfl
      | succ m ih => rw [sumN_succ,ih]; omega
    rw [h2,mk_len] at h1
    rw [mk_len]
    omega
end
theorem lvS_is' {ts : List TK} {L : Nat → Nat} {i v : Nat} (h1 : ∀ j ∈ nd ts i,L j < v) (h2 : v = 0 ∨ ∃ j ∈ nd ts i,v = L j + 1) : v = lvS ts L i := by
  obtain ⟨_,a2,a3⟩ := foldl_max (L := L) (nd ts i) 0
  unfold lvS
  rcases h2 with e | ⟨j,hj,e⟩
  · rcases a3 with z | ⟨k,hk,z⟩
    · omega
    · have := h1 k hk; omega
  · have b1 := a2 j hj
    rcases a3 with z | ⟨k,hk,z⟩
    · omega
    · have := h1 k hk; omega
theorem lev_down {ts : List TK} {L : Nat → Nat} (V : IsLev ts L) {a b : Nat} (p : Path (nd ts) a b) : a < ts.length → L b < L a := by
  induction p with
  | one e => exact fun ha => lv_lt V ha e
  | cons e _ ih => exact fun ha => Nat.lt_trans (ih (nd_lt e)) (lv_lt V ha e)
theorem lev_noc {ts : List TK} {L : Nat → Nat} (V : IsLev ts L) : NoC ts := fun k h => Nat.lt_irrefl _ (lev_down V h (OnC_lt h))
theorem take_range {n k j : Nat} (hk : k ≤ n) : j ∈ (List.range n).take k ↔ j < k := by
  rw [List.take_range,Nat.min_eq_left hk,List.mem_range]
section
variable {N p : Nat → ByteArray} {n : Nat} (hp : ∀ i k,i < n → k < n → p i = p k → i = k)
include hp
def chQ (p : Nat → ByteArray) (r : List ByteArray) (i : Nat) : List ByteArray := if i = 0 then r else [p (i - 1)]
theorem ch_nd {r : List ByteArray} {i k : Nat} (hi : i < n) (h0 : i ≠ 0) : k ∈ nd (mk_ N p (chQ p r) n) i ↔ k + 1 = i := by
  rw [mk_nd hi]
  unfold chQ
  rw [if_neg h0,List.mem_singleton]
  constructor
  · rintro ⟨h1,h2⟩
    have := hp k (i - 1) h1 (by omega) h2
    omega
  · rintro rfl
    exact ⟨by omega,by rw [Nat.add_sub_cancel]⟩
theorem ch_0 {k : Nat} (hi : 0 < n) : k ∈ nd (mk_ N p (chQ p []) n) 0 ↔ False := by
  have _ := hp
  rw [mk_nd hi]
  unfold chQ
  rw [if_pos rfl]
  simp
theorem ch_lev : IsLev (mk_ N p (chQ p []) n) id := fun i hi => by
  rw [mk_len] at hi
  refine lvS_is' (fun j hj => ?_) ?_
  · by_cases h0 : i = 0
    · subst h0; exact ((ch_0 hp hi).1 hj).elim
    · have := (ch_nd hp hi h0).1 hj
      show j < i
      omega
  · by_cases h0 : i = 0
    · exact .inl h0
    · refine .inr ⟨i - 1,(ch_nd hp hi h0).2 (by omega),?_⟩
      show i = i - 1 + 1
      omega
theorem ch_ord : IsOrd (mk_ N p (chQ p []) n) (List.range n) := by
  intro k x hx
  have hk := (List.getElem?_eq_some_iff.1 hx).1
  rw [List.length_range] at hk
  rw [List.getElem?_range hk] at hx
  simp only [Option.some.injEq] at hx
  subst hx
  refine ⟨⟨by rw [mk_len]; exact hk,fun z => ?_,fun j hj => ?_⟩,fun j hj => .inl ?_⟩
  · have := (take_range (Nat.le_of_lt hk)).1 z; omega
  · refine (take_range (Nat.le_of_lt hk)).2 ?_
    by_cases h0 : k = 0
    · subst h0; exact ((ch_0 hp hk).1 hj).elim
    · have := (ch_nd hp hk h0).1 hj; omega
  · obtain ⟨h1,h2,h3⟩ := hj
    rw [mk_len] at h1
    rw [take_range (Nat.le_of_lt hk)] at h2
    by_cases h0 : j = 0
    · omega
    · have := (take_range (Nat.le_of_lt hk)).1 (h3 (j - 1) ((ch_nd hp h1 h0).2 (by omega)))
      omega
theorem ch_levs : IsLevs (mk_ N p (chQ p []) n) id ((List.range n).map fun i => [i]) := by
  refine ⟨ch_lev hp,fun l hl => ?_,fun k l hl i => ?_,fun i hi => ?_,fun l hl => ?_⟩
  · obtain ⟨i,_,rfl⟩ := List.mem_map.1 hl
    exact List.pairwise_singleton _ _
  · have hk := (List.getElem?_eq_some_iff.1 hl).1
    rw [List.length_map,List.length_range] at hk
    rw [List.getElem?_map,List.getElem?_range hk] at hl
    simp only [Option.map_some,Option.some.injEq] at hl
    subst hl
    rw [List.mem_singleton,mk_len]
    constructor
    · rintro rfl; exact ⟨hk,rfl⟩
    · rintro ⟨_,h⟩; exact h
  · rw [mk_len] at hi
    rw [List.length_map,List.length_range]
    exact hi
  · obtain ⟨i,_,rfl⟩ := List.mem_map.1 hl
    simp
theorem rg_0 {k : Nat} (hi : 0 < n) : k ∈ nd (mk_ N p (chQ p [p (n - 1)]) n) 0 ↔ k + 1 = n := by
  rw [mk_nd hi]
  unfold chQ
  rw [if_pos rfl,List.mem_singleton]
  constructor
  · rintro ⟨h1,h2⟩
    have := hp k (n - 1) h1 (by omega) h2
    omega
  · rintro rfl
    exact ⟨by omega,by rw [Nat.add_sub_cancel]⟩
theorem rg_path : ∀ k,k + 1 < n → Path (nd (mk_ N p (chQ p [p (n - 1)]) n)) (k + 1) 0
  | 0,h => .one ((ch_nd hp h (by omega)).2 rfl)
  | k + 1,h => .cons ((ch_nd hp h (by omega)).2 rfl) (rg_path k (by omega))
theorem rg_on (h0 : 0 < n) : OnC (nd (mk_ N p (chQ p [p (n - 1)]) n)) 0 := by
  by_cases h1 : n = 1
  · exact .one ((rg_0 hp h0).2 (by omega))
  · obtain ⟨k,rfl⟩ : ∃ k,n = k + 2 := ⟨n - 2,by omega⟩
    exact .cons ((rg_0 hp h0).2 rfl) (rg_path hp k (by omega))
theorem rg_min (h0 : 0 < n) (hN : ∀ i,i < n → sLt (N i) (N 0) = false) : CycMin (mk_ N p (chQ p [p (n - 1)]) n) 0 := by
  refine ⟨by rw [mk_len]; exact h0,rg_on hp h0,fun j hj => ?_⟩
  have hjl := OnC_lt hj
  rw [mk_len] at hjl
  unfold aLt
  rw [mk_nm hjl,mk_nm h0,hN j hjl,Bool.false_or,Bool.and_eq_false_iff]
  exact .inr (decide_eq_false (by omega))
def prQ (p : Nat → ByteArray) (i : Nat) : List ByteArray := if i ≤ 1 then [] else [p (i / 2 * 2 - 2),p (i / 2 * 2 - 1)]
theorem pr_nd {i k : Nat} (hi : i < n) : k ∈ nd (mk_ N p (prQ p) n) i ↔ (k + 2 = i / 2 * 2 ∨ k + 1 = i / 2 * 2) ∧ 1 < i := by
  rw [mk_nd hi]
  unfold prQ
  by_cases h1 : i ≤ 1
  · rw [if_pos h1]
    constructor
    · rintro ⟨_,h⟩; cases h
    · rintro ⟨_,h⟩; omega
  · rw [if_neg h1]
    simp only [List.mem_cons,List.not_mem_nil,or_false]
    constructor
    · rintro ⟨h2,h3 | h3⟩
      · have := hp k _ h2 (by omega) h3; exact ⟨.inl (by omega),by omega⟩
      · have := hp k _ h2 (by omega) h3; exact ⟨.inr (by omega),by omega⟩
    · rintro ⟨h2 | h2,_⟩
      · exact ⟨by omega,.inl (by congr 1; omega)⟩
      · exact ⟨by omega,.inr (by congr 1; omega)⟩
theorem pr_lev : IsLev (mk_ N p (prQ p) n) (· / 2) := fun i hi => by
  rw [mk_len] at hi
  refine lvS_is' (fun j hj => ?_) ?_
  · have := (pr_nd hp hi).1 hj
    show j / 2 < i / 2
    omega
  · by_cases h1 : i ≤ 1
    · refine .inl ?_
      show i / 2 = 0
      omega
    · refine .inr ⟨i / 2 * 2 - 2,(pr_nd hp hi).2 ⟨.inl (by omega),by omega⟩,?_⟩
      show i / 2 = (i / 2 * 2 - 2) / 2 + 1
      omega
variable (hN : ∀ k,k % 2 = 0 → k + 1 < n → sLt (N k) (N (k + 1)) = true)
include hN
theorem pr_ord : IsOrd (mk_ N p (prQ p) n) (List.range n) := by
  intro k x hx
  have hk := (List.getElem?_eq_some_iff.1 hx).1
  rw [List.length_range] at hk
  rw [List.getElem?_range hk] at hx
  simp only [Option.some.injEq] at hx
  subst hx
  refine ⟨⟨by rw [mk_len]; exact hk,fun z => ?_,fun j hj => ?_⟩,fun j hj => ?_⟩
  · have := (take_range (Nat.le_of_lt hk)).1 z; omega
  · refine (take_range (Nat.le_of_lt hk)).2 ?_
    have := (pr_nd hp hk).1 hj
    omega
  · obtain ⟨h1,h2,h3⟩ := hj
    rw [mk_len] at h1
    rw [take_range (Nat.le_of_lt hk)] at h2
    by_cases e : j = k
    · exact .inl e
    · have hj2 : j = k + 1 ∧ k % 2 = 0 := by
        by_cases hj1 : j ≤ 1
        · omega
        · have := (take_range (Nat.le_of_lt hk)).1 (h3 (j / 2 * 2 - 1) ((pr_nd hp h1).2 ⟨.inr (by omega),by omega⟩))
          omega
      obtain ⟨rfl,hk2⟩ := hj2
      refine .inr ?_
      unfold aLt
      rw [mk_nm hk,mk_nm h1,hN k hk2 h1,Bool.true_or]
def prL (n : Nat) : List (List Nat) := (List.range ((n + 1) / 2)).map fun q => if 2 * q + 1 < n then [2 * q,2 * q + 1] else [2 * q]
omit hp hN in
theorem prL_at {q : Nat} (hq : q < (n + 1) / 2) : (prL n)[q]? = some (if 2 * q + 1 < n then [2 * q,2 * q + 1] else [2 * q]) := by
  unfold prL
  rw [List.getElem?_map,List.getElem?_range hq]
  rfl
omit hp hN in
theorem prL_len : (prL n).length = (n + 1) / 2 := by unfold prL; rw [List.length_map,List.length_range]
theorem pr_levs : IsLevs (mk_ N p (prQ p) n) (· / 2) (prL n) := by
  refine ⟨pr_lev hp,fun l hl => ?_,fun k l hl i => ?_,fun i hi => ?_,fun l hl => ?_⟩
  · obtain ⟨q,_,rfl⟩ := List.mem_map.1 hl
    split
    · rename_i h
      refine List.pairwise_pair.2 ?_
      unfold aLt
      rw [mk_nm (by omega),mk_nm h,hN (2 * q) (by omega) h,Bool.true_or]
    · exact List.pairwise_singleton _ _
  · have hk := (List.getElem?_eq_some_iff.1 hl).1
    rw [prL_len] at hk
    rw [prL_at hk] at hl
    simp only [Option.some.injEq] at hl
    subst hl
    rw [mk_len]
    split
    · simp only [List.mem_cons,List.not_mem_nil,or_false]
      constructor
      · rintro (rfl | rfl)
        · exact ⟨by omega,by show 2 * k / 2 = k; omega⟩
        · exact ⟨by omega,by show (2 * k + 1) / 2 = k; omega⟩
      · rintro ⟨h1,h2⟩
        have h2 : i / 2 = k := h2
        omega
    · rw [List.mem_singleton]
      constructor
      · rintro rfl
        exact ⟨by omega,by show 2 * k / 2 = k; omega⟩
      · rintro ⟨h1,h2⟩
        have h2 : i / 2 = k := h2
        omega
  · rw [mk_len] at hi
    rw [prL_len]
    show i / 2 < _
    omega
  · obtain ⟨q,_,rfl⟩ := List.mem_map.1 hl
    split <;> simp
end
end Go.Proofs.Ytdadiidfhnojcaa.K
namespace Go.Proofs.Ytdadiidfhnojcaa.K
open Go Go.Kx
set_option linter.unusedVariables false
set_option linter.unusedSimpArgs false
set_option maxRecDepth 20000
def u8 (n : Nat) : UInt8 := UInt8.ofNat n
theorem u8_nat {n : Nat} (h : n < 256) : (u8 n).toNat = n := by unfold u8; rw [UInt8.toNat_ofNat',Nat.mod_eq_of_lt h]
theorem u8_inj {n m : Nat} (hn : n < 256) (hm : m < 256) (h : u8 n = u8 m) : n = m := by rw [← u8_nat hn,← u8_nat hm,h]
def g4 (i : Nat) : ByteArray := ⟨#[u8 (97 + i / 676 % 26),u8 (97 + i / 26 % 26),u8 (97 + i % 26),u8 (97 + i / 17576)]⟩
def g3 (i : Nat) : ByteArray := ⟨#[u8 (97 + i / 676 % 26),u8 (97 + i / 26 % 26),u8 (97 + i % 26)]⟩
def oh (b : ByteArray) : ByteArray := ⟨#[111]⟩ ++ b
theorem oh_inj {a b : ByteArray} (h : oh a = oh b) : a = b := by
  have h1 := congrArg (fun x => x.data.toList) h
  unfold oh at h1
  simp only [ByteArray.data_append,Array.toList_append] at h1
  have h2 := List.append_cancel_left h1
  exact toList_inj (by rw [Go.Lib.toList_data,Go.Lib.toList_data,h2])
theorem g4_inj {i k : Nat} (hi : i < 3000) (hk : k < 3000) (h : g4 i = g4 k) : i = k := by
  unfold g4 at h
  simp only [ByteArray.mk.injEq,Array.mk.injEq,List.cons.injEq,and_true] at h
  have h1 := u8_inj (by omega) (by omega) h.1
  have h2 := u8_inj (by omega) (by omega) h.2.1
  have h3 := u8_inj (by omega) (by omega) h.2.2.1
  omega
theorem g3_inj {i k : Nat} (hi : i < 3000) (hk : k < 3000) (h : g3 i = g3 k) : i = k := by
  unfold g3 at h
  simp only [ByteArray.mk.injEq,Array.mk.injEq,List.cons.injEq,and_true] at h
  have h1 := u8_inj (by omega) (by omega) h.1
  have h2 := u8_inj (by omega) (by omega) h.2.1
  have h3 := u8_inj (by omega) (by omega) h.2.2
  omega
theorem g4_min (i : Nat) (hi : i < 3000) : sLt (g4 i) (g4 0) = false := by
  rw [sLt_iff,decide_eq_false_iff_not,Go.Lib.toList_data,Go.Lib.toList_data]
  unfold g4
  simp only [List.cons_lt_cons_iff,List.not_lt_nil,and_false,or_false,UInt8.lt_iff_toNat_lt]
  rw [u8_nat (by omega),u8_nat (by omega),u8_nat (by omega),u8_nat (by omega),u8_nat (by omega)]
  rintro (h | ⟨_,h | ⟨_,h | ⟨_,h⟩⟩⟩) <;> omega
theorem g3_next (i : Nat) (hi : i + 1 < 3000) (h2 : i % 2 = 0) : sLt (g3 i) (g3 (i + 1)) = true := by
  rw [sLt_iff,decide_eq_true_iff,Go.Lib.toList_data,Go.Lib.toList_data]
  unfold g3
  simp only [List.cons_lt_cons_iff,List.not_lt_nil,and_false,or_false,UInt8.lt_iff_toNat_lt]
  have e1 : (i + 1) / 676 % 26 = i / 676 % 26 := by omega
  have e2 : (i + 1) / 26 % 26 = i / 26 % 26 := by omega
  refine .inr ⟨by rw [e1],.inr ⟨by rw [e2],?_⟩⟩
  rw [u8_nat (by omega),u8_nat (by omega)]
  omega
theorem xquo (P : Program) (t : TypeId) (k : IntKind) {a b : Int} (h : H) (hb : b ≠ 0) : xbin P .quo t (.int k a) (.int k b) h = .ok (.int k (k.wrap (a.tdiv b))) h := by simp [xbin,flat,binOp,Op.intDiv,hb,prun,xflat,pure,Sem.pure]
theorem xquoN (t : TypeId) (a b : Nat) (h : H) (ha : a ≤ 100000) (hb : b ≠ 0) : xbin Try.prog .quo t (.int .i64 (a : Nat)) (.int .i64 (b : Nat)) h = .ok (.int .i64 ((a / b : Nat) : Int)) h := by
  rw [xquo _ _ _ _ (by omega),← Int.ofNat_tdiv]
  have hc := Nat.div_le_self a b
  obtain ⟨c,ec⟩ : ∃ c,c = a / b := ⟨_,rfl⟩
  rw [← ec] at hc ⊢
  rw [wrap64 (by omega)]
theorem xremN (t : TypeId) (a b : Nat) (h : H) (hb : b ≠ 0) : xbin Try.prog .rem t (.int .i64 (a : Nat)) (.int .i64 (b : Nat)) h = .ok (.int .i64 ((a % b : Nat) : Int)) h := by
  rw [xrem _ _ _ _ (by omega),← Int.ofNat_tmod]
theorem xaddN (t : TypeId) (a b : Nat) (h : H) (hab : a + b ≤ 1000000) : xbin Try.prog .add t (.int .i64 (a : Nat)) (.int .i64 (b : Nat)) h = .ok (.int .i64 ((a + b : Nat) : Int)) h := by
  rw [xadd,wrap64 (by omega)]
  congr 2
theorem cvN (n : Nat) (h : H) (hn : n < 256) : xconvert Try.prog 3 5 (.int .i64 (n : Nat)) h = .ok (.int .u8 (n : Nat)) h := by
  rw [cv3_5,IntWalk.u8_in _ (by omega)]
theorem ofB_cons (n : Nat) (hn : n < 256) (l : List Value) : ofBytes? (.int .u8 ((n : Nat) : Int) :: l) = (ofBytes? l).map (u8 n :: ·) := by
  show (bif Nat.blt n 256 then (ofBytes? l).map (UInt8.ofNat n :: ·) else none) = _
  have : Nat.blt n 256 = true := by
    unfold Nat.blt
    exact Nat.ble_eq_true_of_le hn
  rw [this]
  rfl
theorem cvStr {h : H} {b n cap : Nat} {c : List Value} {l : List UInt8} {op : Bool} {f : Nat} (hg : h.get b = some (.cells c 5 f op)) (hl : c.length = n) (hb : ofBytes? c = some l) : xconvert Try.prog 58 9 (.slice (some ⟨b,0,none⟩) n cap) h = .ok (.string ⟨⟨l⟩⟩) h := by
  unfold xconvert
  simp only [un58,show Try.prog.underlying 9 = some .string by kernel_rfl,show Try.prog.underlying 5 = some (.int .u8) by kernel_rfl,H.row_all hg hl,Option.bind_some,hb]
theorem xsapp (t : TypeId) {a b : ByteArray} (h : H) (hs : a.size + b.size ≤ 1000) : xbin Try.prog .add t (.string a) (.string b) h = .ok (.string (a ++ b)) h := by
  have hm : ¬ (((a.size + b.size : Nat) : Int) > IntKind.i64.max) := by
    have : IntKind.i64.max = 9223372036854775807 := by decide
    rw [this]; omega
  have e : Op.stringOp .add a b = (pure (.string (a ++ b)) : Sem Value) := by
    unfold Op.stringOp
    simp only [if_neg hm]
  have e2 : binOp .add t (.string a) (.string b) = (pure (.string (a ++ b)) : Sem Value) := by
    rw [← e]; rfl
  simp [xbin,flat,e2,prun,xflat,pure,Sem.pure]
theorem bS2 (s t : ByteArray) (h : H) : xbuildSlice Try.prog 52 2 [(0,.string s),(1,.string t)] h = .ok (.slice (some ⟨h.next,0,none⟩) 2 2) (h.alloc (.cells [.string s,.string t] 9 0 false)) := by kernel_rfl
noncomputable def oc (s : ByteArray) : List Value := .string s :: zc63.drop 1
def GT (h : H) (nme pth : ByteArray) (ins : List ByteArray) (r : List Value) : Prop := ∃ vi bo,r = tr nme vi (sv bo 1) ∧ h.get bo = some (.cells (oc pth) 63 0 false) ∧ ((vi = .slice none 0 0 ∧ ins = []) ∨ ∃ bi,vi = sv bi ins.length ∧ h.get bi = some (.cells (ins.map fun s => .string s) 9 0 false))
theorem GT.good {h : H} {nme pth : ByteArray} {ins : List ByteArray} {r : List Value} (q : GT h nme pth ins r) : r.length = 4 ∧ ones r = true := by
  obtain ⟨vi,bo,rfl,_,z⟩ := q
  refine tr_good ?_ rfl
  rcases z with ⟨rfl,_⟩ | ⟨bi,rfl,_⟩ <;> rfl
theorem GT.upd {S : Nat → Prop} {h h' : H} (u : Upd S h h') {nme pth : ByteArray} {ins : List ByteArray} {r : List Value} (q : GT h nme pth ins r) (hS : ∀ b c el op,h.get b = some (.cells c el 0 op) → el ≠ 55 → ¬ S b) : GT h' nme pth ins r := by
  obtain ⟨vi,bo,e,ho,z⟩ := q
  refine ⟨vi,bo,e,u.old _ _ (hS _ _ _ _ ho (by decide)) ho,z.imp id ?_⟩
  rintro ⟨bi,e1,e2⟩
  exact ⟨bi,e1,u.old _ _ (hS _ _ _ _ e2 (by decide)) e2⟩
theorem GT.grow {h h' : H} (g : Grow h h') {nme pth : ByteArray} {ins : List ByteArray} {r : List Value} (q : GT h nme pth ins r) : GT h' nme pth ins r := q.upd (g.upd fun _ => False) fun _ _ _ _ _ _ => id
theorem GT.taskR {h : H} {nme pth : ByteArray} {ins : List ByteArray} {r : List Value} (q : GT h nme pth ins r) : TaskR h ⟨nme,0,ins,[pth]⟩ r := by
  obtain ⟨vi,bo,rfl,ho,z⟩ := q
  refine ⟨vi,sv bo 1,rfl,?_,oneOut ho⟩
  rcases z with ⟨rfl,rfl⟩ | ⟨bi,rfl,e2⟩
  · exact nilStr _
  · exact someStr e2
structure GL (h0 h : H) (N p : Nat → ByteArray) (q : Nat → List ByteArray) (i : Nat) (v : Value) (br : Option Nat) (rows : List (List Value)) : Prop where
  g : Grow h0 h
  l : Lst 55 4 h v br rows
  gd : GoodR 4 rows
  n : rows.length = i
  f : ∀ b,br = some b → h0.next ≤ b
  t : ∀ k,k < i → ∃ r,rows[k]? = some r ∧ GT h (N k) (p k) (q k) r
theorem GL.nil (h : H) (N p : Nat → ByteArray) (q : Nat → List ByteArray) : GL h h N p q 0 (.slice none 0 0) none [] := ⟨Grow.refl h,Lst.nil,GoodR.nil,rfl,(fun b z => by cases z),fun k hk => absurd hk (Nat.not_lt_zero k)⟩
theorem GL.grow {h0 h h' : H} {N p : Nat → ByteArray} {q : Nat → List ByteArray} {i : Nat} {v : Value} {br : Option Nat} {rows : List (List Value)} (L : GL h0 h N p q i v br rows) (g : Grow h h') : GL h0 h' N p q i v br rows :=
  ⟨L.g.trans g,L.l.upd (g.upd fun _ => False) fun _ _ => id,L.gd,L.n,L.f,fun k hk => by obtain ⟨r,a,b⟩ := L.t k hk; exact ⟨r,a,b.grow g⟩⟩
theorem GL.tasks {h0 h : H} {N p : Nat → ByteArray} {q : Nat → List ByteArray} {n : Nat} {v : Value} {br : Option Nat} {rows : List (List Value)} (L : GL h0 h N p q n v br rows) : Tasks h v (mk_ N p q n) := by
  refine ⟨rows,Lst.sl L.l L.gd,by rw [L.n,mk_len],fun i t ht => ?_⟩
  have hi := (List.getElem?_eq_some_iff.1 ht).1
  rw [mk_len] at hi
  rw [mk_at hi] at ht
  cases ht
  obtain ⟨r,a,b⟩ := L.t i hi
  exact ⟨r,a,b.taskR⟩
theorem Lst.notS {h : H} {v : Value} {br : Option Nat} {rows : List (List Value)} (l : Lst 55 4 h v br rows) {b : Nat} {c : List Value} {el : TypeId} {op : Bool} (hg : h.get b = some (.cells c el 0 op)) (he : el ≠ 55) : ¬ some b = br := by
  intro z
  rcases l with ⟨e,_⟩ | ⟨b',sp,cap,e,_,hg',_⟩
  · rw [e] at z; cases z
  · rw [e] at z; cases z
    rw [hg] at hg'
    simp only [Option.some.injEq,Blk.cells.injEq] at hg'
    exact he hg'.2.1
theorem gr_new (nme : ByteArray) (hs : nme.size ≤ 100) (h : H) : ∃ h' bx bo,Grow h h' ∧ h.next ≤ bx ∧ h'.get bo = some (.cells (oc (oh nme)) 63 0 false) ∧ h'.get bx = some (.cells (tr nme (.slice none 0 0) (sv bo 1)) 55 0 false) ∧
    ∀ K : Value → H → Res Value,((xbin Try.prog .add 9 (.string ⟨#[111]⟩) (.string nme) h).go .pan fun t21 h => (xbuild Try.prog 63 [(0,t21)] h).go .pan fun t22 h => (xbuildSlice Try.prog 53 1 [(0,t22)] h).go .pan fun t23 h => (xbuild Try.prog 55 [(0,.string nme),(3,t23)] h).go .pan fun t24 h => (xalloc Try.prog 55 h).go .pan fun t25 h => (xstore Try.prog 55 t25 t24 h).go .pan fun t26 h => K t25 h) = K (.pointer (some ⟨bx,0,none⟩)) h' := by
  obtain ⟨h1,e1⟩ : ∃ h1,h1 = h.alloc (.cells (oc (oh nme)) 63 0 false) := ⟨_,rfl⟩
  obtain ⟨h2,e2⟩ : ∃ h2,h2 = h1.alloc (.cells zc55 55 0 false) := ⟨_,rfl⟩
  obtain ⟨h3,e3⟩ : ∃ h3,h3 = h2.put h1.next (.cells (tr nme (.slice none 0 0) (sv h.next 1)) 55 0 false) := ⟨_,rfl⟩
  have g1 : Grow h h1 := by rw [e1]; exact (Grow.refl h).alloc _
  have g2 : Grow h1 h2 := by rw [e2]; exact (Grow.refl h1).alloc _
  have b2 : h2.get h1.next = some (.cells zc55 55 0 false) := by rw [e2]; exact H.alloc_self _ _
  have g3 : Grow h1 h3 := by rw [e3]; exact g2.put (Nat.le_refl _) (H.get_lt b2) _
  have b1 : h1.get h.next = some (.cells (oc (oh nme)) 63 0 false) := by rw [e1]; exact H.alloc_self _ _
  have hgood := tr_good (n := nme) (i := .slice none 0 0) (o := sv h.next 1) rfl rfl
  have w3 : h2.write ⟨h1.next,0,none⟩ (tr nme (.slice none 0 0) (sv h.next 1)) = some h3 := by rw [e3]; exact H.write_all b2 (by rw [hgood.1]; rfl) hgood.2
  refine ⟨h3,h1.next,h.next,g1.trans g3,g1.next,g3.old _ _ b1,by rw [e3]; exact H.put_self b2,fun K => ?_⟩
  rw [xsapp _ _ (by show 1 + nme.size ≤ 1000; omega),go_ok,bOut,go_ok,bOuts,go_ok]
  show ((xbuild Try.prog 55 [(0,.string nme),(3,.slice (some ⟨h.next,0,none⟩) 1 1)] (h.alloc (.cells (oc (oh nme)) 63 0 false))).go .pan _) = _
  rw [← e1,bTo,go_ok,al55,go_ok,← e2,st55 _ _ _ rfl,cells_agg]
  have w3' : h2.write ⟨h1.next,0,none⟩ [.string nme,.int .i64 0,.slice none 0 0,.slice (some ⟨h.next,0,none⟩) 1 1] = some h3 := w3
  rw [w3',ofU_some,go_ok]
theorem gr_push {h0 h : H} {N p : Nat → ByteArray} {q : Nat → List ByteArray} {i : Nat} {v : Value} {br : Option Nat} {rows : List (List Value)} (L : GL h0 h N p q i v br rows) (few : i < 100000) {bx : Nat} {vi : Value} {bo : Nat} (hb : h.get bx = some (.cells (tr (N i) vi (sv bo 1)) 55 0 false)) (G : GT h (N i) (p i) (q i) (tr (N i) vi (sv bo 1))) :
    ∃ h' v' br' rows',GL h0 h' N p q (i + 1) v' br' rows' ∧ ∀ K : Value → H → Res Value,((xload Try.prog 55 (.pointer (some ⟨bx,0,none⟩)) h).go .pan fun t64 h => (xbuildSlice Try.prog 22 1 [(0,t64)] h).go .pan fun t65 h => (xbuiltin Try.prog .append [22,22] [v,t65] h).go .pan K) = K v' h' := by
  have gg := G.good
  have eb : xbuildSlice Try.prog 22 1 [(0,.agg ⟨tr (N i) vi (sv bo 1)⟩)] h = .ok (.slice (some ⟨h.next,0,none⟩) 1 1) (h.alloc (.cells (tr (N i) vi (sv bo 1)) 55 0 false)) := by kernel_rfl
  obtain ⟨h1,e1⟩ : ∃ h1,h1 = h.alloc (.cells (tr (N i) vi (sv bo 1)) 55 0 false) := ⟨_,rfl⟩
  have g1 : Grow h h1 := by rw [e1]; exact (Grow.refl h).alloc _
  have b1 : h1.get h.next = some (.cells (tr (N i) vi (sv bo 1)) 55 0 false) := by rw [e1]; exact H.alloc_self _ _
  have L1 := L.grow g1
  obtain ⟨v2,br2,h2,e2,u2,l2,nb2⟩ := lst_push TT L1.l L1.gd (by rw [L1.n]; omega) b1 gg.1 gg.2
  have G2 : Grow h0 h2 := grow_then L1.g u2 fun b hb => L1.f b hb.symm
  refine ⟨h2,v2,br2,_,⟨G2,l2,L1.gd.append (GoodR.one gg.1 gg.2),by rw [List.length_append,L1.n,List.length_singleton],fun b hb => ?_,fun k hk => ?_⟩,fun K => ?_⟩
  · rcases nb2 with z | ⟨b',z,z2⟩
    · exact L1.f b (z ▸ hb)
    · rw [z] at hb; cases hb; exact Nat.le_trans L1.g.next z2
  · by_cases e : k = i
    · subst e
      exact ⟨_,by rw [← L1.n,List.getElem?_append_right (Nat.le_refl _),Nat.sub_self]; rfl,(G.grow g1).upd u2 fun b c el op hg he => Lst.notS L1.l hg he⟩
    · obtain ⟨r,a,b⟩ := L1.t k (by omega)
      exact ⟨r,by rw [List.getElem?_append_left (by rw [L1.n]; omega)]; exact a,b.upd u2 fun b c el op hg he => Lst.notS L1.l hg he⟩
  · rw [ld55,H.row_all hb gg.1,ofA_some,go_ok]
    refine (congrArg (fun z => Res.go z .pan _) eb).trans ?_
    rw [← e1,go_ok,e2,go_ok]
theorem GL.out {h0 h : H} {N p : Nat → ByteArray} {q : Nat → List ByteArray} {i : Nat} {v : Value} {br : Option Nat} {rows : List (List Value)} (L : GL h0 h N p q i v br rows) {k : Nat} (hk : k < i) :
    ∃ b bo,(∀ h',xindexAddr Try.prog 22 v (.int .i64 (k : Nat)) h' = .ok (.pointer (some ⟨b,k * 4,none⟩)) h') ∧ xload Try.prog 53 (.pointer (some ⟨b,k * 4 + 3,none⟩)) h = .ok (sv bo 1) h ∧
      (∀ h',xindexAddr Try.prog 53 (sv bo 1) (.int .i64 0) h' = .ok (.pointer (some ⟨bo,0,none⟩)) h') ∧ xload Try.prog 9 (.pointer (some ⟨bo,0,none⟩)) h = .ok (.string (p k)) h := by
  obtain ⟨r,hr,vi,bo,rfl,ho,_⟩ := L.t k hk
  have hl := L.n
  rcases L.l with ⟨_,_,e⟩ | ⟨b,sp,cap,_,rfl,hg,_⟩
  · rw [e] at hr; cases hr
  · have row : Row h b (k * 4) (tr (N k) vi (sv bo 1)) := by
      have R : Row h b 0 (rows.flatten ++ sp) := ⟨_,_,_,_,hg,by omega,by rw [List.drop_zero,List.take_length]⟩
      have hf := flat_len L.gd
      have h1 := Nat.mul_le_mul_right 4 (show k + 1 ≤ rows.length by omega)
      rw [Nat.add_mul,Nat.one_mul] at h1
      have := R.sub (k := k * 4) (m := 4) (by rw [List.length_append]; omega)
      rw [flat_at L.gd hr sp,Nat.zero_add] at this
      exact this
    refine ⟨b,bo,fun h' => ?_,?_,fun h' => ?_,?_⟩
    · have := ia22 b 0 rows.length cap k none .i64 h' (by omega)
      rwa [Nat.zero_add] at this
    · rw [ld53,row.cell (j := 3) rfl,ofO_some]
    · exact ia53 bo 0 1 1 0 none .i64 h' (by omega)
    · rw [ld9,H.cell_eq ho]
      rfl
end Go.Proofs.Ytdadiidfhnojcaa.K
namespace Go.Proofs.Ytdadiidfhnojcaa.K
open Go Go.Kx
set_option linter.unusedVariables false
set_option linter.unusedSimpArgs false
set_option maxRecDepth 20000
theorem bB4 (a b c d : Int) (h : H) : xbuildSlice Try.prog 58 4 [(0,.int .u8 a),(1,.int .u8 b),(2,.int .u8 c),(3,.int .u8 d)] h = .ok (.slice (some ⟨h.next,0,none⟩) 4 4) (h.alloc (.cells [.int .u8 a,.int .u8 b,.int .u8 c,.int .u8 d] 5 0 false)) := by kernel_rfl
theorem bB3 (a b c : Int) (h : H) : xbuildSlice Try.prog 58 3 [(0,.int .u8 a),(1,.int .u8 b),(2,.int .u8 c)] h = .ok (.slice (some ⟨h.next,0,none⟩) 3 3) (h.alloc (.cells [.int .u8 a,.int .u8 b,.int .u8 c] 5 0 false)) := by kernel_rfl
theorem gr_name4 (i : Nat) (hi : i < 3000) (h : H) : ∃ h',Grow h h' ∧ ∀ K : Value → H → Res Value,
    ((xbuildSlice Try.prog 58 4 [(0,.int .u8 ((97 + i / 676 % 26 : Nat) : Int)),(1,.int .u8 ((97 + i / 26 % 26 : Nat) : Int)),(2,.int .u8 ((97 + i % 26 : Nat) : Int)),(3,.int .u8 ((97 + i / 17576 : Nat) : Int))] h).go .pan fun t19 h => (xconvert Try.prog 58 9 t19 h).go .pan K) = K (.string (g4 i)) h' := by
  refine ⟨h.alloc (.cells [.int .u8 ((97 + i / 676 % 26 : Nat) : Int),.int .u8 ((97 + i / 26 % 26 : Nat) : Int),.int .u8 ((97 + i % 26 : Nat) : Int),.int .u8 ((97 + i / 17576 : Nat) : Int)] 5 0 false),(Grow.refl h).alloc _,fun K => ?_⟩
  have e := cvStr (n := 4) (cap := 4) (l := [u8 (97 + i / 676 % 26),u8 (97 + i / 26 % 26),u8 (97 + i % 26),u8 (97 + i / 17576)]) (H.alloc_self h (.cells [.int .u8 ((97 + i / 676 % 26 : Nat) : Int),.int .u8 ((97 + i / 26 % 26 : Nat) : Int),.int .u8 ((97 + i % 26 : Nat) : Int),.int .u8 ((97 + i / 17576 : Nat) : Int)] 5 0 false)) rfl (by
    rw [ofB_cons _ (by omega),ofB_cons _ (by omega),ofB_cons _ (by omega),ofB_cons _ (by omega)]; rfl)
  rw [bB4,go_ok,e,go_ok]
  rfl
theorem gr_name3 (i : Nat) (hi : i < 3000) (h : H) : ∃ h',Grow h h' ∧ ∀ K : Value → H → Res Value,
    ((xbuildSlice Try.prog 58 3 [(0,.int .u8 ((97 + i / 676 % 26 : Nat) : Int)),(1,.int .u8 ((97 + i / 26 % 26 : Nat) : Int)),(2,.int .u8 ((97 + i % 26 : Nat) : Int))] h).go .pan fun t19 h => (xconvert Try.prog 58 9 t19 h).go .pan K) = K (.string (g3 i)) h' := by
  refine ⟨h.alloc (.cells [.int .u8 ((97 + i / 676 % 26 : Nat) : Int),.int .u8 ((97 + i / 26 % 26 : Nat) : Int),.int .u8 ((97 + i % 26 : Nat) : Int)] 5 0 false),(Grow.refl h).alloc _,fun K => ?_⟩
  have e := cvStr (n := 3) (cap := 3) (l := [u8 (97 + i / 676 % 26),u8 (97 + i / 26 % 26),u8 (97 + i % 26)]) (H.alloc_self h (.cells [.int .u8 ((97 + i / 676 % 26 : Nat) : Int),.int .u8 ((97 + i / 26 % 26 : Nat) : Int),.int .u8 ((97 + i % 26 : Nat) : Int)] 5 0 false)) rfl (by
    rw [ofB_cons _ (by omega),ofB_cons _ (by omega),ofB_cons _ (by omega)]; rfl)
  rw [bB3,go_ok,e,go_ok]
  rfl
section
variable (i : Nat) (hi : i < 3000) (h : H)
include hi
theorem by_a : xbin Try.prog .quo 3 (.int .i64 (i : Nat)) (.int .i64 676) h = .ok (.int .i64 ((i / 676 : Nat) : Int)) h := xquoN _ i 676 h (by omega) (by omega)
theorem by_b : xbin Try.prog .rem 3 (.int .i64 ((i / 676 : Nat) : Int)) (.int .i64 26) h = .ok (.int .i64 ((i / 676 % 26 : Nat) : Int)) h := by have _ := hi; exact xremN _ _ 26 h (by omega)
theorem by_c : xbin Try.prog .add 3 (.int .i64 97) (.int .i64 ((i / 676 % 26 : Nat) : Int)) h = .ok (.int .i64 ((97 + i / 676 % 26 : Nat) : Int)) h := by have _ := hi; exact xaddN _ 97 _ h (by omega)
theorem by_d : xbin Try.prog .quo 3 (.int .i64 (i : Nat)) (.int .i64 26) h = .ok (.int .i64 ((i / 26 : Nat) : Int)) h := xquoN _ i 26 h (by omega) (by omega)
theorem by_e : xbin Try.prog .rem 3 (.int .i64 ((i / 26 : Nat) : Int)) (.int .i64 26) h = .ok (.int .i64 ((i / 26 % 26 : Nat) : Int)) h := by have _ := hi; exact xremN _ _ 26 h (by omega)
theorem by_f : xbin Try.prog .add 3 (.int .i64 97) (.int .i64 ((i / 26 % 26 : Nat) : Int)) h = .ok (.int .i64 ((97 + i / 26 % 26 : Nat) : Int)) h := by have _ := hi; exact xaddN _ 97 _ h (by omega)
theorem by_g : xbin Try.prog .rem 3 (.int .i64 (i : Nat)) (.int .i64 26) h = .ok (.int .i64 ((i % 26 : Nat) : Int)) h := by have _ := hi; exact xremN _ _ 26 h (by omega)
theorem by_h : xbin Try.prog .add 3 (.int .i64 97) (.int .i64 ((i % 26 : Nat) : Int)) h = .ok (.int .i64 ((97 + i % 26 : Nat) : Int)) h := by have _ := hi; exact xaddN _ 97 _ h (by omega)
theorem by_i : xbin Try.prog .quo 3 (.int .i64 (i : Nat)) (.int .i64 17576) h = .ok (.int .i64 ((i / 17576 : Nat) : Int)) h := xquoN _ i 17576 h (by omega) (by omega)
theorem by_j : xbin Try.prog .add 3 (.int .i64 97) (.int .i64 ((i / 17576 : Nat) : Int)) h = .ok (.int .i64 ((97 + i / 17576 : Nat) : Int)) h := xaddN _ 97 _ h (by omega)
end
def p4 (i : Nat) : ByteArray := oh (g4 i)
theorem p4_inj {n : Nat} (hn : n ≤ 3000) : ∀ i k,i < n → k < n → p4 i = p4 k → i = k := fun i k hi hk h => g4_inj (by omega) (by omega) (oh_inj h)
theorem gr_in {h : H} {bx : Nat} {nme : ByteArray} {bo : Nat} (hb : h.get bx = some (.cells (tr nme (.slice none 0 0) (sv bo 1)) 55 0 false)) (bi n : Nat) :
    ∃ h',xstore Try.prog 52 (.pointer (some ⟨bx,0 + 2,none⟩)) (sv bi n) h = .ok undef h' ∧ Upd (fun y => y = bx) h h' ∧ h'.get bx = some (.cells (tr nme (sv bi n) (sv bo 1)) 55 0 false) := by
  refine ⟨_,?_,(Upd.refl (fun y => y = bx) h).put (.inl rfl) (H.get_lt hb) (.cells (tr nme (sv bi n) (sv bo 1)) 55 0 false),H.put_self hb⟩
  have w := write_cell' (k := 0 + 2) (v := sv bi n) hb (by show 2 < 4; omega) rfl
  rw [st52 _ _ _ rfl]
  show ofU (h.write ⟨bx,0 + 2,none⟩ [sv bi n]) = _
  rw [w]
  rfl
theorem gr_step {h0 h : H} {n i : Nat} {x1 v : Value} {br : Option Nat} {rows : List (List Value)} (hi : i < n) (hn : n ≤ 3000) (L : GL h0 h g4 p4 (chQ p4 []) i v br rows) :
    ∃ h' v' br' rows',GL h0 h' g4 p4 (chQ p4 []) (i + 1) v' br' rows' ∧ F7.l6 Try.prog CLM nu0 nu0 (.int .i64 (n : Nat)) x1 v (.int .i64 (i : Nat)) h = F7.l6 Try.prog CLM nu0 nu0 (.int .i64 (n : Nat)) x1 v' (.int .i64 ((i + 1 : Nat) : Int)) h' := by
  have hi3 : i < 3000 := by omega
  obtain ⟨h1,g1,e1⟩ := gr_name4 i hi3 h
  obtain ⟨h2,bx,bo,g2,hbx,ho,hb,e2⟩ := gr_new (g4 i) (by show 4 ≤ 100; omega) h1
  have G2 := g1.trans g2
  have start : F7.l6 Try.prog CLM nu0 nu0 (.int .i64 (n : Nat)) x1 v (.int .i64 (i : Nat)) h = ((xbin Try.prog .gtr 3 (.int .i64 (i : Nat)) (.int .i64 0) h2).go .pan fun t27 h => ifV t27 ((xbin Try.prog .sub 3 (.int .i64 (i : Nat)) (.int .i64 1) h).go .pan fun t28 h => (xindexAddr Try.prog 22 v t28 h).go .pan fun t29 h => (xfieldAddr Try.prog 55 t29 3 h).go .pan fun t30 h => (xload Try.prog 53 t30 h).go .pan fun t31 h => (xindexAddr Try.prog 53 t31 (.int .i64 0) h).go .pan fun t32 h => (xfieldAddr Try.prog 63 t32 0 h).go .pan fun t33 h => (xload Try.prog 9 t33 h).go .pan fun t34 h => (xbuildSlice Try.prog 52 1 [(0,t34)] h).go .pan fun t35 h => (xfieldAddr Try.prog 55 (.pointer (some ⟨bx,0,none⟩)) 2 h).go .pan fun t36 h => (xstore Try.prog 52 t36 t35 h).go .pan fun t37 h => F7.j12 Try.prog CLM nu0 nu0 (.int .i64 (n : Nat)) x1 v (.int .i64 (i : Nat)) (.pointer (some ⟨bx,0,none⟩)) h) (F7.j12 Try.prog CLM nu0 nu0 (.int .i64 (n : Nat)) x1 v (.int .i64 (i : Nat)) (.pointer (some ⟨bx,0,none⟩)) h)) := by
    rw [F7.l6_eq,xlss,go_ok,ifV_dec,if_pos (by omega),F7.j8_eq,by_a i hi3,go_ok,by_b i hi3,go_ok,by_c i hi3,go_ok,cvN _ _ (by omega),go_ok,by_d i hi3,go_ok,by_e i hi3,go_ok,by_f i hi3,go_ok,cvN _ _ (by omega),go_ok,by_g i hi3,go_ok,by_h i hi3,go_ok,cvN _ _ (by omega),go_ok,by_i i hi3,go_ok,by_j i hi3,go_ok,cvN _ _ (by omega),go_ok]
    refine (e1 _).trans ?_
    exact e2 _
  rw [start,xgtr,go_ok,ifV_dec]
  have push : ∀ {h3 : H} {vi : Value},Grow h h3 → h3.get bx = some (.cells (tr (g4 i) vi (sv bo 1)) 55 0 false) → GT h3 (g4 i) (p4 i) (chQ p4 [] i) (tr (g4 i) vi (sv bo 1)) →
      ∃ h' v' br' rows',GL h0 h' g4 p4 (chQ p4 []) (i + 1) v' br' rows' ∧ F7.j12 Try.prog CLM nu0 nu0 (.int .i64 (n : Nat)) x1 v (.int .i64 (i : Nat)) (.pointer (some ⟨bx,0,none⟩)) h3 = F7.l6 Try.prog CLM nu0 nu0 (.int .i64 (n : Nat)) x1 v' (.int .i64 ((i + 1 : Nat) : Int)) h' := by
    intro h3 vi g3 hb3 G
    obtain ⟨h',v',br',rows',L',e'⟩ := gr_push (L.grow g3) (by omega) hb3 G
    refine ⟨h',v',br',rows',L',?_⟩
    rw [F7.j12_eq]
    refine (e' _).trans ?_
    show ((xbin Try.prog .add 3 (.int .i64 (i : Nat)) (.int .i64 1) h').go .pan _) = _
    rw [xadd,go_ok,wadd1 (by omega)]
  by_cases h0' : i = 0
  · rw [if_neg (by omega)]
    exact push G2 hb ⟨_,_,rfl,ho,.inl ⟨rfl,by unfold chQ; rw [if_pos h0']⟩⟩
  · rw [if_pos (by omega)]
    obtain ⟨k,rfl⟩ : ∃ k,i = k + 1 := ⟨i - 1,by omega⟩
    obtain ⟨b,bk,i1,l1,i2,l2⟩ := (L.grow G2).out (k := k) (by omega)
    obtain ⟨h3,hh3⟩ : ∃ h3,h3 = h2.alloc (.cells [.string (p4 k)] 9 0 false) := ⟨_,rfl⟩
    have g3 : Grow h2 h3 := by rw [hh3]; exact (Grow.refl h2).alloc _
    have b3 : h3.get h2.next = some (.cells [.string (p4 k)] 9 0 false) := by rw [hh3]; exact H.alloc_self _ _
    obtain ⟨h4,e4,u4,b4⟩ := gr_in (g3.old _ _ hb) h2.next 1
    have hlt := H.get_lt hb
    have G4 : Grow h h4 := grow_then (G2.trans g3) u4 fun y hy => by rw [hy]; exact Nat.le_trans g1.next hbx
    have ho4 : h4.get bo = some (.cells (oc (oh (g4 (k + 1)))) 63 0 false) := u4.old _ _ (fun z => by
      subst z
      rw [hb] at ho
      simp only [Option.some.injEq,Blk.cells.injEq] at ho
      exact absurd ho.2.1 (by decide)) (g3.old _ _ ho)
    have hs4 : h4.get h2.next = some (.cells [.string (p4 k)] 9 0 false) := u4.old _ _ (by omega) b3
    obtain ⟨h',v',br',rows',L',e'⟩ := push G4 b4 ⟨_,_,rfl,ho4,.inr ⟨h2.next,by unfold chQ; rw [if_neg (by omega)]; rfl,by unfold chQ; rw [if_neg (by omega)]; exact hs4⟩⟩
    refine ⟨h',v',br',rows',L',?_⟩
    rw [xsub,go_ok,show IntKind.i64.wrap (((k + 1 : Nat) : Int) - 1) = ((k : Nat) : Int) by rw [wrap64 (by omega)]; omega,i1,go_ok,fa55_3,go_ok,l1,go_ok,i2,go_ok,fa63_0,go_ok,l2,go_ok,bS1,go_ok,← hh3,fa55_2,go_ok]
    refine (congrArg (fun z => Res.go z .pan _) e4).trans ?_
    rw [go_ok]
    exact e'
theorem gr_loop {h0 : H} {n : Nat} {x1 : Value} (hn : n ≤ 3000) : ∀ (d i : Nat) {h : H} {v : Value} {br : Option Nat} {rows : List (List Value)},n - i = d → i ≤ n → GL h0 h g4 p4 (chQ p4 []) i v br rows →
    ∃ h' v' br' rows',GL h0 h' g4 p4 (chQ p4 []) n v' br' rows' ∧ F7.l6 Try.prog CLM nu0 nu0 (.int .i64 (n : Nat)) x1 v (.int .i64 (i : Nat)) h = F7.j13 Try.prog CLM nu0 nu0 (.int .i64 (n : Nat)) x1 v' h' := by
  intro d
  induction d with
  | zero =>
    intro i h v br rows hd hi L
    have : i = n := by omega
    subst this
    refine ⟨h,v,br,rows,L,?_⟩
    rw [F7.l6_eq,xlss,go_ok,ifV_dec,if_neg (by omega)]
  | succ d ih =>
    intro i h v br rows hd hi L
    obtain ⟨h1,v1,br1,rows1,L1,e1⟩ := gr_step (x1 := x1) (show i < n by omega) hn L
    obtain ⟨h',v',br',rows',L',e'⟩ := ih (i + 1) (by omega) (by omega) L1
    exact ⟨h',v',br',rows',L',e1.trans e'⟩
theorem gr_ring {h0 h : H} {n : Nat} {v : Value} {br : Option Nat} {rows : List (List Value)} (h1 : 0 < n) (hn : n ≤ 3000) (L : GL h0 h g4 p4 (chQ p4 []) n v br rows) :
    ∃ h' br' rows',GL h0 h' g4 p4 (chQ p4 [p4 (n - 1)]) n v br' rows' ∧ ∀ K : Value → H → Res Value,
      ((xbin Try.prog .sub 3 (.int .i64 (n : Nat)) (.int .i64 1) h).go .pan fun t38 h => (xindexAddr Try.prog 22 v t38 h).go .pan fun t39 h => (xfieldAddr Try.prog 55 t39 3 h).go .pan fun t40 h => (xload Try.prog 53 t40 h).go .pan fun t41 h => (xindexAddr Try.prog 53 t41 (.int .i64 0) h).go .pan fun t42 h => (xfieldAddr Try.prog 63 t42 0 h).go .pan fun t43 h => (xload Try.prog 9 t43 h).go .pan fun t44 h => (xbuildSlice Try.prog 52 1 [(0,t44)] h).go .pan fun t45 h => (xindexAddr Try.prog 22 v (.int .i64 0) h).go .pan fun t46 h => (xfieldAddr Try.prog 55 t46 2 h).go .pan fun t47 h => (xstore Try.prog 52 t47 t45 h).go .pan K) = K undef h' := by
  obtain ⟨b,bk,i1,l1,i2,l2⟩ := L.out (k := n - 1) (by omega)
  obtain ⟨hA,hhA⟩ : ∃ hA,hA = h.alloc (.cells [.string (p4 (n - 1))] 9 0 false) := ⟨_,rfl⟩
  have gA : Grow h hA := by rw [hhA]; exact (Grow.refl h).alloc _
  have bA : hA.get h.next = some (.cells [.string (p4 (n - 1))] 9 0 false) := by rw [hhA]; exact H.alloc_self _ _
  have LA := L.grow gA
  obtain ⟨r0,hr0,G0⟩ := LA.t 0 h1
  have G0' := G0
  obtain ⟨vi,bo,er,ho,_⟩ := G0'
  have hl := LA.n
  have hgood := G0.good
  rcases LA.l with ⟨_,_,e⟩ | ⟨bl,sp,cap,hbr,hv,hg,hcap,hones⟩
  · rw [e] at hr0; cases hr0
  have hne : bl ≠ h.next := fun z => by
    rw [z,bA] at hg
    simp only [Option.some.injEq,Blk.cells.injEq] at hg
    exact absurd hg.2.1 (by decide)
  have hfl := flat_len LA.gd
  obtain ⟨hB,hhB⟩ : ∃ hB,hB = hA.put bl (.cells ((rows.set 0 (r0.set 2 (sv h.next 1))).flatten ++ sp) 55 0 true) := ⟨_,rfl⟩
  have wB : hA.write ⟨bl,0 + 0 * 4 + 2,none⟩ [sv h.next 1] = some hB := by
    have := write_cell' (k := 0 + 0 * 4 + 2) (v := sv h.next 1) hg (by rw [List.length_append,hfl]; omega) rfl
    rw [this,hhB,List.set_append_left _ _ (by rw [hfl]; omega),show 0 + 0 * 4 + 2 = 0 * 4 + 2 from rfl,flatten_set (by omega) rows 0 LA.gd hr0]
  have uB : Upd (fun x => some x = br) hA hB := by rw [hhB]; exact (Upd.refl (fun x => some x = br) hA).put (.inl hbr.symm) (H.get_lt hg) _
  have gB : hB.get bl = some (.cells ((rows.set 0 (r0.set 2 (sv h.next 1))).flatten ++ sp) 55 0 true) := by rw [hhB]; exact H.put_self hg
  have gd' : GoodR 4 (rows.set 0 (r0.set 2 (sv h.next 1))) := LA.gd.set (by rw [List.length_set]; exact hgood.1) (ones_set hgood.2 rfl) 0
  refine ⟨hB,br,rows.set 0 (r0.set 2 (sv h.next 1)),⟨grow_then LA.g uB fun x hx => LA.f x hx.symm,.inr ⟨bl,sp,cap,hbr,by rw [List.length_set]; exact hv,gB,?_,hones⟩,gd',by rw [List.length_set]; exact hl,LA.f,fun k hk => ?_⟩,fun K => ?_⟩
  · rw [List.length_append,flat_len gd',List.length_set,← hcap,List.length_append,hfl]
  · have mv := fun {nme pth : ByteArray} {ins : List ByteArray} {r : List Value} (q : GT hA nme pth ins r) => q.upd uB fun b c el op hg2 he => Lst.notS LA.l hg2 he
    by_cases e : k = 0
    · subst e
      refine ⟨_,List.getElem?_set_self (by omega),sv h.next 1,bo,by rw [er]; rfl,uB.old _ _ (Lst.notS LA.l ho (by decide)) ho,.inr ⟨h.next,rfl,uB.old _ _ (Lst.notS LA.l bA (by decide)) bA⟩⟩
    · obtain ⟨r,a,b⟩ := LA.t k hk
      refine ⟨r,by rw [List.getElem?_set_ne (fun z => e z.symm)]; exact a,?_⟩
      have : chQ p4 [p4 (n - 1)] k = chQ p4 [] k := by unfold chQ; rw [if_neg e,if_neg e]
      rw [this]
      exact mv b
  · have ix0 : xindexAddr Try.prog 22 v (.int .i64 0) hA = .ok (.pointer (some ⟨bl,0 + 0 * 4,none⟩)) hA := by rw [hv]; exact ia22 bl 0 rows.length cap 0 none .i64 hA (by omega)
    have hst : xstore Try.prog 52 (.pointer (some ⟨bl,0 + 0 * 4 + 2,none⟩)) (.slice (some ⟨h.next,0,none⟩) 1 1) hA = .ok undef hB := by
      rw [st52 _ _ _ rfl]
      show ofU (hA.write ⟨bl,0 + 0 * 4 + 2,none⟩ [sv h.next 1]) = _
      rw [wB]; rfl
    rw [xsub,go_ok,show IntKind.i64.wrap ((n : Int) - 1) = ((n - 1 : Nat) : Int) by rw [wrap64 (by omega)]; omega,i1,go_ok,fa55_3,go_ok,l1,go_ok,i2,go_ok,fa63_0,go_ok,l2,go_ok,bS1,go_ok,← hhA,ix0,go_ok,fa55_2,go_ok,hst,go_ok]
theorem gr_check {h : H} {n : Nat} (hn : n ≤ 3000) {xa xc : Value} (I : IL h xa (nl (List.range n))) (J : LvV h xc ((List.range n).map fun i => [i])) : ∀ (d i : Nat),n - i = d → i ≤ n →
    F7.l23 Try.prog CLM nu0 nu0 (.int .i64 (n : Nat)) xa xc (.int .i64 (i : Nat)) h = F7.j27 Try.prog CLM nu0 nu0 h := by
  obtain ⟨_,_,w,J⟩ := J
  rw [List.length_map,List.length_range] at J
  intro d
  induction d with
  | zero =>
    intro i hd hi
    rw [F7.l23_eq,xlss,go_ok,ifV_dec,if_neg (by omega)]
  | succ d ih =>
    intro i hd hi
    have hin : i < n := by omega
    obtain ⟨a,a1,a2⟩ := I.at_ (i := i) (z := (i : Nat)) (by unfold nl; rw [List.getElem?_map,List.getElem?_range hin]; rfl)
    obtain ⟨b,b1,b2,_⟩ := J.ld hin
    have o := (J.ol i hin).1
    rw [List.getElem?_map,List.getElem?_range hin,Option.map_some,Option.getD_some] at o
    obtain ⟨c,c1,c2⟩ := o.il.at_ (i := 0) (z := (i : Nat)) rfl
    have c1' : xindexAddr Try.prog 27 (w i).1 (.int .i64 0) h = .ok (.pointer (some c)) h := c1
    have hl1 : (((nl [i]).length : Nat) : Int) = 1 := rfl
    rw [F7.l23_eq,xlss,go_ok,ifV_dec,if_pos (by omega),F7.j25_eq,a1,go_ok,a2,go_ok,xneq,go_ok,ifV_not,if_pos rfl,b1,go_ok,b2 _ (Grow.refl h),go_ok,o.il.len,go_ok,xneq,go_ok,ifV_not,if_pos hl1,b1,go_ok,b2 _ (Grow.refl h),go_ok,c1',go_ok,c2,go_ok,xneq,go_ok,ifV_not,if_pos rfl,xadd,go_ok,wadd1 (by omega)]
    exact ih (i + 1) (by omega) (by omega)
end Go.Proofs.Ytdadiidfhnojcaa.K
namespace Go.Proofs.Ytdadiidfhnojcaa.K
open Go Go.Kx
set_option linter.unusedVariables false
set_option linter.unusedSimpArgs false
set_option maxRecDepth 20000
theorem xmulN (t : TypeId) (a b : Nat) (h : H) (hab : a * b ≤ 1000000) : xbin Try.prog .mul t (.int .i64 (a : Nat)) (.int .i64 (b : Nat)) h = .ok (.int .i64 ((a * b : Nat) : Int)) h := by
  have e : ∀ x y : Int,xbin Try.prog .mul t (.int .i64 x) (.int .i64 y) h = .ok (.int .i64 (IntKind.i64.wrap (x * y))) h := fun x y => by simp [xbin,flat,binOp,Op.intArith,prun,xflat,pure,Sem.pure]
  rw [e,← Int.natCast_mul]
  obtain ⟨c,ec⟩ : ∃ c,c = a * b := ⟨_,rfl⟩
  rw [← ec] at hab ⊢
  rw [wrap64 (by omega)]
def p3 (i : Nat) : ByteArray := oh (g3 i)
theorem p3_inj {n : Nat} (hn : n ≤ 3000) : ∀ i k,i < n → k < n → p3 i = p3 k → i = k := fun i k hi hk h => g3_inj (by omega) (by omega) (oh_inj h)
theorem pa_step {h0 h : H} {n i : Nat} {v : Value} {br : Option Nat} {rows : List (List Value)} (hi : i < n) (hn : n ≤ 3000) (L : GL h0 h g3 p3 (prQ p3) i v br rows) :
    ∃ h' v' br' rows',GL h0 h' g3 p3 (prQ p3) (i + 1) v' br' rows' ∧ F28.l3 Try.prog CLM nu0 nu0 (.int .i64 (n : Nat)) v (.int .i64 (i : Nat)) h = F28.l3 Try.prog CLM nu0 nu0 (.int .i64 (n : Nat)) v' (.int .i64 ((i + 1 : Nat) : Int)) h' := by
  have hi3 : i < 3000 := by omega
  obtain ⟨h1,g1,e1⟩ := gr_name3 i hi3 h
  obtain ⟨h2,bx,bo,g2,hbx,ho,hb,e2⟩ := gr_new (g3 i) (by show 3 ≤ 100; omega) h1
  have G2 := g1.trans g2
  have start : F28.l3 Try.prog CLM nu0 nu0 (.int .i64 (n : Nat)) v (.int .i64 (i : Nat)) h = ((xbin Try.prog .gtr 3 (.int .i64 (i : Nat)) (.int .i64 1) h2).go .pan fun t27 h => ifV t27 ((xbin Try.prog .quo 3 (.int .i64 (i : Nat)) (.int .i64 2) h).go .pan fun t22 h => (xbin Try.prog .mul 3 t22 (.int .i64 2) h).go .pan fun t23 h => (xbin Try.prog .sub 3 t23 (.int .i64 2) h).go .pan fun t24 h => (xindexAddr Try.prog 22 v t24 h).ok1 fun t25 h => (xfieldAddr Try.prog 55 t25 3 h).ok1 fun t26 h => (xload Try.prog 53 t26 h).ok1 fun t27 h => (xindexAddr Try.prog 53 t27 (.int .i64 0) h).ok1 fun t28 h => (xfieldAddr Try.prog 63 t28 0 h).ok1 fun t29 h => (xload Try.prog 9 t29 h).ok1 fun t30 h => bif plain2 t24 (.int .i64 1) then ((xbin Try.prog .add 3 t24 (.int .i64 1) h).ok1 fun t31 h => (xindexAddr Try.prog 22 v t31 h).ok1 fun t32 h => (xfieldAddr Try.prog 55 t32 3 h).ok1 fun t33 h => (xload Try.prog 53 t33 h).ok1 fun t34 h => (xindexAddr Try.prog 53 t34 (.int .i64 0) h).ok1 fun t35 h => (xfieldAddr Try.prog 63 t35 0 h).ok1 fun t36 h => (xload Try.prog 9 t36 h).ok1 fun t37 h => (xbuildSlice Try.prog 52 2 [(0,t30),(1,t37)] h).go .pan fun t38 h => (xfieldAddr Try.prog 55 (.pointer (some ⟨bx,0,none⟩)) 2 h).ok1 fun t39 h => (xstore Try.prog 52 t39 t38 h).go .pan fun t40 h => F28.j10 Try.prog CLM nu0 nu0 (.int .i64 (n : Nat)) v (.int .i64 (i : Nat)) (.pointer (some ⟨bx,0,none⟩)) h) else .bad) (F28.j10 Try.prog CLM nu0 nu0 (.int .i64 (n : Nat)) v (.int .i64 (i : Nat)) (.pointer (some ⟨bx,0,none⟩)) h)) := by
    rw [F28.l3_eq,xlss,go_ok,ifV_dec,if_pos (by omega),F28.j5_eq,by_a i hi3,go_ok,by_b i hi3,go_ok,by_c i hi3,go_ok,cvN _ _ (by omega),go_ok,by_d i hi3,go_ok,by_e i hi3,go_ok,by_f i hi3,go_ok,cvN _ _ (by omega),go_ok,by_g i hi3,go_ok,by_h i hi3,go_ok,cvN _ _ (by omega),go_ok]
    refine (e1 _).trans ?_
    exact e2 _
  rw [start,xgtr,go_ok,ifV_dec]
  have push : ∀ {h3 : H} {vi : Value},Grow h h3 → h3.get bx = some (.cells (tr (g3 i) vi (sv bo 1)) 55 0 false) → GT h3 (g3 i) (p3 i) (prQ p3 i) (tr (g3 i) vi (sv bo 1)) →
      ∃ h' v' br' rows',GL h0 h' g3 p3 (prQ p3) (i + 1) v' br' rows' ∧ F28.j10 Try.prog CLM nu0 nu0 (.int .i64 (n : Nat)) v (.int .i64 (i : Nat)) (.pointer (some ⟨bx,0,none⟩)) h3 = F28.l3 Try.prog CLM nu0 nu0 (.int .i64 (n : Nat)) v' (.int .i64 ((i + 1 : Nat) : Int)) h' := by
    intro h3 vi g3' hb3 G
    obtain ⟨h',v',br',rows',L',e'⟩ := gr_push (L.grow g3') (by omega) hb3 G
    refine ⟨h',v',br',rows',L',?_⟩
    rw [F28.j10_eq]
    refine (e' _).trans ?_
    show ((xbin Try.prog .add 3 (.int .i64 (i : Nat)) (.int .i64 1) h').go .pan _) = _
    rw [xadd,go_ok,wadd1 (by omega)]
  by_cases h0' : i ≤ 1
  · rw [if_neg (by omega)]
    exact push G2 hb ⟨_,_,rfl,ho,.inl ⟨rfl,by unfold prQ; rw [if_pos h0']⟩⟩
  · rw [if_pos (by omega)]
    obtain ⟨k,hk⟩ : ∃ k,k = i / 2 * 2 - 2 := ⟨_,rfl⟩
    obtain ⟨b,bk,i1,l1,i2,l2⟩ := (L.grow G2).out (k := k) (by omega)
    obtain ⟨b',bk',j1,m1,j2,m2⟩ := (L.grow G2).out (k := k + 1) (by omega)
    obtain ⟨h3,hh3⟩ : ∃ h3,h3 = h2.alloc (.cells [.string (p3 k),.string (p3 (k + 1))] 9 0 false) := ⟨_,rfl⟩
    have g3' : Grow h2 h3 := by rw [hh3]; exact (Grow.refl h2).alloc _
    have b3 : h3.get h2.next = some (.cells [.string (p3 k),.string (p3 (k + 1))] 9 0 false) := by rw [hh3]; exact H.alloc_self _ _
    obtain ⟨h4,e4,u4,b4⟩ := gr_in (g3'.old _ _ hb) h2.next 2
    have hlt := H.get_lt hb
    have G4 : Grow h h4 := grow_then (G2.trans g3') u4 fun y hy => by rw [hy]; exact Nat.le_trans g1.next hbx
    have ho4 : h4.get bo = some (.cells (oc (oh (g3 i))) 63 0 false) := u4.old _ _ (fun z => by
      subst z
      rw [hb] at ho
      simp only [Option.some.injEq,Blk.cells.injEq] at ho
      exact absurd ho.2.1 (by decide)) (g3'.old _ _ ho)
    have hs4 : h4.get h2.next = some (.cells [.string (p3 k),.string (p3 (k + 1))] 9 0 false) := u4.old _ _ (by omega) b3
    have hq : prQ p3 i = [p3 k,p3 (k + 1)] := by
      unfold prQ
      rw [if_neg h0',← hk,show i / 2 * 2 - 1 = k + 1 by omega]
    obtain ⟨h',v',br',rows',L',e'⟩ := push G4 b4 ⟨_,_,rfl,ho4,.inr ⟨h2.next,by rw [hq]; rfl,by rw [hq]; exact hs4⟩⟩
    refine ⟨h',v',br',rows',L',?_⟩
    have q1 : xbin Try.prog .quo 3 (.int .i64 (i : Nat)) (.int .i64 2) h2 = .ok (.int .i64 ((i / 2 : Nat) : Int)) h2 := xquoN _ i 2 h2 (by omega) (by omega)
    have q2 : xbin Try.prog .mul 3 (.int .i64 ((i / 2 : Nat) : Int)) (.int .i64 2) h2 = .ok (.int .i64 ((i / 2 * 2 : Nat) : Int)) h2 := xmulN _ (i / 2) 2 h2 (by omega)
    rw [q1,go_ok,q2,go_ok,xsub,go_ok,show IntKind.i64.wrap (((i / 2 * 2 : Nat) : Int) - 2) = ((k : Nat) : Int) by rw [wrap64 (by omega)]; omega,i1,Res.ok1_ok,fa55_3,Res.ok1_ok,l1,Res.ok1_ok,i2,Res.ok1_ok,fa63_0,Res.ok1_ok,l2,Res.ok1_ok,plain2_int,cond_true,xadd,Res.ok1_ok,wadd1 (by omega),j1,Res.ok1_ok,fa55_3,Res.ok1_ok,m1,Res.ok1_ok,j2,Res.ok1_ok,fa63_0,Res.ok1_ok,m2,Res.ok1_ok,bS2,go_ok,← hh3,fa55_2,Res.ok1_ok]
    refine (congrArg (fun z => Res.go z .pan _) e4).trans ?_
    rw [go_ok]
    exact e'
theorem pa_loop {h0 : H} {n : Nat} (hn : n ≤ 3000) : ∀ (d i : Nat) {h : H} {v : Value} {br : Option Nat} {rows : List (List Value)},n - i = d → i ≤ n → GL h0 h g3 p3 (prQ p3) i v br rows →
    ∃ h' v' br' rows',GL h0 h' g3 p3 (prQ p3) n v' br' rows' ∧ F28.l3 Try.prog CLM nu0 nu0 (.int .i64 (n : Nat)) v (.int .i64 (i : Nat)) h = F28.j11 Try.prog CLM nu0 nu0 (.int .i64 (n : Nat)) v' h' := by
  intro d
  induction d with
  | zero =>
    intro i h v br rows hd hi L
    have : i = n := by omega
    subst this
    refine ⟨h,v,br,rows,L,?_⟩
    rw [F28.l3_eq,xlss,go_ok,ifV_dec,if_neg (by omega)]
  | succ d ih =>
    intro i h v br rows hd hi L
    obtain ⟨h1,v1,br1,rows1,L1,e1⟩ := pa_step (show i < n by omega) hn L
    obtain ⟨h',v',br',rows',L',e'⟩ := ih (i + 1) (by omega) (by omega) L1
    exact ⟨h',v',br',rows',L',e1.trans e'⟩
theorem prL_el {n i : Nat} (hi : i < n) : ∃ l,(prL n)[i / 2]? = some l ∧ l[i % 2]? = some i := by
  refine ⟨_,prL_at (by omega),?_⟩
  rcases Nat.mod_two_eq_zero_or_one i with z | z
  · rw [z]
    split
    · show some (2 * (i / 2)) = some i
      congr 1; omega
    · show some (2 * (i / 2)) = some i
      congr 1; omega
  · rw [z,if_pos (by omega)]
    show some (2 * (i / 2) + 1) = some i
    congr 1; omega
theorem pa_check {h : H} {n : Nat} (h1 : 0 < n) (hn : n ≤ 3000) {xa xc : Value} (I : IL h xa (nl (List.range n))) (J : LvV h xc (prL n)) : ∀ (d i : Nat),n - i = d → i ≤ n →
    F28.l16 Try.prog CLM nu0 nu0 (.int .i64 (n : Nat)) xa xc (.int .i64 (i : Nat)) h = .ok (.bool true) h := by
  obtain ⟨_,_,w,J⟩ := J
  rw [prL_len] at J
  intro d
  induction d with
  | zero =>
    intro i hd hi
    have hq : (n + 1) / 2 - 1 < (n + 1) / 2 := by omega
    obtain ⟨b,b1,b2,_⟩ := J.ld hq
    have o := (J.ol _ hq).1
    rw [prL_at hq,Option.getD_some] at o
    have hlen : (nl (if 2 * ((n + 1) / 2 - 1) + 1 < n then [2 * ((n + 1) / 2 - 1),2 * ((n + 1) / 2 - 1) + 1] else [2 * ((n + 1) / 2 - 1)])).length = 2 - n % 2 := by
      split
      · show 2 = _; omega
      · show 1 = _; omega
    have q1 : xbin Try.prog .rem 3 (.int .i64 (n : Nat)) (.int .i64 2) h = .ok (.int .i64 ((n % 2 : Nat) : Int)) h := xremN _ n 2 h (by omega)
    rw [F28.l16_eq,xlss,go_ok,ifV_dec,if_neg (by omega),F28.j20_eq,J.len,go_ok,xsub,go_ok,show IntKind.i64.wrap ((((n + 1) / 2 : Nat) : Int) - 1) = (((n + 1) / 2 - 1 : Nat) : Int) by rw [wrap64 (by omega)]; omega,b1,go_ok,b2 _ (Grow.refl h),go_ok,o.il.len,go_ok,hlen,q1,go_ok,xsub,go_ok,show IntKind.i64.wrap (2 - ((n % 2 : Nat) : Int)) = ((2 - n % 2 : Nat) : Int) by rw [wrap64 (by omega)]; omega,xeql,go_ok,decide_eq_true rfl]
  | succ d ih =>
    intro i hd hi
    have hin : i < n := by omega
    obtain ⟨a,a1,a2⟩ := I.at_ (i := i) (z := (i : Nat)) (by unfold nl; rw [List.getElem?_map,List.getElem?_range hin]; rfl)
    have hq : i / 2 < (n + 1) / 2 := by omega
    obtain ⟨l,hl1,hl2⟩ := prL_el hin
    obtain ⟨b,b1,b2,_⟩ := J.ld hq
    have o := (J.ol _ hq).1
    rw [hl1,Option.getD_some] at o
    obtain ⟨c,c1,c2⟩ := o.il.at_ (i := i % 2) (z := (i : Nat)) (by unfold nl; rw [List.getElem?_map,hl2]; rfl)
    have hll := (List.getElem?_eq_some_iff.1 hl2).1
    have q1 : xbin Try.prog .quo 3 (.int .i64 (i : Nat)) (.int .i64 2) h = .ok (.int .i64 ((i / 2 : Nat) : Int)) h := xquoN _ i 2 h (by omega) (by omega)
    have q2 : xbin Try.prog .rem 3 (.int .i64 (i : Nat)) (.int .i64 2) h = .ok (.int .i64 ((i % 2 : Nat) : Int)) h := xremN _ i 2 h (by omega)
    rw [F28.l16_eq,xlss,go_ok,ifV_dec,if_pos (by omega),F28.j18_eq,a1,go_ok,a2,go_ok,xneq,go_ok,ifV_not,if_pos rfl,q1,go_ok,b1,go_ok,b2 _ (Grow.refl h),go_ok,o.il.len,go_ok,nl_len,q2,go_ok,xleq,go_ok,ifV_dec,if_neg (by omega),q1,go_ok,b1,go_ok,b2 _ (Grow.refl h),go_ok,q2,go_ok,c1,go_ok,c2,go_ok,xneq,go_ok,ifV_not,if_pos rfl,xadd,go_ok,wadd1 (by omega)]
    exact ih (i + 1) (by omega) (by omega)
theorem LvV.len' {h : H} {v : Value} {ls : List (List Nat)} (q : LvV h v ls) (h' : H) : xbuiltin Try.prog .len [33] [v] h' = .ok (.int .i64 (ls.length : Nat)) h' := by
  obtain ⟨_,_,_,q⟩ := q
  exact q.len h'
theorem told_ord {h0 h : H} {ts : List TK} {v : Value} {c : Int} {m : ByteArray} (p : OrdR h0 h ts v c m) (no : NoC ts) {R : List Nat} (io : IsOrd ts R) (hl : R.length = ts.length) : c = 0 ∧ IL h v (nl R) := by
  rcases p with ⟨x,hx,_⟩ | ⟨_,R',b,io',hl',_,o,rfl,rfl,_⟩
  · exact absurd hx.2.1 (no x)
  · have := io.uniq io' (by rw [hl,hl'])
    subst this
    exact ⟨rfl,Out.il o hl'⟩
theorem told_lev {h0 h : H} {ts : List TK} {v : Value} {c : Int} {m : ByteArray} (p : LevR h0 h ts v c m) (no : NoC ts) {L : Nat → Nat} {ls : List (List Nat)} (V : IsLevs ts L ls) : c = 0 ∧ LvV h v ls := by
  rcases p with ⟨x,hx,_⟩ | ⟨_,L',ls',bo,w,V',o,rfl,_⟩
  · exact absurd hx.2.1 (no x)
  · have := V.uniq V'
    subst this
    exact ⟨rfl,_,_,_,o⟩
theorem ePaired (h0 : H) {n : Nat} (h1 : 0 < n) (hn : n ≤ 3000) : ∃ h',Grow h0 h' ∧ CLM (.f 28) [.int .i64 (n : Nat)] h0 = .ok (.bool true) h' := by
  obtain ⟨h2,v,br,rows,L,e1⟩ := pa_loop hn _ 0 rfl (Nat.zero_le _) (GL.nil h0 g3 p3 (prQ p3))
  have T := L.tasks
  have hp := p3_inj hn
  have F : Few (mk_ g3 p3 (prQ p3) n) := mk_few hn (fun i hi => by unfold prQ; split <;> simp) hp
  have hN : ∀ k,k % 2 = 0 → k + 1 < n → sLt (g3 k) (g3 (k + 1)) = true := fun k h2 h3 => g3_next k (by omega) h2
  obtain ⟨h3,a,ca,na,g3',ra,e3⟩ := eOrder T F
  obtain ⟨h4,c,cc,nc,g4',rc,e4⟩ := eLevels (T.grow g3') F
  have no := lev_noc (pr_lev (N := g3) hp)
  obtain ⟨rfl,I⟩ := told_ord ra no (pr_ord hp hN) (by rw [List.length_range,mk_len])
  obtain ⟨rfl,J⟩ := told_lev rc no (pr_levs hp hN)
  have I4 := I.grow g4'
  have q1 : xbin Try.prog .quo 3 (.int .i64 ((n + 1 : Nat) : Int)) (.int .i64 2) h4 = .ok (.int .i64 (((n + 1) / 2 : Nat) : Int)) h4 := xquoN _ (n + 1) 2 h4 (by omega) (by omega)
  refine ⟨h4,(L.g.trans g3').trans g4',?_⟩
  rw [cM28,F28.eq,show (Value.int .i64 0) = .int .i64 ((0 : Nat) : Int) from rfl,e1,F28.j11_eq,e3,go_ok,xextract_0,go_ok,xextract_1,go_ok,xextract_2,go_ok,e4,go_ok,xextract_0,go_ok,xextract_1,go_ok,xextract_2,go_ok,eNum,go_ok,xneq,go_ok,ifV_not,if_pos rfl,eNum,go_ok,xneq,go_ok,ifV_not,if_pos rfl,I4.len,go_ok,nl_len,List.length_range,xneq,go_ok,ifV_not,if_pos rfl,J.len',go_ok,prL_len,xadd,go_ok,wadd1 (by omega),q1,go_ok,xneq,go_ok,ifV_not,if_pos rfl,
    F28.j15_eq,show (Value.int .i64 0) = .int .i64 ((0 : Nat) : Int) from rfl]
  exact pa_check h1 hn I4 J _ 0 rfl (Nat.zero_le _)
theorem great (z : Int) (r s : Bool) (h0 : H) : ∃ h',CLM (.f 7) [.int .i64 z,.bool r,.bool s] h0 = .ok (.bool true) h' ∧ Grow h0 h' := by
  obtain ⟨n,n1,n2,n3⟩ := eWhole z (lo := 1) (hi := 3000) (by omega) (by omega) (by omega)
  have h1 : 0 < n := by omega
  have hn : n ≤ 3000 := by omega
  cases s with
  | true =>
    obtain ⟨h2,g2,e2⟩ := ePaired h0 h1 hn
    obtain ⟨h3,g3',e3⟩ := eStarted h2
    refine ⟨h3,?_,g2.trans g3'⟩
    rw [cM7,F7.eq,n3,go_ok,ifV_t,e2,go_ok,ifV_t,e3,go_ok]
  | false =>
    obtain ⟨h2,v,br,rows,L,e2⟩ := gr_loop (x1 := .bool r) hn _ 0 rfl (Nat.zero_le _) (GL.nil h0 g4 p4 (chQ p4 []))
    have hp := p4_inj hn
    have top : CLM (.f 7) [.int .i64 z,.bool r,.bool false] h0 = F7.j13 Try.prog CLM nu0 nu0 (.int .i64 (n : Nat)) (.bool r) v h2 := by
      rw [cM7,F7.eq,n3,go_ok,ifV_f,F7.j4_eq,show (Value.int .i64 0) = .int .i64 ((0 : Nat) : Int) from rfl,e2]
    rw [top]
    cases r with
    | true =>
      obtain ⟨h3,br',rows',L',e3⟩ := gr_ring h1 hn L
      have T := L'.tasks
      have F : Few (mk_ g4 p4 (chQ p4 [p4 (n - 1)]) n) := mk_few hn (fun i hi => by unfold chQ; split <;> simp) hp
      have C := rg_min (N := g4) hp h1 fun i hi => g4_min i (by omega)
      obtain ⟨h4,a,ca,na,g4',ra,e4⟩ := eOrder T F
      obtain ⟨h5,c,cc,nc,g5,rc,e5⟩ := eLevels (T.grow g4') F
      obtain ⟨rfl,rfl⟩ : ca = 130 ∧ na = ⟨#[97,97,97,97]⟩ := by
        rcases ra with ⟨x,hx,_,rfl,rfl⟩ | ⟨no,_⟩
        · have := hx.uniq C
          subst this
          exact ⟨rfl,mk_nm h1⟩
        · exact absurd C.2.1 (no 0)
      obtain ⟨rfl,rfl⟩ : cc = 130 ∧ nc = ⟨#[97,97,97,97]⟩ := by
        rcases rc with ⟨x,hx,_,rfl,rfl⟩ | ⟨no,_⟩
        · have := hx.uniq C
          subst this
          exact ⟨rfl,mk_nm h1⟩
        · exact absurd C.2.1 (no 0)
      obtain ⟨h6,g6,e6⟩ := eStarted h5
      refine ⟨h6,?_,((L'.g.trans g4').trans g5).trans g6⟩
      rw [F7.j13_eq,ifV_t]
      refine (e3 _).trans ?_
      show ((CLM (.f 13) [v] h3).go .pan _) = _
      rw [e4,go_ok,xextract_0,go_ok,xextract_1,go_ok,xextract_2,go_ok,e5,go_ok,xextract_0,go_ok,xextract_1,go_ok,xextract_2,go_ok,eNum,go_ok,xeql,go_ok,ifV_dec,if_pos rfl,eNum,go_ok,xeql,go_ok,ifV_dec,if_pos rfl,xseql,go_ok,ifV_dec,if_pos rfl,xseql,go_ok,ifV_dec,if_pos rfl,e6,go_ok]
    | false =>
      have T := L.tasks
      have F : Few (mk_ g4 p4 (chQ p4 []) n) := mk_few hn (fun i hi => by unfold chQ; split <;> simp) hp
      obtain ⟨h4,a,ca,na,g4',ra,e4⟩ := eOrder T F
      obtain ⟨h5,c,cc,nc,g5,rc,e5⟩ := eLevels (T.grow g4') F
      have no := lev_noc (ch_lev (N := g4) hp)
      obtain ⟨rfl,I⟩ := told_ord ra no (ch_ord hp) (by rw [List.length_range,mk_len])
      obtain ⟨rfl,J⟩ := told_lev rc no (ch_levs hp)
      have I5 := I.grow g5
      obtain ⟨h6,g6,e6⟩ := eStarted h5
      refine ⟨h6,?_,((L.g.trans g4').trans g5).trans g6⟩
      rw [F7.j13_eq,ifV_f,F7.j18_eq,e4,go_ok,xextract_0,go_ok,xextract_1,go_ok,xextract_2,go_ok,e5,go_ok,xextract_0,go_ok,xextract_1,go_ok,xextract_2,go_ok,eNum,go_ok,xneq,go_ok,ifV_not,if_pos rfl,eNum,go_ok,xneq,go_ok,ifV_not,if_pos rfl,I5.len,go_ok,nl_len,List.length_range,xneq,go_ok,ifV_not,if_pos rfl,J.len',go_ok,List.length_map,List.length_range,xneq,go_ok,ifV_not,if_pos rfl,F7.j22_eq,show (Value.int .i64 0) = .int .i64 ((0 : Nat) : Int) from rfl,gr_check hn I5 J _ 0 rfl (Nat.zero_le _),F7.j27_eq,e6,go_ok]
end Go.Proofs.Ytdadiidfhnojcaa.K
namespace Go.Proofs.Ytdadiidfhnojcaa.K
open Go Go.Kx Go.ChangeShapes Go.WideShapes Go.ChangeAt Go.RowKit
set_option maxRecDepth 100000
set_option linter.unusedVariables false
theorem trodAll_three' {H : Type} {enc : TypeId × Value → H} {P : Program} {w : World} {base : Nat} {spare : Nat → Bool} {held : Bool} {t0 t1 t2 : TypeId} {args : Array Value} {ds : List (DataW H)} {ps : List MemPlace} (h : DataW.TrodAll enc P w base spare held [t0,t1,t2] args.toList ds ps) :
    ∃ v0 v1 v2 d0 d1 d2 p0 p1 p2,args = #[v0,v1,v2] ∧ ds = [d0,d1,d2] ∧ DataW.Trod enc P w base spare held t0 v0 d0 p0 ∧ DataW.Trod enc P w base spare held t1 v1 d1 p1 ∧ DataW.Trod enc P w base spare held t2 v2 d2 p2 := by
  obtain ⟨v0,vs,d0,ds',p0,q,hargs,rfl,rfl,hd,hrest⟩ := trodAll_cons h
  obtain ⟨v1,vs1,d1,ds1,p1,q1,rfl,rfl,rfl,hd1,hrest1⟩ := trodAll_cons hrest
  obtain ⟨v2,vs2,d2,ds2,p2,q2,rfl,rfl,rfl,hd2,hrest2⟩ := trodAll_cons hrest1
  obtain ⟨rfl,rfl,rfl⟩ := trodAll_nil hrest2
  exact ⟨v0,v1,v2,d0,d1,d2,p0,p1,p2,by cases args; simp_all,rfl,hd,hd1,hd2⟩
theorem read_boolA {HH : Type} {enc : TypeId × Value → HH} {W : World} {v : Value} {d : DataW HH} {p : List MemPlace} {base : Nat} (hval : Value.okWide Try.prog W .any base 4 v) (h : DataW.Trod enc Try.prog W 0 (fun _ => true) true 4 v d p) : ∃ b,v = .bool b := by
  have hv := hval
  unfold Value.okWide at hv
  rw [Try.underlying4] at hv
  cases v <;> first | exact ⟨_,rfl⟩ | (simp [Cell.okWide,Try.underlying4,Cell.ok] at hv)
theorem contract7 (H : Type) (enc : TypeId × Value → H) (W : World) (base : Nat) (args : Array Value) (ds gs : List (DataW H)) (before : List MemPlace)
    (hval : ∀ (j : Nat) t v,Try.f7.params[j]? = some t → args[j]? = some v → Value.okWide Try.prog W .any base t v)
    (hW : DataW.Whole enc Try.prog Try.f7.params.toList Rows.graphGreatSpec.vars false W args.toList ds gs before) :
    Calls Try.prog 7 args W fun e W' => ∃ v,e = .returned v ∧ Rows.graphGreatSpec.post enc Try.prog Try.f7 false true false false W args v W' := by
  have hW' := hW
  obtain ⟨p,q,hA0,hV,rfl,hfz,hnd⟩ := hW
  have hA : DataW.TrodAll enc Try.prog W 0 (fun _ => true) true Try.f7.params.toList args.toList ds p := hA0
  rw [Try.params7] at hA hval
  obtain ⟨v0,v1,v2,d0,d1,d2,p0,p1,p2,rfl,rfl,h0,h1,h2⟩ := trodAll_three' hA
  obtain ⟨z,rfl,_⟩ := read_intA (hval 0 _ v0 rfl rfl) h0
  obtain ⟨r,rfl⟩ := read_boolA (hval 1 _ v1 rfl rfl) h1
  obtain ⟨s,rfl⟩ := read_boolA (hval 2 _ v2 rfl rfl) h2
  obtain ⟨h',hr,hg⟩ := great z r s (hOf W)
  refine bare_true laidOut' ?_ rfl Try.func7 (by kernel_rfl) (by kernel_rfl) (tb := 4) (by kernel_rfl) Try.underlying4 rfl hW' CLM_ok ?_ hr hg
  · rw [Try.params7]
    intro t ht
    simp only [List.mem_cons,List.not_mem_nil,or_false] at ht
    rcases ht with rfl | rfl | rfl <;> exact ⟨by kernel_rfl,of_decide_eq_true (by kernel_rfl)⟩
  · exact .cons (.int _ _) (.cons (.bool _) (.cons (.bool _) .nil))
theorem lifted7 (os : Os) (started : os.Started) (H : Type) (enc : TypeId × Value → H) :
    ReturnsInHanded {} Try.checked os 7 .any (Rows.graphGreatSpec.pre6 enc Try.prog Try.f7 Rows.graphGreatRow.domain false) (Rows.graphGreatSpec.post enc Try.prog Try.f7 false true false false) := by
  refine returnsInHanded_of_change (C := Try.checked) own' started (by kernel_rfl) Try.func7
    (ChangeSpec.witness6 (enc := enc) (C := Try.checked) false ⟨#[],#[.int .i64 0,.bool false,.bool false],[]⟩ 8 (by kernel_rfl) (by kernel_rfl) (by kernel_rfl) (by kernel_rfl)) ?_
  intro W base args ds gs before hval hW _ _
  exact contract7 H enc W base args ds gs before hval hW
end Go.Proofs.Ytdadiidfhnojcaa.K
namespace Go.Proofs.Ytdadiidfhnojcaa
open Go
set_option maxRecDepth 100000
theorem graphGreat_holds : Rows.GraphGreatSaid :=
  OpenClaim.holds_of_wide 7 Try.f7 rfl rfl rfl rfl rfl rfl rfl ⟨rfl,rfl,rfl,rfl,rfl⟩ rfl rfl rfl rfl rfl (by kernel_rfl) Try.func7 (by kernel_rfl)
    (of_decide_eq_true (by kernel_rfl)) (by unfold Func.isWrapper; first | (rw [if_pos (by decide +kernel)]; kernel_rfl) | (rw [if_neg (by decide +kernel)]; exact ⟨rfl,rfl⟩))
    (fun os started H enc _ => K.lifted7 os started H enc)
end Go.Proofs.Ytdadiidfhnojcaa
#print axioms Go.Proofs.Ytdadiidfhnojcaa.graphGreat_holds
