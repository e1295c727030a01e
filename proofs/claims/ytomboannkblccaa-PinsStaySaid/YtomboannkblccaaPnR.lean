/- Proved here: PinsStay: for every input the call tells true, and what it was handed reads as it did. Conditions: none beyond those of the given row. -/
import Derived.Test.YtomboannkblccaaPnN
import Derived.Test.YtomboannkblccaaPnQ
import Derived.Test.YtomboannkblccaaKxX
import Derived.Test.YtomboannkblccaaRows
import Derived.WalkKit
import Derived.ProofKit
import Derived.OpenShut
import Derived.Deep.Strs
import Derived.Deep.Slices
namespace Go.Proofs.Ytomboannkblccaa.K
open Go Go.Kx Go.ChangeShapes Go.WideShapes Go.ChangeAt Go.RowKit
set_option maxRecDepth 100000
set_option linter.unusedVariables false

/-! ## What a reading tells of the cells -/

theorem mapM_told {α β : Type} {f : α → Option β} {g : α → β} : ∀ (l : List α), (∀ x ∈ l, f x = some (g x)) → l.mapM f = some (l.map g)
  | [], _ => by simp
  | x :: l, h => by
    rw [List.mapM_cons, h x (by simp), mapM_told l (fun y hy => h y (by simp [hy]))]
    rfl

theorem eqLits_ints : ∀ (l : List Lit), (∀ x ∈ l, ∃ k n, x = .int k n) → eqLits l l = some true
  | [], _ => rfl
  | x :: l, h => by
    obtain ⟨k, n, rfl⟩ := h x (by simp)
    have := eqLits_ints l (fun y hy => h y (by simp [hy]))
    simp only [eqLits, decide_true, Bool.and_self, cond_true]
    exact this
theorem wf_i64 {n : Int} (h : (Lit.int .i64 n).wf = true) : i64ok n := by
  simp only [Lit.wf, IntKind.min, IntKind.max, IntKind.bits, IntKind.signed] at h
  simp at h
  unfold i64ok
  omega

/-- Cells of a type of whole numbers. -/
structure PartD (b n t : Nat) (l : List Value) : Prop where
  len : l.length = n
  one : ones l = true
  flt : flatL l = true
  lit : ∀ d, b ≤ d → KL d t l
theorem PartD.ok {b n t : Nat} {l : List Value} (hb : b ≤ 11) (h : PartD b n t l) : PartOk n t l := ⟨h.len, h.one, h.flt, h.lit 11 hb⟩

section
variable {HH : Type} {enc : TypeId × Value → HH} {W : World} {base : Nat} {sp : Nat → Bool} {hd : Bool} {fuel : Nat} {cs : List Value} {x : DataW HH × List MemPlace}

theorem ones_all {l : List Value} (h : ∀ v ∈ l, ∃ k n, v = .int k n) : ones l = true ∧ flatL l = true := by
  induction l with
  | nil => exact ⟨rfl, rfl⟩
  | cons v l ih =>
    obtain ⟨k, n, rfl⟩ := h v (by simp)
    obtain ⟨h1, h2⟩ := ih (fun y hy => h y (by simp [hy]))
    refine ⟨?_, ?_⟩
    · show (true && ones l) = true
      rw [h1]; rfl
    · simp only [flatL, flat, h2, Bool.and_self]

theorem read23 (h : DataW.trod enc Try.prog W base sp hd fuel 23 cs = some x) : PartD 2 32 23 cs := by
  obtain ⟨xs, m, _, _, hl, _, hx⟩ := DataW.trod_array Try.underlying23 h
  have c23 : Try.prog.cellsOf 23 = 32 := by kernel_rfl
  have c5 : Try.prog.cellsOf 5 = 1 := by kernel_rfl
  rw [c23] at hl
  rw [c5] at hx
  have hp : ∀ i, i < 32 → ∃ n, (cs.drop (i * 1)).take 1 = [.int .u8 n] ∧ (Lit.int .u8 n).wf = true := by
    intro i hi
    have := hx i hi
    obtain ⟨n, h1, _, h3⟩ := DataW.trod_int (k := .u8) (by kernel_rfl) (this.trans (List.getElem?_eq_getElem (by omega : i < xs.length)))
    exact ⟨n, h1, h3⟩
  have hall : ∀ v ∈ cs, ∃ k n, v = .int k n := by
    intro v hv
    obtain ⟨i, hi, rfl⟩ := List.getElem_of_mem hv
    obtain ⟨n, h1, _⟩ := hp i (by omega)
    rw [Nat.mul_one, List.drop_eq_getElem_cons hi] at h1
    simp only [List.take_succ_cons, List.take_zero, List.cons.injEq, and_true] at h1
    exact ⟨_, _, h1⟩
  obtain ⟨h1, h2⟩ := ones_all hall
  refine ⟨hl, h1, h2, fun d hd => ?_⟩
  obtain ⟨d, rfl⟩ : ∃ e, d = e + 2 := ⟨d - 2, by omega⟩
  have hk : ∀ i ∈ List.range 32, Try.prog.keyLits (d + 1) 5 ((cs.drop (i * 1)).take 1) = some ((fun i => match (cs.drop (i * 1)).take 1 with | [.int k n] => [.int k n] | _ => []) i : List Lit) := by
    intro i hi
    obtain ⟨n, e1, e2⟩ := hp i (List.mem_range.1 hi)
    simp only [e1]
    unfold Program.keyLits
    rw [show Try.prog.underlying 5 = some (.int .u8) by kernel_rfl]
    simp [e2]
  refine ⟨((List.range 32).map (fun i => match (cs.drop (i * 1)).take 1 with | [.int k n] => [.int k n] | _ => [] : Nat → List Lit)).flatten, ?_, eqLits_ints _ ?_⟩
  · unfold Program.keyLits
    rw [Try.underlying23]
    simp only [c23, c5, hl, if_true]
    rw [mapM_told _ hk]
    rfl
  · intro y hy
    obtain ⟨l, hl1, hl2⟩ := List.mem_flatten.1 hy
    obtain ⟨i, hi, rfl⟩ := List.mem_map.1 hl1
    obtain ⟨n, e1, e2⟩ := hp i (List.mem_range.1 hi)
    simp only [e1, List.mem_singleton] at hl2
    exact ⟨_, _, hl2⟩

theorem read3 (h : DataW.trod enc Try.prog W base sp hd fuel 3 cs = some x) : ∃ n, cs = [.int .i64 n] ∧ i64ok n := by
  obtain ⟨n, h1, _, h3⟩ := DataW.trod_int Try.underlying3 h
  exact ⟨n, h1, wf_i64 h3⟩

theorem split3 {l : List Value} {a b c : List Value} {n m : Nat} (h0 : (l.drop 0).take n = a) (h1 : (l.drop n).take m = b) (h2 : (l.drop (n + m)).take (l.length - (n + m)) = c) (hl : n + m ≤ l.length) : l = a ++ (b ++ c) := by
  rw [← h0, ← h1, ← h2]
  rw [List.drop_zero, show (l.drop (n + m)).take (l.length - (n + m)) = l.drop (n + m) from List.take_of_length_le (by rw [List.length_drop]; omega), ← List.drop_drop, List.take_append_drop, List.take_append_drop]

theorem read25 (h : DataW.trod enc Try.prog W base sp hd fuel 25 cs = some x) : PartD 3 34 25 cs := by
  obtain ⟨y0, y1, y2, n, _, hl, h0, h1, h2⟩ := Go.Deep.trod_struct3 Try.underlying25 h
  have c23 : Try.prog.cellsOf 23 = 32 := by kernel_rfl
  have c25 : Try.prog.cellsOf 25 = 34 := by kernel_rfl
  have c3 : Try.prog.cellsOf 3 = 1 := by kernel_rfl
  rw [c25] at hl
  simp only [c23, c3] at h0 h1 h2
  obtain ⟨a, ha, oa⟩ := read3 h1
  obtain ⟨b, hb, ob⟩ := read3 h2
  have hk := read23 h0
  have e : cs = (cs.drop 0).take 32 ++ ([.int .i64 a] ++ [.int .i64 b]) := split3 rfl ha (by rw [hl]; exact hb) (by omega)
  obtain ⟨k, hkk⟩ : ∃ k, k = (cs.drop 0).take 32 := ⟨_, rfl⟩
  rw [← hkk] at hk e h0
  subst e
  have lk := hk.len
  refine ⟨by simp [lk], by rw [ones_append hk.one]; rfl, ?_, fun d hd => ?_⟩
  · have : ∀ (l m : List Value), flatL l = true → flatL m = true → flatL (l ++ m) = true := by
      intro l m h1 h2
      induction l with
      | nil => exact h2
      | cons v l ih =>
        simp only [flatL, Bool.and_eq_true, List.cons_append] at *
        exact ⟨h1.1, ih h1.2⟩
    exact this _ _ hk.flt rfl
  · obtain ⟨d, rfl⟩ : ∃ e, d = e + 1 := ⟨d - 1, by omega⟩
    have hK := hk.lit d (by omega)
    obtain ⟨l0, k0, k1⟩ := hK
    obtain ⟨d, rfl⟩ : ∃ e, d = e + 1 := ⟨d - 1, by omega⟩
    obtain ⟨la, a0, a1⟩ := KL_int oa d
    obtain ⟨lb, b0, b1⟩ := KL_int ob d
    refine ⟨l0 ++ (la ++ lb), ?_, eqLits_app k1 (eqLits_app a1 b1)⟩
    unfold Program.keyLits
    rw [Try.underlying25]
    have p0 : ((k ++ ([Value.int .i64 a] ++ [Value.int .i64 b])).drop 0).take 32 = k := List.take_left' lk
    simp only [c25, hl, true_and]
    rw [if_pos (by first | (simp; done) | kernel_rfl)]
    simp only [List.mapM_cons, List.mapM_nil, c3, c23, p0, ha, hb, k0, a0, b0]
    simp

theorem trod_struct6 {H : Type} {enc : TypeId × Value → H} {P : Program} {w : World} {base : Nat} {spare : Nat → Bool} {held : Bool} {t : TypeId} {f0 f1 f2 f3 f4 f5 : Field} {fuel : Nat} {cs : List Value} {x : DataW H × List MemPlace} (ht : P.underlying t = some (.struct #[f0, f1, f2, f3, f4, f5]))
    (h : DataW.trod enc P w base spare held fuel t cs = some x) :
    ∃ y0 y1 y2 y3 y4 y5 n, cs.length = P.cellsOf t ∧ DataW.trod enc P w base spare held n f0.type ((cs.drop f0.offset).take (P.cellsOf f0.type)) = some y0 ∧
      DataW.trod enc P w base spare held n f1.type ((cs.drop f1.offset).take (P.cellsOf f1.type)) = some y1 ∧ DataW.trod enc P w base spare held n f2.type ((cs.drop f2.offset).take (P.cellsOf f2.type)) = some y2 ∧
      DataW.trod enc P w base spare held n f3.type ((cs.drop f3.offset).take (P.cellsOf f3.type)) = some y3 ∧ DataW.trod enc P w base spare held n f4.type ((cs.drop f4.offset).take (P.cellsOf f4.type)) = some y4 ∧
      DataW.trod enc P w base spare held n f5.type ((cs.drop f5.offset).take (P.cellsOf f5.type)) = some y5 := by
  obtain ⟨xs, n, _, _, hl, hlen, hf⟩ := DataW.trod_struct ht h
  match xs, hlen with
  | [y0, y1, y2, y3, y4, y5], _ => exact ⟨y0, y1, y2, y3, y4, y5, n, hl, by simpa using hf 0 f0 rfl, by simpa using hf 1 f1 rfl, by simpa using hf 2 f2 rfl, by simpa using hf 3 f3 rfl, by simpa using hf 4 f4 rfl, by simpa using hf 5 f5 rfl⟩

theorem read35 (h : DataW.trod enc Try.prog W base sp hd fuel 35 cs = some x) : ∃ a : AT, a.Ok ∧ cs = actC a := by
  obtain ⟨y0, y1, y2, y3, y4, y5, n, hl, h0, h1, h2, h3, h4, h5⟩ := trod_struct6 Try.underlying35 h
  have c23 : Try.prog.cellsOf 23 = 32 := by kernel_rfl
  have c25 : Try.prog.cellsOf 25 = 34 := by kernel_rfl
  have c3 : Try.prog.cellsOf 3 = 1 := by kernel_rfl
  have c35 : Try.prog.cellsOf 35 = 103 := by kernel_rfl
  rw [c35] at hl
  simp only [c23, c25, c3] at h0 h1 h2 h3 h4 h5
  obtain ⟨a, ha, oa⟩ := read3 h0
  obtain ⟨b, hb, ob⟩ := read3 h1
  obtain ⟨c, hc, oc⟩ := read3 h2
  have hk := read23 h3
  have hr := read25 h4
  have hm := read25 h5
  refine ⟨⟨a, b, c, (cs.drop 3).take 32, (cs.drop 35).take 34, (cs.drop 69).take 34⟩, ⟨oa, ob, oc, hk.ok (by omega), hr.ok (by omega), hm.ok (by omega)⟩, ?_⟩
  have e1 : cs.take 1 = [.int .i64 a] := ha
  have s1 : cs = cs.take 1 ++ ((cs.drop 1).take 1 ++ ((cs.drop 2).take 1 ++ ((cs.drop 3).take 32 ++ ((cs.drop 35).take 34 ++ (cs.drop 69).take 34)))) := by
    have d1 : cs = cs.take 1 ++ cs.drop 1 := (List.take_append_drop 1 cs).symm
    have d2 : cs.drop 1 = (cs.drop 1).take 1 ++ cs.drop 2 := by have := (List.take_append_drop 1 (cs.drop 1)).symm; rwa [List.drop_drop] at this
    have d3 : cs.drop 2 = (cs.drop 2).take 1 ++ cs.drop 3 := by have := (List.take_append_drop 1 (cs.drop 2)).symm; rwa [List.drop_drop] at this
    have d4 : cs.drop 3 = (cs.drop 3).take 32 ++ cs.drop 35 := by have := (List.take_append_drop 32 (cs.drop 3)).symm; rwa [List.drop_drop] at this
    have d5 : cs.drop 35 = (cs.drop 35).take 34 ++ cs.drop 69 := by have := (List.take_append_drop 34 (cs.drop 35)).symm; rwa [List.drop_drop] at this
    have d6 : cs.drop 69 = (cs.drop 69).take 34 := (List.take_of_length_le (by rw [List.length_drop]; omega)).symm
    rw [← d6, ← d5, ← d4, ← d3, ← d2, ← d1]
  rw [e1, hb, hc] at s1
  exact s1

end

/-! ## The row -/

theorem laidOut : laidOutB Try.prog = true := by kernel_rfl
theorem own : ownKnob Try.prog.godebug = none := by kernel_rfl

theorem trodAll_five {H : Type} {enc : TypeId × Value → H} {P : Program} {w : World} {base : Nat} {spare : Nat → Bool} {held : Bool} {t0 t1 t2 t3 t4 : TypeId} {args : Array Value} {ds : List (DataW H)} {ps : List MemPlace} (h : DataW.TrodAll enc P w base spare held [t0, t1, t2, t3, t4] args.toList ds ps) :
    ∃ v0 v1 v2 v3 v4 d0 d1 d2 d3 d4 p0 p1 p2 p3 p4, args = #[v0, v1, v2, v3, v4] ∧ ds = [d0, d1, d2, d3, d4] ∧ DataW.Trod enc P w base spare held t0 v0 d0 p0 ∧ DataW.Trod enc P w base spare held t1 v1 d1 p1 ∧ DataW.Trod enc P w base spare held t2 v2 d2 p2 ∧
      DataW.Trod enc P w base spare held t3 v3 d3 p3 ∧ DataW.Trod enc P w base spare held t4 v4 d4 p4 := by
  obtain ⟨v0, vs, d0, ds', p0, q, hargs, rfl, rfl, hd, hrest⟩ := trodAll_cons h
  obtain ⟨v1, vs1, d1, ds1, p1, q1, rfl, rfl, rfl, hd1, hrest1⟩ := trodAll_cons hrest
  obtain ⟨v2, vs2, d2, ds2, p2, q2, rfl, rfl, rfl, hd2, hrest2⟩ := trodAll_cons hrest1
  obtain ⟨v3, vs3, d3, ds3, p3, q3, rfl, rfl, rfl, hd3, hrest3⟩ := trodAll_cons hrest2
  obtain ⟨v4, vs4, d4, ds4, p4, q4, rfl, rfl, rfl, hd4, hrest4⟩ := trodAll_cons hrest3
  obtain ⟨rfl, rfl, rfl⟩ := trodAll_nil hrest4
  exact ⟨v0, v1, v2, v3, v4, d0, d1, d2, d3, d4, p0, p1, p2, p3, p4, by cases args; simp_all, rfl, hd, hd1, hd2, hd3, hd4⟩

mutual
theorem cv_flat (L : Nat → Bool) : ∀ (v : Value), flat v = true → cv L v = some v
  | .bool b, _ => rfl
  | .int k n, _ => rfl
  | .float k n, _ => rfl
  | .complex k n m, _ => rfl
  | .string s, _ => rfl
  | .pointer none, _ => rfl
  | .pointer (some _), f => by simp [flat] at f
  | .slice none n c, _ => rfl
  | .slice (some _) _ _, f => by simp [flat] at f
  | .map none, _ => rfl
  | .map (some _), f => by simp [flat] at f
  | .chan _, f => by simp [flat] at f
  | .func _ _ _, f => by simp [flat] at f
  | .nilFunc, _ => rfl
  | .iface t v, f => by simp only [cv, cv_flat L v (by simpa [flat] using f)]
  | .nilIface, _ => rfl
  | .agg ⟨l⟩, f => by simp only [cv, cvL_flat L l (by simpa [flat] using f)]
  | .tuple ⟨l⟩, f => by simp only [cv, cvL_flat L l (by simpa [flat] using f)]
theorem cvL_flat (L : Nat → Bool) : ∀ (l : List Value), flatL l = true → cvL L l = some l
  | [], _ => rfl
  | v :: l, f => by
    simp only [flatL, Bool.and_eq_true] at f
    simp only [cvL, cv_flat L v f.1, cvL_flat L l f.2]
end
theorem cvC_flat (L : Nat → Bool) : ∀ (l : List Value), flatL l = true → l.map (cvC L) = l
  | [], _ => rfl
  | v :: l, f => by
    simp only [flatL, Bool.and_eq_true] at f
    rw [List.map_cons, cvC_flat L l f.2]
    unfold cvC
    rw [cv_flat L v f.1]

/-- A row of the machine's cells, flat ones, as the evaluator has it. -/
theorem row_of_cells {W : World} {base : Nat} {a : Addr} {n : Nat} {cs : List Value} (hn : 0 < n) (h : W.cells? base a n = some cs) (ha : a.spot = none) (hf : flatL cs = true) (hl : lv W a.block = true) : (hOf W).row ⟨a.block, a.off, none⟩ n = some cs := by
  obtain ⟨_, hlen, hc⟩ := World.cells?_some h
  unfold lv lvO at hl
  split at hl
  · rename_i l el lh hb
    have hg : (hOf W).get a.block = some (.cells (l.map (cvC (lv W))) el (if lh.2 ≤ lh.1 then 0 else if l.length ≤ lh.1 then 1 else 2) false) := by rw [hOf_get, hb]; rfl
    have hat : ∀ i, i < n → l[a.off + i]? = cs[i]? := by
      intro i hi
      rw [← hc i hi]
      unfold World.cell?
      have : (a.add i).block = a.block ∧ (a.add i).off = a.off + i ∧ (a.add i).spot = none := by
        unfold Addr.add
        split
        · rename_i h0; subst h0; exact ⟨rfl, rfl, ha⟩
        · exact ⟨rfl, rfl, rfl⟩
      rw [this.1, hb, this.2.1, this.2.2]
      simp
    have hle : a.off + n ≤ l.length := by
      have := hat (n - 1) (by omega)
      rw [List.getElem?_eq_getElem (by omega : n - 1 < cs.length)] at this
      have := (List.getElem?_eq_some_iff.1 this).1
      omega
    have hc1 : (l.drop a.off).take n = cs := by
      apply List.ext_getElem?
      intro i
      rw [List.getElem?_take]
      split
      · rename_i hi; rw [List.getElem?_drop]; exact hat i hi
      · rename_i hi; rw [List.getElem?_eq_none (by omega)]
    rw [H.row_eq hg (by rw [List.length_map]; exact hle), ← List.map_drop, ← List.map_take, hc1, cvC_flat _ _ hf]
  · cases hl


theorem AT.Ok.flat {a : AT} (h : a.Ok) : flatL (actC a) = true := by
  have app : ∀ (l m : List Value), flatL l = true → flatL m = true → flatL (l ++ m) = true := by
    intro l m h1 h2
    induction l with
    | nil => exact h2
    | cons v l ih =>
      simp only [flatL, Bool.and_eq_true, List.cons_append] at *
      exact ⟨h1.1, ih h1.2⟩
  show (true && (true && (true && flatL (a.k ++ (a.r ++ a.m))))) = true
  rw [app _ _ h.k2.flt (app _ _ h.r2.flt h.m2.flt)]; rfl

instance : Inhabited AT := ⟨⟨0, 0, 0, [], [], []⟩⟩
/-- The script, read. -/
theorem script {HH : Type} {enc : TypeId × Value → HH} {W : World} {v : Value} {d : DataW HH} {p : List MemPlace} (hval : Value.okWide Try.prog W .any 0 26 v ∨ ∃ base, Value.okWide Try.prog W .any base 26 v) (h : DataW.Trod enc Try.prog W 0 (fun _ => true) true 26 v d p) :
    ∃ (x4 : Value) (acts : List AT), R (io W) x4 v ∧ (∀ a ∈ acts, a.Ok) ∧ Scr (hOf W) (hOf W).next x4 acts := by
  obtain ⟨base, hval⟩ : ∃ base, Value.okWide Try.prog W .any base 26 v := hval.elim (fun q => ⟨0, q⟩) id
  obtain ⟨fuel, h⟩ := h
  have hsl : ∃ o l c, v = .slice o l c := by
    have hv := hval
    unfold Value.okWide at hv
    rw [Try.underlying26] at hv
    cases v <;> first | exact ⟨_, _, _, rfl⟩ | (simp [Cell.okWide, Try.underlying26, Cell.ok] at hv)
  obtain ⟨so, sl, sc, rfl⟩ := hsl
  rcases Go.Deep.open_slice Try.underlying26 h with ⟨hc, hx⟩ | ⟨a, len, cap, m, n, D, Pl, hc, hb, hl, hm, hmm, hx, hall⟩
  · have hv : Value.slice so sl sc = .slice none 0 0 := by simpa [Value.cells] using hc
    rw [hv]
    exact ⟨.slice none 0 0, [], .slc0 _ _, fun a ha => (by cases ha), none, 0, rfl, fun j a ha => by simp at ha⟩
  · have hv : Value.slice so sl sc = .slice (some a) len cap := by simpa [Value.cells] using hc
    rw [hv] at hval ⊢
    have hok : a.spot = none ∧ lv W a.block = true := by
      unfold Value.okWide at hval
      rw [Try.underlying26] at hval
      simp only [Cell.okWide, Try.underlying26, Cell.ok] at hval
      obtain ⟨_, _, _, hs, row, cells, hsh, _⟩ := hval
      refine ⟨hs, ?_⟩
      unfold World.shape? at hsh
      unfold lv lvO
      split at hsh
      · rename_i c el fz hb
        rw [hb]
      · cases hsh
    obtain ⟨hs, hlv⟩ := hok
    have c35 : Try.prog.cellsOf 35 = 103 := by kernel_rfl
    simp only [if_true] at hmm
    rw [hmm, c35] at hall
    obtain ⟨F, hF⟩ := Go.Deep.choose_lt (α := AT) (n := len) (p := fun i t => t.Ok ∧ (hOf W).row ⟨a.block, a.off + i * 103, none⟩ 103 = some (actC t)) (fun i hi => by
      obtain ⟨cs', h1, h2⟩ := hall i (by omega)
      obtain ⟨t, ht, rfl⟩ := read35 h2
      refine ⟨t, ht, ?_⟩
      have hadd : (a.add (i * 103)).block = a.block ∧ (a.add (i * 103)).off = a.off + i * 103 ∧ (a.add (i * 103)).spot = none := by
        unfold Addr.add
        split
        · rename_i h0; rw [h0]; exact ⟨rfl, rfl, hs⟩
        · exact ⟨rfl, rfl, rfl⟩
      have := row_of_cells (by omega) h1 hadd.2.2 ht.flat (by rw [hadd.1]; exact hlv)
      rw [hadd.1, hadd.2.1] at this
      exact this)
    obtain ⟨ab, ao, asp⟩ := a
    simp only at hs hlv
    subst hs
    obtain ⟨e, he1, he2, he3⟩ := io_lv hlv
    refine ⟨.slice (some ⟨ab, ao, some 0⟩) len cap, (List.range len).map F, ?_, ?_, ?_⟩
    · have := R.slcX (ι := io W) (o := ao) (n := len) (c := cap) he1
      rw [he2, he3] at this
      exact this
    · intro t ht
      obtain ⟨i, hi, rfl⟩ := List.mem_map.1 ht
      exact (hF i (List.mem_range.1 hi)).1
    · refine ⟨some ⟨ab, ao, some 0⟩, cap, by simp, fun j t ht => ?_⟩
      rw [List.getElem?_map] at ht
      cases hr : (List.range len)[j]? with
      | none => rw [hr] at ht; cases ht
      | some i =>
        have hi : j < len ∧ i = j := by
          obtain ⟨h1, h2⟩ := List.getElem?_eq_some_iff.1 hr
          simp at h1 h2
          exact ⟨h1, h2.symm⟩
        rw [hr, hi.2] at ht
        simp only [Option.map_some, Option.some.injEq] at ht
        subst ht
        refine ⟨ab, ao, some 0, rfl, ?_, (hF j hi.1).2⟩
        rw [hOf_next]
        obtain ⟨_, _, _, _, l, el, lh, hw, _⟩ := io_some he1
        rcases Nat.lt_or_ge ab W.heap.size with q | q
        · exact q
        · rw [Array.getElem?_eq_none q] at hw; cases hw


theorem agg_of {W : World} {base : Nat} {t n e : TypeId} {v : Value} (ht : Try.prog.underlying t = some (.array n e) ∨ ∃ fs, Try.prog.underlying t = some (.struct fs)) (hval : Value.okWide Try.prog W .any base t v) : ∃ l, v = .agg ⟨l⟩ := by
  unfold Value.okWide at hval
  rcases ht with h | ⟨fs, h⟩
  · rw [h] at hval
    obtain ⟨cs, rfl, _⟩ := hval
    exact ⟨cs.toList, rfl⟩
  · rw [h] at hval
    obtain ⟨cs, rfl, _⟩ := hval
    exact ⟨cs.toList, rfl⟩

/-- What the call gives. -/
theorem contract (H : Type) (enc : TypeId × Value → H) (W : World) (base : Nat) (args : Array Value) (ds gs : List (DataW H)) (before : List MemPlace)
    (hval : ∀ (j : Nat) t v, Try.f3.params[j]? = some t → args[j]? = some v → Value.okWide Try.prog W .any base t v)
    (hW : DataW.Whole enc Try.prog Try.f3.params.toList Rows.pinsStaySpec.vars false W args.toList ds gs before) :
    Calls Try.prog 3 args W fun e W' => ∃ v, e = .returned v ∧ Rows.pinsStaySpec.post enc Try.prog Try.f3 false true false false W args v W' := by
  have hW' := hW
  obtain ⟨p, q, hA0, hV, rfl, hfz, hnd⟩ := hW
  have hA : DataW.TrodAll enc Try.prog W 0 (fun _ => true) true Try.f3.params.toList args.toList ds p := hA0
  rw [Try.params3] at hA hval
  obtain ⟨v0, v1, v2, v3, v4, d0, d1, d2, d3, d4, p0, p1, p2, p3, p4, rfl, rfl, h0, h1, h2, h3, h4⟩ := trodAll_five hA
  obtain ⟨gen, rfl, rfl, rfl, wg⟩ := open_int Try.underlying3 (hval 0 3 v0 rfl rfl) h0
  obtain ⟨k, rfl⟩ := agg_of (.inl Try.underlying23) (hval 1 23 v1 rfl rfl)
  obtain ⟨r, rfl⟩ := agg_of (n := 0) (e := 0) (.inr ⟨_, Try.underlying25⟩) (hval 2 25 v2 rfl rfl)
  obtain ⟨m, rfl⟩ := agg_of (n := 0) (e := 0) (.inr ⟨_, Try.underlying25⟩) (hval 3 25 v3 rfl rfl)
  obtain ⟨f1, h1⟩ := h1
  obtain ⟨f2, h2⟩ := h2
  obtain ⟨f3, h3⟩ := h3
  have ok1 := (read23 h1).ok (by omega)
  have ok2 := (read25 h2).ok (by omega)
  have ok3 := (read25 h3).ok (by omega)
  obtain ⟨x4, acts, rx, hacts, hscr⟩ := script (.inr ⟨base, hval 4 26 v4 rfl rfl⟩) h4
  obtain ⟨h', hr, hg⟩ := stay (wf_i64 wg) ok1 ok2 ok3 hacts hscr
  refine bare_true laidOut ?_ rfl Try.func3 (by kernel_rfl) (by kernel_rfl) (tb := 4) (by kernel_rfl) Try.underlying4 rfl hW' CLM_ok ?_ hr hg
  · rw [Try.params3]
    intro t ht
    simp only [List.mem_cons, List.not_mem_nil, or_false] at ht
    rcases ht with rfl | rfl | rfl | rfl | rfl <;> exact ⟨by kernel_rfl, of_decide_eq_true (by kernel_rfl)⟩
  · exact .cons (.int _ _) (.cons (.agg (RL.ofFlat _ _ ok1.flt)) (.cons (.agg (RL.ofFlat _ _ ok2.flt)) (.cons (.agg (RL.ofFlat _ _ ok3.flt)) (.cons rx .nil))))

theorem lifted (os : Os) (started : os.Started) (H : Type) (enc : TypeId × Value → H) :
    ReturnsInHanded {} Try.checked os 3 .any (Rows.pinsStaySpec.pre6 enc Try.prog Try.f3 Rows.pinsStayRow.domain false) (Rows.pinsStaySpec.post enc Try.prog Try.f3 false true false false) := by
  refine returnsInHanded_of_change (C := Try.checked) own started (by kernel_rfl) Try.func3
    (ChangeSpec.witness6 (enc := enc) (C := Try.checked) false ⟨#[], #[.int .i64 0, .agg ⟨zc23⟩, .agg ⟨zc25⟩, .agg ⟨zc25⟩, .slice none 0 0], []⟩ 8 (by kernel_rfl) (by kernel_rfl) (by kernel_rfl) (by kernel_rfl)) ?_
  intro W base args ds gs before hval hW _ _
  exact contract H enc W base args ds gs before hval hW

end Go.Proofs.Ytomboannkblccaa.K

namespace Go.Proofs.Ytomboannkblccaa
open Go
set_option maxRecDepth 100000
/-- THE ROW. -/
theorem pinsStay_holds : Rows.PinsStaySaid :=
  OpenClaim.holds_of_wide 3 Try.f3 rfl rfl rfl rfl rfl rfl rfl ⟨rfl, rfl, rfl, rfl, rfl⟩ rfl rfl rfl rfl rfl (by kernel_rfl) Try.func3 (by kernel_rfl)
    (of_decide_eq_true (by kernel_rfl)) (by unfold Func.isWrapper; first | (rw [if_pos (by decide +kernel)]; kernel_rfl) | (rw [if_neg (by decide +kernel)]; exact ⟨rfl, rfl⟩))
    (fun os started H enc _ => K.lifted os started H enc)
end Go.Proofs.Ytomboannkblccaa
#print axioms Go.Proofs.Ytomboannkblccaa.pinsStay_holds
