/- The engine, part O: regions: in the text's order, in any order. -/
import Derived.Test.YtomboannkblccaaKxN
import Derived.OrdersIn
import Derived.TacticsIn
import Derived.RangeFuncRecord
namespace Go.Kx
open Go
set_option linter.unusedSimpArgs false
set_option linter.unusedVariables false

/-! ## A state of a function under way -/

/-- The fence that lets everything in: of activations of functions (none), of a round of a loop's. -/
abbrev FW (ro : Option Nat) : Fence := { Fence.wide with round := ro }

def mark (D : Nat) : Deferred := { target := .collected D, args := #[] }

/-- The marks that loops over functions have left among the deferred calls: their blocks are empty, and nobody's. -/
structure Marks (w₀ : World) (ι : Io) (w : World) (Ds : List Nat) : Prop where
  nodup : Ds.Nodup
  is : ∀ D ∈ Ds, w.heap[D]? = some (.deferred (some []))
  new : ∀ D ∈ Ds, w₀.heap.size ≤ D
  own : ∀ D ∈ Ds, ∀ b e, ι b = some e → e.c ≠ D

theorem Marks.nil {w₀ : World} {ι : Io} {w : World} : Marks w₀ ι w [] := ⟨.nil, fun _ h => (by cases h), fun _ h => (by cases h), fun _ h => (by cases h)⟩
theorem Marks.step {w₀ : World} {ι ι' : Io} {w w' : World} {Ds : List Nat} (m : Marks w₀ ι w Ds) (s : Step ι w ι' w') : Marks w₀ ι' w' Ds := by
  have hlt : ∀ D ∈ Ds, D < w.heap.size := fun D h => by
    rcases Nat.lt_or_ge D w.heap.size with q | q
    · exact q
    · have := m.is D h; rw [Array.getElem?_eq_none q] at this; cases this
  refine ⟨m.nodup, fun D h => (s.keep D (hlt D h) (m.own D h)).trans (m.is D h), m.new, fun D h b e hb he => ?_⟩
  cases h0 : ι b with
  | some e' =>
    have := s.ext _ _ h0
    rw [hb] at this; cases this
    exact m.own D h b e h0 he
  | none =>
    rcases s.new b e hb h0 with q | ⟨b₀, e₀, h1, h2⟩
    · have := hlt D h; omega
    · exact m.own D h b₀ e₀ h1 (h2.trans he)

structure St (P : Program) (G n : Nat) (ι₀ : Io) (w₀ : World) (ι : Io) (fr : Fr) (h : H) (a : Act) (w : World) : Prop where
  step : Step ι₀ w₀ ι w
  sim : Sim P ι h w
  fr : FR ι fr a.tmps
  dfs : ∃ Ds, a.defers = Ds.map mark ∧ Marks w₀ ι w Ds
  size : n ≤ a.tmps.size
  gl : GL G ι

theorem opOk_n {G n : Nat} {o : Oper} (h : opOk G n o = true) (c : Call) : o.op ≠ .defer c := by
  intro q
  unfold opOk at h
  rw [q] at h
  cases h
theorem opOk_g {G n : Nat} {o : Oper} (h : opOk G n o = true) {ι : Io} (hg : GL G ι) : GOk ι o := by
  intro g hm
  unfold opOk at h
  simp only [Bool.and_eq_true] at h
  have := List.all_eq_true.1 h.2 _ (by simpa using hm)
  exact hg g (by simpa [Nat.blt_eq] using this)
theorem opOk_d {G n : Nat} {o : Oper} (h : opOk G n o = true) {d : Nat} (hd : o.dst = some d) : d < n := by
  unfold opOk at h
  simp only [Bool.and_eq_true, hd] at h
  simpa [Nat.blt_eq] using h.1.2

theorem St.put {P : Program} {G n : Nat} {ι₀ ι ι' : Io} {w₀ w w' : World} {fr : Fr} {h h' : H} {a : Act} (s : St P G n ι₀ w₀ ι fr h a w) {o : Oper} (ho : opOk G n o = true) {v v' : Value} (hs : Step ι w ι' w') (hsim : Sim P ι' h' w') (hv : R ι' v v') :
    St P G n ι₀ w₀ ι' (Fr.put fr o.dst v) h' (a.put o.dst v') w' := by
  refine ⟨s.step.trans hs, hsim, ?_, ?_, ?_, s.gl.mono hs.ext⟩
  · have h1 := s.fr.mono hs.ext
    cases hd : o.dst with
    | none => exact h1
    | some d => exact h1.put (Nat.lt_of_lt_of_le (opOk_d ho hd) s.size) hv
  · obtain ⟨Ds, q1, q2⟩ := s.dfs
    exact ⟨Ds, by cases hd : o.dst <;> exact q1, q2.step hs⟩
  · cases hd : o.dst with
    | none => exact s.size
    | some d => simp only [Act.put, Array.size_setIfInBounds]; exact s.size

theorem undef_R (ι : Io) : R ι undef undef := .tuple .nil

/-- How a code's end is told. -/
def ExR (ι : Io) : Ex → Exit → Prop
  | .normal, .normal => True
  | .exit i, .exit j => i = j
  | .ret, .ret => True
  | .pan v, .panic ch => ∃ v', ch = [{ v := v', recovered := false }] ∧ R ι v v'
  | _, _ => False

/-- What follows, in both. -/
def KQ (P : Program) (G n : Nat) (ι₀ : Io) (w₀ : World) (r : Res Value) (K : Ko) (Q : Exit → Act → World → Prop) : Prop :=
  ∀ e fr h ι a w e', St P G n ι₀ w₀ ι fr h a w → ExR ι e e' → K e fr h = r → Q e' a w

def PanOk (Q : Exit → Act → World → Prop) : Prop := ∀ c a a' w, a.defers = a'.defers → Q (.panic c) a w → Q (.panic c) a' w

theorem wantV_ok {ι : Io} {v v' : Value} (h : R ι v v') {want b : Bool} (hw : wantV want v = some b) : ((match (some v' : Option Value) with | some (.bool t) => some t | _ => none) == some want) = b := by
  unfold wantV at hw
  split at hw
  · cases h
    simp only [Option.some.injEq] at hw
    subst hw
    rename_i t
    cases t <;> cases want <;> rfl
  · cases hw
  · rename_i hn hn'
    simp only [Option.some.injEq] at hw
    subst hw
    cases h <;> first | rfl | exact absurd rfl (hn _) | exact absurd rfl (hn' _ _ _)

theorem wanted_ok {ι : Io} {fr : Fr} {a : Act} (hf : FR ι fr a.tmps) {o : Oper} {ops : Array Oper} {b : Bool} (h : wantedX o ops.toList fr = some b) : Region.wanted o (yielded ops a.tmps) = b := by
  unfold wantedX at h
  unfold Region.wanted
  cases hg : o.guard with
  | none => rw [hg] at h; simp only [Option.some.injEq] at h; exact h
  | some jw =>
    obtain ⟨j, want⟩ := jw
    rw [hg] at h
    simp only at h ⊢
    have : ops.toList[j]? = ops[j]? := by simp
    rw [this] at h
    cases hd : (ops[j]?).bind (·.dst) with
    | none => rw [hd] at h; cases h
    | some d =>
      rw [hd] at h
      simp only at h
      cases hv : Fr.at fr d with
      | none => rw [hv] at h; cases h
      | some v =>
        rw [hv] at h
        simp only at h
        obtain ⟨v', h1, h2⟩ := hf d v hv
        have := wantV_ok h2 h
        unfold yielded
        rw [hd]
        simp only [Option.bind_some, h1]
        exact this

/-- One operation of a region, whatever frame it is of. -/
def wpO (P : Program) (ops : Array Oper) (Q : Exit → Act → World → Prop) (o : Oper) (K : Act → World → Prop) (a : Act) (w : World) : Prop :=
  if Region.wanted o (yielded ops a.tmps) = true then Upon P (fun v w' => K (a.put o.dst v) w') (fun v w' => Q (.panic [{ v, recovered := false }]) a w') ((execOp a.eval o).run P w)
  else K (a.put o.dst undef) w
def wpI (P : Program) (ops : Array Oper) (Q : Exit → Act → World → Prop) (i : Nat) (K : Act → World → Prop) (a : Act) (w : World) : Prop :=
  match ops[i]? with
  | none => K a w
  | some o => wpO P ops Q o K a w

theorem wpO_mono {P : Program} {ops : Array Oper} {Q : Exit → Act → World → Prop} {o : Oper} {K K' : Act → World → Prop} {a : Act} {w : World} (h : ∀ a w, K a w → K' a w) (hh : wpO P ops Q o K a w) : wpO P ops Q o K' a w := by
  unfold wpO at *
  split
  · rename_i hw; rw [if_pos hw] at hh; exact hh.mono (fun _ _ q => h _ _ q) (fun _ _ q => q)
  · rename_i hw; rw [if_neg hw] at hh; exact h _ _ hh
theorem wpI_mono {P : Program} {ops : Array Oper} {Q : Exit → Act → World → Prop} {i : Nat} {K K' : Act → World → Prop} {a : Act} {w : World} (h : ∀ a w, K a w → K' a w) (hh : wpI P ops Q i K a w) : wpI P ops Q i K' a w := by
  unfold wpI at *
  split
  · rename_i ho; rw [ho] at hh; exact h _ _ hh
  · rename_i o ho; rw [ho] at hh; exact wpO_mono h hh

theorem rowsW {ro : Option Nat} {n : Nat} {P : Program} {row : String} {args : Array Value} {w : World} {R : Value → World → Prop} (h : Rows P row args w R) : RowsIn (FW ro) n P row args w R :=
  fun c cs _ => let ⟨v, w', r, s⟩ := h c cs; ⟨v, w', r, stepsIn_wide.2 s⟩
theorem callsW {ro : Option Nat} {n : Nat} {P : Program} {f : FuncId} {args : Array Value} {w : World} {R : Ending → World → Prop} (h : Calls P f args w R) : CallsIn (FW ro) n P f args w R :=
  (callsIn_wide.2 h : CallsIn Fence.wide n P f args w R)

/-- It is one of the kit's walks, in whatever frame. -/
theorem wpO_in {ro : Option Nat} {P : Program} {ops : Array Oper} {Q : Exit → Act → World → Prop} {o : Oper} {K : Act → World → Prop} {a : Act} {w : World} (hd : ∀ c, o.op ≠ .defer c) (h : wpO P ops Q o K a w) :
    if Region.wanted o (yielded ops a.tmps) = true then o.wpIn (FW ro) 0 P a w K Q else (∀ f, o.about P w a.eval = some f → (FW ro).fn f) ∧ K (a.put o.dst undef) w := by
  unfold wpO at h
  split
  · rename_i hw
    rw [if_pos hw] at h
    refine ⟨fun _ _ => trivial, ?_⟩
    rw [Oper.semAt_eq _ _ _ hd]
    have nd : ∀ {p : Prop}, (FW ro).depth.isSome = true → p := fun q => by cases q
    generalize (execOp a.eval o).run P w = r at h ⊢
    unfold Upon at h
    split at h
    · exact h
    · exact h
    · exact ⟨nd, (callsW h).mono fun e w' he => by
        cases e with
        | returned v => exact he
        | panicked c => obtain ⟨v, hv, hp⟩ := he; subst hv; exact hp
        | outgrown => exact he.elim⟩
    · exact ⟨nd, rowsW h⟩
    · refine ⟨nd, ?_⟩
      have h' : RoundIn (FW ro) 0 P _ _ _ _ _ _ _ := h
      exact h'.mono fun e w' he => by
        cases e with
        | returned v => exact he
        | panicked c => obtain ⟨v, hv, hp⟩ := he; subst hv; exact hp
        | outgrown => exact he.elim
    · exact h
    · exact h.elim
  · rename_i hw
    rw [if_neg hw] at h
    exact ⟨fun _ _ => trivial, h⟩

/-- The operations of a region in the text's order. -/
def wpL (P : Program) (ops : Array Oper) (Q : Exit → Act → World → Prop) : List Oper → Act → World → Prop
  | [], a, w => Q .normal a w
  | o :: l, a, w => wpO P ops Q o (wpL P ops Q l) a w
theorem wpL_in {ro : Option Nat} {P : Program} {ops : Array Oper} {Q : Exit → Act → World → Prop} : ∀ (l : List Oper) {a : Act} {w : World}, (∀ o ∈ l, ∀ c, o.op ≠ .defer c) → wpL P ops Q l a w → wpListIn (FW ro) 0 P ops Q l a w
  | [], _, _, _, h => h
  | o :: l, a, w, hd, h => by
    have h1 : wpO P ops Q o (wpListIn (FW ro) 0 P ops Q l) a w := wpO_mono (fun a w q => wpL_in l (fun o' ho' => hd o' (by simp [ho'])) q) h
    exact wpO_in (hd o (by simp)) h1

/-- The place behind an operation that is carried out. -/
theorem upon_next {P : Program} {G n : Nat} {ι₀ ι : Io} {w₀ w : World} {fr : Fr} {h : H} {a : Act} {cl : Cl} {ops : List Oper} {i : Nat} {K : Ko} {Q : Exit → Act → World → Prop} {r : Res Value} (hr : r ≠ .bad) {o : Oper} (ho : opOk G n o = true)
    (hcl : ClOk P G cl) (s : St P G n ι₀ w₀ ι fr h a w) (hK : KQ P G n ι₀ w₀ r K Q) {k : Fr → H → Res Value} {Next : Act → World → Prop}
    (hk : ∀ fr' h' ι' v' w', St P G n ι₀ w₀ ι' fr' h' (a.put o.dst v') w' → Step ι w ι' w' → k fr' h' = r → Next (a.put o.dst v') w')
    (he : (xop P cl fr o h).go (fun v h' => K (.pan v) fr h') (fun v h' => bif guards ops i then ifV v (k (Fr.put fr o.dst (.bool true)) h') (k (Fr.put fr o.dst (.bool false)) h') else k (Fr.put fr o.dst v) h') = r) :
    Upon P (fun v w' => Next (a.put o.dst v) w') (fun v w' => Q (.panic [{ v, recovered := false }]) a w') ((execOp a.eval o).run P w) := by
  have hx := xop_ok (cl := cl) s.sim hcl s.gl s.fr o (opOk_g ho s.gl)
  cases hxo : xop P cl fr o h with
  | bad => rw [hxo] at he; exact absurd he.symm hr
  | pan v h' =>
    rw [hxo] at hx he
    refine Upon.mono (fun _ _ q => q.elim) (fun v' w' q => ?_) hx
    obtain ⟨ι', h1, h2, h3⟩ := q
    exact hK _ _ _ ι' a w' _ ⟨s.step.trans h1, h2, s.fr.mono h1.ext, s.dfs.imp fun _ q => ⟨q.1, q.2.step h1⟩, s.size, s.gl.mono h1.ext⟩ (show ExR ι' (.pan v) (.panic [{ v := v', recovered := false }]) from ⟨v', rfl, h3⟩) he
  | ok v h' =>
    rw [hxo] at hx he
    refine Upon.mono (fun v' w' q => ?_) (fun _ _ q => q.elim) hx
    obtain ⟨ι', h1, h2, h3⟩ := q
    simp only [Res.go_ok] at he
    cases hgd : guards ops i with
    | false =>
      rw [hgd] at he
      exact hk _ _ _ _ _ (s.put ho h1 h2 h3) h1 he
    | true =>
      rw [hgd] at he
      simp only [cond_true] at he
      unfold ifV at he
      split at he
      · rename_i t
        cases h3
        cases t
        · exact hk _ _ _ _ _ (s.put ho h1 h2 (.bool false)) h1 he
        · exact hk _ _ _ _ _ (s.put ho h1 h2 (.bool true)) h1 he
      · exact absurd he.symm hr

theorem grd_cases {b : Option Bool} {y z r : Res Value} (h : grd b y z = r) (hr : r ≠ .bad) : (b = some true ∧ y = r) ∨ (b = some false ∧ z = r) := by
  unfold grd at h
  split at h
  · exact .inl ⟨rfl, h⟩
  · exact .inr ⟨rfl, h⟩
  · exact absurd h.symm hr

theorem evL_ok {P : Program} {G n : Nat} {ι₀ : Io} {w₀ : World} {cl : Cl} {ops : Array Oper} {K : Ko} {Q : Exit → Act → World → Prop} {r : Res Value} (hr : r ≠ .bad) (hcl : ClOk P G cl) (hK : KQ P G n ι₀ w₀ r K Q) :
    ∀ (l : List Oper) (i : Nat) {ι : Io} {fr : Fr} {h : H} {a : Act} {w : World}, l.all (opOk G n) = true → St P G n ι₀ w₀ ι fr h a w → evL P cl ops.toList K i l fr h = r → wpL P ops Q l a w
  | [], i, ι, fr, h, a, w, _, s, he => hK .normal fr h ι a w .normal s trivial he
  | o :: l, i, ι, fr, h, a, w, hl, s, he => by
    simp only [List.all_cons, Bool.and_eq_true] at hl
    simp only [evL, ev1] at he
    simp only [wpL, wpO]
    rcases grd_cases he hr with ⟨hw, he⟩ | ⟨hw, he⟩
    · rw [if_pos (wanted_ok s.fr hw)]
      exact (upon_next hr hl.1 hcl s hK (fun fr' h' ι' v' w' s' _ hk => evL_ok hr hcl hK l (i + 1) hl.2 s' hk) he)
    · rw [if_neg (by rw [wanted_ok s.fr hw]; simp)]
      exact evL_ok hr hcl hK l (i + 1) hl.2 (s.put hl.1 (Step.refl _ _) s.sim (undef_R _)) he

/-! ## Any order -/

inductive Anc (ops : Array Oper) : Nat → Nat → Prop
  | one {j : Nat} {o : Oper} {e : Edge} (ho : ops[j]? = some o) (he : e ∈ o.after) (hb : Region.binds .any e = true) : Anc ops j e.on
  | more {j l : Nat} {o : Oper} {e : Edge} (ho : ops[j]? = some o) (he : e ∈ o.after) (hb : Region.binds .any e = true) (h : Anc ops e.on l) : Anc ops j l

def Down (ops : Array Oper) (listed : Array Bool) : Prop :=
  ∀ j o, ops[j]? = some o → listed.getD j false = true → ∀ e ∈ o.after, Region.binds .any e = true → listed.getD e.on false = true

theorem Down.anc {ops : Array Oper} {listed : Array Bool} (hd : Down ops listed) {j l : Nat} (h : Anc ops j l) : listed.getD j false = true → listed.getD l false = true := by
  induction h with
  | one ho he hb => intro hj; exact hd _ _ ho hj _ he hb
  | more ho he hb _ ih => intro hj; exact ih (hd _ _ ho hj _ he hb)
theorem Down.ready {ops : Array Oper} {listed : Array Bool} (hd : Down ops listed) {j l : Nat} (hj : j ∈ Region.ready .any ops listed) (h : Anc ops j l) : listed.getD l false = true := by
  obtain ⟨_, o, ho, hall⟩ := mem_ready.1 hj
  cases h with
  | one ho' he hb => rw [ho] at ho'; cases ho'; exact hall _ he hb
  | more ho' he hb h' => rw [ho] at ho'; cases ho'; exact hd.anc h' (hall _ he hb)
theorem Down.set {ops : Array Oper} {listed : Array Bool} (hd : Down ops listed) {j : Nat} (hj : j ∈ Region.ready .any ops listed) : Down ops (listed.setIfInBounds j true) := by
  intro i o ho hi e he hb
  by_cases hij : j = i
  · subst hij
    obtain ⟨_, o', ho', hall⟩ := mem_ready.1 hj
    rw [ho] at ho'; cases ho'
    exact getD_set_true (hall e he hb)
  · rw [getD_set_ne false hij] at hi
    exact getD_set_true (hd i o ho hi e he hb)

section
variable {P : Program} {ops : Array Oper} {Q : Exit → Act → World → Prop}

abbrev Kept := Nat × (World → Prop)

/-- What is kept of the operations taken early, while others are carried out. -/
def pres (ops : Array Oper) (i : Nat) (ks : List Kept) (w w' : World) : Prop := ∀ k ∈ ks, Anc ops i k.1 ∨ (k.2 w → k.2 w')
theorem pres_refl (i : Nat) (ks : List Kept) (w : World) : pres ops i ks w w := fun _ _ => .inr id

def wpT (P : Program) (ops : Array Oper) (Q : Exit → Act → World → Prop) : Nat → List Kept → Array Bool → Act → World → Prop
  | 0, _, listed, a, w => Region.ready .any ops listed = [] ∧ Q .normal a w
  | fuel + 1, ks, listed, a, w =>
    (Region.ready .any ops listed = [] → Q .normal a w) ∧
    ∀ i ∈ Region.ready .any ops listed, wpI P ops Q i (fun a' w' => pres ops i ks w w' ∧ wpT P ops Q fuel ks (listed.setIfInBounds i true) a' w') a w

theorem wpT_any {ro : Option Nat} (hd : ∀ o ∈ ops.toList, ∀ c, o.op ≠ .defer c) : ∀ (fuel : Nat) (ks : List Kept) (listed : Array Bool) (a : Act) (w : World), wpT P ops Q fuel ks listed a w → wpAnyIn (FW ro) 0 P .any ops Q fuel listed a w
  | 0, _, _, _, _, h => h
  | fuel + 1, ks, listed, a, w, h => by
    refine ⟨h.1, fun i hi => ?_⟩
    have h1 : wpI P ops Q i (wpAnyIn (FW ro) 0 P .any ops Q fuel (listed.setIfInBounds i true)) a w := wpI_mono (fun a' w' h' => wpT_any hd fuel _ _ a' w' h'.2) (h.2 i hi)
    unfold wpI at h1
    unfold wpOpIn
    cases ho : ops[i]? with
    | none => rw [ho] at h1; exact h1
    | some o => rw [ho] at h1; exact wpO_in (hd o (by have := Array.mem_of_getElem? ho; simpa using this)) h1
theorem wpT_drop {k : Kept} : ∀ (fuel : Nat) (ks : List Kept) (listed : Array Bool) (a : Act) (w : World), wpT P ops Q fuel (k :: ks) listed a w → wpT P ops Q fuel ks listed a w
  | 0, _, _, _, _, h => h
  | fuel + 1, ks, _, _, _, h => ⟨h.1, fun i hi => wpI_mono (fun a' w' h' => ⟨fun q hq => h'.1 q (by simp [hq]), wpT_drop fuel _ _ a' w' h'.2⟩) (h.2 i hi)⟩
theorem wpT_done {ks : List Kept} {listed : Array Bool} {a : Act} {w : World} (hr : Region.ready .any ops listed = []) (h : Q .normal a w) : ∀ fuel, wpT P ops Q fuel ks listed a w
  | 0 => ⟨hr, h⟩
  | _ + 1 => ⟨fun _ => h, by rw [hr]; simp⟩

theorem yieldsIf_I {S : World → Prop} {i : Nat} {o : Oper} {v : Value} {a : Act} (hi : ops[i]? = some o) (hy : YieldsIf P ops S o v a) {K : Act → World → Prop} {w : World} (hS : S w) (h : K (a.put o.dst v) w) : wpI P ops Q i K a w := by
  unfold wpI wpO
  rw [hi]
  rcases hy with ⟨hw, hv⟩ | ⟨hw, rfl⟩
  · simp only [hw, if_true, hv w hS, Upon]; exact h
  · simp only [hw, Bool.false_eq_true, if_false]; exact h

/-- Whether an operation's value is there already makes no difference to one that is apart from it. -/
theorem wpI_putIf {S : World → Prop} {j : Nat} {oi oj : Oper} {v : Value} (hj : ops[j]? = some oj) (hap : oi.apart ops oj = true) (hsi : ∀ cs b, oi.op ≠ .select cs b) (hsj : ∀ cs b, oj.op ≠ .select cs b)
    (hQ : ∀ c a w, Q (.panic c) (a.put oi.dst v) w → Q (.panic c) a w) {K : Act → World → Prop} {a : Act} {w : World} (hy : YieldsIf P ops S oi v a) (h : wpI P ops Q j K (a.put oi.dst v) w) :
    wpI P ops Q j (fun a' w' => YieldsIf P ops S oi v a' ∧ K (a'.put oi.dst v) w') a w := by
  obtain ⟨h1, h2, h3⟩ := Oper.apart_spec hap
  have on : ∀ u, YieldsIf P ops S oi v (a.put oj.dst u) := fun u => hy.of_same (execOp_put oi hsi a oj.dst u h3) (wanted_put oi a oj.dst u h3)
  unfold wpI wpO at *
  rw [hj] at *
  simp only at *
  rw [wanted_put oj a oi.dst v h1, execOp_put oj hsj a oi.dst v h1] at h
  split
  · rename_i hw
    rw [if_pos hw] at h
    exact h.mono (fun u w' q => ⟨on u, by rw [← Act.put_comm a v u h2]; exact q⟩) (fun u w' q => hQ _ _ _ q)
  · rename_i hw
    rw [if_neg hw] at h
    exact ⟨on _, by rw [← Act.put_comm a v undef h2]; exact h⟩

theorem wpT_first {i : Nat} {oi : Oper} {v : Value} {S : World → Prop} (hi : ops[i]? = some oi) (hsel : ∀ (j : Nat) (o : Oper) cs b, ops[j]? = some o → o.op ≠ .select cs b)
    (hQ : ∀ c a w, Q (.panic c) (a.put oi.dst v) w → Q (.panic c) a w) :
    ∀ (fuel : Nat) (ks : List Kept) (listed : Array Bool) (a : Act) (w : World), Down ops listed →
      (∀ j oj, ops[j]? = some oj → j ≠ i → listed.getD j true = false → (∀ e ∈ oj.after, Region.binds .any e = true → e.on ≠ i) → oi.apart ops oj = true) →
      i ∈ Region.ready .any ops listed → YieldsIf P ops S oi v a → S w →
      wpT P ops Q fuel ((i, S) :: ks) (listed.setIfInBounds i true) (a.put oi.dst v) w → wpT P ops Q (fuel + 1) ks listed a w := by
  intro fuel
  induction fuel with
  | zero =>
    intro ks listed a w hdn _ hr hy hS Hh
    refine ⟨fun h => (by rw [h] at hr; cases hr), fun j hj => ?_⟩
    by_cases hji : j = i
    · subst hji; exact yieldsIf_I hi hy hS ⟨pres_refl _ _ _, Hh⟩
    · have := ready_mono hj hji
      rw [Hh.1] at this
      cases this
  | succ fuel ih =>
    intro ks listed a w hdn hfree hr hy hS Hh
    refine ⟨fun h => (by rw [h] at hr; cases hr), fun j hj => ?_⟩
    by_cases hji : j = i
    · subst hji; exact yieldsIf_I hi hy hS ⟨pres_refl _ _ _, wpT_drop _ _ _ _ _ Hh⟩
    · have h1 := Hh.2 j (ready_mono hj hji)
      obtain ⟨hjun, oj, hoj, hall⟩ := mem_ready.1 hj
      have hi0 : ¬ listed.getD i false = true := fun h1 => by
        have h0 := (mem_ready.1 hr).1
        rcases Nat.lt_or_ge i listed.size with h' | h'
        · simp [h'] at h0 h1; rw [h0] at h1; cases h1
        · simp [Array.getElem?_eq_none h'] at h1
      have hnot : ∀ e ∈ oj.after, Region.binds .any e = true → e.on ≠ i := fun e he hb heq => hi0 (heq ▸ hall e he hb)
      have hnanc : ¬ Anc ops j i := fun h => hi0 (hdn.ready hj h)
      have h2 := wpI_putIf hoj (hfree j oj hoj hji hjun hnot) (fun cs b => hsel i oi cs b hi) (fun cs b => hsel j oj cs b hoj) hQ hy h1
      have hfree' : ∀ k ok, ops[k]? = some ok → k ≠ i → (listed.setIfInBounds j true).getD k true = false →
          (∀ e ∈ ok.after, Region.binds .any e = true → e.on ≠ i) → oi.apart ops ok = true := fun k ok hk hki hun hno => by
        refine hfree k ok hk hki ?_ hno
        by_cases hjk : j = k
        · subst hjk; exact hjun
        · rw [getD_set_ne true hjk] at hun; exact hun
      refine wpI_mono (fun a' w' h3 => ⟨fun q hq => h3.2.1 q (by simp [hq]), ih ks (listed.setIfInBounds j true) a' w' (hdn.set hj) hfree' (ready_mono hr (Ne.symm hji)) h3.1 ?_ ?_⟩) h2
      · exact (h3.2.1 (i, S) (by simp)).resolve_left hnanc hS
      · rw [Array.setIfInBounds_comm _ _ hji]
        exact h3.2.2

theorem wpT_only {j fuel : Nat} {ks : List Kept} {listed : Array Bool} {a : Act} {w : World} (hr : Region.ready .any ops listed = [j])
    (h : wpI P ops Q j (fun a' w' => pres ops j ks w w' ∧ wpT P ops Q fuel ks (listed.setIfInBounds j true) a' w') a w) : wpT P ops Q (fuel + 1) ks listed a w :=
  ⟨fun h0 => (by rw [hr] at h0; cases h0), fun i hi => (by rw [hr] at hi; simp at hi; subst hi; exact h)⟩

theorem wp_region_t {ro : Option Nat} {id : Nat} {a : Act} {w : World} (hm : P.follows .mixedOrders = true) (hd : ∀ o ∈ ops.toList, ∀ c, o.op ≠ .defer c)
    (h : wpT P ops Q ops.size [] (Array.replicate ops.size false) a { w with drawn := w.drawn + 1 }) : (Code.region id ops true).wpIn (FW ro) 0 P Q a w :=
  wpIn_region_any hm (wpT_any hd _ _ _ _ _ h)
end

/-! ## The plan of a region -/

theorem ancB_ok {ops : Array Oper} : ∀ (f : Nat) {j l : Nat}, ancB ops f j l = true → Anc ops j l
  | 0, _, _, h => by cases h
  | f + 1, j, l, h => by
    unfold ancB at h
    split at h
    · rename_i o ho
      obtain ⟨e, he, hb⟩ := List.any_eq_true.1 h
      simp only [Bool.and_eq_true, Bool.or_eq_true] at hb
      rcases hb.2 with h1 | h1
      · have := Nat.eq_of_beq_eq_true h1
        subst this
        exact .one ho (by simpa using he) hb.1
      · exact .more ho (by simpa using he) hb.1 (ancB_ok f h1)
    · cases h

/-- A load that was taken early and may be asked again. -/
structure Held (P : Program) (ops : Array Oper) (a : Act) (ls : List Nat) (k : Kept) : Prop where
  mem : k.1 ∈ ls
  is : ∃ o d s v, ops[k.1]? = some o ∧ isLoad o = true ∧ o.dst = some d ∧ execOp a.eval o = s ∧ a.tmps[d]? = some v ∧ Region.wanted o (yielded ops a.tmps) = true ∧ k.2 = fun w => s.run P w = .ok (.value v) w

def KsOk (P : Program) (ops : Array Oper) (a : Act) (ls : List Nat) (ks : List Kept) : Prop := ∀ k ∈ ks, (∀ w, k.2 w) ∨ Held P ops a ls k

theorem Held.put {P : Program} {ops : Array Oper} {a : Act} {ls : List Nat} {k : Kept} (h : Held P ops a ls k) {o : Oper} (hs : ls.all (sepB ops o) = true) (v : Value) : Held P ops (a.put o.dst v) ls k := by
  refine ⟨h.mem, ?_⟩
  obtain ⟨ol, d, s, u, h1, h2, h3, h4, h5, h6, h7⟩ := h.is
  have hsep := List.all_eq_true.1 hs _ h.mem
  unfold sepB at hsep
  rw [h1] at hsep
  simp only at hsep
  have hno : ∀ d', o.dst = some d' → d' ∉ ol.looksAt ops ∧ d ≠ d' := by
    intro d' hd'
    rw [hd'] at hsep
    simp only [Bool.and_eq_true, Bool.not_eq_true', List.contains_eq_mem, decide_eq_false_iff_not, bne_iff_ne, ne_eq] at hsep
    exact ⟨hsep.1, fun q => hsep.2 (by rw [h3, q])⟩
  have hsel : ∀ cs b, ol.op ≠ .select cs b := by
    intro cs b q
    unfold isLoad at h2
    rw [q] at h2
    cases h2
  refine ⟨ol, d, s, u, h1, h2, h3, ?_, ?_, ?_, h7⟩
  · rw [execOp_put ol hsel a o.dst v (fun d' q => (hno d' q).1)]; exact h4
  · cases hd : o.dst with
    | none => exact h5
    | some d' =>
      simp only [Act.put]
      rw [Array.getElem?_setIfInBounds_ne (fun q => (hno d' hd).2 q.symm)]
      exact h5
  · rw [wanted_put ol a o.dst v (fun d' q => (hno d' q).1)]; exact h6

theorem KsOk.put {P : Program} {ops : Array Oper} {a : Act} {ls : List Nat} {ks : List Kept} (h : KsOk P ops a ls ks) {o : Oper} (hs : ls.all (sepB ops o) = true) (v : Value) : KsOk P ops (a.put o.dst v) ls ks :=
  fun k hk => (h k hk).imp id (fun q => q.put hs v)

theorem recheck_mem {P : Program} {ops : List Oper} {fr : Fr} {h : H} : ∀ {l : List Nat}, recheck P ops fr h l = true → ∀ j ∈ l, ∃ o d, ops[j]? = some o ∧ o.dst = some d ∧ rcG (wantedX o ops fr) (rc (xop P noCl fr o h) (Fr.at fr d)) = true
  | [], _, j, hj => by cases hj
  | i :: l, hh, j, hj => by
    simp only [recheck, Bool.and_eq_true] at hh
    cases hj with
    | head =>
      have h1 := hh.1
      split at h1
      · rename_i o ho
        split at h1
        · rename_i d hd
          exact ⟨o, d, ho, hd, h1⟩
        · cases h1
      · cases h1
    | tail _ hm => exact recheck_mem hh.2 j hm

/-- A load asked again tells what it told. -/
theorem Held.again {P : Program} {G n : Nat} {ι₀ ι : Io} {w₀ w : World} {ops : Array Oper} {fr : Fr} {h : H} {a : Act} {ls : List Nat} {k : Kept} (hk : Held P ops a ls k) (s : St P G n ι₀ w₀ ι fr h a w)
    (hall : ops.toList.all (opOk G n) = true) {chk : List Nat} (hc : recheck P ops.toList fr h chk = true) (hm : k.1 ∈ chk) : k.2 w := by
  obtain ⟨o, d, s', v, h1, h2, h3, h4, h5, h6, h7⟩ := hk.is
  obtain ⟨o', d', g1, g2, g3⟩ := recheck_mem hc _ hm
  have g1' : ops[k.1]? = some o' := by simpa using g1
  rw [h1] at g1'; cases g1'
  rw [h3] at g2; cases g2
  have ho : opOk G n o = true := List.all_eq_true.1 hall _ (by have := Array.mem_of_getElem? h1; simpa using this)
  unfold rcG at g3
  split at g3
  · unfold rc at g3
    split at g3
    · rename_i u' h' u hx hu
      have he : earlyS o = true := by
        unfold isLoad at h2; unfold earlyS
        split at h2
        · rename_i q; rw [q]
        · cases h2
      have hd : earlyD fr o = true := by
        unfold isLoad at h2; unfold earlyD
        split at h2
        · rename_i q; rw [q]
        · cases h2
      obtain ⟨rfl, u1, q3, q4, _⟩ := early_run s.sim (cl := noCl) he s.fr (opOk_g ho s.gl) hd hx
      have q4 := q4 []
      rw [pushes_nil] at q4
      obtain ⟨v1, p1, p2⟩ := s.fr d u hu
      rw [h5] at p1; cases p1
      have := R.same q3 p2 g3
      subst this
      rw [h7, ← h4]
      exact q4
    · cases g3
  · rename_i hw
    have := wanted_ok s.fr hw
    rw [h6] at this; cases this
  · cases g3

theorem evD_ok {P : Program} {G n : Nat} {ι₀ : Io} {w₀ : World} {cl : Cl} {ops : Array Oper} {K : Ko} {Q : Exit → Act → World → Prop} {r : Res Value} (hr : r ≠ .bad) (hcl : ClOk P G cl) (hK : KQ P G n ι₀ w₀ r K Q) (hp : PanOk Q)
    (hall : ops.toList.all (opOk G n) = true) (hns : Region.noSelect ops = true) :
    ∀ (pl : Plan) (ex : Nat) {listed : Array Bool} {ls : List Nat} {ks : List Kept} {ι : Io} {fr : Fr} {h : H} {a : Act} {w : World}, Down ops listed → planB ops listed ls pl = true → KsOk P ops a ls ks →
      St P G n ι₀ w₀ ι fr h a w → evD P cl ops.toList K pl fr h = r → wpT P ops Q (pl.length + ex) ks listed a w
  | [], ex, listed, ls, ks, ι, fr, h, a, w, hdn, hpl, hks, s, he => by
    unfold planB at hpl
    refine wpT_done (by simpa using hpl) ?_ _
    exact hK .normal fr h ι a w .normal s trivial he
  | (i, chk, lt) :: rest, ex, listed, ls, ks, ι, fr, h, a, w, hdn, hpl, hks, s, he => by
    unfold planB at hpl
    unfold evD at he
    have hte : ops.toList[i]? = ops[i]? := by simp
    rw [hte] at he
    cases ho : ops[i]? with
    | none => rw [ho] at hpl; cases hpl
    | some o =>
      rw [ho] at hpl he
      simp only [Bool.and_eq_true] at hpl he
      obtain ⟨⟨hsep, hready⟩, hpl⟩ := hpl
      have hok : opOk G n o = true := List.all_eq_true.1 hall _ (by have := Array.mem_of_getElem? ho; simpa using this)
      have hmem : i ∈ Region.ready .any ops listed := by simpa using hready
      rw [show ((i, chk, lt) :: rest).length + ex = (rest.length + ex) + 1 by simp; omega]
      cases hes : earlyS o with
      | true =>
        rw [hes] at hpl he
        simp only [cond_true, Bool.and_eq_true] at hpl he
        unfold ev1E at he
        have first : ∀ {v v' : Value} {S : World → Prop} {ι' : Io} {h' : H}, YieldsIf P ops S o v' a → S w → ((∀ w, S w) ∨ (isLoad o = true ∧ Region.wanted o (yielded ops a.tmps) = true ∧ S = fun w => (execOp a.eval o).run P w = .ok (.value v') w)) →
            Step ι w ι' w → Sim P ι' h' w → R ι' v v' → evD P cl ops.toList K rest (Fr.put fr o.dst v) h' = r → wpT P ops Q (rest.length + ex + 1) ks listed a w := by
          intro v v' S ι' h' hy hS hkind g1 g2 g3 he'
          have hkput : KsOk P ops (a.put o.dst v') ls ks := hks.put hsep v'
          refine wpT_first ho (Region.noSelect_spec hns) (fun c a w => hp c _ _ w (by cases o.dst <;> rfl)) _ ks listed a w hdn (Region.free_spec ho hpl.1.1) hmem hy hS ?_
          refine evD_ok hr hcl hK hp hall hns rest ex (hdn.set hmem) hpl.2 ?_ (s.put hok g1 g2 g3) he'
          intro k hk
          have up : ∀ {k : Kept}, Held P ops (a.put o.dst v') ls k → Held P ops (a.put o.dst v') (bif isLoad o then i :: ls else ls) k := fun q => ⟨by cases isLoad o <;> simp [q.mem], q.is⟩
          rcases List.mem_cons.1 hk with rfl | hk'
          · rcases hkind with ha | ⟨hl, hw, hS'⟩
            · exact .inl ha
            · have hown := hpl.1.2
              rw [hl] at hown
              simp only [cond_true] at hown
              unfold ownB at hown
              cases hd : o.dst with
              | none => rw [hd] at hown; cases hown
              | some d =>
                rw [hd] at hown
                have hnl : ∀ d', o.dst = some d' → d' ∉ o.looksAt ops := by
                  intro d' q
                  rw [hd] at q; cases q
                  simpa using hown
                have hsel : ∀ cs b, o.op ≠ .select cs b := fun cs b => Region.noSelect_spec hns i o cs b ho
                refine .inr ⟨by rw [hl]; simp, o, d, execOp a.eval o, v', ho, hl, hd, ?_, ?_, ?_, hS'⟩
                · rw [← hd]; exact execOp_put o hsel a o.dst v' hnl
                · have hlt : d < a.tmps.size := Nat.lt_of_lt_of_le (opOk_d hok hd) s.size
                  simp [Act.put, hlt]
                · rw [← hd, wanted_put o a o.dst v' hnl]; exact hw
          · exact (hkput k hk').imp id up
        rcases grd_cases he hr with ⟨hw, he⟩ | ⟨hw, he⟩
        · cases hed : earlyD fr o with
          | false => rw [hed] at he; exact absurd he.symm hr
          | true =>
            rw [hed] at he
            simp only [cond_true] at he
            unfold Res.ok1 at he
            split at he
            · rename_i v h' hx
              obtain ⟨hhh, u, g3, g4, g5⟩ := early_run s.sim hes s.fr (opOk_g hok s.gl) hed hx
              have g4 := g4 []
              rw [pushes_nil] at g4
              have he' : evD P cl ops.toList K rest (Fr.put fr o.dst v) h' = r := by
                cases hgd : guards ops.toList i with
                | false => rw [hgd] at he; exact he
                | true =>
                  rw [hgd] at he
                  simp only [cond_true] at he
                  unfold ifV at he
                  split at he
                  · rename_i t
                    cases t <;> exact he
                  · exact absurd he.symm hr
              refine first (S := fun w => (execOp a.eval o).run P w = .ok (.value u) w) (.inl ⟨wanted_ok s.fr hw, fun w q => q⟩) g4 ?_ (Step.refl _ _) (hhh ▸ s.sim) g3 he'
              cases hl : isLoad o with
              | false => exact .inl (g5 hl)
              | true => exact .inr ⟨rfl, wanted_ok s.fr hw, rfl⟩
            · exact absurd he.symm hr
        · exact first (S := fun _ => True) (.inr ⟨wanted_ok s.fr hw, rfl⟩) trivial (.inl fun _ => trivial) (Step.refl _ _) s.sim (undef_R _) he
      | false =>
        rw [hes] at hpl he
        simp only [cond_false, Bool.and_eq_true] at hpl
        have hlt : lt = [] := by simpa using hpl.1.1.1
        subst hlt
        simp only [cond_false, laysB, cond_true] at he
        have hpl := And.intro hpl.1.1.2 (And.intro hpl.1.2 hpl.2)
        have hk : ∀ {fr' : Fr} {h' : H} {ι' : Io} {v' : Value} {w' : World}, St P G n ι₀ w₀ ι' fr' h' (a.put o.dst v') w' →
            chkK P ops.toList fr' h' chk (evD P cl ops.toList K rest fr' h') = r →
            pres ops i ks w w' ∧ wpT P ops Q (rest.length + ex) ks (listed.setIfInBounds i true) (a.put o.dst v') w' := by
          intro fr' h' ι' v' w' s' hk
          obtain ⟨hrc, hk⟩ : recheck P ops.toList fr' h' chk = true ∧ evD P cl ops.toList K rest fr' h' = r := by
            unfold chkK at hk
            split at hk
            · exact ⟨rfl, hk⟩
            · cases hrc : recheck P ops.toList fr' h' chk with
              | false => rw [hrc] at hk; exact absurd hk.symm hr
              | true => rw [hrc] at hk; exact ⟨rfl, hk⟩
          have hkput : KsOk P ops (a.put o.dst v') ls ks := hks.put hsep v'
          refine ⟨fun k hm => ?_, evD_ok hr hcl hK hp hall hns rest ex (hdn.set hmem) hpl.2.2 hkput s' hk⟩
          rcases hkput k hm with ha | hh
          · exact .inr fun _ => ha w'
          · have := List.all_eq_true.1 hpl.2.1 _ hh.mem
            simp only [Bool.or_eq_true] at this
            rcases this with h1 | h1
            · exact .inr fun _ => hh.again s' hall hrc (by simpa using h1)
            · exact .inl (ancB_ok _ h1)
        refine wpT_only (by simpa using hpl.1) ?_
        unfold wpI wpO
        simp only [ho]
        unfold ev1 at he
        rcases grd_cases he hr with ⟨hw, he⟩ | ⟨hw, he⟩
        · rw [if_pos (wanted_ok s.fr hw)]
          exact (upon_next (Next := fun a' w' => pres ops i ks w w' ∧ wpT P ops Q (rest.length + ex) ks (listed.setIfInBounds i true) a' w') hr hok hcl s hK (fun fr' h' ι' v' w' s' _ q => hk s' q) he)
        · rw [if_neg (by rw [wanted_ok s.fr hw]; simp)]
          exact hk (s.put hok (Step.refl _ _) s.sim (undef_R _)) he

end Go.Kx
