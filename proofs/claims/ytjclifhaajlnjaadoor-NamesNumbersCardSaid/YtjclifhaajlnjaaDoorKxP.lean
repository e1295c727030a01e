/- The engine, part P: code and functions. -/
import Derived.Test.YtjclifhaajlnjaaDoorKxO
import Derived.LoopN
import Derived.Scope
namespace Go.Kx
open Go
set_option linter.unusedSimpArgs false
set_option linter.unusedVariables false

def codeB (an : Ann) (G n : Nat) : Code → Bool
  | .region id ops draw =>
    ops.toList.all (opOk G n) && bif draw then Region.noSelect ops && (match look an.plan id with | some pl => planB ops (Array.replicate ops.size false) [] pl && Nat.ble pl.length ops.size | none => false) else true
  | .seq a b => codeB an G n a && codeB an G n b
  | .cond c a b => (match c with | .global _ => false | _ => true) && codeB an G n a && codeB an G n b
  | .block _ b => codeB an G n b
  | .loop b => codeB an G n b
  | .scope b => codeB an G n b
  | .skip => true
  | .label _ => true
  | .exit _ => true
  | .ret => true
  | _ => false

theorem PanOk.then {Q : Exit → Act → World → Prop} (h : PanOk Q) (next : Act → World → Prop) : PanOk (Exit.then next Q) := fun c a a' w e q => h c a a' w e q
theorem PanOk.inBlock {Q : Exit → Act → World → Prop} (h : PanOk Q) (id : Nat) : PanOk (Exit.inBlock id Q) := fun c a a' w e q => h c a a' w e q
theorem PanOk.noGoto {Q : Exit → Act → World → Prop} (h : PanOk Q) : PanOk (Exit.noGoto Q) := fun c a a' w e q => h c a a' w e q

theorem St.drawn {P : Program} {G n : Nat} {ι₀ ι : Io} {w₀ w : World} {fr : Fr} {h : H} {a : Act} (s : St P G n ι₀ w₀ ι fr h a w) (m : Nat) : St P G n ι₀ w₀ ι fr h a { w with drawn := m } :=
  ⟨s.step.trans (Step.drawn ι w m), s.sim.drawn m, s.fr, s.dfs, s.size, s.gl⟩

theorem KQ.then {P : Program} {G n : Nat} {ι₀ : Io} {w₀ : World} {r : Res Value} {K : Ko} {Q : Exit → Act → World → Prop} (hK : KQ P G n ι₀ w₀ r K Q) {next : Fr → H → Res Value} {Next : Act → World → Prop}
    (hn : ∀ fr h ι a w, St P G n ι₀ w₀ ι fr h a w → next fr h = r → Next a w) : KQ P G n ι₀ w₀ r (kthen K next) (Exit.then Next Q) := by
  intro e fr h ι a w e' s hx he
  cases e with
  | normal => cases e' <;> first | exact hn fr h ι a w s he | exact hx.elim
  | exit j => cases e' <;> first | exact hK _ fr h ι a w _ s hx he | exact hx.elim
  | ret => cases e' <;> first | exact hK _ fr h ι a w _ s hx he | exact hx.elim
  | pan v => cases e' <;> first | exact hK _ fr h ι a w _ s hx he | exact hx.elim

theorem KQ.blk {P : Program} {G n : Nat} {ι₀ : Io} {w₀ : World} {r : Res Value} {K : Ko} {Q : Exit → Act → World → Prop} (hK : KQ P G n ι₀ w₀ r K Q) (id : Nat) : KQ P G n ι₀ w₀ r (kblk id K) (Exit.inBlock id Q) := by
  intro e fr h ι a w e' s hx he
  cases e with
  | normal => cases e' <;> first | exact hK .normal fr h ι a w .normal s trivial he | exact hx.elim
  | exit j =>
    cases e' with
    | exit j' =>
      have hj : j = j' := hx
      subst hj
      simp only [kblk] at he
      simp only [Exit.inBlock]
      cases hb : Nat.beq j id with
      | true =>
        rw [hb] at he
        rw [if_pos (Nat.eq_of_beq_eq_true hb)]
        exact hK .normal fr h ι a w .normal s trivial he
      | false =>
        rw [hb] at he
        rw [if_neg (fun q => by rw [beqT q] at hb; cases hb)]
        exact hK (.exit j) fr h ι a w (.exit j) s rfl he
    | _ => exact hx.elim
  | ret => cases e' <;> first | exact hK _ fr h ι a w _ s hx he | exact hx.elim
  | pan v => cases e' <;> first | exact hK _ fr h ι a w _ s hx he | exact hx.elim

theorem KQ.noGoto {P : Program} {G n : Nat} {ι₀ : Io} {w₀ : World} {r : Res Value} {K : Ko} {Q : Exit → Act → World → Prop} (hK : KQ P G n ι₀ w₀ r K Q) : KQ P G n ι₀ w₀ r K (Exit.noGoto Q) := by
  intro e fr h ι a w e' s hx he
  have := hK e fr h ι a w e' s hx he
  cases e' <;> first | exact this | (cases e <;> exact hx.elim)

theorem St.erase {P : Program} {G n : Nat} {ι₀ ι : Io} {w₀ w : World} {fr : Fr} {h : H} {a : Act} (s : St P G n ι₀ w₀ ι fr h a w) (kp : List Nat) : St P G n ι₀ w₀ ι (Kx.erase kp fr) h a w :=
  ⟨s.step, s.sim, s.fr.erase kp, s.dfs, s.size, s.gl⟩
theorem St.cut {P : Program} {G n : Nat} {ι₀ ι : Io} {w₀ w : World} {fr : Fr} {h : H} {a : Act} (s : St P G n ι₀ w₀ ι fr h a w) (an : Ann) (b : Code) : St P G n ι₀ w₀ ι (cutF an b fr) h a w := by
  unfold cutF
  split
  · split
    · exact s.erase _
    · exact s
  · exact s

theorem evK_ok {P : Program} {G n : Nat} {ι₀ : Io} {w₀ : World} {cl : Cl} {an : Ann} {N : Nat} {r : Res Value} (hm : P.follows .mixedOrders = true) (hr : r ≠ .bad) (hcl : ClOk P G cl) :
    ∀ (c : Code) {K : Ko} {Q : Exit → Act → World → Prop} {ι : Io} {fr : Fr} {h : H} {a : Act} {w : World}, codeB an G n c = true → KQ P G n ι₀ w₀ r K Q → PanOk Q →
      St P G n ι₀ w₀ ι fr h a w → evK P cl an N c K fr h = r → c.wp P Q a w := by
  intro c
  induction c with
  | skip => intro K Q ι fr h a w hc hK hp s he; exact wp_skip (hK .normal fr h ι a w .normal s trivial he)
  | label l => intro K Q ι fr h a w hc hK hp s he; exact wp_label (hK .normal fr h ι a w .normal s trivial he)
  | exit id => intro K Q ι fr h a w hc hK hp s he; exact wp_exit (hK (.exit id) fr h ι a w (.exit id) s rfl he)
  | ret => intro K Q ι fr h a w hc hK hp s he; exact wp_ret (hK .ret fr h ι a w .ret s trivial he)
  | region id ops draw =>
    intro K Q ι fr h a w hc hK hp s he
    simp only [codeB, Bool.and_eq_true] at hc
    cases draw with
    | false =>
      simp only [evK, cond_false] at he
      exact wp_region_list (evL_ok hr hcl hK ops.toList 0 hc.1 s he)
    | true =>
      simp only [evK, cond_true] at he
      simp only [cond_true, Bool.and_eq_true] at hc
      split at he
      · rename_i pl hpl
        rw [hpl] at hc
        simp only [Bool.and_eq_true] at hc
        refine wp_region_t hm ?_
        have hle := Nat.le_of_ble_eq_true hc.2.2.2
        rw [show ops.size = pl.length + (ops.size - pl.length) by omega]
        have hdn : Down ops (Array.replicate ops.size false) := by
          intro j o _ hj
          exfalso
          by_cases hjs : j < ops.size
          · simp [hjs] at hj
          · simp [Array.getElem?_replicate, hjs] at hj
        have := evD_ok (ops := ops) (K := K) (Q := Q) hr hcl hK hp hc.1 hc.2.1 pl (ops.size - pl.length) (ks := []) hdn hc.2.2.1 (fun k hk => by cases hk) (s.drawn (w.drawn + 1)) he
        exact (show ops.size = pl.length + (ops.size - pl.length) by omega) ▸ this
      · exact absurd he.symm hr
  | seq x y ihx ihy =>
    intro K Q ι fr h a w hc hK hp s he
    simp only [codeB, Bool.and_eq_true] at hc
    simp only [evK] at he
    exact wp_seq (ihx hc.1 (hK.then fun fr' h' ι' a' w' s' he' => ihy hc.2 hK hp (s'.cut an y) he') (hp.then _) s he)
  | cond c x y ihx ihy =>
    intro K Q ι fr h a w hc hK hp s he
    simp only [codeB, Bool.and_eq_true] at hc
    simp only [evK] at he
    cases hv : Fr.ev fr c with
    | none => rw [hv] at he; exact absurd he.symm hr
    | some v =>
      rw [hv] at he
      simp only [Kx.w1] at he
      have hR := s.fr.ev hv (fun g q => by subst q; cases hc.1.1)
      unfold ifV at he
      split at he
      · rename_i t
        generalize hcv : a.eval c = v' at hR
        cases hR
        cases t
        · exact wp_cond_false hcv (ihy hc.2 hK hp s he)
        · exact wp_cond_true hcv (ihx hc.1.2 hK hp s he)
      · exact absurd he.symm hr
  | block id b ih =>
    intro K Q ι fr h a w hc hK hp s he
    simp only [codeB] at hc
    simp only [evK] at he
    exact wp_block (ih hc (hK.blk id) (hp.inBlock id) s he)
  | scope b ih =>
    intro K Q ι fr h a w hc hK hp s he
    simp only [codeB] at hc
    simp only [evK] at he
    exact wp_scope_straight (ih hc hK.noGoto hp.noGoto s he)
  | loop b ih =>
    intro K Q ι fr h a w hc hK hp s he
    simp only [codeB] at hc
    simp only [evK] at he
    split at he
    · split at he
      · rename_i kp hkp
        refine wp_loop_rounds N ?_
        have main : ∀ (m : Nat) {ι : Io} {fr : Fr} {h : H} {a : Act} {w : World}, St P G n ι₀ w₀ ι fr h a w → lpK kp (fun K' fr' h' => evK P cl an N b K' fr' h') K m fr h = r → Code.rounds P b Q m a w := by
          intro m
          induction m with
          | zero => intro ι fr h a w s he; exact absurd he.symm hr
          | succ m ihm =>
            intro ι fr h a w s he
            simp only [lpK] at he
            exact ih hc (hK.then fun fr' h' ι' a' w' s' he' => ihm (s'.erase kp) he') (hp.then _) s he
        exact main N (s.erase kp) he
      · exact absurd he.symm hr
    · exact absurd he.symm hr
  | _ => intro K Q ι fr h a w hc; cases hc

/-! ## Functions -/

def resS (tmps : Array Value) : ResultVar → Sem Value
  | .tmp t => pure (tmps.getD t undef)
  | .cell a t => do loadVar t (← asAddr (tmps.getD a undef))

theorem results_eq (fn : Func) (tmps : Array Value) : results fn tmps = (do let vs ← (List.toArray <$> fn.results.toList.mapM (resS tmps)); pure (if h : vs.size = 1 then vs[0] else .tuple vs)) := by
  have h0 : results fn tmps = (do let vs ← fn.results.mapM (resS tmps); pure (if h : vs.size = 1 then vs[0] else .tuple vs)) := by
    unfold results
    have : (fun (x : ResultVar) => (match x with | .tmp t => pure (tmps.getD t undef) | .cell a t => (do loadVar t (← asAddr (tmps.getD a undef))) : Sem Value)) = resS tmps := by
      funext rv; cases rv <;> rfl
    rw [← this]
    rfl
  rw [h0, Array.mapM_eq_mapM_toList]

theorem xload_same {P : Program} {ι : Io} {h h' : H} {w : World} (s : Sim P ι h w) {t : TypeId} {x x' v : Value} (hx : R ι x x') (e : xload P t x h = .ok v h') :
    h' = h ∧ ∃ a v', x' = .pointer (some a) ∧ R ι v v' ∧ (loadVar t a).run P w = .ok v' w := by
  unfold xload at e
  split at e
  · rename_i a
    cases hx with
    | ptr he =>
      rename_i b o en
      split at e
      · rename_i ha
        cases hr : h.row ⟨b, o, none⟩ (P.cellsOf t) with
        | none => rw [hr] at e; cases e
        | some l =>
          rw [hr] at e
          cases e
          obtain ⟨hl, l', h1, h2⟩ := s.row he hr
          refine ⟨rfl, _, _, rfl, .agg h1, ?_⟩
          simp only [loadVar, Sem.run_bind, Sem.run_pure, Result.andThen_ok, rIsAgg ha, if_true, rSizeOf (agg_sz ha)]
          rw [rLoadCells en.c (o + en.sh) l' (P.cellsOf t) (by rw [← h1.length, hl]) h2]
          rfl
      · rename_i ha
        cases hr : h.cell ⟨b, o, none⟩ with
        | none => rw [hr] at e; cases e
        | some v =>
          rw [hr] at e
          cases e
          obtain ⟨v', h1, h2⟩ := s.cell he hr
          refine ⟨rfl, _, v', rfl, h1, ?_⟩
          simp only [loadVar, Sem.run_bind, Sem.run_pure, Result.andThen_ok, rIsAgg ha, Bool.false_eq_true, if_false]
          rw [rLoad h2]
      · cases e
  · cases e

theorem resV_ok {P : Program} {ι : Io} {fr : Fr} {h : H} {tmps : Array Value} {w : World} (s : Sim P ι h w) (hf : FR ι fr tmps) : ∀ {rs : List ResultVar} {vs : List Value}, resV P fr h rs = some vs →
    ∃ vs', RL ι vs vs' ∧ (rs.mapM (resS tmps)).run P w = .ok vs' w
  | [], vs, e => by
    simp only [resV, Option.some.injEq] at e
    subst e
    exact ⟨[], .nil, rfl⟩
  | .tmp t :: rs, vs, e => by
    simp only [resV] at e
    split at e
    · rename_i v us hv hl
      simp only [Option.some.injEq] at e
      subst e
      obtain ⟨us', h1, h2⟩ := resV_ok s hf hl
      obtain ⟨v', g1, g2⟩ := hf t v hv
      refine ⟨v' :: us', .cons g2 h1, ?_⟩
      have g3 : tmps.getD t undef = v' := by simp [g1]
      simp only [List.mapM_cons, resS, g3, Sem.run_bind, Sem.run_pure, Result.andThen_ok, h2]
    · cases e
  | .cell a t :: rs, vs, e => by
    simp only [resV] at e
    split at e
    · rename_i p us hv hl
      split at e
      · rename_i v h' hx
        simp only [Option.some.injEq] at e
        subst e
        obtain ⟨us', h1, h2⟩ := resV_ok s hf hl
        obtain ⟨p', g1, g2⟩ := hf a p hv
        obtain ⟨_, ad, v', q1, q2, q3⟩ := xload_same s g2 hx
        refine ⟨v' :: us', .cons q2 h1, ?_⟩
        have g3 : tmps.getD a undef = .pointer (some ad) := by simp [g1, q1]
        simp only [List.mapM_cons, resS, g3, asAddr, Sem.run_bind, Sem.run_pure, Result.andThen_ok, q3, h2]
      · cases e
    · cases e

theorem one_ok {ι : Io} {vs vs' : List Value} (h : RL ι vs vs') : R ι (oneV vs) (if h : (List.toArray vs').size = 1 then (List.toArray vs')[0] else .tuple (List.toArray vs')) := by
  cases h with
  | nil => exact .tuple .nil
  | cons hv hl =>
    cases hl with
    | nil => exact hv
    | cons hu hm => exact .tuple (.cons hv (.cons hu hm))

/-- What a function's end must meet. -/
def RetQ (P : Program) (ι₀ : Io) (w₀ : World) (r : Res Value) : Ending → World → Prop
  | .returned v', w' => ∃ v h', r = .ok v h' ∧ Post P ι₀ w₀ v h' v' w'
  | .panicked ch, w' => ∃ v h' v', r = .pan v h' ∧ ch = [{ v := v', recovered := false }] ∧ Post P ι₀ w₀ v h' v' w'
  | .outgrown, _ => False

theorem kfn_ok {P : Program} {G n : Nat} {ι₀ : Io} {w₀ : World} {r : Res Value} (hr : r ≠ .bad) (fn : Func) : KQ P G n ι₀ w₀ r (kfn P fn.results.toList) (bodyPost P fn (RetQ P ι₀ w₀ r)) := by
  intro e fr h ι a w e' s hx he
  have ret : (match resV P fr h fn.results.toList with | some l => .ok (oneV l) h | none => .bad) = r → a.defers = [] ∧ ∃ v, (results fn a.tmps).run P w = .ok v w ∧ RetQ P ι₀ w₀ r (.returned v) w := by
    intro he
    cases hv : resV P fr h fn.results.toList with
    | none => rw [hv] at he; exact absurd he.symm hr
    | some l =>
      rw [hv] at he
      obtain ⟨vs', h1, h2⟩ := resV_ok s.sim s.fr hv
      refine ⟨s.dfs, _, ?_, _, _, he.symm, ι, s.step, s.sim, one_ok h1⟩
      rw [results_eq]
      simp only [map_eq_pure_bind, Sem.run_bind, h2, Result.andThen_ok, Sem.run_pure]
  cases e with
  | normal => cases e' <;> first | exact ret he | exact hx.elim
  | ret => cases e' <;> first | exact ret he | exact hx.elim
  | exit j => exact absurd he.symm hr
  | pan v =>
    cases e' with
    | panic ch =>
      obtain ⟨v', h1, h2⟩ := hx
      exact ⟨s.dfs, v, h, v', he.symm, h1, ι, s.step, s.sim, h2⟩
    | _ => exact hx.elim

theorem panOk_body (P : Program) (fn : Func) (R' : Ending → World → Prop) : PanOk (bodyPost P fn R') := fun c a a' w e q => ⟨e ▸ q.1, q.2⟩

theorem argF_ok {ι : Io} : ∀ {args args' : List Value}, RL ι args args' → ∀ (i : Nat) (pre post : List Value), pre.length = i → FR ι (argF i args) ⟨pre ++ (args' ++ post)⟩
  | _, _, .nil, i, pre, post, _ => fun t v e => by simp [argF, Fr.at] at e
  | _, _, .cons (v := v) (v' := v') (l := l) (l' := l') hv hl, i, pre, post, hi => by
    intro t u e
    simp only [argF, Fr.at] at e
    by_cases c : i = t
    · subst c
      simp only [beqT rfl, cond_true, Option.some.injEq] at e
      subst e
      refine ⟨v', ?_, hv⟩
      simp [← hi]
    · simp only [beqF c, cond_false] at e
      have := argF_ok hl (i + 1) (pre ++ [v']) post (by simp [hi]) t u e
      simpa using this

/-- What is static of a function. -/
def fnOk (P : Program) (G : Nat) (an : Ann) (f : FuncId) (fn : Func) : Prop :=
  P.funcs[f]? = some fn ∧ (fn.name == "runtime.NumGoroutine") = false ∧ fn.body.isSome = true ∧ codeB an G fn.ntmps (bodyOf fn) = true

theorem runF_ok {P : Program} {G : Nat} {cl : Cl} {an : Ann} {N : Nat} {f : FuncId} {fn : Func} (hm : P.follows .mixedOrders = true) (hcl : ClOk P G cl) (hfn : fnOk P G an f fn) {args args' : List Value} {ι : Io} {h : H} {w : World} (hg : GL G ι) (s : Sim P ι h w) (ha : RL ι args args') :
    SN P ι w (runF P cl an N fn args h) (callFunc f ⟨args'⟩) := by
  obtain ⟨h1, h2, h3, h4⟩ := hfn
  have hcall : (callFunc f ⟨args'⟩).run P w = .ok (.enter f ⟨args'⟩) w := by
    have hb : fn.body.isNone = false := by cases hb : fn.body <;> simp_all
    unfold callFunc
    rw [Sem.run_bind, show (program).run P w = .ok P w from rfl]
    simp only [Result.andThen_ok, h1, h2, hb, Bool.false_eq_true, if_false, Sem.run_pure]
  cases hr : runF P cl an N fn args h with
  | bad => trivial
  | ok v h' =>
    unfold SN
    simp only [hcall, Upon]
    exact Calls.mono (main hm hcl h1 h3 h4 hg s ha hr (by simp)) (fun e w' he => by
      cases e with
      | returned v' => obtain ⟨_, _, q1, q2⟩ := he; cases q1; exact q2
      | panicked ch => obtain ⟨_, _, _, q1, _⟩ := he; cases q1
      | outgrown => exact he)
  | pan v h' =>
    unfold SN
    simp only [hcall, Upon]
    exact Calls.mono (main hm hcl h1 h3 h4 hg s ha hr (by simp)) (fun e w' he => by
      cases e with
      | returned v' => obtain ⟨_, _, q1, q2⟩ := he; cases q1
      | panicked ch => obtain ⟨_, _, v', q1, q2, q3⟩ := he; cases q1; exact ⟨v', q2, q3⟩
      | outgrown => exact he)
where
  main {P : Program} {G : Nat} {cl : Cl} {an : Ann} {N : Nat} {f : FuncId} {fn : Func} (hm : P.follows .mixedOrders = true) (hcl : ClOk P G cl) (h1 : P.funcs[f]? = some fn) (h3 : fn.body.isSome = true) (h4 : codeB an G fn.ntmps (bodyOf fn) = true)
      {args args' : List Value} {ι : Io} {h : H} {w : World} (hg : GL G ι) (s : Sim P ι h w) (ha : RL ι args args') {r : Res Value} (hr : runF P cl an N fn args h = r) (hb : r ≠ .bad) : Calls P f ⟨args'⟩ w (RetQ P ι w r) := by
    obtain ⟨c, hc⟩ := Option.isSome_iff_exists.1 h3
    have hbody : bodyOf fn = c := by unfold bodyOf; rw [hc]
    rw [hbody] at h4
    unfold runF at hr
    rw [hbody] at hr
    refine calls_of_wp h1 hc (evK_ok hm hb hcl c h4 (kfn_ok hb fn) (panOk_body _ _ _) ⟨Step.refl _ _, s, ?_, rfl, ?_, hg⟩ hr)
    · have := argF_ok ha 0 [] (List.replicate (fn.ntmps - args'.length) undef) rfl
      have e : (⟨args'⟩ : Array Value) ++ Array.replicate (fn.ntmps - (⟨args'⟩ : Array Value).size) undef = ⟨[] ++ (args' ++ List.replicate (fn.ntmps - args'.length) undef)⟩ := by
        apply Array.ext'; simp
      rw [e]
      exact this
    · simp; omega

/-! ## All functions -/

abbrev Tab := FuncId → Option (Func × Ann)

/-- What the functions of a table tell, to a depth. -/
def clR (P : Program) (tab : Tab) (prim : Cl) : Nat → Cl
  | 0 => fun _ _ _ => .bad
  | k + 1 => fun f args h => match tab f with | some (fn, an) => runF P (clR P tab prim k) an k fn args h | none => prim f args h

theorem clR_ok {P : Program} {G : Nat} {tab : Tab} {prim : Cl} (hm : P.follows .mixedOrders = true) (ht : ∀ f fn an, tab f = some (fn, an) → fnOk P G an f fn) (hp : ClOk P G prim) : ∀ k, ClOk P G (clR P tab prim k)
  | 0 => fun _ _ _ _ _ _ _ _ _ => trivial
  | k + 1 => fun f args args' ι h w hg s ha => by
    unfold clR
    split
    · rename_i fn an hf
      exact runF_ok hm (clR_ok hm ht hp k) (ht f fn an hf) hg s ha
    · exact hp f args args' ι h w hg s ha

/-- A call, as the frame of a claim wants it. -/
theorem calls_of_cl {P : Program} {G : Nat} {cl : Cl} (hcl : ClOk P G cl) {f : FuncId} {args args' : List Value} {ι : Io} {h h' : H} {w : World} {v : Value} (hg : GL G ι) (s : Sim P ι h w) (ha : RL ι args args') {fn : Func} (hf : P.funcs[f]? = some fn)
    (hn : (fn.name == "runtime.NumGoroutine") = false) (hb : fn.body.isSome = true) (hr : cl f args h = .ok v h') : Calls P f ⟨args'⟩ w fun e w' => ∃ v', e = .returned v' ∧ Post P ι w v h' v' w' := by
  have := hcl f args args' ι h w hg s ha
  rw [hr] at this
  have hcall : (callFunc f ⟨args'⟩).run P w = .ok (.enter f ⟨args'⟩) w := by
    have hb' : fn.body.isNone = false := by cases hb : fn.body <;> simp_all
    unfold callFunc
    rw [Sem.run_bind, show (program).run P w = .ok P w from rfl]
    simp only [Result.andThen_ok, hf, hn, hb', Bool.false_eq_true, if_false, Sem.run_pure]
  unfold SN at this
  simp only [hcall, Upon] at this
  exact Calls.mono this fun e w' he => by
    cases e with
    | returned v' => exact ⟨v', rfl, he⟩
    | panicked ch => obtain ⟨_, _, q⟩ := he; exact q.elim
    | outgrown => exact he.elim

end Go.Kx
