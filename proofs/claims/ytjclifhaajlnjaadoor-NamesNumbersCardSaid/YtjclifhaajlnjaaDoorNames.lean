/-
  Proved here: the card of NamesNumbers: the call tells true: each constant of package api has its number, and an Errno tells its number in words.
  Conditions: those of the given row and card: the three listed tables hold, when the call begins, what the program's text lays in them.
-/
import Derived.Test.YtjclifhaajlnjaaDoorKxT
import Derived.Test.YtjclifhaajlnjaaDoorCards
import Derived.Test.YtjclifhaajlnjaaDoorTie
import Derived.WalkKit
import Derived.ProofKit
import Derived.OpenShut
import Derived.Deep.DeepHandedRow
import Derived.Lib.LaidTab
namespace Go.Proofs.YtjclifhaajlnjaaDoor.K
open Go Go.Kx Go.ChangeShapes Go.WideShapes Go.ChangeAt Go.RowKit
set_option maxRecDepth 100000

theorem own : ownKnob Tryd.prog.godebug = none := by kernel_rfl
theorem g0 : Tryd.prog.globalNamed "internal/strconv.uint64pow10" = some 0 := by kernel_rfl
theorem g1 : Tryd.prog.globalNamed "math/bits.deBruijn32tab" = some 1 := by kernel_rfl
theorem g2 : Tryd.prog.globalNamed "math/bits.deBruijn64tab" = some 2 := by kernel_rfl
theorem y0 : (Tryd.prog.globals[0]?).map (·.type) = some 41 := by kernel_rfl
theorem y1 : (Tryd.prog.globals[1]?).map (·.type) = some 48 := by kernel_rfl
theorem y2 : (Tryd.prog.globals[2]?).map (·.type) = some 49 := by kernel_rfl

def tb1 : List Int := [0, 1, 28, 2, 29, 14, 24, 3, 30, 22, 20, 15, 25, 17, 4, 8, 31, 27, 13, 23, 21, 19, 16, 7, 26, 12, 18, 6, 11, 5, 10, 9]
def tb2 : List Int := [0, 1, 56, 2, 57, 49, 28, 3, 61, 58, 42, 50, 38, 29, 17, 4, 62, 47, 59, 36, 45, 43, 51, 22, 53, 39, 33, 30, 24, 18, 12, 5, 63, 55, 48, 27, 60, 41, 37, 16, 46, 35, 44, 21, 52, 32, 23, 11, 54, 26, 40, 15, 34, 20, 31, 10, 25, 14, 19, 9, 13, 8, 7, 6]
def tb0 : List Int := [1, 10, 100, 1000, 10000, 100000, 1000000, 10000000, 100000000, 1000000000, 10000000000, 100000000000, 1000000000000, 10000000000000, 100000000000000, 1000000000000000, 10000000000000000, 100000000000000000, 1000000000000000000, 10000000000000000000]
def vals (k : IntKind) (l : List Int) : List Value := l.map fun z => .int k z

/-- The heap that the run begins with: the three tables. -/
def h0 (e0 e1 e2 : TypeId) : H := ((H0.alloc (.cells (vals .u64 tb0) e0 2 false)).alloc (.cells (vals .u8 tb1) e1 2 false)).alloc (.cells (vals .u8 tb2) e2 2 false)

theorem h0_0 (e0 e1 e2 : TypeId) : (h0 e0 e1 e2).get 0 = some (.cells (vals .u64 tb0) e0 2 false) := by kernel_rfl
theorem h0_1 (e0 e1 e2 : TypeId) : (h0 e0 e1 e2).get 1 = some (.cells (vals .u8 tb1) e1 2 false) := by kernel_rfl
theorem h0_2 (e0 e1 e2 : TypeId) : (h0 e0 e1 e2).get 2 = some (.cells (vals .u8 tb2) e2 2 false) := by kernel_rfl

noncomputable def told (e0 e1 e2 : TypeId) : Res Value := clR Tryd.prog tab (fun _ _ _ => .bad) 200 3 [] (h0 e0 e1 e2)
theorem told_true (e0 e1 e2 : TypeId) : (match told e0 e1 e2 with | .ok v h => (some v, h.get 0, h.get 1, h.get 2) | _ => (none, none, none, none)) =
    (some (.bool true), (h0 e0 e1 e2).get 0, (h0 e0 e1 e2).get 1, (h0 e0 e1 e2).get 2) := by kernel_rfl
theorem told_ok (e0 e1 e2 : TypeId) : ∃ h, told e0 e1 e2 = .ok (.bool true) h ∧ h.get 0 = (h0 e0 e1 e2).get 0 ∧ h.get 1 = (h0 e0 e1 e2).get 1 ∧ h.get 2 = (h0 e0 e1 e2).get 2 := by
  have := told_true e0 e1 e2
  cases h : told e0 e1 e2 with
  | ok v h' =>
    rw [h] at this
    simp only [Prod.mk.injEq, Option.some.injEq] at this
    obtain ⟨rfl, q1, q2, q3⟩ := this
    exact ⟨h', rfl, q1, q2, q3⟩
  | pan v h' => rw [h] at this; simp at this
  | bad => rw [h] at this; simp at this

theorem block_of {W : World} {name : String} {k : IntKind} {zs : List Int} {g : Nat} (hg : Tryd.prog.globalNamed name = some g) (h : Lib.TabIs Tryd.prog W name k zs) : ∃ t lh, W.heap[g]? = some (.cells ⟨vals k zs⟩ t lh) := by
  unfold Lib.TabIs World.var? at h
  rw [hg] at h
  simp only [Option.bind_some] at h
  split at h
  · rename_i cs t lh hw
    simp only [Option.some.injEq] at h
    subst h
    exact ⟨t, lh, hw⟩
  · cases h

theorem flat_vals (k : IntKind) (l : List Int) : flatL (vals k l) = true := by
  induction l with
  | nil => rfl
  | cons z l ih => simp only [vals, List.map_cons, flatL, flat, Bool.true_and]; exact ih

def ent (g n : Nat) : Ent := ⟨g, 0, 0, n, 1, false⟩
def iot : Io := fun b => match b with | 0 => some (ent 0 tb0.length) | 1 => some (ent 1 tb1.length) | 2 => some (ent 2 tb2.length) | _ => none

theorem brel {W : World} (ι : Io) {g : Nat} {k : IntKind} {zs : List Int} {e : TypeId} {lh : Nat × Nat} (h : W.heap[g]? = some (.cells ⟨vals k zs⟩ e lh)) : BRel Tryd.prog ι (ent g zs.length) W (.cells (vals k zs) e 2 false) := by
  refine ⟨vals k zs, lh.1, lh.2, h, by simp [vals, ent], by simp [vals, ent], ?_, fun _ => rfl, fun q => (by cases q), ⟨fun q => (by cases q), fun q => (by cases q)⟩, rfl⟩
  have : ((vals k zs).drop (ent g zs.length).sh).take (vals k zs).length = vals k zs := by simp [ent]
  rw [this]
  exact RL.ofFlat ι _ (flat_vals k zs)

theorem sim {W : World} {e0 e1 e2 : TypeId} {l0 l1 l2 : Nat × Nat} (w0 : W.heap[0]? = some (.cells ⟨vals .u64 tb0⟩ e0 l0)) (w1 : W.heap[1]? = some (.cells ⟨vals .u8 tb1⟩ e1 l1)) (w2 : W.heap[2]? = some (.cells ⟨vals .u8 tb2⟩ e2 l2)) :
    Sim Tryd.prog iot (h0 e0 e1 e2) W := by
  have hs : 2 < W.heap.size := by
    rcases Nat.lt_or_ge 2 W.heap.size with q | q
    · exact q
    · rw [Array.getElem?_eq_none q] at w2; cases w2
  have hget : ∀ b x, (h0 e0 e1 e2).get b = some x → (b = 0 ∧ x = .cells (vals .u64 tb0) e0 2 false) ∨ (b = 1 ∧ x = .cells (vals .u8 tb1) e1 2 false) ∨ (b = 2 ∧ x = .cells (vals .u8 tb2) e2 2 false) := by
    intro b x hx
    unfold h0 at hx
    rw [H.get_alloc, H.get_alloc, H.get_alloc] at hx
    simp only [H.next_alloc, show H0.next = 0 from rfl] at hx
    split at hx
    · rename_i hb; cases hx; exact .inr (.inr ⟨hb, rfl⟩)
    · split at hx
      · rename_i hb; cases hx; exact .inr (.inl ⟨hb, rfl⟩)
      · split at hx
        · rename_i hb; cases hx; exact .inl ⟨hb, rfl⟩
        · rw [H.get_ge (by exact Nat.zero_le _)] at hx; cases hx
  refine ⟨?_, ?_, ?_⟩
  · intro b e h
    have hn : (h0 e0 e1 e2).next = 3 := rfl
    unfold iot at h
    split at h <;> first | (cases h; exact ⟨by rw [hn]; omega, by show _ < W.heap.size; simp only [ent]; omega⟩) | (cases h; done)
  · intro b x hx _
    rcases hget b x hx with ⟨rfl, rfl⟩ | ⟨rfl, rfl⟩ | ⟨rfl, rfl⟩
    · exact ⟨_, rfl, brel _ w0⟩
    · exact ⟨_, rfl, brel _ w1⟩
    · exact ⟨_, rfl, brel _ w2⟩
  · intro b₁ b₂ x₁ x₂ e₁ e₂ h₁ h₂ _ _ i₁ i₂ he
    rcases hget _ _ h₁ with ⟨rfl, _⟩ | ⟨rfl, _⟩ | ⟨rfl, _⟩ <;> rcases hget _ _ h₂ with ⟨rfl, _⟩ | ⟨rfl, _⟩ | ⟨rfl, _⟩ <;> first | rfl | (cases i₁; cases i₂; cases he)

theorem gl : GL 3 iot := by
  intro g hg
  match g, hg with
  | 0, _ => exact ⟨_, rfl, rfl, rfl⟩
  | 1, _ => exact ⟨_, rfl, rfl, rfl⟩
  | 2, _ => exact ⟨_, rfl, rfl, rfl⟩

/-- A table that the evaluator left as it was lies in the machine as it lay. -/
theorem same {W W' : World} {ι' : Io} {h' : H} {g : Nat} {k : IntKind} {zs : List Int} {e : TypeId} {lh : Nat × Nat} (st : Step iot W ι' W') (s : Sim Tryd.prog ι' h' W') (hi : iot g = some (ent g zs.length)) (hw : W.heap[g]? = some (.cells ⟨vals k zs⟩ e lh))
    (hg : h'.get g = some (.cells (vals k zs) e 2 false)) : W'.heap[g]? = W.heap[g]? := by
  have hlt : g < W.heap.size := by
    rcases Nat.lt_or_ge g W.heap.size with q | q
    · exact q
    · rw [Array.getElem?_eq_none q] at hw; cases hw
  obtain ⟨e', he', arr, lo, hi', h1, h2, h3, h4, _⟩ := s.blk g _ hg rfl
  rw [st.ext _ _ hi] at he'; cases he'
  have hsh := st.shp g hlt
  simp only [ent] at h1 h2 h4
  rw [h1, hw] at hsh
  simp only [Option.bind_some, shp, Option.some.injEq, Prod.mk.injEq] at hsh
  have e1 : (arr.drop 0).take (vals k zs).length = arr := by simp [vals, ← h2]
  rw [e1] at h4
  have := h4.flatEq (flat_vals k zs)
  subst this
  rw [h1, hw, ← hsh.2.2]

theorem laid_tail {P : Program} {x : String × DataW Unit} {rest : List (String × DataW Unit)} {W : World} (h : laidMet P (x :: rest) W) : laidMet P rest W := by
  obtain ⟨n, d⟩ := x
  obtain ⟨ps, ⟨g, t, cs, fuel, p, q, _, _, _, _, hq, rfl⟩, hnd, hall⟩ := h
  exact ⟨q, hq, (List.nodup_append.1 hnd).2.1, fun b off hm => hall b off (List.mem_append.2 (.inr hm))⟩

/-- The row's word on what lies behind the call, where nothing that lay there has been turned. -/
theorem post_kept {H : Type} {enc : TypeId × Value → H} {P : Program} {f : Func} {s : ChangeSpec} {apart fresh handsOn again : Bool} {W W' : World} {args : Array Value} {v : Value} {ds gs : List (DataW H)} {before pa pv : List MemPlace}
    (hW : DataW.Whole enc P f.params.toList s.vars apart W args.toList ds gs before)
    (hres : ∀ (b : Nat) (sp : Nat → Bool) (hd : Bool), DataW.TrodAll enc P W' b sp hd f.resultTypes.toList (v.resultList f.resultTypes.size) (s.fn H (ds ++ gs)).results [])
    (hargs : ∀ sp : Nat → Bool, (∀ p ∈ before, sp p.block = true) → DataW.TrodAll enc P W' 0 sp true f.params.toList args.toList (s.fn H (ds ++ gs)).args pa)
    (hvars : ∀ sp : Nat → Bool, (∀ p ∈ before, sp p.block = true) → DataW.TrodVars enc P W' sp s.vars (s.fn H (ds ++ gs)).vars pv)
    (hps : before = pa ++ pv) (hk : W.keptBut W' (· ∈ before)) (hfz : ∀ a : Addr, a.block < W.heap.size → W'.frozen? a = W.frozen? a)
    (hok : ∀ (j : Nat) (t : TypeId) (r : Value), f.resultTypes[j]? = some t → (v.resultList f.resultTypes.size)[j]? = some r → Value.okWide P W' .any 0 t r) :
    s.post enc P f apart fresh handsOn again W args v W' := by
  have old : ∀ p ∈ before, (fun b => decide (b < W.heap.size)) p.block = true := fun p hp => by simpa using hW.lt p hp
  have hlt := hW.lt
  refine ⟨ds, gs, before, [], pa, pv, hW, hres _ _ _, hargs _ old, hvars _ old, World.keptBut_mono (fun p hp => ⟨hp, .inr (by rw [hps, List.mem_append] at hp; exact hp)⟩) hk, fun _ => ?_⟩
  obtain ⟨_, _, _, _, _, hz, hn⟩ := hW
  refine ⟨hok, _, _, ([] ++ pa) ++ pv, ⟨[] ++ pa, pv, trodAll_append (hargs _ (fun _ _ => rfl)) (hres _ _ _), hvars _ (fun _ _ => rfl), rfl, ?_, ?_⟩, ?_⟩
  · intro b off hp
    have hp' : MemPlace.cell b off ∈ before := by rw [hps]; simpa using hp
    rw [hfz ⟨b, off, none⟩ (hlt _ hp')]
    exact hz b off hp'
  · intro ha; have := hn ha; rw [hps] at this; simpa using this
  · intro p hp _; rw [hps]; simpa using hp

/-- WHAT THE RUN GIVES, IN EVERY WORLD THAT HOLDS THE TABLES. -/
theorem contract (H : Type) (enc : TypeId × Value → H) (W : World) (args : Array Value) (ds gs : List (DataW H)) (before : List MemPlace)
    (hW : DataW.Whole enc Tryd.prog Tryd.f3.params.toList Rows.namesNumbersSpec.vars false W args.toList ds gs before) (hL : laidMetH Tryd.prog Rows.namesNumbersRow.laid W) :
    Calls Tryd.prog 3 args W fun e W' => ∃ v, e = .returned v ∧ Rows.namesNumbersSpec.post enc Tryd.prog Tryd.f3 false true false false W args v W' := by
  have hW' := hW
  obtain ⟨p, q, hA0, hV, rfl, hfz, hnd⟩ := hW
  have hA : DataW.TrodAll enc Tryd.prog W 0 (fun _ => true) true Tryd.f3.params.toList args.toList ds p := hA0
  have hp : Tryd.f3.params = #[] := by kernel_rfl
  rw [hp] at hA
  obtain ⟨hargs, rfl, rfl⟩ := trodAll_nil hA
  have hargs' : args = #[] := by cases args; simp_all
  subst hargs'
  rw [MakeChecks.laidMetH_plain _ _ _ (by kernel_rfl)] at hL
  obtain ⟨rfl, rfl⟩ := trodVars_none hV
  clear hA0
  simp only [List.append_nil] at hW'
  have t1 : Lib.TabIs Tryd.prog W "math/bits.deBruijn32tab" .u8 tb1 := Lib.tabIs_of_head g1 y1 Tryd.underlying48 Tryd.underlying5 (by kernel_rfl) (by kernel_rfl) hL
  have hL2 := laid_tail hL
  have t2 : Lib.TabIs Tryd.prog W "math/bits.deBruijn64tab" .u8 tb2 := Lib.tabIs_of_head g2 y2 Tryd.underlying49 Tryd.underlying5 (by kernel_rfl) (by kernel_rfl) hL2
  have hL3 := laid_tail hL2
  have t0 : Lib.TabIs Tryd.prog W "internal/strconv.uint64pow10" .u64 tb0 := Lib.tabIs_of_head g0 y0 Tryd.underlying41 Tryd.underlying33 (by kernel_rfl) (by kernel_rfl) hL3
  obtain ⟨e0, l0, w0⟩ := block_of g0 t0
  obtain ⟨e1, l1, w1⟩ := block_of g1 t1
  obtain ⟨e2, l2, w2⟩ := block_of g2 t2
  obtain ⟨h', hr, q0, q1, q2⟩ := told_ok e0 e1 e2
  have hcl := clR_ok (P := Tryd.prog) (G := 3) (tab := tab) (prim := fun _ _ _ => .bad) (by kernel_rfl) tab_ok (fun _ _ _ _ _ _ _ _ _ => trivial) 200
  refine (calls_of_cl hcl gl (sim w0 w1 w2) .nil Tryd.func3 (by kernel_rfl) (by kernel_rfl) hr).mono fun e W' he => ?_
  obtain ⟨v', rfl, ι', st, s', hv⟩ := he
  cases hv
  have k0 : W'.heap[0]? = W.heap[0]? := same st s' rfl w0 (q0.trans (h0_0 e0 e1 e2))
  have k1 : W'.heap[1]? = W.heap[1]? := same st s' rfl w1 (q1.trans (h0_1 e0 e1 e2))
  have k2 : W'.heap[2]? = W.heap[2]? := same st s' rfl w2 (q2.trans (h0_2 e0 e1 e2))
  have hk : ∀ b, b < W.heap.size → W'.heap[b]? = W.heap[b]? := by
    intro b hb
    match b, hb with
    | 0, _ => exact k0
    | 1, _ => exact k1
    | 2, _ => exact k2
    | b + 3, hb =>
      refine st.keep _ hb fun b' e he hc => ?_
      unfold iot at he
      split at he <;> first | (cases he; simp only [ent] at hc; omega) | (cases he; done)
  have hbut : W.keptBut W' (· ∈ ([] : List MemPlace)) := by
    refine ⟨st.os, st.output, fun i hi => ?_⟩
    rw [hk i hi]
    cases W.heap[i]? with
    | none => rfl
    | some o => cases o <;> first | exact ⟨rfl, rfl, rfl, fun _ _ => rfl⟩ | exact .inr ⟨rfl, rfl⟩ | rfl
  exact ⟨_, rfl, post_kept (pa := []) (pv := []) hW' (fun _ _ _ => trodAll_cons_mk (shut_bool Tryd.underlying4 _) trodAll_mk0) (fun _ _ => trodAll_mk0) (fun _ _ => rfl) rfl
    hbut (fun a ha => by unfold World.frozen?; rw [hk _ ha]) (ok_one (by kernel_rfl) rfl (okWide_bool_mk Tryd.underlying4 _))⟩

/-- A WORLD FOR THE WITNESS: the settled one, the tables holding what their initialisers lay. -/
noncomputable def laidWorld (os : Os) : World :=
  let w := World.holding Tryd.prog os ⟨#[], #[], []⟩
  { w with heap := ((w.heap.modify 0 fun | .cells _ t f => .cells ⟨vals .u64 tb0⟩ t f | o => o).modify 1 fun | .cells _ t f => .cells ⟨vals .u8 tb1⟩ t f | o => o).modify 2 fun | .cells _ t f => .cells ⟨vals .u8 tb2⟩ t f | o => o }
theorem laid_met (os : Os) : laidMet Tryd.prog Rows.namesNumbersRow.laid ((laidWorld os).forCall (fun _ _ => 0) ⟨#[], #[], []⟩).memory :=
  laidMet_of_run' 8 (by kernel_rfl) (by kernel_rfl)
theorem reads (os : Os) {H : Type} (enc : TypeId × Value → H) : ∃ places, DataW.whole enc Tryd.prog ((laidWorld os).forCall (fun _ _ => 0) ⟨#[], #[], []⟩).memory Tryd.f3.params.toList Rows.namesNumbersSpec.vars false (#[] : Array Value).toList 8 = some ([], [], places) :=
  ⟨[], by kernel_rfl⟩

theorem lifted (os : Os) (started : os.Started) (H : Type) (enc : TypeId × Value → H) (F : Stop.Interp) :
    ReturnsInHanded {} Tryd.checked os 3 .any ((OpenSpec.ofChange Rows.namesNumbersSpec).preRow enc Tryd.prog Tryd.f3 Rows.namesNumbersRow.domain false Rows.namesNumbersRow.laid) (((OpenSpec.ofChange Rows.namesNumbersSpec).at F).post enc Tryd.prog Tryd.f3 false true false false) := by
  obtain ⟨places, hx⟩ := reads os enc
  refine returnsInHanded_of_row (C := Tryd.checked) (s := OpenSpec.ofChange Rows.namesNumbersSpec) own started (by kernel_rfl) Tryd.func3
    (witness_row_at (enc := enc) (C := Tryd.checked) false (laidWorld os) #[] rfl (by kernel_rfl) (by kernel_rfl) (by kernel_rfl)
      (OpenSpec.preRow_of_cond 8 hx (by kernel_rfl) (fun k hk => by cases hk) (by kernel_rfl) (laid_met os))) ?_
  intro W base args ds gs before hval hW _ _ _ hL _ _
  exact contract H enc W args ds gs before hW hL

theorem said : Rows.NamesNumbersSaid :=
  OpenClaim.holds_of_cond 3 Tryd.f3 rfl rfl rfl rfl rfl rfl rfl ⟨rfl, rfl, rfl, rfl, rfl⟩ rfl rfl rfl rfl rfl (by kernel_rfl) Tryd.func3 (by kernel_rfl)
    (of_decide_eq_true (by kernel_rfl)) (by unfold Func.isWrapper; first | (rw [if_pos (by decide +kernel)]; kernel_rfl) | (rw [if_neg (by decide +kernel)]; exact ⟨rfl, rfl⟩))
    (fun os started H enc _ F => by rw [OpenClaim.pre_eq_preRow]; exact lifted os started H enc F)

theorem plain (f : FuncId) (fn : Func) (hf : Tryd.pinned.checked.prog.funcNamed "kiln/kilnlaw0.NamesNumbers" = some f) (hfn : Tryd.pinned.checked.prog.funcs[f]? = some fn) :
    false = Tryd.pinned.checked.prog.looks [] ∧ ∀ (j : Nat) t, fn.params[j]? = some t → Tryd.pinned.checked.prog.wantsStandIn t = false := by
  obtain rfl : f = 3 := Option.some.inj ((show Tryd.prog.funcNamed "kiln/kilnlaw0.NamesNumbers" = some 3 by kernel_rfl).symm.trans hf) |>.symm
  obtain rfl : fn = Tryd.f3 := (Option.some.inj (Tryd.func3.symm.trans hfn)).symm
  refine ⟨by kernel_rfl, fun j t ht => ?_⟩
  rw [show Tryd.f3.params = #[] by kernel_rfl] at ht
  simp at ht

/-- THE CARD. -/
theorem namesNumbers_card : Rows.NamesNumbersCardSaid :=
  Claim7.holds_tied_plain_at .later [] _ _ _ _ said (fun _ h => by cases h) (by kernel_rfl) (fun _ h => by cases h) namesNumbers_row_tie rfl ⟨rfl, rfl⟩ (by kernel_rfl) rfl plain (by kernel_rfl)

end Go.Proofs.YtjclifhaajlnjaaDoor.K

theorem Go.Proofs.YtjclifhaajlnjaaDoor.namesNumbers_card : Go.Proofs.YtjclifhaajlnjaaDoor.Rows.NamesNumbersCardSaid := Go.Proofs.YtjclifhaajlnjaaDoor.K.namesNumbers_card
