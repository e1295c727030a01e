/- The pins' program: the model test over numbers is what it is told to be; all prims. -/
import Derived.Test.YtomboannkblccaaPnP
import Derived.Test.YtomboannkblccaaCalls
namespace Go.Proofs.Ytomboannkblccaa.K
open Go Go.Kx
set_option maxRecDepth 100000
set_option linter.unusedVariables false

/-- From the heap of one block back to the whole one, where that block is as it was. -/
theorem back {P : Program} {ι ι₂ : Io} {h : H} {w w' : World} (s : Sim P ι h w) {b : Nat} {e : Ent} {c : List Value} {el : TypeId} (hg : h.get b = some (.cells c el 0 false)) (he : ι b = some e) (hf : flatL c = true)
    (st : Step (fun x => if x = 0 then some e else none) w ι₂ w') (bv : BRel P ι₂ e w' (.cells c el 0 false)) : Step ι w ι w' ∧ Sim P ι h w' := by
  have hι : ∀ x e', (fun x => if x = 0 then some e else none : Io) x = some e' → e' = e := by
    intro x e' z
    by_cases hx : x = 0
    · simpa [hx] using z.symm
    · simp [hx] at z
  have hcs : ∀ x y e', h.get x = some y → y.live = true → ι x = some e' → x ≠ b → w'.heap[e'.c]? = w.heap[e'.c]? := by
    intro x y e' hy hl hi hne
    refine st.keep _ (s.dom _ _ hi).2 fun x1 e1 q1 q2 => ?_
    rw [hι x1 e1 q1] at q2
    exact hne (s.inj _ _ _ _ _ _ hy hg hl rfl hi he q2.symm)
  refine ⟨⟨Ext.refl _, fun _ _ h1 h2 => (by rw [h1] at h2; cases h2), st.os, st.tape, st.output, st.size, ?_, st.shp⟩, ⟨?_, ?_, s.inj⟩⟩
  · intro k hk hno
    refine st.keep k hk fun x1 e1 q1 q2 => ?_
    rw [hι x1 e1 q1] at q2
    exact hno _ _ he q2
  · intro x e' hx
    have := s.dom x e' hx
    have := st.size
    omega
  · intro x y hy hl
    obtain ⟨e', he', hr⟩ := s.blk x y hy hl
    refine ⟨e', he', ?_⟩
    by_cases hxb : x = b
    · subst hxb
      rw [he] at he'; cases he'
      rw [hg] at hy; cases hy
      obtain ⟨arr, lo, hi, g1, g2, g3, g4, g5, g6, g7, g8⟩ := bv
      exact ⟨arr, lo, hi, g1, g2, g3, by rw [RL.flatEq g4 hf]; exact RL.ofFlat ι _ hf, g5, g6, g7, g8⟩
    · exact hr.mono (Ext.refl _) (hcs x y e' hy hl he' hxb)

theorem ops_flat : flatL (opsC ops8) = true := by kernel_rfl
theorem ints19_gen {cl : Cl} (hcl : ClOk Try.prog 0 cl) {h1 : H} (hr : cl (.f 19) [.slice (some ⟨0, 0, none⟩) 8 8] hOps = .ok (.bool true) h1) (hg1 : h1.get 0 = hOps.get 0) (args args' : List Value) (ι : Io) (h : H) (w : World) (s : Sim Try.prog ι h w) (ha : RL ι args args') : SN Try.prog ι w (bif ops8At args h then .ok (.bool true) h else .bad) (callFunc 19 ⟨args'⟩) := by
  cases hq : ops8At args h with
  | false => trivial
  | true =>
    simp only [cond_true]
    unfold ops8At at hq
    split at hq
    · rename_i b
      split at hq
      · rename_i c hg
        have hc := isOps_eq _ _ hq
        subst hc
        cases ha with
        | cons q1 q2 =>
          cases q2
          cases q1 with
          | @slcO _ _ _ _ e he hcap =>
            obtain ⟨e', k1, bv⟩ := s.blk b _ hg rfl
            rw [he] at k1; cases k1
            have hsl := (opn_of s he hg).2 rfl
            let ι₁ : Io := fun x => if x = 0 then some e else none
            have bv1 : ∀ ι', BRel Try.prog ι' e w (.cells (opsC ops8) 63 0 false) := by
              intro ι'
              obtain ⟨arr, lo, hi, g1, g2, g3, g4, g5, g6, g7, g8⟩ := bv
              exact ⟨arr, lo, hi, g1, g2, g3, by rw [RL.flatEq g4 ops_flat]; exact RL.ofFlat ι' _ ops_flat, g5, g6, g7, g8⟩
            have g0 : hOps.get 0 = some (.cells (opsC ops8) 63 0 false) := H.alloc_self H0 _
            have hn0 : hOps.next = 1 := rfl
            have s₁ : Sim Try.prog ι₁ hOps w := by
              refine ⟨?_, ?_, ?_⟩
              · intro x e' z
                by_cases hx : x = 0
                · have : e' = e := by simpa [ι₁, hx] using z.symm
                  subst this
                  exact ⟨by rw [hn0]; omega, (s.dom _ _ he).2⟩
                · simp [ι₁, hx] at z
              · intro x y hy hl
                have hlt := H.get_lt hy
                rw [hn0] at hlt
                have : x = 0 := by omega
                subst this
                rw [g0] at hy; cases hy
                exact ⟨e, rfl, bv1 _⟩
              · intro x₁ x₂ _ _ _ _ y₁ y₂ _ _ _ _ _
                have h1 := H.get_lt y₁
                have h2 := H.get_lt y₂
                rw [hn0] at h1 h2
                omega
            have := hcl.fn 19 [.slice (some ⟨0, 0, none⟩) 8 8] [.slice (some ⟨e.c, 0 + e.sh, none⟩) 8 (8 + e.slack)] ι₁ hOps w (fun g hg => absurd hg (Nat.not_lt_zero g)) s₁
              (.cons (.slcO (b := 0) (e := e) rfl hcap) .nil)
            rw [hr] at this
            unfold SN at this ⊢
            refine Upon.mono ?_ (fun _ _ z => z) this
            rintro v' w' ⟨ι₂, st, s₂, rr⟩
            cases rr
            obtain ⟨e2, k2, bv2⟩ := s₂.blk 0 _ (hg1.trans g0) rfl
            have j0 := st.ext 0 e rfl
            rw [j0] at k2; cases k2
            obtain ⟨t1, t2⟩ := back s hg he ops_flat st bv2
            exact ⟨ι, t1, t2, .bool _⟩
      · cases hq
    · cases hq

theorem ints19_ok (args args' : List Value) (ι : Io) (h : H) (w : World) (s : Sim Try.prog ι h w) (ha : RL ι args args') : SN Try.prog ι w (bif ops8At args h then .ok (.bool true) h else .bad) (callFunc 19 ⟨args'⟩) := by
  obtain ⟨h1, hr, hg1⟩ := CLI_ints
  exact ints19_gen CLI_ok hr hg1 args args' ι h w s ha

theorem primM_ok : PrOk Try.prog 0 primM := by
  intro f args args' ι h w hg s ha
  unfold primM
  split
  · exact ints19_ok args args' ι h w s ha
  · exact ins28_ok args args' ι h w s ha
  · exact ins70_ok args args' ι h w s ha
  · trivial
theorem tabM_ok : ∀ f fn an, tabM f = some (fn, an) → fnOk Try.prog 0 an f fn := by
  intro f fn an h
  unfold tabM at h
  split at h
  · cases h
  · cases h
  · cases h
  · exact tab_ok _ _ _ h
theorem CLM_ok : ClOk Try.prog 0 CLM := clS_ok mixed tabM_ok primM_ok
end Go.Proofs.Ytomboannkblccaa.K
