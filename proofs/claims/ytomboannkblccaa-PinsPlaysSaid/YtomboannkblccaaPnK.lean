/- The pins' program: PinsStay, all but its closed part. -/
import Derived.Test.YtomboannkblccaaPnJ
namespace Go.Proofs.Ytomboannkblccaa.K
open Go Go.Kx
set_option linter.unusedVariables false
set_option linter.unusedSimpArgs false
set_option maxRecDepth 20000

/-! ## What a table holds, by its rows -/

theorem mem_lb : ∀ {rows : List Rw} (s : Srt rows) {k : Int} {v : List Value}, (k, v) ∈ rows → rows[lb rows k]? = some (k, v)
  | r :: l, s, k, v, h => by
    rcases List.mem_cons.1 h with rfl | h
    · rw [lb_cons_neg (by simp)]; rfl
    · have := s.1 _ h
      rw [lb_cons_pos this, List.getElem?_cons_succ]
      exact mem_lb s.2 h
theorem hasK_mem {rows : List Rw} (s : Srt rows) {k : Int} {v : List Value} (h : (k, v) ∈ rows) : hasK rows k ∧ valOf rows k = v := by
  have h1 := mem_lb s h
  have hl : lb rows k < rows.length := by
    rcases Nat.lt_or_ge (lb rows k) rows.length with q | q
    · exact q
    · rw [List.getElem?_eq_none q] at h1; cases h1
  have hk : hasK rows k := ⟨hl, by simp [key, h1]⟩
  exact ⟨hk, by unfold valOf; rw [if_pos hk, h1]; rfl⟩
theorem mem_hasK {rows : List Rw} {k : Int} (h : hasK rows k) : (k, valOf rows k) ∈ rows := by
  obtain ⟨r, hr⟩ : ∃ r, rows[lb rows k]? = some r := ⟨_, List.getElem?_eq_getElem h.1⟩
  have hk := h.2
  have hv : valOf rows k = r.2 := by unfold valOf; rw [if_pos h, hr]; rfl
  simp only [key, hr, Option.map_some, Option.getD_some] at hk
  rw [hv, ← hk]
  exact List.mem_of_getElem? hr
theorem delR_mem {rows : List Rw} (s : Srt rows) {k : Int} {q : Rw} (h : q ∈ rows) (hn : q.1 ≠ k) : q ∈ delR rows k := by
  unfold delR
  split
  · rename_i hk
    rw [← List.take_append_drop (lb rows k) rows] at h
    rcases List.mem_append.1 h with h | h
    · exact List.mem_append.2 (.inl h)
    · have hd : rows.drop (lb rows k) = rows[lb rows k]'hk.1 :: rows.drop (lb rows k + 1) := List.drop_eq_getElem_cons hk.1
      rw [hd] at h
      rcases List.mem_cons.1 h with h | h
      · exfalso
        apply hn
        have := hk.2
        simp only [key, List.getElem?_eq_getElem hk.1, Option.map_some, Option.getD_some] at this
        rw [h]; exact this
      · exact List.mem_append.2 (.inr h)
  · exact h
theorem delR_sub {rows : List Rw} {k : Int} {q : Rw} (h : q ∈ delR rows k) : q ∈ rows := by
  unfold delR at h
  split at h
  · rcases List.mem_append.1 h with h | h
    · exact List.mem_of_mem_take h
    · exact List.mem_of_mem_drop h
  · exact h
theorem delR_not {rows : List Rw} (s : Srt rows) (k : Int) : ¬ hasK (delR rows k) k := by
  intro h
  have hm := mem_hasK h
  unfold delR at hm
  split at hm
  · rename_i hk
    have hs := s
    rw [← List.take_append_drop (lb rows k) rows, List.drop_eq_getElem_cons hk.1] at hs
    obtain ⟨_, h2, h3⟩ := hs.append
    have hkey : (rows[lb rows k]'hk.1).1 = k := by
      have := hk.2
      simpa only [key, List.getElem?_eq_getElem hk.1, Option.map_some, Option.getD_some] using this
    rcases List.mem_append.1 hm with q | q
    · have := h3 _ q (rows[lb rows k]'hk.1) (List.mem_cons.2 (.inl rfl))
      rw [hkey] at this
      exact absurd this (Int.lt_irrefl _)
    · have := h2.1 _ q
      rw [hkey] at this
      exact absurd this (Int.lt_irrefl _)
  · rename_i hk; exact hk (hasK_mem s hm).1

/-! ## PinsStay -/

structure AT where
  kind : Int
  n : Int
  gen : Int
  k : List Value
  r : List Value
  m : List Value
structure PartOk (n : Nat) (t : Nat) (l : List Value) : Prop where
  len : l.length = n
  one : ones l = true
  flt : flatL l = true
  lit : KL 11 t l
structure AT.Ok (a : AT) : Prop where
  k1 : i64ok a.kind
  n1 : i64ok a.n
  g1 : i64ok a.gen
  k2 : PartOk 32 23 a.k
  r2 : PartOk 34 25 a.r
  m2 : PartOk 34 25 a.m
def actC (a : AT) : List Value := .int .i64 a.kind :: .int .i64 a.n :: .int .i64 a.gen :: (a.k ++ (a.r ++ a.m))
theorem actC_len {a : AT} (h : a.Ok) : (actC a).length = 103 := by simp [actC, h.k2.len, h.r2.len, h.m2.len]
theorem actC_one {a : AT} (h : a.Ok) : ones (actC a) = true := by
  show (true && (true && (true && ones (a.k ++ (a.r ++ a.m))))) = true
  rw [ones_append h.k2.one (ones_append h.r2.one h.m2.one)]; rfl

theorem Upd.row {S : Nat → Prop} {h h' : H} (u : Upd S h h') {b o n : Nat} {l : List Value} (hb : ¬ S b) (hr : h.row ⟨b, o, none⟩ n = some l) : h'.row ⟨b, o, none⟩ n = some l := by
  unfold H.row at *
  simp only at *
  cases hq : h.get b with
  | none => rw [hq] at hr; cases hr
  | some x => rw [u.old b x hb hq]; rw [hq] at hr; exact hr

/-- The script. -/
def Scr (h : H) (lo : Nat) (x4 : Value) (acts : List AT) : Prop :=
  ∃ ob c, x4 = .slice ob acts.length c ∧ ∀ j a, acts[j]? = some a → ∃ b o sp, ob = some ⟨b, o, sp⟩ ∧ b < lo ∧ h.row ⟨b, o + j * 103, none⟩ 103 = some (actC a)
theorem Scr.upd {S : Nat → Prop} {h h' : H} (u : Upd S h h') {lo : Nat} (hS : ∀ x, S x → lo ≤ x) {x4 : Value} {acts : List AT} (s : Scr h lo x4 acts) : Scr h' lo x4 acts := by
  obtain ⟨ob, c, e, f⟩ := s
  refine ⟨ob, c, e, fun j a ha => ?_⟩
  obtain ⟨b, o, sp, q1, q2, q3⟩ := f j a ha
  exact ⟨b, o, sp, q1, q2, Upd.row u (fun q => by have := hS _ q; omega) q3⟩

def intsV (l : List Int) : List Value := l.map fun a => .int .i64 a

/-- A list of numbers. -/
structure Nums (h : H) (x : Value) (bs : Nat) (l : List Int) : Prop where
  eq : x = .slice (some ⟨bs, 0, none⟩) l.length l.length
  at_ : ∃ op, h.get bs = some (.cells (intsV l) 3 0 op)

theorem num7 (v : Value) (h : H) : CLM (.f 7) [v] h = .ok v h := by rw [cM7, F7.eq]

section
variable (h0 : H) (gen : Int) (k r m : List Value) (x4 : Value) (acts : List AT) (b6 b7 b8 bp : Nat)

/-- How things stand between two rounds. -/
structure Inv3 (B : Nat) (x14 : Value) (h : H) : Prop where
  upd : Grow h0 h
  scr : Scr h h0.next x4 acts
  c6 : h.get b6 = some (.cells k 23 0 false)
  c7 : h.get b7 = some (.cells r 25 0 false)
  c8 : h.get b8 = some (.cells m 25 0 false)
  st : ∃ bt br rows last seen bs, Pns h bp bt br rows last ∧ (∀ x, Ft bp bt br x → x ≠ b6 ∧ x ≠ b7 ∧ x ≠ b8 ∧ x ≠ bs ∧ h0.next ≤ x) ∧ (1, pinC 1 gen k r m) ∈ rows ∧ rows.length ≤ 64 ∧ last ≤ B ∧ 1 ≤ last ∧
    Nums h x14 bs seen ∧ bs ≠ b6 ∧ bs ≠ b7 ∧ bs ≠ b8 ∧ h0.next ≤ bs ∧ (∀ s ∈ seen, s ≤ (last : Int)) ∧ seen.length ≤ B
end

end Go.Proofs.Ytomboannkblccaa.K
