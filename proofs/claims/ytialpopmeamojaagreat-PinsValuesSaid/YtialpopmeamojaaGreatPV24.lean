/- My texts for this claim, in one file: part 24. -/
import Derived.Laws.Externs
import Derived.Test.YtialpopmeamojaaGreatPV23
namespace Go.Kx
open Go
set_option linter.unusedVariables false
set_option linter.unusedSimpArgs false
theorem ovP_ok {P : Program} {f : FuncId} {fn : Func} {sl tR e : TypeId} {size : Nat} (hf : P.funcs[f]? = some fn) (hname : (fn.name == "runtime.NumGoroutine") = false) (hb : fn.body.isNone = true) (hn : Extern.findNext fn = none)
    (he : Extern.find fn = some (Extern.SlicesOverlaps.overlaps #[sl,sl] #[tR])) (hu : P.underlying sl = some (.slice e)) (hz : ∀ w,(Go.sizeOf e).run P w = .ok size w) (args args' : List Value) (ι : Io) (h : H) (w : World)
    (s : Sim P ι h w) (ha : RL ι args args') : SN P ι w (ovP args h) (callFunc f ⟨args'⟩) := by
  unfold ovP
  split
  · rename_i a ao la ca b bo lb cb
    split
    · rename_i c1 t1 v2 c2 t2 f2 hga hgb
      cases hab : Nat.beq a b with
      | true => trivial
      | false =>
        have hne : a ≠ b := fun q => by subst q; rw [Nat.beq_refl] at hab; cases hab
        cases ha with
        | cons q1 q2 =>
          cases q2 with
          | cons q2 q3 =>
            cases q3
            cases q1 with
            | @slcO _ _ _ _ e1 he1 hc1 =>
              cases q2 with
              | @slcO _ _ _ _ e2 he2 hc2 =>
                obtain ⟨e1',k1,b1⟩ := s.blk a _ hga rfl
                obtain ⟨e2',k2,b2⟩ := s.blk b _ hgb rfl
                rw [he1] at k1; cases k1
                rw [he2] at k2; cases k2
                have hcne : e1.c ≠ e2.c := fun q => hne (s.inj _ _ _ _ _ _ hga hgb rfl rfl he1 he2 q)
                obtain ⟨r1,lo1,hi1,g1,g2,g3,g4,g5,g6,g7,g8⟩ := b1
                obtain ⟨r2,lo2,hi2,p1,p2,p3,p4,p5,p6,p7,p8⟩ := b2
                have fz := g7.1 rfl
                have hrun := Lib.run_overlaps_apart w sl tR e hu size hz ⟨e1.c,ao + e1.sh,none⟩ ⟨e2.c,bo + e2.sh,none⟩ la (ca + e1.slack) lb (cb + e2.slack) hcne t1 t2 r1.length r2.length (by unfold World.shape?; simp only [g1]; rfl) (by unfold World.shape?; simp only [p1]; rfl)
                  (by simp only [List.length_cons] at p3; omega) (by unfold World.frozen?; simp only [g1]; simp; omega) (by unfold World.frozen?; simp only [g1]; simp; omega)
                unfold SN
                simp only [run_callFunc_extern hf hname hb hn he]
                rw [show (⟨[Value.slice (some ⟨e1.c,ao + e1.sh,none⟩) la (ca + e1.slack),Value.slice (some ⟨e2.c,bo + e2.sh,none⟩) lb (cb + e2.slack)]⟩ : Array Value) = #[.slice (some ⟨e1.c,ao + e1.sh,none⟩) la (ca + e1.slack),.slice (some ⟨e2.c,bo + e2.sh,none⟩) lb (cb + e2.slack)] from rfl,hrun]
                exact ⟨ι,Step.refl _ _,s,.bool _⟩
    · trivial
  · trivial
def hol (v : Value) : Value := .func (.method "") ⟨[]⟩ ⟨[v]⟩
theorem hol_RL (ι : Io) : ∀ {l : List Value},ones l = true → RL ι (l.map hol) l
  | [],_ => .nil
  | v :: l,h => by
    simp only [ones,Bool.and_eq_true] at h
    exact .cons (.hole h.1) (hol_RL ι h.2)
theorem hol_same {ι : Io} : ∀ {l l' : List Value},RL ι (l.map hol) l' → l' = l
  | [],_,h => by cases h; rfl
  | v :: l,_,h => by
    cases h with
    | cons q ql =>
      rw [hol_same ql]
      unfold hol at q
      cases q with
      | hole _ => rfl
theorem hol_ones : ∀ (l : List Value),ones (l.map hol) = true
  | [] => rfl
  | v :: l => by
    show ((hol v).oneCell' && ones (l.map hol)) = true
    rw [hol_ones l]; rfl
theorem transfer {P : Program} {ι ι₁ ι₂ : Io} {h hd : H} {w w' : World} (s : Sim P ι h w) {D : Option Nat} (hn : hd.next = h.next) (hget : ∀ x y,hd.get x = some y → y.live = true → h.get x = some y ∧ D ≠ some x)
    (hD : ∀ b,D = some b → ∃ y e,h.get b = some y ∧ y.live = true ∧ ι b = some e) {vb : Nat} {ev : Ent} {cv wv : List Value} {elv : TypeId} (hv : h.get vb = some (.cells cv elv 0 false)) (hev : ι vb = some ev)
    (hlv : cv.length = wv.length) (hcv : RL ι cv wv) (st : Step ι₁ w ι₂ w') (h1 : ∀ x e,ι₁ x = some e → e.c = ev.c ∨ ∃ b eb,D = some b ∧ ι b = some eb ∧ e.c = eb.c)
    (bv : BRel P ι₂ ev w' (.cells (wv.map hol) elv 0 false)) {EN : Ent} {X : Blk} (hX : BRel P (ι.add h.next EN) EN w' X) (hEs : EN.c < w'.heap.size)
    (hE : w.heap.size ≤ EN.c ∨ ∃ b eb,D = some b ∧ ι b = some eb ∧ EN.c = eb.c) : Step ι w (ι.add h.next EN) w' ∧ Sim P (ι.add h.next EN) (hd.alloc X) w' := by
  have hx := s.ext EN
  have hcs : ∀ x y e,hd.get x = some y → y.live = true → ι x = some e → x ≠ vb → w'.heap[e.c]? = w.heap[e.c]? := by
    intro x y e hy hl hi hne
    obtain ⟨hy',hD'⟩ := hget x y hy hl
    refine st.keep _ (s.dom _ _ hi).2 fun x1 e1 q1 q2 => ?_
    rcases h1 x1 e1 q1 with q | ⟨b,eb,q3,q4,q5⟩
    · exact hne (s.inj _ _ _ _ _ _ hy' hv hl rfl hi hev (q2.symm.trans q))
    · obtain ⟨yb,eb',k1,k2,k3⟩ := hD b q3
      rw [q4] at k3; cases k3
      have := s.inj _ _ _ _ _ _ hy' k1 hl k2 hi q4 (q2.symm.trans q5)
      subst this
      exact hD' q3
  refine ⟨⟨hx,?_,st.os,st.tape,st.output,st.size,?_,st.shp⟩,⟨?_,?_,?_⟩⟩
  · intro b e hb h0
    unfold Io.add at hb
    split at hb
    · cases hb
      rcases hE with q | ⟨b0,eb,q1,q2,q3⟩
      · exact .inl q
      · exact .inr ⟨b0,eb,q2,q3.symm⟩
    · rw [hb] at h0; cases h0
  · intro c hc hno
    refine st.keep c hc fun x1 e1 q1 q2 => ?_
    rcases h1 x1 e1 q1 with q | ⟨b,eb,q3,q4,q5⟩
    · exact hno _ _ hev (q.symm.trans q2)
    · exact hno _ _ q4 (q5.symm.trans q2)
  · intro b e hb
    have hsz := st.size
    rw [H.next_alloc,hn]
    unfold Io.add at hb
    split at hb
    · rename_i hbe; cases hb; subst hbe; exact ⟨Nat.lt_succ_self _,hEs⟩
    · have := s.dom b e hb; omega
  · intro b y hy hl
    rw [H.get_alloc,hn] at hy
    split at hy
    · rename_i hbe
      cases hy; subst hbe
      exact ⟨EN,Io.add_self _ _ _,hX⟩
    · obtain ⟨hy',hD'⟩ := hget b y hy hl
      obtain ⟨e,he,hr⟩ := s.blk b y hy' hl
      refine ⟨e,hx _ _ he,?_⟩
      by_cases hbv : b = vb
      · subst hbv
        rw [hev] at he; cases he
        rw [hv] at hy'; cases hy'
        obtain ⟨arr,lo,hi,g1,g2,g3,g4,g5,g6,g7,g8⟩ := bv
        rw [List.length_map] at g3 g4
        refine ⟨arr,lo,hi,g1,g2,by rw [hlv]; exact g3,?_,g5,g6,g7,g8.1,fun q => by cases q⟩
        rw [hlv,hol_same g4]
        exact hcv.mono hx
      · exact hr.mono hx (hcs b y e hy hl he hbv)
  · intro b₁ b₂ x₁ x₂ e₁ e₂ y₁ y₂ l₁ l₂ i₁ i₂ he
    have key : ∀ b x e,hd.get b = some x → x.live = true → ι b = some e → EN.c ≠ e.c := by
      intro b x e q1 q2 q3 q4
      obtain ⟨q1',hD'⟩ := hget b x q1 q2
      rcases hE with q | ⟨b0,eb,k1,k2,k3⟩
      · have := (s.dom _ _ q3).2; omega
      · obtain ⟨yb,eb',k4,k5,k6⟩ := hD b0 k1
        rw [k2] at k6; cases k6
        have := s.inj _ _ _ _ _ _ q1' k4 q2 k5 q3 k2 (q4.symm.trans k3)
        subst this
        exact hD' k1
    rw [H.get_alloc,hn] at y₁ y₂
    unfold Io.add at i₁ i₂
    by_cases c1 : b₁ = h.next
    · by_cases c2 : b₂ = h.next
      · rw [c1,c2]
      · rw [if_pos c1] at i₁; rw [if_neg c2] at y₂ i₂; cases i₁
        exact absurd he (key _ _ _ y₂ l₂ i₂)
    · by_cases c2 : b₂ = h.next
      · rw [if_neg c1] at y₁ i₁; rw [if_pos c2] at i₂; cases i₂
        exact absurd he.symm (key _ _ _ y₁ l₁ i₁)
      · rw [if_neg c1] at y₁ i₁; rw [if_neg c2] at y₂ i₂
        exact s.inj _ _ _ _ _ _ (hget _ _ y₁ l₁).1 (hget _ _ y₂ l₂).1 l₁ l₂ i₁ i₂ he
theorem insP_ok {P : Program} {sl it e : TypeId} (T : InsT P sl it e) {G : Nat} {cl : Cl} (hcl : ClOk P 0 cl) {f ov : FuncId} {K : Value → Value → Value → Value → Value → H → Res Value}
    (hE : ∀ x0 x1 x2 h,cl (.f f) [x0,x1,x2] h = insB P sl it ov K cl x0 x1 x2 h) (hov : ∀ args h,cl (.f ov) args h = ovP args h)
    (args args' : List Value) (ι : Io) (h : H) (w : World) (s : Sim P ι h w) (ha : RL ι args args') : SN P ι w (insP P sl args h) (callFunc f ⟨args'⟩) := by
  unfold insP
  split
  rotate_left
  · trivial
  rename_i base n cap i vb vo m mc
  simp only [T.el]
  split
  rotate_left
  · trivial
  rename_i old new hold hnew
  cases hb : (Nat.ble i n && Nat.blt 0 m && Nat.ble n cap && Nat.ble m mc && insOk e h base cap vb && Nat.ble ((n + m) * bytesOf P e) 35184372088832 && Nat.ble (n + m) 35184372088832 && Nat.ble (bytesOf P e) 1048576 && zeroFits P e) with
  | false => trivial
  | true =>
  simp only [Bool.and_eq_true] at hb
  obtain ⟨⟨⟨⟨⟨⟨⟨⟨q1,q2⟩,q3⟩,q4⟩,q5⟩,q6⟩,q7⟩,q8⟩,q9⟩ := hb
  have hin := Nat.le_of_ble_eq_true q1
  have hm0 : 0 < m := by simpa [Nat.blt_eq] using q2
  have hnc := Nat.le_of_ble_eq_true q3
  have hmm := Nat.le_of_ble_eq_true q4
  have hb1 := Nat.le_of_ble_eq_true q6
  have hb2 := Nat.le_of_ble_eq_true q7
  have hb3 := Nat.le_of_ble_eq_true q8
  simp only [cond_true]
  unfold insOk at q5
  rw [Bool.and_eq_true] at q5
  obtain ⟨q5,q10⟩ := q5
  obtain ⟨cv,elv,hgv,hov1,hcv0⟩ : ∃ cv elv,h.get vb = some (.cells cv elv 0 false) ∧ ones cv = true ∧ cv.length ≠ 0 := by
    split at q10
    · rename_i c t hg
      simp only [Bool.and_eq_true,Bool.not_eq_true'] at q10
      exact ⟨c,t,hg,q10.1,fun z => by rw [z] at q10; cases q10.2⟩
    · cases q10
  cases ha with
  | cons a0 ha =>
  cases ha with
  | cons a1 ha =>
  cases ha with
  | cons a2 ha =>
  cases ha
  cases a1
  cases a2 with
  | @slcO _ _ _ _ ev hev hcv =>
  obtain ⟨ev',k1,bv⟩ := s.blk vb _ hgv rfl
  rw [hev] at k1; cases k1
  have hsv := (opn_of s hev hgv).2 rfl
  have hdv := s.dom _ _ hev
  obtain ⟨rv,lov,hiv,v1,v2,v3,v4,v5,v6,v7,v8⟩ := bv
  rw [hsv,Nat.zero_mul,Nat.add_zero] at v3
  obtain ⟨wv,hwv⟩ : ∃ wv,wv = (rv.drop ev.sh).take cv.length := ⟨_,rfl⟩
  rw [← hwv] at v4
  have lwv := v4.length
  have owv : ones wv = true := by rw [v4.ones]; exact hov1
  obtain ⟨hnle,hnew'⟩ := H.row_of hgv hnew
  obtain ⟨nw,hnw⟩ : ∃ nw,nw = (wv.drop vo).take (m * P.cellsOf e) := ⟨_,rfl⟩
  have rnew : RL ι new nw := by rw [hnew',hnw]; exact (v4.drop vo).take _
  have lnew := H.row_len hnew
  have lnw : nw.length = m * P.cellsOf e := rnew.length ▸ lnew
  have onw : ones nw = true := by rw [hnw]; exact ones_take (ones_drop owv _) _
  have bvs : ∀ (ι' : Io),BRel P ι' ev w (.cells (wv.map hol) elv 0 false) := fun ι' =>
    ⟨rv,lov,hiv,v1,v2,by rw [List.length_map,← lwv,hsv,Nat.zero_mul,Nat.add_zero]; exact v3,by rw [List.length_map,← lwv,← hwv]; exact hol_RL ι' owv,fun _ => hsv,fun z => (by cases z),v7,v8.1,fun z => (by cases z)⟩
  cases a0 with
  | slc0 =>
    have hc0 : cap = 0 := Nat.eq_of_beq_eq_true q5
    subst hc0
    have hn0 : n = 0 := by omega
    subst hn0
    have hi0 : i = 0 := by omega
    subst hi0
    let hm : H := (H0.alloc .dead).alloc (.cells (wv.map hol) elv 0 false)
    have g1 : hm.get 1 = some (.cells (wv.map hol) elv 0 false) := H.alloc_self (H0.alloc .dead) _
    have g0 : hm.get 0 = some .dead := H.alloc_old (H.alloc_self H0 _)
    let ι₁ : Io := fun x => if x = 1 then some ev else none
    have hmn : hm.next = 2 := rfl
    have s₁ : Sim P ι₁ hm w := by
      refine ⟨?_,?_,?_⟩
      · intro b e' hb'
        have : b = 1 ∧ ev = e' := by
          by_cases hb1 : b = 1
          · exact ⟨hb1,by simpa [ι₁,hb1] using hb'⟩
          · simp [ι₁,hb1] at hb'
        rw [this.1,← this.2]
        exact ⟨by rw [hmn]; omega,hdv.2⟩
      · intro b y hy hl
        have hlt := H.get_lt hy
        rw [hmn] at hlt
        have : b = 0 ∨ b = 1 := by omega
        rcases this with rfl | rfl
        · rw [g0] at hy; cases hy; cases hl
        · rw [g1] at hy; cases hy
          exact ⟨ev,rfl,bvs _⟩
      · intro b₁ b₂ x₁ x₂ e₁ e₂ y₁ y₂ l₁ l₂ i₁ i₂ _
        have h1 : b₁ = 1 := by
          by_cases hb1 : b₁ = 1
          · exact hb1
          · simp [ι₁,hb1] at i₁
        have h2 : b₂ = 1 := by
          by_cases hb1 : b₂ = 1
          · exact hb1
          · simp [ι₁,hb1] at i₂
        rw [h1,h2]
    have rv1 : hm.row ⟨1,vo,none⟩ (m * P.cellsOf e) = some (nw.map hol) := by
      rw [H.row_eq g1 (by rw [List.length_map,← lwv]; exact hnle),hnw,List.map_take,List.map_drop]
    have hrun := ins_nil (ov := ov) (K := K) (cl := cl) (mc := mc) T (by omega) (hol_ones nw) rv1 (by rw [Nat.zero_add] at hb1; exact hb1) (by omega) hb3 q9
    have hold0 : old = [] := by
      have : firstC h (P.cellsOf e) 0 (.slice none 0 0) = some [] := rfl
      rw [this] at hold; cases hold; rfl
    subst hold0
    have := hcl.fn f [.slice none 0 0,.int .i64 ((0 : Nat) : Int),.slice (some ⟨1,vo,none⟩) m mc] [.slice none 0 0,.int .i64 ((0 : Nat) : Int),.slice (some ⟨ev.c,vo + ev.sh,none⟩) m (mc + ev.slack)] ι₁ hm w (fun g hg => absurd hg (Nat.not_lt_zero g)) s₁
      (.cons (.slc0 _ _) (.cons (.int _ _) (.cons (.slcO (b := 1) (e := ev) rfl hcv) .nil)))
    rw [hE,hrun] at this
    unfold SN at this ⊢
    refine Upon.mono ?_ (fun _ _ z => z) this
    rintro v' w' ⟨ι₂,st,s₂,rr⟩
    rw [hmn] at rr
    cases rr with
    | @slcO _ _ _ _ e2 he2 hc2 =>
    obtain ⟨e2',k2,b2⟩ := s₂.blk 2 _ (H.alloc_self hm _) rfl
    rw [he2] at k2; cases k2
    have i1 : ι₂ 1 = some ev := st.ext 1 ev rfl
    obtain ⟨ev2,k3,bv2⟩ := s₂.blk 1 _ (H.alloc_old g1) rfl
    rw [i1] at k3; cases k3
    have hne : e2.c ≠ ev.c := fun z => by
      have := s₂.inj 2 1 _ _ _ _ (H.alloc_self hm _) (H.alloc_old g1) rfl rfl he2 i1 z
      omega
    have hge : w.heap.size ≤ e2.c := by
      rcases st.new 2 e2 he2 rfl with z | ⟨b0,e0,z1,z2⟩
      · exact z
      · have : e0 = ev := by
          by_cases hb1 : b0 = 1
          · simpa [ι₁,hb1] using z1.symm
          · simp [ι₁,hb1] at z1
        exact absurd (z2.symm.trans (by rw [this])) hne
    obtain ⟨arr,lo,hi,p1,p2,p3,p4,p5,p6,p7,p8⟩ := b2
    rw [List.length_map,lnw] at p3 p4 p8
    have hX : BRel P (ι.add h.next e2) e2 w' (.cells new e 0 true) := by
      refine ⟨arr,lo,hi,p1,p2,by rw [lnew]; exact p3,?_,p5,p6,p7,p8.1,fun z => by rw [lnew]; exact p8.2 z⟩
      rw [lnew,hol_same p4]
      exact rnew.mono (s.ext e2)
    obtain ⟨t1,t2⟩ := transfer (hd := h) s (D := none) rfl (fun x y hy hl => ⟨hy,by simp⟩) (fun b z => by cases z) hgv hev lwv v4 st (fun x e' z => by
        by_cases hb1 : x = 1
        · exact .inl (by have : ev = e' := by simpa [ι₁,hb1] using z
                         rw [this])
        · simp [ι₁,hb1] at z) bv2 hX (s₂.dom _ _ he2).2 (.inl hge)
    refine ⟨_,t1,?_,?_⟩
    · show Sim P (ι.add h.next e2) ((h.leave none).alloc (.cells (List.take (0 * P.cellsOf e) [] ++ (new ++ List.drop (0 * P.cellsOf e) [])) e 0 true)) w'
      rw [List.take_nil,List.drop_nil,List.append_nil,List.nil_append]
      exact t2
    · rw [Nat.zero_add]
      exact .slcO (Io.add_self _ _ _) hc2
  | slcX he => cases q5
  | slcN => cases q5
  | slcM => cases q5
  | @slcE b o o' c' eb heb hcb =>
    simp only [Bool.and_eq_true] at q5
    obtain ⟨⟨-,q5⟩,q11⟩ := q5
    obtain ⟨c,hgb⟩ : ∃ c,h.get b = some (.cells c e 0 true) := by
      split at q11
      · rename_i c t hg
        rw [Bool.and_eq_true] at q11
        have := Nat.eq_of_beq_eq_true q11.1
        subst this
        exact ⟨c,hg⟩
      · cases q11
    have hi0 : i = 0 := by omega
    subst hi0
    have hold' : h.row ⟨b,o,none⟩ (0 * P.cellsOf e) = some old := hold
    obtain ⟨ho,ho2⟩ := H.row_of hgb hold'
    rw [Nat.zero_mul,List.take_zero] at ho2
    subst ho2
    have hone : ones new = true := by rw [hnew']; exact ones_take (ones_drop hov1 _) _
    have hrun := ins_cut (ov := ov) (K := K) (cl := cl) (mc := mc) T hgb (show o ≤ c.length by rw [Nat.zero_mul] at ho; omega) (by omega) hone hnew (by rw [Nat.zero_add] at hb1; exact hb1) (by omega) hb3 q9
    have := hcl.fn f [.slice (some ⟨b,o,some 1⟩) 0 0,.int .i64 ((0 : Nat) : Int),.slice (some ⟨vb,vo,none⟩) m mc] [.slice (some ⟨eb.c,o',none⟩) 0 c',.int .i64 ((0 : Nat) : Int),.slice (some ⟨ev.c,vo + ev.sh,none⟩) m (mc + ev.slack)] ι h w (fun g hg => absurd hg (Nat.not_lt_zero g)) s
      (.cons (.slcE heb hcb) (.cons (.int _ _) (.cons (.slcO hev hcv) .nil)))
    rw [hE,hrun] at this
    rw [List.take_nil,List.drop_nil,List.append_nil,List.nil_append,Nat.zero_add]
    exact this
  | @slcO b o _ _ eb heb hcb =>
    simp only [Bool.and_eq_true,Bool.not_eq_true'] at q5
    obtain ⟨⟨-,q5⟩,q11⟩ := q5
    have hbv : b ≠ vb := fun z => by subst z; rw [Nat.beq_refl] at q5; cases q5
    obtain ⟨c,hgb,hoc⟩ : ∃ c,h.get b = some (.cells c e 0 true) ∧ ones c = true := by
      split at q11
      · rename_i c t hg
        rw [Bool.and_eq_true] at q11
        have := Nat.eq_of_beq_eq_true q11.1
        subst this
        exact ⟨c,hg,q11.2⟩
      · cases q11
    have hop := (opn_of s heb hgb).1
    have hdb := s.dom _ _ heb
    obtain ⟨eb',k1,bb⟩ := s.blk b _ hgb rfl
    rw [heb] at k1; cases k1
    obtain ⟨rb,lob,hib,b1,b2,b3,b4,b5,b6,b7,b8⟩ := bb
    have hes := b6 rfl
    have htot := hcb hop
    rw [hes] at htot b3
    have hcne : eb.c ≠ ev.c := fun z => hbv (s.inj _ _ _ _ _ _ hgb hgv rfl rfl heb hev z)
    obtain ⟨wb,hwb⟩ : ∃ wb,wb = rb.drop eb.sh := ⟨_,rfl⟩
    rw [← hwb] at b4
    have lwb : wb.length = eb.tot - eb.sh := by rw [hwb,List.length_drop,b2]
    have owb : ones wb = true := by
      rw [← List.take_append_drop c.length wb]
      refine ones_append ?_ ?_
      · rw [b4.ones]; exact hoc
      · rw [hwb,List.drop_drop]; exact b8.2 rfl
    have hold2 : h.row ⟨b,o,none⟩ (n * P.cellsOf e) = some old := hold
    obtain ⟨hole,hold'⟩ := H.row_of hgb hold2
    obtain ⟨od,hod⟩ : ∃ od,od = (wb.drop o).take (n * P.cellsOf e) := ⟨_,rfl⟩
    have hodc : od = ((wb.take c.length).drop o).take (n * P.cellsOf e) := by
      rw [hod,List.drop_take,List.take_take,Nat.min_eq_left (by omega)]
    have rold : RL ι old od := by rw [hold',hodc]; exact (b4.drop o).take _
    have lold := H.row_len hold2
    have lod : od.length = n * P.cellsOf e := rold.length ▸ lold
    let hm : H := (H0.alloc (.cells (wb.map hol) e 0 false)).alloc (.cells (wv.map hol) elv 0 false)
    have g1 : hm.get 1 = some (.cells (wv.map hol) elv 0 false) := H.alloc_self (H0.alloc (.cells (wb.map hol) e 0 false)) _
    have g0 : hm.get 0 = some (.cells (wb.map hol) e 0 false) := H.alloc_old (H.alloc_self H0 _)
    have hmn : hm.next = 2 := rfl
    let E0 : Ent := ⟨eb.c,eb.sh,0,eb.tot,eb.esz,false⟩
    let ι₁ : Io := fun x => if x = 1 then some ev else if x = 0 then some E0 else none
    have ιc : ∀ x e',ι₁ x = some e' → x = 1 ∧ e' = ev ∨ x = 0 ∧ e' = E0 := by
      intro x e' z
      by_cases hx1 : x = 1
      · exact .inl ⟨hx1,by simpa [ι₁,hx1] using z.symm⟩
      · by_cases hx0 : x = 0
        · exact .inr ⟨hx0,by simpa [ι₁,hx0] using z.symm⟩
        · simp [ι₁,hx1,hx0] at z
    have i1 : ι₁ 1 = some ev := rfl
    have i0 : ι₁ 0 = some E0 := rfl
    have s₁ : Sim P ι₁ hm w := by
      refine ⟨?_,?_,?_⟩
      · intro x e' z
        rcases ιc x e' z with ⟨rfl,rfl⟩ | ⟨rfl,rfl⟩
        · exact ⟨by rw [hmn]; omega,hdv.2⟩
        · exact ⟨by rw [hmn]; omega,hdb.2⟩
      · intro x y hy hl
        have hlt := H.get_lt hy
        rw [hmn] at hlt
        have : x = 0 ∨ x = 1 := by omega
        rcases this with rfl | rfl
        · rw [g0] at hy; cases hy
          refine ⟨E0,rfl,rb,lob,hib,b1,b2,?_,?_,fun _ => rfl,fun z => (by cases z),b7,rfl,fun z => (by cases z)⟩
          · show eb.tot = eb.sh + (wb.map hol).length + 0 * eb.esz
            rw [List.length_map,lwb,Nat.zero_mul,Nat.add_zero]; omega
          · show RL ι₁ (wb.map hol) ((rb.drop eb.sh).take (wb.map hol).length)
            rw [← hwb,List.length_map,List.take_length]
            exact hol_RL ι₁ owb
        · rw [g1] at hy; cases hy
          exact ⟨ev,rfl,bvs _⟩
      · intro x₁ x₂ y₁ y₂ e₁ e₂ _ _ _ _ z₁ z₂ z
        rcases ιc _ _ z₁ with ⟨rfl,rfl⟩ | ⟨rfl,rfl⟩ <;> rcases ιc _ _ z₂ with ⟨rfl,rfl⟩ | ⟨rfl,rfl⟩
        · rfl
        · exact absurd z.symm hcne
        · exact absurd z hcne
        · rfl
    have rv1 : hm.row ⟨1,vo,none⟩ (m * P.cellsOf e) = some (nw.map hol) := by
      rw [H.row_eq g1 (by rw [List.length_map,← lwv]; exact hnle),hnw,List.map_take,List.map_drop]
    have Q : InsH P e e ov cl hm 0 o n (cap + eb.slack) i m 1 vo mc (wb.map hol) (nw.map hol) := by
      refine ⟨g0,?_,by omega,hin,by omega,hmm,by omega,hol_ones _,hol_ones _,rv1,hb1,hb2,hb3,q9,fun hne o' k' c' => ?_⟩
      · rw [List.length_map,lwb]; omega
      · rw [hov]
        unfold ovP
        simp only [g1,g0]
        cases hw : wb.map hol with
        | nil => exact absurd hw hne
        | cons a l => rfl
    have hrest : ∀ {v : Value} {hm' : H},insB P sl it ov K cl (.slice (some ⟨0,o,none⟩) n (cap + eb.slack)) (.int .i64 (i : Nat)) (.slice (some ⟨1,vo,none⟩) m mc) hm = .ok v hm' →
        (∀ v' w',Post P ι₁ w v hm' v' w' → Post P ι w (.slice (some ⟨h.next,0,none⟩) (n + m) (n + m)) ((h.leave (some ⟨b,o,none⟩)).alloc (.cells (old.take (i * P.cellsOf e) ++ (new ++ old.drop (i * P.cellsOf e))) e 0 true)) v' w') →
        SN P ι w (.ok (.slice (some ⟨h.next,0,none⟩) (n + m) (n + m)) ((h.leave (some ⟨b,o,none⟩)).alloc (.cells (old.take (i * P.cellsOf e) ++ (new ++ old.drop (i * P.cellsOf e))) e 0 true)))
          (callFunc f ⟨[.slice (some ⟨eb.c,o + eb.sh,none⟩) n (cap + eb.slack),.int .i64 (i : Nat),.slice (some ⟨ev.c,vo + ev.sh,none⟩) m (mc + ev.slack)]⟩) := by
      intro v hm' hr hp
      have := hcl.fn f [.slice (some ⟨0,o,none⟩) n (cap + eb.slack),.int .i64 (i : Nat),.slice (some ⟨1,vo,none⟩) m mc] [.slice (some ⟨eb.c,o + eb.sh,none⟩) n (cap + eb.slack),.int .i64 (i : Nat),.slice (some ⟨ev.c,vo + ev.sh,none⟩) m (mc + ev.slack)]
        ι₁ hm w (fun g hg => absurd hg (Nat.not_lt_zero g)) s₁ (.cons (.slcO (b := 0) (e := E0) rfl (fun z => (by cases z))) (.cons (.int _ _) (.cons (.slcO (b := 1) (e := ev) rfl hcv) .nil)))
      rw [hE,hr] at this
      unfold SN at this ⊢
      exact Upon.mono hp (fun _ _ z => z) this
    have hleave : h.leave (some ⟨b,o,none⟩) = h.put b .dead := by unfold H.leave; simp only [hgb]
    have hget : ∀ x y,(h.leave (some ⟨b,o,none⟩)).get x = some y → y.live = true → h.get x = some y ∧ (some b : Option Nat) ≠ some x := by
      intro x y hy hl
      rw [hleave,H.get_put _ _ _ _ (H.get_lt hgb)] at hy
      split at hy
      · cases hy; cases hl
      · rename_i hne
        exact ⟨hy,fun z => hne (Option.some.inj z).symm⟩
    have hDD : ∀ b',(some b : Option Nat) = some b' → ∃ y e',h.get b' = some y ∧ y.live = true ∧ ι b' = some e' := by
      intro b' z
      cases z
      exact ⟨_,_,hgb,rfl,heb⟩
    have h1' : ∀ x e',ι₁ x = some e' → e'.c = ev.c ∨ ∃ b' eb',(some b : Option Nat) = some b' ∧ ι b' = some eb' ∧ e'.c = eb'.c := by
      intro x e' z
      rcases ιc x e' z with ⟨_,rfl⟩ | ⟨_,rfl⟩
      · exact .inl rfl
      · exact .inr ⟨b,eb,rfl,heb,rfl⟩
    have hodm : ((wb.map hol).drop o).take (n * P.cellsOf e) = od.map hol := by rw [hod,List.map_take,List.map_drop]
    obtain ⟨L,hL⟩ : ∃ L,L = od.take (i * P.cellsOf e) ++ (nw ++ od.drop (i * P.cellsOf e)) := ⟨_,rfl⟩
    have hLm : (od.map hol).take (i * P.cellsOf e) ++ (nw.map hol ++ (od.map hol).drop (i * P.cellsOf e)) = L.map hol := by rw [hL,List.map_append,List.map_append,List.map_take,List.map_drop]
    have rL : RL ι (old.take (i * P.cellsOf e) ++ (new ++ old.drop (i * P.cellsOf e))) L := by rw [hL]; exact (rold.take _).append (rnew.append (rold.drop _))
    have hmul : (n + m) * P.cellsOf e = n * P.cellsOf e + m * P.cellsOf e := Nat.add_mul _ _ _
    have hmi := Nat.mul_le_mul_right (P.cellsOf e) hin
    have lL : L.length = n * P.cellsOf e + m * P.cellsOf e := by rw [hL,List.length_append,List.length_append,List.length_take,List.length_drop,lod,lnw]; omega
    have lLo := rL.length
    rw [lL] at lLo
    by_cases hfit : n + m ≤ cap + eb.slack
    ·
      obtain ⟨hm',hrun,hnx,hgv',hgb'⟩ : ∃ hm',insB P sl it ov K cl (.slice (some ⟨0,o,none⟩) n (cap + eb.slack)) (.int .i64 (i : Nat)) (.slice (some ⟨1,vo,none⟩) m mc) hm = .ok (.slice (some ⟨0,o,none⟩) (n + m) (cap + eb.slack)) hm' ∧ hm'.next = hm.next ∧ hm'.get 1 = hm.get 1 ∧
          hm'.get 0 = some (.cells ((wb.map hol).take o ++ (((((wb.map hol).drop o).take (n * P.cellsOf e)).take (i * P.cellsOf e) ++ (nw.map hol ++ (((wb.map hol).drop o).take (n * P.cellsOf e)).drop (i * P.cellsOf e))) ++ (wb.map hol).drop (o + (n * P.cellsOf e + m * P.cellsOf e)))) e 0 false) := by
        by_cases hi : i = n
        · exact ins_in_end T Q hi hfit
        · exact ins_in_mid T Q hi hfit
      refine hrest hrun ?_
      rintro v' w' ⟨ι₂,st,s₂,rr⟩
      have j0 := st.ext 0 E0 i0
      have j1 := st.ext 1 ev i1
      obtain ⟨z0,k0,bz0⟩ := s₂.blk 0 _ hgb' rfl
      rw [j0] at k0; cases k0
      obtain ⟨z1,k1,bz1⟩ := s₂.blk 1 _ (hgv'.trans g1) rfl
      rw [j1] at k1; cases k1
      obtain ⟨arr,lo,hi,p1,p2,p3,p4,p5,p6,p7,p8⟩ := bz0
      rw [hodm,hLm,← List.map_take,← List.map_drop,← List.map_append,← List.map_append] at p3 p4
      have e4 := hol_same p4
      rw [List.length_map] at e4 p3
      have hmf := Nat.mul_le_mul_right (P.cellsOf e) hfit
      have hsl : (cap + eb.slack - (n + m)) * P.cellsOf e = (cap + eb.slack) * P.cellsOf e - (n * P.cellsOf e + m * P.cellsOf e) := by rw [Nat.sub_mul,hmul]
      have harr : arr.drop eb.sh = wb.take o ++ (L ++ wb.drop (o + (n * P.cellsOf e + m * P.cellsOf e))) := by
        rw [← e4,List.take_of_length_le]
        rw [List.length_drop,p2]
        show eb.tot - eb.sh ≤ _
        have : eb.tot = eb.sh + (wb.take o ++ (L ++ wb.drop (o + (n * P.cellsOf e + m * P.cellsOf e)))).length + 0 * eb.esz := p3
        omega
      have lto : (wb.take o).length = o := by rw [List.length_take,lwb]; omega
      let EN : Ent := ⟨eb.c,o + eb.sh,cap + eb.slack - (n + m),eb.tot,eb.esz,true⟩
      have hX : BRel P (ι.add h.next EN) EN w' (.cells (old.take (i * P.cellsOf e) ++ (new ++ old.drop (i * P.cellsOf e))) e 0 true) := by
        refine ⟨arr,lo,hi,p1,p2,?_,?_,fun z => (by cases z),fun _ => hes,p7,rfl,fun _ => ?_⟩
        · show eb.tot = o + eb.sh + _ + (cap + eb.slack - (n + m)) * eb.esz
          rw [lLo,hes,hsl]; omega
        · show RL _ _ ((arr.drop (o + eb.sh)).take _)
          rw [lLo,Nat.add_comm o,← List.drop_drop,harr,List.drop_left' lto,List.take_left' lL]
          exact rL.mono (s.ext EN)
        · show ones (arr.drop (o + eb.sh + _)) = true
          rw [lLo,show o + eb.sh + (n * P.cellsOf e + m * P.cellsOf e) = eb.sh + (o + (n * P.cellsOf e + m * P.cellsOf e)) by omega,← List.drop_drop,harr,← List.drop_drop,List.drop_left' lto,List.drop_left' lL]
          exact ones_drop owb _
      obtain ⟨t1,t2⟩ := transfer (hd := h.leave (some ⟨b,o,none⟩)) s (D := some b) (leave_next _ _) hget hDD hgv hev lwv v4 st h1' bz1 hX (by have := st.size; show eb.c < _; omega) (.inr ⟨b,eb,rfl,heb,rfl⟩)
      refine ⟨_,t1,t2,?_⟩
      cases rr with
      | @slcO _ _ _ _ e3 he3 hc3 =>
      rw [j0] at he3; cases he3
      have hfin : R (ι.add h.next EN) (.slice (some ⟨h.next,0,none⟩) (n + m) (n + m)) (.slice (some ⟨EN.c,0 + EN.sh,none⟩) (n + m) (n + m + EN.slack)) :=
        .slcO (Io.add_self _ _ _) (fun _ => by
          show 0 + (o + eb.sh) + (n + m + (cap + eb.slack - (n + m))) * eb.esz = eb.tot
          rw [show n + m + (cap + eb.slack - (n + m)) = cap + eb.slack by omega,hes]; omega)
      have w1 : n + m + EN.slack = cap + eb.slack + E0.slack := by show n + m + (cap + eb.slack - (n + m)) = cap + eb.slack + 0; omega
      rw [w1,Nat.zero_add] at hfin
      exact hfin
    ·
      obtain ⟨hm',hrun,hnx,hgv',hgb',hgn⟩ : ∃ hm',insB P sl it ov K cl (.slice (some ⟨0,o,none⟩) n (cap + eb.slack)) (.int .i64 (i : Nat)) (.slice (some ⟨1,vo,none⟩) m mc) hm = .ok (.slice (some ⟨hm.next,0,none⟩) (n + m) (n + m)) hm' ∧ hm'.next = hm.next + 1 ∧ hm'.get 1 = hm.get 1 ∧ hm'.get 0 = hm.get 0 ∧
          hm'.get hm.next = some (.cells ((((wb.map hol).drop o).take (n * P.cellsOf e)).take (i * P.cellsOf e) ++ (nw.map hol ++ (((wb.map hol).drop o).take (n * P.cellsOf e)).drop (i * P.cellsOf e))) e 0 true) := by
        by_cases hi : i = n
        · exact ins_new_end T Q hi hfit
        · exact ins_new_mid T Q hi hfit
      refine hrest hrun ?_
      rintro v' w' ⟨ι₂,st,s₂,rr⟩
      have j0 := st.ext 0 E0 i0
      have j1 := st.ext 1 ev i1
      rw [hodm,hLm] at hgn
      obtain ⟨z1,k1,bz1⟩ := s₂.blk 1 _ (hgv'.trans g1) rfl
      rw [j1] at k1; cases k1
      rw [hmn] at hgn rr
      obtain ⟨e2,he2,bz2⟩ := s₂.blk 2 _ hgn rfl
      have hne1 : e2.c ≠ ev.c := fun z => by have := s₂.inj 2 1 _ _ _ _ hgn (hgv'.trans g1) rfl rfl he2 j1 z; omega
      have hne0 : e2.c ≠ E0.c := fun z => by have := s₂.inj 2 0 _ _ _ _ hgn (hgb'.trans g0) rfl rfl he2 j0 z; omega
      have hge : w.heap.size ≤ e2.c := by
        rcases st.new 2 e2 he2 rfl with z | ⟨b0,e0,z1,z2⟩
        · exact z
        · rcases ιc _ _ z1 with ⟨_,rfl⟩ | ⟨_,rfl⟩
          · exact absurd z2.symm hne1
          · exact absurd z2.symm hne0
      obtain ⟨arr,lo,hi,p1,p2,p3,p4,p5,p6,p7,p8⟩ := bz2
      rw [List.length_map,lL] at p3 p4 p8
      have hX : BRel P (ι.add h.next e2) e2 w' (.cells (old.take (i * P.cellsOf e) ++ (new ++ old.drop (i * P.cellsOf e))) e 0 true) := by
        refine ⟨arr,lo,hi,p1,p2,by rw [lLo]; exact p3,?_,p5,p6,p7,p8.1,fun z => by rw [lLo]; exact p8.2 z⟩
        rw [lLo,hol_same p4]
        exact rL.mono (s.ext e2)
      obtain ⟨t1,t2⟩ := transfer (hd := h.leave (some ⟨b,o,none⟩)) s (D := some b) (leave_next _ _) hget hDD hgv hev lwv v4 st h1' bz1 hX (s₂.dom _ _ he2).2 (.inl hge)
      refine ⟨_,t1,t2,?_⟩
      cases rr with
      | @slcO _ _ _ _ e3 he3 hc3 =>
      rw [he2] at he3; cases he3
      exact .slcO (Io.add_self _ _ _) hc3
end Go.Kx
