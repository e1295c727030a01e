/- My texts for this claim, in one file: part 38. -/
import Derived.Test.YtdadiidfhnojcaaWb37
namespace Go.Proofs.Ytdadiidfhnojcaa.K
open Go Go.Kx
set_option linter.unusedVariables false
set_option linter.unusedSimpArgs false
set_option maxRecDepth 20000
def PickI (ts : List TK) (R : List Nat) (i : Nat) (c : Int) : Prop := (c = -1 ∧ ∀ j,j < i → ¬ Ready ts R j) ∨ ∃ k : Nat,c = k ∧ k < i ∧ Ready ts R k ∧ ∀ j : Nat,j < i → Ready ts R j → j = k ∨ aLt ts (k : Int) (j : Int) = true
theorem PickI.skip {ts : List TK} {R : List Nat} {i : Nat} {c : Int} (p : PickI ts R i c) (h : ¬ Ready ts R i) : PickI ts R (i + 1) c := by
  rcases p with ⟨e,no⟩ | ⟨k,e,hk,rk,mn⟩
  · refine .inl ⟨e,fun j hj => ?_⟩
    by_cases q : j = i
    · subst q; exact h
    · exact no j (by omega)
  · refine .inr ⟨k,e,by omega,rk,fun j hj rj => ?_⟩
    by_cases q : j = i
    · subst q; exact absurd rj h
    · exact mn j (by omega) rj
theorem ready_all {ts : List TK} {R : List Nat} {i : Nat} : ((nd ts i).all fun j => decide (j ∈ R)) = true ↔ ∀ k ∈ nd ts i,k ∈ R := by
  rw [List.all_eq_true]
  exact ⟨fun h k hk => of_decide_eq_true (h k hk),fun h k hk => decide_eq_true (h k hk)⟩
theorem ro_scan {hq h : H} {vt vo : Value} {ts : List TK} {sl : Value} {bo : Option Nat} {w : Nat → Value × Option Nat} {R : List Nat} {bd : Nat} (T : Tasks h vt ts) (q : LvO hq h sl bo ts.length w (nd ts)) (hn : ts.length ≤ 3000) (Q : BL h bd ts.length false fun j => decide (j ∈ R)) :
    ∀ (m i : Nat) {c : Int},ts.length - i = m → i ≤ ts.length → PickI ts R i c →
      ∃ c',PickI ts R ts.length c' ∧ F14.l10 Try.prog CLM nu0 nu0 vt sl (.slice (some ⟨bd,0,none⟩) ts.length ts.length) vo (.int .i64 c) (.int .i64 (i : Nat)) h = F14.j14 Try.prog CLM nu0 nu0 vt sl (.slice (some ⟨bd,0,none⟩) ts.length ts.length) vo (.int .i64 c') h := by
  intro m
  induction m with
  | zero =>
    intro i c hm hi p
    have : i = ts.length := by omega
    subst this
    refine ⟨c,p,?_⟩
    rw [F14.l10_eq,T.len,go_ok,xlss,go_ok,ifV_dec,if_neg (by omega)]
  | succ m ih =>
    intro i c hm hi p
    have hil : i < ts.length := by omega
    obtain ⟨b1,b2⟩ := Q.ld (m := ts.length) (cap := ts.length) hil hil
    obtain ⟨a,a2,a3,_⟩ := q.ld hil
    have I : IL h (w i).1 (nl (nd ts i)) := (q.ol i hil).1.il
    have er := eRready I Q (fun j hj => nd_lt hj) (by have := nd_len ts i; omega)
    have w1 : IntKind.i64.wrap ((i : Int) + 1) = ((i + 1 : Nat) : Int) := wadd1 (by omega)
    rw [F14.l10_eq,T.len,go_ok,xlss,go_ok,ifV_dec,if_pos (by omega),F14.j12_eq,b1,go_ok,b2,go_ok,xun_not,go_ok]
    by_cases hR : i ∈ R
    · rw [decide_eq_true hR,show (!true) = false from rfl,ifV_f,xadd,go_ok,w1]
      exact ih (i + 1) (by omega) (by omega) (p.skip fun z => z.2.1 hR)
    · rw [decide_eq_false hR,show (!false) = true from rfl,ifV_t,a2,go_ok,a3 _ (Grow.refl h),go_ok,er,go_ok]
      cases hall : (nd ts i).all fun j => decide (j ∈ R) with
      | false =>
        rw [ifV_f,xadd,go_ok,w1]
        exact ih (i + 1) (by omega) (by omega) (p.skip fun z => by rw [ready_all.2 z.2.2] at hall; cases hall)
      | true =>
        have rdy : Ready ts R i := ⟨hil,hR,ready_all.1 hall⟩
        rw [ifV_t,xlss,go_ok,ifV_dec]
        rcases p with ⟨rfl,no⟩ | ⟨k,rfl,hk,rk,mn⟩
        · rw [if_pos (by omega),xadd,go_ok,w1]
          refine ih (i + 1) (by omega) (by omega) (.inr ⟨i,rfl,by omega,rdy,fun j hj rj => ?_⟩)
          by_cases e : j = i
          · exact .inl e
          · exact absurd rj (no j (by omega))
        · rw [if_neg (by omega),eRahead T hil rk.1,go_ok]
          cases hA : aLt ts (i : Int) (k : Int) with
          | true =>
            rw [ifV_t,xadd,go_ok,w1]
            refine ih (i + 1) (by omega) (by omega) (.inr ⟨i,rfl,by omega,rdy,fun j hj rj => ?_⟩)
            by_cases e : j = i
            · exact .inl e
            · rcases mn j (by omega) rj with z | z
              · subst z; exact .inr hA
              · exact .inr (aLt_trans hA z)
          | false =>
            rw [ifV_f,xadd,go_ok,w1]
            refine ih (i + 1) (by omega) (by omega) (.inr ⟨k,rfl,by omega,rk,fun j hj rj => ?_⟩)
            by_cases e : j = i
            · subst e
              rcases aLt_tri ts (j : Int) (k : Int) with z | z | z
              · rw [hA] at z; cases z
              · exact .inl (by omega)
              · exact .inr z
            · exact mn j (by omega) rj
structure RoS (h0 h : H) (n bd : Nat) (v : Value) (br : Option Nat) (R : List Nat) : Prop where
  gr : Grow h0 h
  s : BL h bd n false fun j => decide (j ∈ R)
  o : OL h v br (nl R)
  fs : h0.next ≤ bd
  ft : ∀ b,br = some b → h0.next ≤ b
theorem ro_main {hq h0 : H} {vt : Value} {ts : List TK} {sl : Value} {bo : Option Nat} {w : Nat → Value × Option Nat} (T : Tasks h0 vt ts) (q : LvO hq h0 sl bo ts.length w (nd ts)) (F : Few ts) (nc : NoC ts) : ∀ (m : Nat) {h : H} {bd : Nat} {v : Value} {br : Option Nat} {R : List Nat},ts.length - R.length = m → R.length ≤ ts.length → RoS h0 h ts.length bd v br R → IsOrd ts R →
    ∃ h' v' br' R',Grow h0 h' ∧ OL h' v' br' (nl R') ∧ (∀ b,br' = some b → h0.next ≤ b) ∧ IsOrd ts R' ∧ R'.length = ts.length ∧
      F14.l7 Try.prog CLM nu0 nu0 vt sl (.slice (some ⟨bd,0,none⟩) ts.length ts.length) v h = .ok (.tuple ⟨[v',.int .i64 0,.string ⟨#[]⟩]⟩) h' := by
  intro m
  have hn := F.n
  induction m with
  | zero =>
    intro h bd v br R hm hl s io
    refine ⟨h,v,br,R,s.gr,s.o,s.ft,io,by omega,?_⟩
    rw [F14.l7_eq,s.o.il.len,go_ok,T.len,go_ok,nl_len,xlss,go_ok,ifV_dec,if_neg (by omega),F14.j16_eq]
  | succ m ih =>
    intro h bd v br R hm hl s io
    obtain ⟨c,p,e1⟩ := ro_scan (vo := v) (T.grow s.gr) (q.grow s.gr) hn s.s _ 0 rfl (Nat.zero_le _) (c := -1) (.inl ⟨rfl,fun j hj => absurd hj (Nat.not_lt_zero _)⟩)
    rcases p with ⟨_,no⟩ | ⟨k,rfl,hk,rk,mn⟩
    · obtain ⟨j,hj⟩ := ready_ex nc (R := R) (by omega)
      exact absurd hj (no j hj.1)
    · have pk : Pick ts R k := ⟨rk,fun j hj => mn j hj.1 hj⟩
      obtain ⟨b1,_⟩ := s.s.ld (m := ts.length) (cap := ts.length) hk hk
      obtain ⟨h1,e2,u1,B1⟩ := s.s.st hk true
      have G1 : Grow h0 h1 := grow_then s.gr u1 fun b hb => hb ▸ s.fs
      have o1 : OL h1 v br (nl R) := s.o.upd u1 fun b hb z => s.o.ne2 s.s (by rw [hb,z])
      obtain ⟨v',br',h2,u2,o2,nb,e3⟩ := o1.push (by rw [nl_len]; omega) (k : Int)
      have G2 : Grow h0 h2 := grow_then G1 u2 fun b hb => s.ft b hb.symm
      have B2 := (B1.upd u2 fun z => o1.ne2 B1 z.symm).congr (B' := fun j => decide (j ∈ R ++ [k])) fun j hj => by
        by_cases e : j = k
        · subst e; rw [updN_eq]; simp
        · rw [updN_ne e]; simp [e]
      obtain ⟨h',v'',br'',R',g',o',f',io',l',e'⟩ := ih (R := R ++ [k]) (by rw [List.length_append,List.length_singleton]; omega) (by rw [List.length_append,List.length_singleton]; omega)
        ⟨G2,B2,by rw [nl_append]; exact o2,s.fs,fun b hb => by
          rcases nb with z | ⟨b',z,z2⟩
          · exact s.ft b (z ▸ hb)
          · rw [z] at hb; cases hb; exact Nat.le_trans G1.next z2⟩ (io.snoc pk)
      refine ⟨h',v'',br'',R',g',o',f',io',l',?_⟩
      rw [F14.l7_eq,s.o.il.len,go_ok,T.len,go_ok,nl_len,xlss,go_ok,ifV_dec,if_pos (by omega),F14.j8_eq,show (Value.int .i64 0) = .int .i64 ((0 : Nat) : Int) from rfl,e1,F14.j14_eq,b1,go_ok,e2,go_ok,e3]
      exact e'
def ROrdR (h0 h : H) (ts : List TK) (v : Value) (code : Int) (name : ByteArray) : Prop :=
  (∃ c,CycMin ts c ∧ v = .slice none 0 0 ∧ code = 130 ∧ name = nm ts (c : Int)) ∨
  (NoC ts ∧ ∃ R br,IsOrd ts R ∧ R.length = ts.length ∧ OL h v br (nl R) ∧ (∀ b,br = some b → h0.next ≤ b) ∧ code = 0 ∧ name = ⟨#[]⟩)
theorem eROrder {h0 : H} {vt : Value} {ts : List TK} (T : Tasks h0 vt ts) (F : Few ts) :
    ∃ h' v code name,Grow h0 h' ∧ ROrdR h0 h' ts v code name ∧ CLM (.f 14) [vt] h0 = .ok (.tuple ⟨[v,.int .i64 code,.string name]⟩) h' := by
  have hn := F.n
  obtain ⟨h1,sl,bo,w,g1,q1,e1⟩ := eRall T F
  have T1 := T.grow g1
  obtain ⟨h2,c,g2,hc,e2⟩ := eRcycle T1 q1 F
  have G2 := g1.trans g2
  rcases hc with ⟨hc,no⟩ | ⟨k,hc,hk,ok,mn⟩
  · subst hc
    have T2 := T1.grow g2
    have q2 := q1.grow g2
    obtain ⟨h3,e3,g3,B3,n3⟩ := BL.new (n := ts.length) (by omega) h2
    obtain ⟨h4,v4,br4,R,g4,o4,f4,io,hl,e4⟩ := ro_main T2 q2 F no _ rfl (Nat.zero_le _) (h := h3) (bd := h2.next) (v := .slice none 0 0) (br := none) (R := [])
      ⟨g3,B3.congr (fun j _ => by simp),OL.nil,Nat.le_refl _,fun b z => by cases z⟩ (IsOrd.nil ts)
    refine ⟨h4,v4,0,⟨#[]⟩,G2.trans g4,.inr ⟨no,R,br4,io,hl,o4,fun b hb => Nat.le_trans G2.next (f4 b hb),rfl,rfl⟩,?_⟩
    rw [cM14,F14.eq,e1,go_ok,e2,go_ok,xgeq,go_ok,ifV_dec,if_neg (by omega),F14.j5_eq,T.len,go_ok,e3,go_ok,e4]
  · subst hc
    obtain ⟨b,o,vi,vo,a1,row,-⟩ := (T.grow G2).at_ (List.getElem?_eq_getElem hk)
    have c1 := row.cell (j := 0) rfl
    rw [Nat.add_zero] at c1
    have n1 := nm_at (List.getElem?_eq_getElem hk)
    rw [← n1] at c1
    have l1 : xload Try.prog 9 (.pointer (some ⟨b,o,none⟩)) h2 = .ok (.string (nm ts (k : Int))) h2 := by rw [ld9,c1,ofO_some]
    refine ⟨h2,.slice none 0 0,130,nm ts (k : Int),G2,.inl ⟨k,⟨hk,ok,mn⟩,rfl,rfl,rfl⟩,?_⟩
    rw [cM14,F14.eq,e1,go_ok,e2,go_ok,xgeq,go_ok,ifV_dec,if_pos (by omega),a1,Res.ok1_ok,fa55_0,Res.ok1_ok,l1,Res.ok1_ok,l1,rc_str,Bool.and_self,cond_true,cond_true]
end Go.Proofs.Ytdadiidfhnojcaa.K
namespace Go.Proofs.Ytdadiidfhnojcaa.K
open Go Go.Kx
set_option linter.unusedVariables false
set_option linter.unusedSimpArgs false
set_option maxRecDepth 20000
theorem OL.cutL {h : H} {v : Value} {br : Option Nat} {G : List Nat} (q : OL h v br (nl G)) {p : Nat} (hp : p ≤ G.length) :
    ∃ v1,xslice Try.prog 27 v none (some (.int .i64 (p : Nat))) none h = .ok v1 h ∧ IL h v1 (nl (G.take p)) := by
  rcases q with ⟨_,rfl,e⟩ | ⟨b,sp,cap,_,rfl,hg,e3,e4⟩
  · have : G = [] := by cases G with
      | nil => rfl
      | cons a l => cases e
    subst this
    have hp0 : p = 0 := by simpa using hp
    subst hp0
    refine ⟨.slice none 0 0,?_,.inl ⟨rfl,rfl⟩⟩
    kernel_rfl
  · rw [nl_len] at e3
    by_cases hc : 0 < cap
    · have T := xslice_o (P := Try.prog) (t := 27) (lo := none) (hi := some (.int .i64 (p : Nat))) (o := 0) (n := (nl G).length) (cap := cap) un27 sz3 hg rfl (l := 0) (u := p) rfl rfl (by omega) (by omega) hc
      rw [Nat.zero_mul,Nat.zero_add,Nat.sub_zero,Nat.sub_zero] at T
      refine ⟨_,T,.inr ⟨b,none,cap,iv (nl (G.drop p)) ++ sp,true,?_,?_⟩⟩
      · rw [nl_len,List.length_take,Nat.min_eq_left hp]
      · rw [hg,← List.append_assoc,← iv_append,← nl_append,List.take_append_drop]
    · have : G = [] := List.length_eq_zero_iff.1 (by omega)
      subst this
      have hp0 : p = 0 := by simpa using hp
      subst hp0
      have hc0 : cap = 0 := by omega
      subst hc0
      have T := xslice_e (P := Try.prog) (t := 27) (lo := none) (hi := some (.int .i64 ((0 : Nat) : Int))) (o := 0) (n := (nl ([] : List Nat)).length) (cap := 0) un27 sz3 hg rfl rfl rfl
      exact ⟨_,T,.inr ⟨b,some 1,0,sp,true,rfl,hg⟩⟩
theorem OL.cutR {h : H} {v : Value} {br : Option Nat} {G : List Nat} (q : OL h v br (nl G)) {p : Nat} (hp : p ≤ G.length) :
    ∃ v1,xslice Try.prog 27 v (some (.int .i64 (p : Nat))) none none h = .ok v1 h ∧ lenV v1 = some (nl (G.drop p)).length ∧ firstC h 1 (nl (G.drop p)).length v1 = some (iv (nl (G.drop p))) := by
  rcases q with ⟨_,rfl,e⟩ | ⟨b,sp,cap,_,rfl,hg,e3,e4⟩
  · have : G = [] := by cases G with
      | nil => rfl
      | cons a l => cases e
    subst this
    have hp0 : p = 0 := by simpa using hp
    subst hp0
    refine ⟨.slice none 0 0,?_,rfl,rfl⟩
    kernel_rfl
  · rw [nl_len] at e3
    have hlen : (nl (G.drop p)).length = G.length - p := by rw [nl_len,List.length_drop]
    by_cases hc : p < cap
    · have T := xslice_o (P := Try.prog) (t := 27) (lo := some (.int .i64 (p : Nat))) (hi := none) (o := 0) (n := (nl G).length) (cap := cap) un27 sz3 hg rfl (l := p) (u := (nl G).length) rfl rfl (by rw [nl_len]; omega) (by rw [nl_len]; omega) hc
      rw [show Try.prog.cellsOf 3 = 1 by kernel_rfl] at T
      refine ⟨_,T,by rw [lenV_slice,nl_len,hlen],?_⟩
      show h.row ⟨b,0 + p * 1,none⟩ ((nl (G.drop p)).length * 1) = _
      rw [hlen,Nat.mul_one,Nat.mul_one,Nat.zero_add,H.row_eq hg (by rw [List.length_append,iv_len,nl_len]; omega)]
      congr 1
      rw [List.drop_append_of_le_length (by rw [iv_len,nl_len]; omega),show (iv (nl G)).drop p = iv (nl (G.drop p)) by unfold iv nl; simp only [List.map_drop],List.take_append_of_le_length (by rw [iv_len,nl_len,List.length_drop]; exact Nat.le_refl _),List.take_of_length_le (by rw [iv_len,nl_len,List.length_drop]; exact Nat.le_refl _)]
    · have hpc : p = cap := by omega
      have hGl : G.length = cap := by omega
      have T := xslice_e (P := Try.prog) (t := 27) (lo := some (.int .i64 (p : Nat))) (hi := none) (o := 0) (n := (nl G).length) (cap := cap) un27 sz3 hg rfl (by rw [hpc]; rfl) (by rw [nl_len,hGl]; rfl)
      have hd : G.drop p = [] := List.drop_eq_nil_of_le (by omega)
      refine ⟨_,T,by rw [hd]; rfl,?_⟩
      rw [hd]
      show h.row ⟨b,0,none⟩ (0 * 1) = _
      rw [H.row_eq hg (by omega)]
      rfl
theorem OL.appF {h : H} {v : Value} {br : Option Nat} {l m : List Nat} {w : Value} (q : OL h v br (nl l)) (few : l.length + m.length ≤ 1000000) (f1 : lenV w = some (nl m).length) (f2 : firstC h 1 (nl m).length w = some (iv (nl m))) :
    ∃ v' br' h',xbuiltin Try.prog .append [27,27] [v,w] h = .ok v' h' ∧ Upd (fun x => some x = br) h h' ∧ OL h' v' br' (nl (l ++ m)) ∧ NewBr h br br' := by
  obtain ⟨v',br',h',e,u,l',n⟩ := lst_app LI q.lst (rows_good (nl l)) (x := w) (k := (nl m).length) (rows2 := (nl m).map fun z => [Value.int .i64 z]) (by rw [List.length_map,nl_len,nl_len]; exact few) f1 (by rw [rows_iv,show Try.prog.cellsOf 3 = 1 by kernel_rfl]; exact f2) (by simp) (rows_good (nl m))
  exact ⟨v',br',h',e,u,OL.of (by rw [nl_append,List.map_append]; exact l'),n⟩
theorem rl_put {hs h : H} {vt : Value} {x0 x5 x7 x8 x9 v : Value} {br : Option Nat} {G : List Nat} {i p : Nat} (o : OL h v br (nl G)) (hs' : hs.next ≤ h.next) (fb : ∀ b,br = some b → hs.next ≤ b) (hp : p ≤ G.length) (few : G.length ≤ 3000) :
    ∃ h' v' br',Grow h h' ∧ OL h' v' br' (nl (G.take p ++ i :: G.drop p)) ∧ (∀ b,br' = some b → hs.next ≤ b) ∧ ∀ y1 y2 y3 y4 y5 y6 y7 z1 z2 z3 z4 z5 z6 z7 : Value,
      F16.j17 Try.prog CLM nu0 nu0 x0 x5 x7 x8 x9 v (.int .i64 (i : Nat)) (.int .i64 (p : Nat)) y1 y2 y3 y4 y5 y6 y7 z1 z2 z3 z4 z5 z6 z7 h = F16.j12 Try.prog CLM nu0 nu0 x0 x5 x7 x8 x9 v' (.int .i64 (i : Nat)) y1 y2 y3 y4 y5 y6 y7 h' := by
  obtain ⟨v1,e1,I1⟩ := o.cutL hp
  obtain ⟨v2,br2,h2,e2,u2,o2,nb2⟩ := (OL.nil (h := h)).app (by rw [nl_len,List.length_take]; simp; omega) I1
  have g2 : Grow h h2 := grow_then (Grow.refl h) u2 fun b hb => by cases hb
  rw [List.nil_append] at o2
  obtain ⟨v3,br3,h3,u3,o3,nb3,e3⟩ := o2.push (by rw [nl_len,List.length_take]; omega) (i : Int)
  have fr2 : ∀ b,br2 = some b → h.next ≤ b := fun b hb => by
    rcases nb2 with z | ⟨b',z,z2⟩
    · rw [z] at hb; cases hb
    · rw [z] at hb; cases hb; exact z2
  have g3 : Grow h h3 := grow_then g2 u3 fun b hb => fr2 b hb.symm
  have fr3 : ∀ b,br3 = some b → h.next ≤ b := fun b hb => by
    rcases nb3 with z | ⟨b',z,z2⟩
    · exact fr2 b (z ▸ hb)
    · rw [z] at hb; cases hb; exact Nat.le_trans g2.next z2
  obtain ⟨v4,e4,f1,f2⟩ := (o.grow g3).cutR hp
  have o3' : OL h3 v3 br3 (nl (G.take p ++ [i])) := by rw [nl_append]; exact o3
  obtain ⟨v5,br5,h5,e5,u5,o5,nb5⟩ := o3'.appF (m := G.drop p) (by rw [List.length_append,List.length_take,List.length_drop,List.length_singleton]; omega) f1 f2
  rw [List.append_assoc] at o5
  refine ⟨h5,v5,br5,grow_then g3 u5 fun b hb => fr3 b hb.symm,o5,fun b hb => ?_,fun y1 y2 y3 y4 y5 y6 y7 z1 z2 z3 z4 z5 z6 z7 => ?_⟩
  · rcases nb5 with z | ⟨b',z,z2⟩
    · exact Nat.le_trans hs' (fr3 b (z ▸ hb))
    · rw [z] at hb; cases hb; exact Nat.le_trans hs' (Nat.le_trans g3.next z2)
  · rw [F16.j17_eq,e1,go_ok,e2,go_ok,e3,e4,go_ok,e5,go_ok]
theorem rl_find {h : H} {vt : Value} {ts : List TK} {x5 x7 x8 x9 v : Value} {G : List Nat} {i : Nat} (T : Tasks h vt ts) (I : IL h v (nl G)) (hi : i < ts.length) (hG : ∀ j ∈ G,j < ts.length) (few : G.length ≤ 3000) (y1 y2 y3 y4 y5 y6 y7 : Value) : ∀ (m p : Nat),G.length - p = m → p ≤ G.length → (∀ q k,q < p → G[q]? = some k → aLt ts (k : Int) (i : Int) = true) →
    ∃ p' z1 z2 z3 z4 z5 z6 z7,p' ≤ G.length ∧ (∀ q k,q < p' → G[q]? = some k → aLt ts (k : Int) (i : Int) = true) ∧ (∀ k,G[p']? = some k → aLt ts (k : Int) (i : Int) = false) ∧
      F16.l15 Try.prog CLM nu0 nu0 vt x5 x7 x8 x9 v (.int .i64 (i : Nat)) (.int .i64 (p : Nat)) y1 y2 y3 y4 y5 y6 y7 h = F16.j17 Try.prog CLM nu0 nu0 vt x5 x7 x8 x9 v (.int .i64 (i : Nat)) (.int .i64 (p' : Nat)) y1 y2 y3 y4 y5 y6 y7 z1 z2 z3 z4 z5 z6 z7 h := by
  intro m
  induction m with
  | zero =>
    intro p hm hp ha
    refine ⟨p,.tuple #[],.tuple #[],.tuple #[],.tuple #[],.tuple #[],.tuple #[],.tuple #[],hp,ha,fun k hk => ?_,?_⟩
    rotate_left
    · rw [F16.l15_eq,I.len,go_ok,nl_len,xlss,go_ok,ifV_dec,if_neg (by omega)]
    · have := (List.getElem?_eq_some_iff.1 hk).1; omega
  | succ m ih =>
    intro p hm hp ha
    have hpl : p < G.length := by omega
    have hk : G[p]? = some G[p] := List.getElem?_eq_getElem hpl
    obtain ⟨k,hkd⟩ : ∃ k,k = G[p] := ⟨_,rfl⟩
    rw [← hkd] at hk
    obtain ⟨a,a1,a2⟩ := I.at_ (show (nl G)[p]? = some (k : Int) by unfold nl; rw [List.getElem?_map,hk]; rfl)
    have ea := eRahead T (hG k (List.mem_of_getElem? hk)) hi
    cases hA : aLt ts (k : Int) (i : Int) with
    | true =>
      obtain ⟨p',z1,z2,z3,z4,z5,z6,z7,r1,r2,r3,r4⟩ := ih (p + 1) (by omega) (by omega) fun q x hq hx => by
        by_cases e : q = p
        · subst e; rw [hk] at hx; cases hx; exact hA
        · exact ha q x (by omega) hx
      refine ⟨p',z1,z2,z3,z4,z5,z6,z7,r1,r2,r3,?_⟩
      rw [F16.l15_eq,I.len,go_ok,nl_len,xlss,go_ok,ifV_dec,if_pos (by omega),a1,go_ok,a2,go_ok,ea,go_ok,hA,ifV_t,xadd,go_ok,wadd1 (by omega)]
      exact r4
    | false =>
      refine ⟨p,vt,v,.int .i64 (p : Nat),.pointer (some a),.int .i64 (k : Nat),.int .i64 (i : Nat),.bool false,hp,ha,fun x hx => ?_,?_⟩
      rotate_left
      · rw [F16.l15_eq,I.len,go_ok,nl_len,xlss,go_ok,ifV_dec,if_pos (by omega),a1,go_ok,a2,go_ok,ea,go_ok,hA,ifV_f]
      · rw [hk] at hx; cases hx; exact hA
theorem asorted_ins {ts : List TK} {G : List Nat} {i p : Nat} (hs : ASorted ts G) (hi : i ∉ G) (h1 : ∀ q k,q < p → G[q]? = some k → aLt ts (k : Int) (i : Int) = true) (h2 : ∀ k,G[p]? = some k → aLt ts (k : Int) (i : Int) = false) : ASorted ts (G.take p ++ i :: G.drop p) := by
  have hat : ∀ k ∈ G.take p,aLt ts (k : Int) (i : Int) = true := fun k hk => by
    obtain ⟨q,hq⟩ := List.mem_iff_getElem?.1 hk
    have hqi := (List.getElem?_eq_some_iff.1 hq).1
    rw [List.length_take] at hqi
    rw [List.getElem?_take_of_lt (by omega)] at hq
    exact h1 q k (by omega) hq
  have hbt : ∀ k ∈ G.drop p,aLt ts (i : Int) (k : Int) = true := fun k hk => by
    obtain ⟨q,hq⟩ := List.mem_iff_getElem?.1 hk
    rw [List.getElem?_drop] at hq
    have hpl : p < G.length := by have := (List.getElem?_eq_some_iff.1 hq).1; omega
    have hy := List.getElem?_eq_getElem hpl
    have h3 := h2 _ hy
    have hyi : aLt ts (i : Int) (G[p] : Int) = true := by
      rcases aLt_tri ts (G[p] : Int) (i : Int) with z | z | z
      · rw [h3] at z; cases z
      · have : G[p] = i := by omega
        exact absurd (this ▸ List.getElem_mem hpl) hi
      · exact z
    by_cases e : q = 0
    · subst e; rw [Nat.add_zero,hy] at hq; cases hq; exact hyi
    · have := (List.pairwise_iff_getElem.1 hs) p (p + q) hpl (List.getElem?_eq_some_iff.1 hq).1 (by omega)
      rw [(List.getElem?_eq_some_iff.1 hq).2] at this
      exact aLt_trans hyi this
  unfold ASorted at *
  rw [List.pairwise_append,List.pairwise_cons]
  refine ⟨hs.sublist (List.take_sublist _ _),⟨hbt,hs.sublist (List.drop_sublist _ _)⟩,fun a ha b hb => ?_⟩
  rcases List.mem_cons.1 hb with z | z
  · subst z; exact hat a ha
  · exact aLt_trans (hat a ha) (hbt b z)
theorem rl_scan {hq hs : H} {vt x8 x9 : Value} {ts : List TK} {sl : Value} {bo : Option Nat} {w : Nat → Value × Option Nat} {L : Nat → Nat} {k bd : Nat} (T : Tasks hs vt ts) (q : LvO hq hs sl bo ts.length w (nd ts)) (F : Few ts) (lv : IsLev ts L) (Q : BL hs bd ts.length false fun j => decide (L j < k)) :
    ∀ (m i : Nat) {h : H} {v : Value} {br : Option Nat} {G : List Nat},ts.length - i = m → i ≤ ts.length → Grow hs h → OL h v br (nl G) → (∀ b,br = some b → hs.next ≤ b) → ASorted ts G → (∀ j,j ∈ G ↔ j < i ∧ L j = k) →
      ∃ h' v' br' G',Grow hs h' ∧ OL h' v' br' (nl G') ∧ (∀ b,br' = some b → hs.next ≤ b) ∧ ASorted ts G' ∧ (∀ j,j ∈ G' ↔ j < ts.length ∧ L j = k) ∧
        F16.l11 Try.prog CLM nu0 nu0 vt sl (.slice (some ⟨bd,0,none⟩) ts.length ts.length) x8 x9 v (.int .i64 (i : Nat)) h = F16.j21 Try.prog CLM nu0 nu0 vt sl (.slice (some ⟨bd,0,none⟩) ts.length ts.length) x8 x9 v' h' := by
  intro m
  have hn := F.n
  induction m with
  | zero =>
    intro i h v br G hm hi g o f srt hG
    have : i = ts.length := by omega
    subst this
    refine ⟨h,v,br,G,g,o,f,srt,hG,?_⟩
    rw [F16.l11_eq,T.len,go_ok,xlss,go_ok,ifV_dec,if_neg (by omega)]
  | succ m ih =>
    intro i h v br G hm hi g o f srt hG
    have hil : i < ts.length := by omega
    obtain ⟨b1,b2⟩ := BL.ld (g.old _ _ Q) (m := ts.length) (cap := ts.length) hil hil
    obtain ⟨a,a2,a3,_⟩ := q.ld hil
    have Iw : IL h (w i).1 (nl (nd ts i)) := ((q.ol i hil).1.grow g).il
    have hnd := nd_len ts i
    have er := eRready Iw (g.old _ _ Q) (fun j hj => nd_lt hj) (by omega)
    have w1 : IntKind.i64.wrap ((i : Int) + 1) = ((i + 1 : Nat) : Int) := wadd1 (by omega)
    have skip : L i ≠ k → ∀ y1 y2 y3 y4 y5 y6 y7 : Value,∃ h' v' br' G',Grow hs h' ∧ OL h' v' br' (nl G') ∧ (∀ b,br' = some b → hs.next ≤ b) ∧ ASorted ts G' ∧ (∀ j,j ∈ G' ↔ j < ts.length ∧ L j = k) ∧
        F16.j12 Try.prog CLM nu0 nu0 vt sl (.slice (some ⟨bd,0,none⟩) ts.length ts.length) x8 x9 v (.int .i64 (i : Nat)) y1 y2 y3 y4 y5 y6 y7 h = F16.j21 Try.prog CLM nu0 nu0 vt sl (.slice (some ⟨bd,0,none⟩) ts.length ts.length) x8 x9 v' h' := fun hne y1 y2 y3 y4 y5 y6 y7 => by
      obtain ⟨h',v',br',G',r1,r2,r3,r4,r5,r6⟩ := ih (i + 1) (by omega) (by omega) g o f srt fun j => by
        rw [hG]
        constructor
        · rintro ⟨x,y⟩; exact ⟨by omega,y⟩
        · rintro ⟨x,y⟩
          refine ⟨?_,y⟩
          by_cases e : j = i
          · subst e; exact absurd y hne
          · omega
      refine ⟨h',v',br',G',r1,r2,r3,r4,r5,?_⟩
      rw [F16.j12_eq,xadd,go_ok,w1]
      exact r6
    rw [F16.l11_eq,T.len,go_ok,xlss,go_ok,ifV_dec,if_pos (by omega),F16.j13_eq,b1,go_ok,b2,go_ok]
    by_cases hd : L i < k
    · rw [decide_eq_true hd,ifV_t]
      exact skip (by omega) _ _ _ _ _ _ _
    · rw [decide_eq_false hd,ifV_f,a2,go_ok,a3 _ g,go_ok,er,go_ok,xun_not,go_ok]
      cases hall : (nd ts i).all fun j => decide (L j < k) with
      | false =>
        rw [show (!false) = true from rfl,ifV_t]
        refine skip (fun z => ?_) _ _ _ _ _ _ _
        obtain ⟨j,hj,hj2⟩ := List.all_eq_false.1 hall
        have := lv_lt lv hil hj
        rw [z] at this
        exact hj2 (decide_eq_true this)
      | true =>
        rw [show (!true) = false from rfl,ifV_f]
        have hLk : L i = k := by
          have := lv_le lv hil (k := k) fun j hj => of_decide_eq_true (List.all_eq_true.1 hall j hj)
          omega
        have hGlt : ∀ j ∈ G,j < ts.length := fun j hj => by have := ((hG j).1 hj).1; omega
        have hiG : i ∉ G := fun z => by have := ((hG i).1 z).1; omega
        have hGn : G.Nodup := srt.imp fun {a b} z e => by
          subst e; rw [aLt_irrefl] at z; cases z
        have hGl : G.length ≤ 3000 := by
          have := List.Nodup.length_le_of_subset hGn (l₂ := List.range ts.length) fun j hj => List.mem_range.2 (hGlt j hj)
          rw [List.length_range] at this; omega
        rw [F16.j14_eq,show (Value.int .i64 0) = .int .i64 ((0 : Nat) : Int) from rfl]
        obtain ⟨p,z1,z2,z3,z4,z5,z6,z7,hp,p1,p2,e1⟩ := rl_find (x5 := sl) (x7 := .slice (some ⟨bd,0,none⟩) ts.length ts.length) (x8 := x8) (x9 := x9) (T.grow g) o.il hil hGlt hGl sl (.int .i64 (i : Nat)) (.pointer (some a)) (w i).1 (.slice (some ⟨bd,0,none⟩) ts.length ts.length) (.bool true) (.bool false) _ 0 rfl (Nat.zero_le _) (fun q k hq => absurd hq (Nat.not_lt_zero _))
        obtain ⟨h2,v2,br2,g2,o2,f2,e2⟩ := rl_put (hs := hs) (vt := vt) (x0 := vt) (x5 := sl) (x7 := .slice (some ⟨bd,0,none⟩) ts.length ts.length) (x8 := x8) (x9 := x9) (i := i) o g.next f hp hGl
        obtain ⟨h',v',br',G',r1,r2,r3,r4,r5,r6⟩ := ih (i + 1) (by omega) (by omega) (g.trans g2) o2 f2 (asorted_ins srt hiG p1 p2) fun j => by
          rw [List.mem_append,List.mem_cons]
          have hsp : j ∈ G ↔ j ∈ G.take p ∨ j ∈ G.drop p := by rw [← List.mem_append,List.take_append_drop]
          constructor
          · rintro (z | z | z)
            · have := (hG j).1 (hsp.2 (.inl z)); exact ⟨by omega,this.2⟩
            · subst z; exact ⟨by omega,hLk⟩
            · have := (hG j).1 (hsp.2 (.inr z)); exact ⟨by omega,this.2⟩
          · rintro ⟨x,y⟩
            by_cases e : j = i
            · exact .inr (.inl e)
            · rcases hsp.1 ((hG j).2 ⟨by omega,y⟩) with z | z
              · exact .inl z
              · exact .inr (.inr z)
        refine ⟨h',v',br',G',r1,r2,r3,r4,r5,?_⟩
        rw [e1,e2,F16.j12_eq,xadd,go_ok,w1]
        exact r6
theorem rl_mark {hs : H} {x0 x5 x8 x9 v : Value} {n k bd : Nat} {L : Nat → Nat} {br : Option Nat} {G : List Nat} (hb : hs.next ≤ bd) (hG : ∀ j ∈ G,j < n) (few : G.length ≤ 3000) :
    ∀ (m i : Nat) {h : H},G.length - i = m → i ≤ G.length → Grow hs h → OL h v br (nl G) → BL h bd n false (fun j => decide (L j < k) || decide (j ∈ G.take i)) →
      ∃ h',Grow hs h' ∧ OL h' v br (nl G) ∧ Upd (fun y => y = bd) h h' ∧ BL h' bd n false (fun j => decide (L j < k) || decide (j ∈ G)) ∧
        F16.l22 Try.prog CLM nu0 nu0 x0 x5 (.slice (some ⟨bd,0,none⟩) n n) x8 x9 v (.int .i64 (i : Nat)) h = F16.j25 Try.prog CLM nu0 nu0 x0 x5 (.slice (some ⟨bd,0,none⟩) n n) x8 x9 v h' := by
  intro m
  induction m with
  | zero =>
    intro i h hm hi g o Q
    have : i = G.length := by omega
    subst this
    rw [List.take_length] at Q
    refine ⟨h,g,o,Upd.refl _ _,Q,?_⟩
    rw [F16.l22_eq,o.il.len,go_ok,nl_len,xlss,go_ok,ifV_dec,if_neg (by omega)]
  | succ m ih =>
    intro i h hm hi g o Q
    have hil : i < G.length := by omega
    have hj : G[i]? = some G[i] := List.getElem?_eq_getElem hil
    obtain ⟨j,hjd⟩ : ∃ j,j = G[i] := ⟨_,rfl⟩
    rw [← hjd] at hj
    have hjn := hG j (List.mem_of_getElem? hj)
    obtain ⟨a,a1,a2⟩ := o.il.at_ (show (nl G)[i]? = some (j : Int) by unfold nl; rw [List.getElem?_map,hj]; rfl)
    obtain ⟨b1,_⟩ := Q.ld (m := n) (cap := n) hjn hjn
    obtain ⟨h1,e1,u1,Q1⟩ := Q.st hjn true
    have o1 : OL h1 v br (nl G) := o.upd u1 fun b hb z => o.ne2 Q (by rw [hb,z])
    obtain ⟨h',g',o',u',Q',e'⟩ := ih (i + 1) (by omega) (by omega) (grow_then g u1 fun b hb' => hb' ▸ hb) o1 (Q1.congr fun x hx => by
      rw [List.take_add_one,hj]
      by_cases e : x = j
      · subst e; rw [updN_eq]; simp
      · rw [updN_ne e]; simp [e])
    refine ⟨h',g',o',u1.trans u',Q',?_⟩
    rw [F16.l22_eq,o.il.len,go_ok,nl_len,xlss,go_ok,ifV_dec,if_pos (by omega),F16.j24_eq,a1,go_ok,a2,go_ok,b1,go_ok,e1,go_ok,xadd,go_ok,wadd1 (by omega)]
    exact e'
def cntL (n : Nat) (L : Nat → Nat) (k : Nat) : Nat := ((List.range n).filter fun i => decide (L i < k)).length
theorem cntL_step {n : Nat} {L : Nat → Nat} {k : Nat} {G : List Nat} (hG : ∀ j,j ∈ G ↔ j < n ∧ L j = k) (hn : G.Nodup) : cntL n L k + G.length = cntL n L (k + 1) := by
  have hp : ((List.range n).filter (fun i => decide (L i < k)) ++ G).Perm ((List.range n).filter fun i => decide (L i < k + 1)) := by
    refine (List.perm_ext_iff_of_nodup ?_ (List.nodup_range.filter _)).2 fun j => ?_
    · rw [List.nodup_append]
      refine ⟨List.nodup_range.filter _,hn,fun a ha b hb e => ?_⟩
      subst e
      have h1 := of_decide_eq_true (List.mem_filter.1 ha).2
      have h2 := ((hG a).1 hb).2
      omega
    · rw [List.mem_append,List.mem_filter,List.mem_filter,List.mem_range,hG,decide_eq_true_iff,decide_eq_true_iff]
      omega
  have := hp.length_eq
  rw [List.length_append] at this
  exact this
structure RlS (h0 h : H) (ts : List TK) (L : Nat → Nat) (ls : List (List Nat)) (k bd : Nat) (so : Value) (bo : Option Nat) (w : Nat → Value × Option Nat) : Prop where
  gr : Grow h0 h
  s : BL h bd ts.length false fun j => decide (L j < k)
  fs : h0.next ≤ bd
  v : LvO h0 h so bo k w fun k => (ls[k]?).getD []
theorem LvO.ne2 {h0 h : H} {sl : Value} {bo : Option Nat} {m : Nat} {w : Nat → Value × Option Nat} {f : Nat → List Nat} (q : LvO h0 h sl bo m w f) {b n : Nat} {op : Bool} {B : Nat → Bool} (hg : BL h b n op B) : bo ≠ some b := by
  intro z
  rcases q.o with ⟨w,_⟩ | ⟨b',sp,cap,w,_,hg',_⟩
  · rw [w] at z; cases z
  · rw [w] at z; cases z; unfold BL at hg; rw [hg] at hg'
    simp only [Option.some.injEq,Blk.cells.injEq] at hg'
    exact absurd hg'.2.1 (by decide)
theorem rl_main {hq h0 : H} {vt : Value} {ts : List TK} {sl : Value} {bq : Option Nat} {wq : Nat → Value × Option Nat} {L : Nat → Nat} {ls : List (List Nat)} (T : Tasks h0 vt ts) (q : LvO hq h0 sl bq ts.length wq (nd ts)) (F : Few ts) (lv : IsLevs ts L ls) (hls : ls.length ≤ 3000) : ∀ (m k : Nat) {h : H} {bd : Nat} {so : Value} {bo : Option Nat} {w : Nat → Value × Option Nat},ls.length - k = m → k ≤ ls.length → RlS h0 h ts L ls k bd so bo w →
    ∃ h' so' bo' w',Grow h0 h' ∧ LvO h0 h' so' bo' ls.length w' (fun k => (ls[k]?).getD []) ∧
      F16.l8 Try.prog CLM nu0 nu0 vt sl (.slice (some ⟨bd,0,none⟩) ts.length ts.length) so (.int .i64 (cntL ts.length L k : Nat)) h = .ok (.tuple ⟨[so',.int .i64 0,.string ⟨#[]⟩]⟩) h' := by
  intro m
  have hn := F.n
  induction m with
  | zero =>
    intro k h bd so bo w hm hk s
    have : k = ls.length := by omega
    subst this
    have hc : cntL ts.length L ls.length = ts.length := by
      unfold cntL
      rw [List.filter_eq_self.2 fun i hi => decide_eq_true (lv.a i (List.mem_range.1 hi)),List.length_range]
    refine ⟨h,so,bo,w,s.gr,s.v,?_⟩
    rw [F16.l8_eq,T.len,go_ok,xlss,go_ok,ifV_dec,if_neg (by omega),F16.j27_eq]
  | succ m ih =>
    intro k h bd so bo w hm hk s
    have hkl : k < ls.length := by omega
    have hlk := List.getElem?_eq_getElem hkl
    obtain ⟨h1,v1,br1,G,g1,o1,f1,srt,hG,e1⟩ := rl_scan (x8 := so) (x9 := .int .i64 (cntL ts.length L k : Nat)) (T.grow s.gr) (q.grow s.gr) F lv.lv s.s _ 0 rfl (Nat.zero_le _) (Grow.refl h) (v := .slice none 0 0) (br := none) (G := []) OL.nil (fun b z => by cases z) List.Pairwise.nil (fun j => by simp)
    have hGe : G = ls[k] := sorted_eq srt (lv.s _ (List.getElem_mem hkl)) fun z => by rw [hG,lv.m k _ hlk]
    have hGn : G.Nodup := srt.imp fun {a b} z e => by
      subst e; rw [aLt_irrefl] at z; cases z
    have hGlt : ∀ j ∈ G,j < ts.length := fun j hj => ((hG j).1 hj).1
    have hGl : G.length ≤ 3000 := by
      have := List.Nodup.length_le_of_subset hGn (l₂ := List.range ts.length) fun j hj => List.mem_range.2 (hGlt j hj)
      rw [List.length_range] at this; omega
    have hGne : G.length ≠ 0 := fun z => lv.ne _ (List.getElem_mem hkl) (by rw [← hGe]; exact List.length_eq_zero_iff.1 z)
    have hcs := cntL_step hG hGn
    have hc1 : cntL ts.length L (k + 1) ≤ ts.length := by
      unfold cntL
      have := List.length_filter_le (fun i => decide (L i < k + 1)) (List.range ts.length)
      rwa [List.length_range] at this
    have Gh1 := s.gr.trans g1
    obtain ⟨h2,g2,o2,u2,Q2,e2⟩ := rl_mark (hs := h0) (x0 := vt) (x5 := sl) (x8 := so) (x9 := .int .i64 (cntL ts.length L k : Nat)) (L := L) (k := k) s.fs hGlt hGl _ 0 rfl (Nat.zero_le _) Gh1 o1 (BL.congr (g1.old _ _ s.s) fun j _ => by simp)
    have v1' := s.v.grow g1
    have v2' : LvO h0 h2 so bo k w fun k => (ls[k]?).getD [] := v1'.upd u2 (fun b hb z => v1'.ne2 (g1.old _ _ s.s) (by rw [hb,z])) (fun j b hj hb z => (v1'.ol j hj).1.ne2 (g1.old _ _ s.s) (by rw [hb,z]))
    obtain ⟨h3,so3,bo3,u3,v3,nb3,t,h4,eb,ea⟩ := v2'.add g2.next (by omega) (l := G) o2 (fun b hb => Nat.le_trans s.gr.next (f1 b hb)) (fun j b hj hb z => by
      have h5 := f1 b z
      have h6 := (s.v.ol j hj).1.lt hb
      omega)
    have G3 : Grow h0 h3 := grow_then g2 u3 fun b hb => s.v.fr b hb.symm
    have Q3 : BL h3 bd ts.length false fun j => decide (L j < k + 1) := (Q2.upd u3 fun z => v2'.ne2 Q2 z.symm).congr fun j hj => by
      by_cases h1 : L j < k
      · simp [h1]; omega
      · by_cases h2 : L j = k
        · have := (hG j).2 ⟨hj,h2⟩
          simp [this]; omega
        · have : j ∉ G := fun z => h2 ((hG j).1 z).2
          simp [this]; omega
    obtain ⟨h',so',bo',w',g',v',e'⟩ := ih (k + 1) (by omega) (by omega) ⟨G3,Q3,s.fs,v3.congrF fun j hj => by
      by_cases e : j = k
      · subst e; rw [updN_eq,hlk,hGe]; rfl
      · rw [updN_ne e]⟩
    refine ⟨h',so',bo',w',g',v',?_⟩
    rw [F16.l8_eq,T.len,go_ok,xlss,go_ok,ifV_dec,if_pos (by omega),F16.j9_eq,show (Value.int .i64 0) = .int .i64 ((0 : Nat) : Int) from rfl,e1,F16.j21_eq,show (Value.int .i64 0) = .int .i64 ((0 : Nat) : Int) from rfl,e2,F16.j25_eq,o2.il.len,go_ok,nl_len,xadd,go_ok,wadd (by omega),hcs,eb,go_ok,ea,go_ok]
    exact e'
theorem eRLevels {h0 : H} {vt : Value} {ts : List TK} (T : Tasks h0 vt ts) (F : Few ts) (known : NoC ts → ∃ L ls,IsLevs ts L ls) :
    ∃ h' v code name,Grow h0 h' ∧ LevR h0 h' ts v code name ∧ CLM (.f 16) [vt] h0 = .ok (.tuple ⟨[v,.int .i64 code,.string name]⟩) h' := by
  have hn := F.n
  obtain ⟨h1,sl,bo,w,g1,q1,e1⟩ := eRall T F
  have T1 := T.grow g1
  obtain ⟨h2,c,g2,hc,e2⟩ := eRcycle T1 q1 F
  have G2 := g1.trans g2
  rcases hc with ⟨hc,no⟩ | ⟨k,hc,hk,ok,mn⟩
  · subst hc
    obtain ⟨L,ls,lv⟩ := known no
    have hls : ls.length ≤ 3000 := by
      classical
      have hpick : ∀ k,k < ls.length → ∃ i,i < ts.length ∧ L i = k := fun k hk => by
        obtain ⟨i,hi⟩ := List.exists_mem_of_ne_nil _ (lv.ne _ (List.getElem_mem hk))
        exact ⟨i,(lv.m k _ (List.getElem?_eq_getElem hk) i).1 hi⟩
      have hsub : List.range ls.length ⊆ (List.range ts.length).map L := fun k hk => by
        obtain ⟨i,h1,h2⟩ := hpick k (List.mem_range.1 hk)
        exact List.mem_map.2 ⟨i,List.mem_range.2 h1,h2⟩
      have := List.Nodup.length_le_of_subset List.nodup_range hsub
      simp at this
      omega
    have T2 := T1.grow g2
    have q2 := q1.grow g2
    obtain ⟨h3,e3,g3,B3,n3⟩ := BL.new (n := ts.length) (by omega) h2
    have hc0 : cntL ts.length L 0 = 0 := by unfold cntL; simp
    obtain ⟨h4,so,bo4,w4,g4,v4,e4⟩ := rl_main T2 q2 F lv hls _ 0 rfl (Nat.zero_le _) (h := h3) (bd := h2.next) (so := .slice none 0 0) (bo := none) (w := fun _ => (.slice none 0 0,none))
      ⟨g3,B3.congr (fun j _ => by simp),Nat.le_refl _,⟨Lst.nil,(fun b z => by cases z),fun k hk => absurd hk (Nat.not_lt_zero _),fun k k' b hk => absurd hk (Nat.not_lt_zero _)⟩⟩
    rw [hc0] at e4
    refine ⟨h4,so,0,⟨#[]⟩,G2.trans g4,.inr ⟨no,L,ls,bo4,w4,lv,v4.base G2.next,rfl,rfl⟩,?_⟩
    rw [cM16,F16.eq,e1,go_ok,e2,go_ok,xgeq,go_ok,ifV_dec,if_neg (by omega),F16.j5_eq,T.len,go_ok,e3,go_ok,show (Value.int .i64 0) = .int .i64 ((0 : Nat) : Int) from rfl,e4]
    rfl
  · subst hc
    obtain ⟨b,o,vi,vo,a1,row,-⟩ := (T.grow G2).at_ (List.getElem?_eq_getElem hk)
    have c1 := row.cell (j := 0) rfl
    rw [Nat.add_zero] at c1
    have n1 := nm_at (List.getElem?_eq_getElem hk)
    rw [← n1] at c1
    have l1 : xload Try.prog 9 (.pointer (some ⟨b,o,none⟩)) h2 = .ok (.string (nm ts (k : Int))) h2 := by rw [ld9,c1,ofO_some]
    refine ⟨h2,.slice none 0 0,130,nm ts (k : Int),G2,.inl ⟨k,⟨hk,ok,mn⟩,rfl,rfl,rfl⟩,?_⟩
    rw [cM16,F16.eq,e1,go_ok,e2,go_ok,xgeq,go_ok,ifV_dec,if_pos (by omega),a1,Res.ok1_ok,fa55_0,Res.ok1_ok,l1,Res.ok1_ok,l1,rc_str,Bool.and_self,cond_true,cond_true]
end Go.Proofs.Ytdadiidfhnojcaa.K
namespace Go.Proofs.Ytdadiidfhnojcaa.K
open Go Go.Kx
set_option linter.unusedVariables false
set_option linter.unusedSimpArgs false
set_option maxRecDepth 20000
theorem si_loop {h : H} {v w : Value} {l m : List Int} (I : IL h v l) (J : IL h w m) (hlm : l.length = m.length) (few : l.length ≤ 1000000) : ∀ (d i : Nat),l.length - i = d → i ≤ l.length → l.take i = m.take i →
    F17.l4 Try.prog CLM nu0 nu0 v w (.int .i64 (i : Nat)) h = .ok (.bool (decide (l = m))) h := by
  intro d
  induction d with
  | zero =>
    intro i hd hi ht
    have : i = l.length := by omega
    subst this
    have e : l = m := by rw [List.take_length,hlm,List.take_length] at ht; exact ht
    rw [F17.l4_eq,I.len,go_ok,xlss,go_ok,ifV_dec,if_neg (by omega),F17.j8_eq,decide_eq_true e]
  | succ d ih =>
    intro i hd hi ht
    have hil : i < l.length := by omega
    have h1 := List.getElem?_eq_getElem hil
    have h2 := List.getElem?_eq_getElem (show i < m.length by omega)
    obtain ⟨a,a1,a2⟩ := I.at_ h1
    obtain ⟨b,b1,b2⟩ := J.at_ h2
    rw [F17.l4_eq,I.len,go_ok,xlss,go_ok,ifV_dec,if_pos (by omega),F17.j6_eq,a1,Res.ok1_ok,a2,Res.ok1_ok,b1,Res.ok1_ok,b2,Res.ok1_ok,plain2_int,cond_true,xneq,Res.ok1_ok,ifV_not]
    by_cases e : l[i] = m[i]
    · rw [if_pos e,xadd,go_ok,wadd1 (by omega)]
      exact ih (i + 1) (by omega) (by omega) (by rw [List.take_add_one,List.take_add_one,ht,h1,h2,e])
    · rw [if_neg e,decide_eq_false fun z => e (by subst z; rfl)]
theorem eSameI {h : H} {v w : Value} {l m : List Int} (I : IL h v l) (J : IL h w m) (few : l.length ≤ 1000000) : CLM (.f 17) [v,w] h = .ok (.bool (decide (l = m))) h := by
  rw [cM17,F17.eq,I.len,go_ok,J.len,go_ok,xneq,go_ok,ifV_not]
  by_cases e : l.length = m.length
  · rw [if_pos (by omega),F17.j3_eq,show (Value.int .i64 0) = .int .i64 ((0 : Nat) : Int) from rfl,si_loop I J e few _ 0 rfl (Nat.zero_le _) (by simp)]
  · rw [if_neg (by omega),decide_eq_false fun z => e (by rw [z])]
def LvV (h : H) (v : Value) (ls : List (List Nat)) : Prop := ∃ (h0 : H) (bo : Option Nat) (w : Nat → Value × Option Nat),LvO h0 h v bo ls.length w fun k => (ls[k]?).getD []
theorem LvV.nil (h : H) : LvV h (.slice none 0 0) [] := ⟨h,none,fun _ => (.slice none 0 0,none),Lst.nil,(fun b z => by cases z),fun k hk => absurd hk (Nat.not_lt_zero _),fun k k' b hk => absurd hk (Nat.not_lt_zero _)⟩
theorem LvV.grow {h h' : H} (g : Grow h h') {v : Value} {ls : List (List Nat)} (q : LvV h v ls) : LvV h' v ls := by
  obtain ⟨h0,bo,w,l⟩ := q
  exact ⟨h0,bo,w,l.grow g⟩
theorem sl_loop {h : H} {v w : Value} {ls : List (List Nat)} (I : LvV h v ls) (J : LvV h w ls) (few : ls.length ≤ 60000) (few2 : ∀ l ∈ ls,l.length ≤ 60000) : ∀ (d i : Nat),ls.length - i = d → i ≤ ls.length →
    F19.l4 Try.prog CLM nu0 nu0 v w (.int .i64 (i : Nat)) h = .ok (.bool true) h := by
  obtain ⟨_,_,_,I⟩ := I
  obtain ⟨_,_,_,J⟩ := J
  intro d
  induction d with
  | zero =>
    intro i hd hi
    rw [F19.l4_eq,I.len,go_ok,xlss,go_ok,ifV_dec,if_neg (by omega),F19.j8_eq]
  | succ d ih =>
    intro i hd hi
    have hil : i < ls.length := by omega
    obtain ⟨a,a1,a2,_⟩ := I.ld hil
    obtain ⟨b,b1,b2,_⟩ := J.ld hil
    have hl : ((ls[i]?).getD []).length ≤ 60000 := by rw [List.getElem?_eq_getElem hil]; exact few2 _ (List.getElem_mem hil)
    have e := eSameI (I.ol i hil).1.il (J.ol i hil).1.il (by rw [nl_len]; omega)
    rw [decide_eq_true rfl] at e
    rw [F19.l4_eq,I.len,go_ok,xlss,go_ok,ifV_dec,if_pos (by omega),F19.j6_eq,a1,Res.ok1_ok,a2 _ (Grow.refl h),Res.ok1_ok,b1,Res.ok1_ok,b2 _ (Grow.refl h),Res.ok1_ok,e,go_ok,xun_not,Res.ok1_ok,show (!true) = false from rfl,ifV_f,xadd,go_ok,wadd1 (by omega)]
    exact ih (i + 1) (by omega) (by omega)
theorem eSameL {h : H} {v w : Value} {ls : List (List Nat)} (I : LvV h v ls) (J : LvV h w ls) (few : ls.length ≤ 60000) (few2 : ∀ l ∈ ls,l.length ≤ 60000) : CLM (.f 19) [v,w] h = .ok (.bool true) h := by
  have e := sl_loop I J few few2 _ 0 rfl (Nat.zero_le _)
  obtain ⟨_,_,_,I⟩ := I
  obtain ⟨_,_,_,J⟩ := J
  rw [cM19,F19.eq,I.len,go_ok,J.len,go_ok,xneq,go_ok,ifV_not,if_pos rfl,F19.j3_eq,show (Value.int .i64 0) = .int .i64 ((0 : Nat) : Int) from rfl,e]
theorem eNum (v : Value) (h : H) : CLM (.f 18) [v] h = .ok v h := by rw [cM18,F18.eq]
theorem xmin (P : Program) (t : TypeId) (a b : Int) (h : H) : xbuiltin P .min [t,t] [.int .i64 a,.int .i64 b] h = .ok (.int .i64 (if b < a then b else a)) h := by
  show (bif flatL [.int .i64 a,.int .i64 b] then xflat (P := P) (prun P (Builtin.min_ #[] 0 ⟨[.int .i64 a,.int .i64 b]⟩)) h else .bad) = _
  rw [show flatL [Value.int .i64 a,.int .i64 b] = true from rfl,cond_true]
  have e : Builtin.min_ #[] 0 ⟨[.int .i64 a,.int .i64 b]⟩ = (pure (.int .i64 (if b < a then b else a)) : Sem Value) := by simp [Builtin.min_,Builtin.min2]
  rw [e]
  simp [prun,xflat,pure,Sem.pure,flat]
def Zs (v : Value) : Prop := Nul v ∨ ∃ b o n cap,v = .slice (some ⟨b,o,some 0⟩) n cap ∧ n ≤ cap
theorem Sl.cut {E : Nat} {h : H} {v : Value} {rows : List (List Value)} (q : Sl E h v rows) (z : Zs v) {t e : TypeId} (hu : Try.prog.underlying t = some (.slice e)) (hz : szOk Try.prog e = true) {u : Nat} (hle : u ≤ rows.length) :
    ∃ v',(∀ h',xslice Try.prog t v none (some (.int .i64 (u : Nat))) none h' = .ok v' h') ∧ Sl E h v' (rows.take u) ∧ v'.oneCell' = true ∧ v'.cells.size = 1 ∧ v'.cells.toList = [v'] := by
  rcases q.2 with ⟨zn,rfl⟩ | ⟨b,o,sp,cap,rfl,row⟩
  · have hu0 : u = 0 := by simpa using hle
    subst hu0
    rcases zn with rfl | ⟨b,o,k,rfl⟩
    · refine ⟨.slice none 0 0,fun h' => ?_,⟨GoodR.nil,.inl ⟨Nul.nil,rfl⟩⟩,rfl,rfl,rfl⟩
      unfold xslice
      simp only [hu,hz,cond_true]
      rfl
    · refine ⟨.slice (some ⟨b,o,some (k + 2)⟩) 0 0,fun h' => ?_,⟨GoodR.nil,.inl ⟨.inr ⟨b,o,k,rfl⟩,rfl⟩⟩,rfl,rfl,rfl⟩
      unfold xslice
      simp only [hu,hz,cond_true]
      rfl
  · rcases z with z | ⟨b',o',n',cap',z,hc⟩
    · rcases z with z | ⟨b',o',k,z⟩
      · cases z
      · obtain ⟨z1,z2⟩ : (some (⟨b,o,sp⟩ : Addr) = some ⟨b',o',some (k + 2)⟩) ∧ (rows.length = 0 ∧ cap = 0) := by
          simpa using z
        have hr : rows = [] := List.length_eq_zero_iff.1 z2.1
        subst hr
        have hu0 : u = 0 := by simpa using hle
        subst hu0
        simp only [Option.some.injEq,Addr.mk.injEq] at z1
        obtain ⟨rfl,rfl,rfl⟩ := z1
        obtain ⟨_,rfl⟩ := z2
        refine ⟨.slice (some ⟨b,o,some (k + 2)⟩) 0 0,fun h' => ?_,⟨GoodR.nil,.inl ⟨.inr ⟨b,o,k,rfl⟩,rfl⟩⟩,rfl,rfl,rfl⟩
        unfold xslice
        simp only [hu,hz,cond_true]
        rfl
    · cases z
      have hcut : (cutAt false ⟨b,o,some 0⟩ 0 cap (Try.prog.cellsOf e)) = ⟨b,o,some 0⟩ := by
        unfold cutAt
        cases Nat.beq cap 0 <;> simp
      refine ⟨.slice (some ⟨b,o,some 0⟩) u cap,fun h' => ?_,⟨q.1.take u,.inr ⟨b,o,some 0,cap,by rw [List.length_take,Nat.min_eq_left hle],?_⟩⟩,rfl,rfl,rfl⟩
      · unfold xslice
        simp only [hu,show asNat? none 0 = some 0 from rfl,show asNat? (some (Value.int .i64 (u : Nat))) rows.length = some u from rfl,show asNat? none cap = some cap from rfl,Nat.ble_eq_true_of_le (Nat.zero_le u),Nat.ble_eq_true_of_le (Nat.le_trans hle hc),Nat.ble_eq_true_of_le (Nat.le_refl cap),hz,Bool.and_true,cond_true,hcut,Nat.sub_zero]
      · have := row.sub (k := 0) (m := (rows.take u).flatten.length) (by
          rw [flat_len q.1,flat_len (q.1.take u),List.length_take,Nat.min_eq_left hle,Nat.zero_add]
          exact Nat.mul_le_mul_right _ hle)
        rw [Nat.add_zero,List.drop_zero] at this
        have e2 : rows.flatten.take (rows.take u).flatten.length = (rows.take u).flatten := by
          rw [flat_len (q.1.take u),List.length_take,Nat.min_eq_left hle]
          have := flat_take q.1 hle []
          rwa [List.append_nil] at this
        rw [e2] at this
        exact this
theorem take_min {α : Type} (l : List α) (n : Nat) : l.take (min l.length n) = l.take n := by
  rw [← List.take_take]
  exact List.take_of_length_le (by rw [List.length_take]; exact Nat.min_le_right _ _)
theorem min12 (n : Nat) : (if (12 : Int) < (n : Int) then (12 : Int) else (n : Int)) = ((min n 12 : Nat) : Int) := by
  split
  · rw [Nat.min_eq_right (by omega)]; rfl
  · rw [Nat.min_eq_left (by omega)]
def TasksA (h : H) (v : Value) (ts : List TK) : Prop := ∃ rows,Sl 4 h v rows ∧ rows.length = ts.length ∧ ∀ (i : Nat) (t : TK),ts[i]? = some t → ∃ r vi vo,rows[i]? = some r ∧ r = [.string t.name,.int .i64 t.bud,vi,vo] ∧ StrSl h vi t.ins ∧ OutSl h vo t.outs ∧ Zs vi ∧ Zs vo
theorem TasksA.tasks {h : H} {v : Value} {ts : List TK} (q : TasksA h v ts) : Tasks h v ts := by
  obtain ⟨rows,s,e,f⟩ := q
  exact ⟨rows,s,e,fun i t ht => by obtain ⟨r,vi,vo,a,b,c,d,_⟩ := f i t ht; exact ⟨r,a,vi,vo,b,c,d⟩⟩
theorem TasksA.at_ {h : H} {v : Value} {ts : List TK} (q : TasksA h v ts) {i : Nat} {t : TK} (ht : ts[i]? = some t) :
    ∃ b o vi vo,(∀ h',xindexAddr Try.prog 22 v (.int .i64 (i : Nat)) h' = .ok (.pointer (some ⟨b,o,none⟩)) h') ∧ Row h b o [.string t.name,.int .i64 t.bud,vi,vo] ∧ StrSl h vi t.ins ∧ OutSl h vo t.outs ∧ ones [.string t.name,.int .i64 t.bud,vi,vo] = true ∧ Zs vi ∧ Zs vo := by
  obtain ⟨rows,s,e,f⟩ := q
  obtain ⟨r,vi,vo,hr,rfl,q1,q2,z1,z2⟩ := f i t ht
  have hi := (List.getElem?_eq_some_iff.1 hr).1
  obtain ⟨b,o,sp,cap,rfl,row,_,ho⟩ := s.at_ hr
  exact ⟨b,o + i * 4,vi,vo,fun h' => ia22 _ _ _ _ _ _ _ h' hi,row,q1,q2,ho,z1,z2⟩
def few12 (t : TK) : TK := { t with ins := t.ins.take 12,outs := t.outs.take 12 }
def fewL (ts : List TK) : List TK := (ts.take 60).map few12
theorem TT : LsT Try.prog 22 55 4 := ⟨by kernel_rfl,by kernel_rfl,by kernel_rfl,by kernel_rfl,by kernel_rfl,by omega,by kernel_rfl,Nat.le_of_ble_eq_true (by kernel_rfl)⟩
theorem StrSl.cut {h : H} {v : Value} {l : List ByteArray} (q : StrSl h v l) (z : Zs v) {u : Nat} (hle : u ≤ l.length) :
    ∃ v',(∀ h',xslice Try.prog 52 v none (some (.int .i64 (u : Nat))) none h' = .ok v' h') ∧ StrSl h v' (l.take u) ∧ v'.oneCell' = true ∧ v'.cells.size = 1 ∧ v'.cells.toList = [v'] := by
  obtain ⟨v',e,s,r⟩ := Sl.cut q z (t := 52) (e := 9) un52 (by kernel_rfl) (u := u) (by rw [List.length_map]; exact hle)
  refine ⟨v',e,?_,r⟩
  unfold StrSl
  rw [List.map_take]; exact s
theorem OutSl.cut {h : H} {v : Value} {l : List ByteArray} (q : OutSl h v l) (z : Zs v) {u : Nat} (hle : u ≤ l.length) :
    ∃ v',(∀ h',xslice Try.prog 53 v none (some (.int .i64 (u : Nat))) none h' = .ok v' h') ∧ OutSl h v' (l.take u) ∧ v'.oneCell' = true ∧ v'.cells.size = 1 ∧ v'.cells.toList = [v'] := by
  obtain ⟨rows,s,e0⟩ := q
  have hl : rows.length = l.length := by have := congrArg List.length e0; simpa using this
  obtain ⟨v',e,s',r⟩ := Sl.cut s z (t := 53) (e := 63) (by kernel_rfl) (by kernel_rfl) (u := u) (by rw [hl]; exact hle)
  exact ⟨v',e,⟨rows.take u,s',by rw [List.map_take,e0,List.map_take]⟩,r⟩
theorem fw_loop {h0 : H} {vt : Value} {ts : List TK} (T : TasksA h0 vt ts) : ∀ (d i : Nat) {h : H} {v : Value} {br : Option Nat} {rows : List (List Value)},min ts.length 60 - i = d → i ≤ min ts.length 60 → Grow h0 h → Lst 55 4 h v br rows → GoodR 4 rows → (∀ b,br = some b → h0.next ≤ b) →
    rows.length = i → (∀ k t,k < i → ts[k]? = some t → ∃ r,rows[k]? = some r ∧ TaskR h0 (few12 t) r) →
    ∃ h' v' br' rows',Grow h0 h' ∧ Lst 55 4 h' v' br' rows' ∧ GoodR 4 rows' ∧ rows'.length = min ts.length 60 ∧ (∀ k t,k < min ts.length 60 → ts[k]? = some t → ∃ r,rows'[k]? = some r ∧ TaskR h0 (few12 t) r) ∧
      F10.l3 Try.prog CLM nu0 nu0 vt v (.int .i64 (i : Nat)) h = .ok v' h' := by
  intro d
  have hm60 := Nat.min_le_right ts.length 60
  have hml := Nat.min_le_left ts.length 60
  induction d with
  | zero =>
    intro i h v br rows hd hi G l gd fb hr hT
    have : i = min ts.length 60 := by omega
    subst this
    refine ⟨h,v,br,rows,G,l,gd,hr,hT,?_⟩
    rw [F10.l3_eq,T.tasks.len,go_ok,xlss,go_ok,ifV_dec]
    by_cases hlt : min ts.length 60 < ts.length
    · have h60 : min ts.length 60 = 60 := by
        rcases Nat.le_total ts.length 60 with z | z
        · rw [Nat.min_eq_left z] at hlt; omega
        · exact Nat.min_eq_right z
      rw [h60] at hlt ⊢
      rw [if_pos (by omega),xlss,go_ok,ifV_dec,if_neg (by omega),F10.j9_eq]
    · rw [if_neg (by omega),F10.j9_eq]
  | succ d ih =>
    intro i h v br rows hd hi G l gd fb hr hT
    have hil : i < ts.length := by omega
    have hi60 : i < 60 := by omega
    have ht : ts[i]? = some ts[i] := List.getElem?_eq_getElem hil
    obtain ⟨b,o,vi,vo,a1,row,S,O,hones,zi,zo⟩ := T.at_ ht
    obtain ⟨tk,htk⟩ : ∃ t,t = ts[i] := ⟨_,rfl⟩
    rw [← htk] at ht row S O hones
    have hrow := (row.grow G).row (n := 4) rfl
    obtain ⟨hA,eA⟩ : ∃ hA,hA = h.alloc (.cells zc55 55 0 false) := ⟨_,rfl⟩
    have gA : hA.get h.next = some (.cells zc55 55 0 false) := by rw [eA]; exact H.alloc_self _ _
    obtain ⟨hB,eB⟩ : ∃ hB,hB = hA.put h.next (.cells [.string tk.name,.int .i64 tk.bud,vi,vo] 55 0 false) := ⟨_,rfl⟩
    have gB : hB.get h.next = some (.cells [.string tk.name,.int .i64 tk.bud,vi,vo] 55 0 false) := by rw [eB]; exact H.put_self gA
    have wB : hA.write ⟨h.next,0,none⟩ [.string tk.name,.int .i64 tk.bud,vi,vo] = some hB := by rw [eB]; exact H.write_all gA (by simp [zc55_len]) hones
    have GA : Grow h hA := by rw [eA]; exact (Grow.refl h).alloc _
    have GB : Grow h hB := by rw [eB]; exact GA.put (Nat.le_refl _) (H.get_lt gA) _
    have hsz : (Value.agg ⟨[.string tk.name,.int .i64 tk.bud,vi,vo]⟩).cells.size = 4 := rfl
    have cB2 : hB.cell ⟨h.next,0 + 2,none⟩ = some vi := by rw [H.cell_eq gB]; rfl
    obtain ⟨vi',e1,S1,s1,s2,s3⟩ := S.cut zi (u := min tk.ins.length 12) (Nat.min_le_left _ _)
    obtain ⟨hC,eC⟩ : ∃ hC,hC = hB.put h.next (.cells [.string tk.name,.int .i64 tk.bud,vi',vo] 55 0 false) := ⟨_,rfl⟩
    have wC : hB.write ⟨h.next,0 + 2,none⟩ [vi'] = some hC := by rw [write_cell' gB (by simp) s1,eC]; rfl
    have gC : hC.get h.next = some (.cells [.string tk.name,.int .i64 tk.bud,vi',vo] 55 0 false) := by rw [eC]; exact H.put_self gB
    have GC : Grow h hC := by rw [eC]; exact GB.put (Nat.le_refl _) (H.get_lt gB) _
    have cC3 : hC.cell ⟨h.next,0 + 3,none⟩ = some vo := by rw [H.cell_eq gC]; rfl
    obtain ⟨vo',e2,O1,t1,t2,t3⟩ := O.cut zo (u := min tk.outs.length 12) (Nat.min_le_left _ _)
    obtain ⟨hD,eD⟩ : ∃ hD,hD = hC.put h.next (.cells [.string tk.name,.int .i64 tk.bud,vi',vo'] 55 0 false) := ⟨_,rfl⟩
    have wD : hC.write ⟨h.next,0 + 3,none⟩ [vo'] = some hD := by rw [write_cell' gC (by simp) t1,eD]; rfl
    have gD : hD.get h.next = some (.cells [.string tk.name,.int .i64 tk.bud,vi',vo'] 55 0 false) := by rw [eD]; exact H.put_self gC
    have GD : Grow h hD := by rw [eD]; exact GC.put (Nat.le_refl _) (H.get_lt gC) _
    have rD : hD.row ⟨h.next,0,none⟩ 4 = some [.string tk.name,.int .i64 tk.bud,vi',vo'] := H.row_all gD rfl
    have hoD : ones [.string tk.name,.int .i64 tk.bud,vi',vo'] = true := by
      show (true && (true && (vi'.oneCell' && (vo'.oneCell' && true)))) = true
      rw [s1,t1]; rfl
    rw [take_min] at S1 O1
    have eb : xbuildSlice Try.prog 22 1 [(0,.agg ⟨[.string tk.name,.int .i64 tk.bud,vi',vo']⟩)] hD = .ok (.slice (some ⟨hD.next,0,none⟩) 1 1) (hD.alloc (.cells [.string tk.name,.int .i64 tk.bud,vi',vo'] 55 0 false)) := by kernel_rfl
    have g1 : Grow hD (hD.alloc (.cells [.string tk.name,.int .i64 tk.bud,vi',vo'] 55 0 false)) := (Grow.refl hD).alloc _
    obtain ⟨v2,br2,h2,e3,u2,l2,nb2⟩ := lst_push TT ((l.grow GD).grow g1) gd (by omega) (H.alloc_self hD (.cells [.string tk.name,.int .i64 tk.bud,vi',vo'] 55 0 false)) rfl hoD
    have G2 : Grow h0 h2 := grow_then ((G.trans GD).trans g1) u2 fun b hb => fb b hb.symm
    obtain ⟨h',v',br',rows',r1,r2,r3,r4,r5,r6⟩ := ih (i + 1) (by omega) (by omega) G2 l2 (gd.append (GoodR.one rfl hoD)) (fun b hb => by
      rcases nb2 with z | ⟨b',z,z2⟩
      · exact fb b (z ▸ hb)
      · rw [z] at hb; cases hb; exact Nat.le_trans ((G.trans GD).trans g1).next z2) (by rw [List.length_append,hr,List.length_singleton]) (fun k t hk hkt => by
      by_cases e : k = i
      · subst e
        rw [ht] at hkt; cases hkt
        exact ⟨_,by rw [← hr,List.getElem?_append_right (Nat.le_refl _),Nat.sub_self]; rfl,vi',vo',rfl,S1,O1⟩
      · rw [List.getElem?_append_left (by omega)]
        exact hT k t (by omega) hkt)
    refine ⟨h',v',br',rows',r1,r2,r3,r4,r5,?_⟩
    have b2 : ∀ hh : H,hh.cell ⟨h.next,0 + 2,none⟩ = some vi → xload Try.prog 52 (.pointer (some ⟨h.next,0 + 2,none⟩)) hh = .ok vi hh := fun hh e => by rw [ld52,e,ofO_some]
    have b3 : ∀ hh : H,hh.cell ⟨h.next,0 + 3,none⟩ = some vo → xload Try.prog 53 (.pointer (some ⟨h.next,0 + 3,none⟩)) hh = .ok vo hh := fun hh e => by rw [ld53,e,ofO_some]
    have p1 : xstore Try.prog 52 (.pointer (some ⟨h.next,0 + 2,none⟩)) vi' hB = .ok undef hC := by rw [st52 _ _ _ s2,s3,wC,ofU_some]
    have p2 : xstore Try.prog 53 (.pointer (some ⟨h.next,0 + 3,none⟩)) vo' hC = .ok undef hD := by rw [st53 _ _ _ t2,t3,wD,ofU_some]
    rw [F10.l3_eq,T.tasks.len,go_ok,xlss,go_ok,ifV_dec,if_pos (by omega),xlss,go_ok,ifV_dec,if_pos (by omega),F10.j5_eq,a1,go_ok,ld55,hrow,ofA_some,go_ok,al55,go_ok,← eA,st55 _ _ _ hsz,cells_agg,wB,ofU_some,go_ok,
      fa55_2,go_ok,b2 _ cB2,go_ok,fa55_2,go_ok,b2 _ cB2,go_ok,S.len,go_ok,xmin,go_ok,min12,e1,go_ok,fa55_2,go_ok,p1,go_ok,
      fa55_3,go_ok,b3 _ cC3,go_ok,fa55_3,go_ok,b3 _ cC3,go_ok,O.len,go_ok,xmin,go_ok,min12,e2,go_ok,fa55_3,go_ok,p2,go_ok,ld55,rD,ofA_some,go_ok,eb,go_ok,e3,go_ok,xadd,go_ok,wadd1 (by omega)]
    exact r6
theorem Lst.sl {e E : Nat} {h : H} {sl : Value} {br : Option Nat} {rows : List (List Value)} (l : Lst e E h sl br rows) (g : GoodR E rows) : Sl E h sl rows := by
  refine ⟨g,l.imp (fun ⟨_,a,b⟩ => ⟨.inl a,b⟩) ?_⟩
  rintro ⟨b,sp,cap,_,q2,q3,_,_⟩
  exact ⟨b,0,none,cap,q2,_,_,_,_,q3,by rw [List.length_append]; omega,by rw [List.drop_zero,List.take_left]⟩
theorem fewL_len (ts : List TK) : (fewL ts).length = min ts.length 60 := by unfold fewL; rw [List.length_map,List.length_take,Nat.min_comm]
theorem fewL_at {ts : List TK} {k : Nat} {t : TK} (h : (fewL ts)[k]? = some t) : ∃ t0,ts[k]? = some t0 ∧ t = few12 t0 ∧ k < min ts.length 60 := by
  have hk := (List.getElem?_eq_some_iff.1 h).1
  rw [fewL_len] at hk
  unfold fewL at h
  rw [List.getElem?_map,List.getElem?_take_of_lt (by omega)] at h
  cases q : ts[k]? with
  | none => rw [q] at h; cases h
  | some t0 => rw [q] at h; cases h; exact ⟨t0,rfl,rfl,hk⟩
theorem eFew {h0 : H} {vt : Value} {ts : List TK} (T : TasksA h0 vt ts) : ∃ h' v,Grow h0 h' ∧ Tasks h' v (fewL ts) ∧ CLM (.f 10) [vt] h0 = .ok v h' := by
  obtain ⟨h',v,br,rows,g,l,gd,hl,hT,e⟩ := fw_loop T _ 0 rfl (Nat.zero_le _) (Grow.refl h0) (v := .slice none 0 0) (br := none) (rows := []) Lst.nil GoodR.nil (fun b z => by cases z) rfl (fun k t hk => absurd hk (Nat.not_lt_zero _))
  refine ⟨h',v,g,⟨rows,Lst.sl l gd,by rw [hl,fewL_len],fun i t ht => ?_⟩,?_⟩
  · obtain ⟨t0,h1,rfl,h2⟩ := fewL_at ht
    obtain ⟨r,a,b⟩ := hT i t0 h2 h1
    exact ⟨r,a,b.grow g⟩
  · rw [cM10,F10.eq,show (Value.int .i64 0) = .int .i64 ((0 : Nat) : Int) from rfl,e]
theorem few_few {ts : List TK} : Few (fewL ts) := by
  have hl : (fewL ts).length ≤ 60 := by rw [fewL_len]; exact Nat.min_le_right _ _
  refine ⟨by omega,fun t ht => ?_,fun t ht => ?_,?_⟩
  · obtain ⟨t0,_,rfl⟩ := List.mem_map.1 ht
    exact Nat.le_trans (by rw [few12,List.length_take]; exact Nat.min_le_left _ _) (Nat.le_refl _)
  · obtain ⟨t0,_,rfl⟩ := List.mem_map.1 ht
    exact Nat.le_trans (by rw [few12,List.length_take]; exact Nat.min_le_left _ _) (Nat.le_refl _)
  · have h1 := sumN_le (n := (fewL ts).length) (f := fun _ => 60) (f' := fun k => (nd (fewL ts) k).length) fun k _ => Nat.le_trans (nd_len _ _) hl
    have h2 : ∀ n,sumN n (fun _ => 60) = n * 60 := by
      intro n
      induction n with
      | zero => rfl
      | succ n ih => rw [sumN_succ,ih]; omega
    rw [h2] at h1
    have : (fewL ts).length * 60 ≤ 60 * 60 := Nat.mul_le_mul_right _ hl
    omega
end Go.Proofs.Ytdadiidfhnojcaa.K
namespace Go.Proofs.Ytdadiidfhnojcaa.K
open Go Go.Kx
set_option linter.unusedVariables false
set_option linter.unusedSimpArgs false
set_option maxRecDepth 20000
def RB (h : H) (b el E : Nat) (op : Bool) (rows : List (List Value)) : Prop := GoodR E rows ∧ h.get b = some (.cells rows.flatten el 0 op)
theorem RB.upd {S : Nat → Prop} {h h' : H} (u : Upd S h h') {b el E : Nat} {op : Bool} {rows : List (List Value)} (q : RB h b el E op rows) (hS : ¬ S b) : RB h' b el E op rows := ⟨q.1,u.old _ _ hS q.2⟩
theorem RB.grow {h h' : H} (g : Grow h h') {b el E : Nat} {op : Bool} {rows : List (List Value)} (q : RB h b el E op rows) : RB h' b el E op rows := ⟨q.1,g.old _ _ q.2⟩
theorem RB.all {h : H} {b el E : Nat} {op : Bool} {rows : List (List Value)} (q : RB h b el E op rows) : Row h b 0 rows.flatten := ⟨_,_,_,_,q.2,by omega,by rw [List.drop_zero,List.take_length]⟩
theorem RB.row {h : H} {b el E : Nat} {op : Bool} {rows : List (List Value)} (q : RB h b el E op rows) {i : Nat} {r : List Value} (hr : rows[i]? = some r) : Row h b (i * E) r := by
  have hi := (List.getElem?_eq_some_iff.1 hr).1
  have hl := flat_len q.1
  have h1 := Nat.mul_le_mul_right E (show i + 1 ≤ rows.length by omega)
  rw [Nat.add_mul,Nat.one_mul] at h1
  have := q.all.sub (k := i * E) (m := E) (by omega)
  rw [show (rows.flatten.drop (i * E)).take E = r by have := flat_at q.1 hr []; rwa [List.append_nil] at this,Nat.zero_add] at this
  exact this
theorem flatten_set {E : Nat} {r : List Value} {v : Value} {j : Nat} (hj : j < E) : ∀ (rows : List (List Value)) (i : Nat),GoodR E rows → rows[i]? = some r → rows.flatten.set (i * E + j) v = (rows.set i (r.set j v)).flatten
  | [],i,_,h => by simp at h
  | a :: l,0,g,h => by
    simp only [List.getElem?_cons_zero,Option.some.injEq] at h
    subst h
    have := (g a (by simp)).1
    rw [Nat.zero_mul,Nat.zero_add,List.set_cons_zero,List.flatten_cons,List.flatten_cons,List.set_append_left _ _ (by omega)]
  | a :: l,i + 1,g,h => by
    rw [List.getElem?_cons_succ] at h
    have ha := (g a (by simp)).1
    have ih := flatten_set (v := v) hj l i (fun q hq => g q (by simp [hq])) h
    rw [List.set_cons_succ,List.flatten_cons,List.flatten_cons,List.set_append_right _ _ (by rw [ha,Nat.add_mul,Nat.one_mul]; omega),← ih,ha,show (i + 1) * E + j - E = i * E + j by rw [Nat.add_mul,Nat.one_mul]; omega]
theorem ones_set {r : List Value} {v : Value} {j : Nat} (h : ones r = true) (hv : v.oneCell' = true) : ones (r.set j v) = true := by
  rw [ones_iff] at *
  intro x hx
  rcases List.mem_or_eq_of_mem_set hx with z | z
  · exact h x z
  · subst z; exact hv
theorem RB.wcell {h : H} {b el E : Nat} {op : Bool} {rows : List (List Value)} (q : RB h b el E op rows) {i j : Nat} {r : List Value} (hr : rows[i]? = some r) (hj : j < E) {v : Value} (hv : v.oneCell' = true) :
    ∃ h',h.write ⟨b,i * E + j,none⟩ [v] = some h' ∧ Upd (fun y => y = b) h h' ∧ RB h' b el E op (rows.set i (r.set j v)) := by
  have hi := (List.getElem?_eq_some_iff.1 hr).1
  have hl := flat_len q.1
  have h1 := Nat.mul_le_mul_right E (show i + 1 ≤ rows.length by omega)
  rw [Nat.add_mul,Nat.one_mul] at h1
  have gr := q.1 r (List.mem_of_getElem? hr)
  refine ⟨_,write_cell' q.2 (by omega) hv,(Upd.refl (fun y => y = b) h).put (.inl rfl) (H.get_lt q.2) _,q.1.set (by rw [List.length_set]; exact gr.1) (ones_set gr.2 hv) i,?_⟩
  rw [H.put_self q.2,flatten_set hj rows i q.1 hr]
theorem RB.wrow {h : H} {b el E : Nat} {op : Bool} {rows : List (List Value)} (q : RB h b el E op rows) {i : Nat} {r : List Value} (hi : i < rows.length) (hr : r.length = E) (h1 : ones r = true) :
    ∃ h',h.write ⟨b,i * E,none⟩ r = some h' ∧ Upd (fun y => y = b) h h' ∧ RB h' b el E op (rows.set i r) := by
  have hl := flat_len q.1
  have hm := Nat.mul_le_mul_right E (show i + 1 ≤ rows.length by omega)
  rw [Nat.add_mul,Nat.one_mul] at hm
  refine ⟨_,H.write_eq q.2 (by omega) h1,(Upd.refl (fun y => y = b) h).put (.inl rfl) (H.get_lt q.2) _,q.1.set hr h1 i,?_⟩
  have hset : rows.set i r = rows.take i ++ r :: rows.drop (i + 1) := List.set_eq_take_append_cons_drop ▸ (by rw [if_pos hi])
  have e1 := flat_take q.1 (m := i) (by omega) []
  have e2 := flat_drop q.1 (m := i + 1) (by omega) []
  rw [List.append_nil] at e1 e2
  rw [List.append_nil] at e2
  rw [H.put_self q.2,e1,hr,show i * E + E = (i + 1) * E by rw [Nat.add_mul,Nat.one_mul],e2,hset]
  simp
theorem repeat_flat (z : List Value) : ∀ n,repeatL z n = (List.replicate n z).flatten
  | 0 => rfl
  | n + 1 => by show z ++ repeatL z n = _; rw [repeat_flat z n,List.replicate_succ,List.flatten_cons]
theorem mkRows {t e E : TypeId} {z : Value} (he : elemOf? Try.prog t = some e) (hz : zeroOf Try.prog e = some z) (hc : Try.prog.cellsOf e = E) (hs : z.cells.size = E) (ho : ones z.cells.toList = true) (hb : bytesOf Try.prog e ≤ 4096) {n : Nat} (hn : n ≤ 65536) (h : H) :
    ∃ h',xmakeSlice Try.prog t (.int .i64 (n : Nat)) (.int .i64 (n : Nat)) h = .ok (.slice (some ⟨h.next,0,none⟩) n n) h' ∧ Grow h h' ∧ RB h' h.next e E false (List.replicate n z.cells.toList) ∧ h'.next = h.next + 1 := by
  have hm : Nat.ble (bytesOf Try.prog e * n) 140737488355328 = true := Nat.ble_eq_true_of_le (by have := Nat.mul_le_mul hb hn; omega)
  have hm2 : Nat.ble n 9223372036854775807 = true := Nat.ble_eq_true_of_le (by omega)
  refine ⟨h.alloc (.cells (List.replicate n z.cells.toList).flatten e 0 false),?_,(Grow.refl h).alloc _,⟨fun r hr => ?_,H.alloc_self _ _⟩,rfl⟩
  · unfold xmakeSlice
    simp only [he,hz,Int.ofNat_eq_natCast]
    show (bif Nat.ble n n && Nat.ble (bytesOf Try.prog e * n) 140737488355328 && Nat.ble n 9223372036854775807 && Nat.beq z.cells.size (Try.prog.cellsOf e) then _ else _) = _
    rw [hc,hs,Nat.ble_eq_true_of_le (Nat.le_refl n),hm,hm2,Nat.beq_refl]
    simp only [Bool.and_true,cond_true,repeat_flat]
  · obtain ⟨_,rfl⟩ := List.mem_replicate.1 hr
    exact ⟨by rw [← hs]; simp,ho⟩
theorem Sl.first {E : Nat} {h : H} {v : Value} {rows : List (List Value)} (q : Sl E h v rows) : lenV v = some rows.length ∧ (rows.length ≠ 0 → firstC h E rows.length v = some rows.flatten) := by
  rcases q.2 with ⟨zn,rfl⟩ | ⟨b,o,sp,cap,rfl,row⟩
  · obtain ⟨a,rfl⟩ := zn.val
    exact ⟨rfl,fun z => absurd rfl z⟩
  · refine ⟨rfl,fun _ => ?_⟩
    show h.row ⟨b,o,none⟩ (rows.length * E) = _
    exact row.row (flat_len q.1)
theorem xcopy_0 {P : Program} {t e : TypeId} {b o n cap : Nat} {h : H} {v : Value} {k : Nat} (he : elemOf? P t = some e) (hz : szOk P e = true) (hl : lenV v = some k) (h0 : Nat.min k n = 0) :
    xbuiltin P .copy [t,t] [.slice (some ⟨b,o,none⟩) n cap,v] h = .ok (goInt (Nat.min k n)) h := by
  show xcopy P t _ _ h = _
  unfold xcopy
  simp only [he,hl,hz,cond_true,firstD,beqT h0]
theorem xcopy_1 {P : Program} {t e : TypeId} {b o n cap : Nat} {h h' : H} {v : Value} {l : List Value} {k : Nat} (he : elemOf? P t = some e) (hz : szOk P e = true) (hl : lenV v = some k) (hf : firstC h (P.cellsOf e) (Nat.min k n) v = some l) (h0 : Nat.min k n ≠ 0) (hw : h.write ⟨b,o,none⟩ l = some h') :
    xbuiltin P .copy [t,t] [.slice (some ⟨b,o,none⟩) n cap,v] h = .ok (goInt (Nat.min k n)) h' := by
  show xcopy P t _ _ h = _
  unfold xcopy
  simp only [he,hl,hz,cond_true,firstD,beqF h0,cond_false,hf,hw]
theorem cpRows {t e E : TypeId} {h : H} {v : Value} {rows drows : List (List Value)} {b cap el : Nat} {op : Bool} (q : Sl E h v rows) (d : RB h b el E op drows) (hle : rows.length ≤ drows.length) (hE : 0 < E) (he : elemOf? Try.prog t = some e) (hz : szOk Try.prog e = true) (hc : Try.prog.cellsOf e = E) :
    ∃ h' x,xbuiltin Try.prog .copy [t,t] [.slice (some ⟨b,0,none⟩) drows.length cap,v] h = .ok x h' ∧ Upd (fun y => y = b) h h' ∧ RB h' b el E op (rows ++ drows.drop rows.length) := by
  obtain ⟨f1,f2⟩ := q.first
  have hmin : Nat.min rows.length drows.length = rows.length := Nat.min_eq_left hle
  by_cases h0 : rows.length = 0
  · have : rows = [] := List.length_eq_zero_iff.1 h0
    subst this
    exact ⟨h,_,xcopy_0 he hz f1 hmin,Upd.refl _ _,by simpa using d⟩
  · have hl := flat_len q.1
    have hdl := flat_len d.1
    have hm := Nat.mul_le_mul_right E hle
    refine ⟨_,_,xcopy_1 he hz f1 (by rw [hc,hmin]; exact f2 h0) (by rw [hmin]; exact h0) (H.write_eq d.2 (by omega) (flat_ones q.1)),(Upd.refl (fun y => y = b) h).put (.inl rfl) (H.get_lt d.2) _,q.1.append (d.1.drop _),?_⟩
    rw [H.put_self d.2,List.take_zero,List.nil_append,Nat.zero_add,hl]
    have := flat_drop d.1 hle []
    rw [List.append_nil,List.append_nil] at this
    rw [this,List.flatten_append]
end Go.Proofs.Ytdadiidfhnojcaa.K
namespace Go.Proofs.Ytdadiidfhnojcaa.K
open Go Go.Kx
set_option linter.unusedVariables false
set_option linter.unusedSimpArgs false
set_option maxRecDepth 20000
def room : ByteArray := ⟨#[114,111,111,109]⟩
def sr (l : List ByteArray) : List (List Value) := l.map fun s => [.string s]
theorem sr_len (l : List ByteArray) : (sr l).length = l.length := by simp [sr]
theorem sr_good (l : List ByteArray) : GoodR 1 (sr l) := fun r hr => by
  obtain ⟨s,_,rfl⟩ := List.mem_map.1 hr
  exact ⟨rfl,rfl⟩
def hds (rows : List (List Value)) (l : List ByteArray) : Prop := rows.map (·.head?) = l.map fun s => some (.string s)
theorem hds.len {rows : List (List Value)} {l : List ByteArray} (h : hds rows l) : rows.length = l.length := by have := congrArg List.length h; simpa using this
structure LT (h : H) (t : TK) (bi bo : Nat) (r : List Value) : Prop where
  e : r = [.string t.name,.int .i64 t.bud,.slice (some ⟨bi,0,none⟩) t.ins.length (t.ins.length + 3),.slice (some ⟨bo,0,none⟩) t.outs.length (t.outs.length + 3)]
  i : RB h bi 9 1 false (sr (t.ins ++ [room,room,room]))
  o : ∃ rows,RB h bo 63 6 false rows ∧ hds rows (t.outs ++ [room,room,room])
theorem LT.upd {S : Nat → Prop} {h h' : H} (u : Upd S h h') {t : TK} {bi bo : Nat} {r : List Value} (q : LT h t bi bo r) (h1 : ¬ S bi) (h2 : ¬ S bo) : LT h' t bi bo r := by
  obtain ⟨e,i,rows,a,b⟩ := q
  exact ⟨e,i.upd u h1,rows,a.upd u h2,b⟩
theorem LT.grow {h h' : H} (g : Grow h h') {t : TK} {bi bo : Nat} {r : List Value} (q : LT h t bi bo r) : LT h' t bi bo r := q.upd (g.upd fun _ => False) id id
theorem LT.lt {h : H} {t : TK} {bi bo : Nat} {r : List Value} (q : LT h t bi bo r) : bi < h.next ∧ bo < h.next := by
  obtain ⟨e,i,rows,a,b⟩ := q
  exact ⟨H.get_lt i.2,H.get_lt a.2⟩
def roomRow : List Value := [.string room,.int .i64 0,.slice none 0 0,.slice none 0 0]
structure Lent (h : H) (v : Value) (bm : Nat) (rows : List (List Value)) (bs : List (Nat × Nat)) (ts : List TK) : Prop where
  v : v = .slice (some ⟨bm,0,none⟩) ts.length (ts.length + 3)
  m : RB h bm 55 4 false rows
  len : rows.length = ts.length + 3
  bl : bs.length = ts.length
  t : ∀ (i : Nat) (t : TK),ts[i]? = some t → ∃ p r,bs[i]? = some p ∧ rows[i]? = some r ∧ LT h t p.1 p.2 r
  r : ∀ i,ts.length ≤ i → i < ts.length + 3 → rows[i]? = some roomRow
  d1 : (bs.map (·.1)).Nodup
  d2 : (bs.map (·.2)).Nodup
theorem Lent.grow {h h' : H} (g : Grow h h') {v : Value} {bm : Nat} {rows : List (List Value)} {bs : List (Nat × Nat)} {ts : List TK} (q : Lent h v bm rows bs ts) : Lent h' v bm rows bs ts :=
  ⟨q.v,q.m.grow g,q.len,q.bl,fun i t ht => by obtain ⟨p,r,a,b,c⟩ := q.t i t ht; exact ⟨p,r,a,b,c.grow g⟩,q.r,q.d1,q.d2⟩
theorem Row.pre {h : H} {b : Nat} {a c : List Value} (q : Row h b 0 (a ++ c)) : Row h b 0 a := by
  have := q.sub (k := 0) (m := a.length) (by simp)
  rw [List.drop_zero,List.take_left] at this
  exact this
theorem LT.taskR {h : H} {t : TK} {bi bo : Nat} {r : List Value} (q : LT h t bi bo r) : TaskR h t r := by
  obtain ⟨rfl,i,rows,o,hd⟩ := q
  refine ⟨_,_,rfl,⟨sr_good t.ins,.inr ⟨bi,0,none,t.ins.length + 3,by rw [List.length_map],?_⟩⟩,rows.take t.outs.length,⟨o.1.take _,.inr ⟨bo,0,none,t.outs.length + 3,?_,?_⟩⟩,?_⟩
  · have := i.all
    rw [show (sr (t.ins ++ [room,room,room])).flatten = (sr t.ins).flatten ++ (sr [room,room,room]).flatten by unfold sr; rw [List.map_append,List.flatten_append]] at this
    exact this.pre
  · have := hd.len
    rw [List.length_append] at this
    rw [List.length_take,Nat.min_eq_left (by omega)]
  · have := o.all
    rw [← List.take_append_drop t.outs.length rows,List.flatten_append] at this
    exact this.pre
  · unfold hds at hd
    rw [List.map_take,hd,List.map_append,List.take_left' (by simp)]
theorem Lent.tasks {h : H} {v : Value} {bm : Nat} {rows : List (List Value)} {bs : List (Nat × Nat)} {ts : List TK} (q : Lent h v bm rows bs ts) : Tasks h v ts := by
  have hl : (rows.take ts.length).length = ts.length := by rw [List.length_take,q.len]; omega
  refine ⟨rows.take ts.length,⟨q.m.1.take _,.inr ⟨bm,0,none,ts.length + 3,by rw [hl]; exact q.v,?_⟩⟩,hl,fun i t ht => ?_⟩
  · have := q.m.all
    rw [← List.take_append_drop ts.length rows,List.flatten_append] at this
    exact this.pre
  · obtain ⟨p,r,a,b,c⟩ := q.t i t ht
    exact ⟨r,by rw [List.getElem?_take_of_lt (List.getElem?_eq_some_iff.1 ht).1]; exact b,c.taskR⟩
theorem set3 {α : Type} (l : List α) (a b c x y z : α) : (((l ++ [a,b,c]).set l.length x).set (l.length + 1) y).set (l.length + 2) z = l ++ [x,y,z] := by
  rw [List.set_append_right _ _ (Nat.le_refl _),List.set_append_right _ _ (by omega),List.set_append_right _ _ (by omega),Nat.sub_self,show l.length + 1 - l.length = 1 by omega,show l.length + 2 - l.length = 2 by omega]
  rfl
structure LnS (h0 h : H) (t : TK) (bi bo : Nat) (sw ow : List (List Value)) : Prop where
  g : Grow h0 h
  s : RB h bi 9 1 false sw
  o : RB h bo 63 6 false ow
  sl : sw.length = t.ins.length + 3
  ol : ow.length = t.outs.length + 3
  fi : h0.next ≤ bi
  fo : h0.next ≤ bo
theorem RB.ne {h : H} {b c e f E F : Nat} {op op' : Bool} {r s : List (List Value)} (p : RB h b e E op r) (q : RB h c f F op' s) (hef : e ≠ f) : b ≠ c := fun z => by
  have h1 := p.2
  rw [z,q.2] at h1
  simp only [Option.some.injEq,Blk.cells.injEq] at h1
  exact hef h1.2.1.symm
theorem ln_step {h0 h : H} {x0 x3 : Value} {ts : List TK} (T : Tasks h0 x0 ts) {i q : Nat} {t : TK} (ht : ts[i]? = some t) (hi : t.ins.length ≤ 60000) (ho : t.outs.length ≤ 60000) (hq : q < 3) {bi bo : Nat} {sw ow : List (List Value)} (s : LnS h0 h t bi bo sw ow) {a b : List Value} (ha : sw[t.ins.length + q]? = some a) (hb : ow[t.outs.length + q]? = some b) :
    ∃ h',LnS h0 h' t bi bo (sw.set (t.ins.length + q) (a.set 0 (.string room))) (ow.set (t.outs.length + q) (b.set 0 (.string room))) ∧ Upd (fun y => y = bi ∨ y = bo) h h' ∧
      F12.l12 Try.prog CLM nu0 nu0 x0 x3 (.int .i64 (i : Nat)) (.slice (some ⟨bi,0,none⟩) (t.ins.length + 3) (t.ins.length + 3)) (.slice (some ⟨bo,0,none⟩) (t.outs.length + 3) (t.outs.length + 3)) (.int .i64 (q : Nat)) h =
        F12.l12 Try.prog CLM nu0 nu0 x0 x3 (.int .i64 (i : Nat)) (.slice (some ⟨bi,0,none⟩) (t.ins.length + 3) (t.ins.length + 3)) (.slice (some ⟨bo,0,none⟩) (t.outs.length + 3) (t.outs.length + 3)) (.int .i64 ((q + 1 : Nat) : Int)) h' := by
  obtain ⟨bb,o,vi,vo,a1,row,S,O,_⟩ := T.at_ ht
  obtain ⟨h1,w1,u1,s1⟩ := s.s.wcell ha (j := 0) (by omega) (v := .string room) rfl
  have hne : bi ≠ bo := s.s.ne s.o (by decide)
  have o1 := s.o.upd u1 fun z => hne z.symm
  have G1 : Grow h0 h1 := grow_then s.g u1 fun b hb => hb ▸ s.fi
  obtain ⟨h2,w2,u2,o2⟩ := o1.wcell hb (j := 0) (by omega) (v := .string room) rfl
  have G2 : Grow h0 h2 := grow_then G1 u2 fun b hb => hb ▸ s.fo
  have c2 : ∀ hh,Grow h0 hh → xload Try.prog 52 (.pointer (some ⟨bb,o + 2,none⟩)) hh = .ok vi hh := fun hh g => by rw [ld52,(row.grow g).cell (j := 2) rfl,ofO_some]
  have c3 : ∀ hh,Grow h0 hh → xload Try.prog 53 (.pointer (some ⟨bb,o + 3,none⟩)) hh = .ok vo hh := fun hh g => by rw [ld53,(row.grow g).cell (j := 3) rfl,ofO_some]
  have p1 : xstore Try.prog 9 (.pointer (some ⟨bi,0 + (t.ins.length + q) * 1,none⟩)) (.string room) h = .ok undef h1 := by
    rw [st9 _ _ _ rfl,cells_str,Nat.zero_add]
    rw [Nat.add_zero] at w1
    rw [w1,ofU_some]
  have p2 : xstore Try.prog 9 (.pointer (some ⟨bo,0 + (t.outs.length + q) * 6,none⟩)) (.string room) h1 = .ok undef h2 := by
    rw [st9 _ _ _ rfl,cells_str,Nat.zero_add]
    rw [Nat.add_zero] at w2
    rw [w2,ofU_some]
  refine ⟨h2,⟨G2,s1.upd u2 hne,o2,by rw [List.length_set]; exact s.sl,by rw [List.length_set]; exact s.ol,s.fi,s.fo⟩,(u1.mono fun x _ z => .inl z).trans (u2.mono fun x _ z => .inr z),?_⟩
  rw [F12.l12_eq,xlss,go_ok,ifV_dec,if_pos (by omega),F12.j14_eq,a1,go_ok,fa55_2,go_ok,c2 _ s.g,go_ok,S.len,go_ok,xadd,go_ok,wadd (by omega),ia52 _ _ _ _ _ _ _ _ (by omega),go_ok]
  show ((xstore Try.prog 9 _ (.string room) h).go .pan _) = _
  rw [p1,go_ok,a1,go_ok,fa55_3,go_ok,c3 _ G1,go_ok,O.len,go_ok,xadd,go_ok,wadd (by omega),ia53 _ _ _ _ _ _ _ _ (by omega),go_ok,fa63_0,go_ok]
  show ((xstore Try.prog 9 _ (.string room) h1).go .pan _) = _
  rw [p2,go_ok,xadd,go_ok,wadd1 (by omega)]
end Go.Proofs.Ytdadiidfhnojcaa.K
namespace Go.Proofs.Ytdadiidfhnojcaa.K
open Go Go.Kx
set_option linter.unusedVariables false
set_option linter.unusedSimpArgs false
set_option maxRecDepth 20000
theorem zero_of {e E : TypeId} (hf : zeroFits Try.prog e = true) (hc : Try.prog.cellsOf e = E) : ∃ z,zeroOf Try.prog e = some z ∧ z.cells.size = E ∧ ones z.cells.toList = true := by
  unfold zeroFits at hf
  split at hf
  · rename_i z hz
    simp only [Bool.and_eq_true] at hf
    exact ⟨z,hz,by rw [← hc]; exact Nat.eq_of_beq_eq_true hf.1,hf.2⟩
  · cases hf
theorem drop_rep {α : Type} (n : Nat) (z : α) : (List.replicate (n + 3) z).drop n = [z,z,z] := by
  rw [List.drop_replicate,show n + 3 - n = 3 by omega]; rfl
theorem ln_task {h0 h : H} {x0 : Value} {ts : List TK} (T : Tasks h0 x0 ts) (F : Few ts) {i : Nat} {t : TK} (ht : ts[i]? = some t) (g : Grow h0 h) {bm : Nat} {rows : List (List Value)} (M : RB h bm 55 4 false rows) (hl : rows.length = ts.length + 3) (hb0 : h0.next ≤ bm) :
    ∃ h' r,Upd (fun y => y = bm ∨ h.next ≤ y) h h' ∧ LT h' t h.next (h.next + 1) r ∧ RB h' bm 55 4 false (rows.set i r) ∧ h.next + 1 < h'.next ∧
      F12.j7 Try.prog CLM nu0 nu0 x0 (.slice (some ⟨bm,0,none⟩) (ts.length + 3) (ts.length + 3)) (.int .i64 (i : Nat)) h = F12.j4 Try.prog CLM nu0 nu0 x0 (.slice (some ⟨bm,0,none⟩) (ts.length + 3) (ts.length + 3)) (.int .i64 (i : Nat)) h' := by
  have hn := F.n
  have hil := (List.getElem?_eq_some_iff.1 ht).1
  have hti := F.i t (List.mem_of_getElem? ht)
  have hto := F.o t (List.mem_of_getElem? ht)
  obtain ⟨bb,o,vi,vo,a1,row,S,O,hones⟩ := T.at_ ht
  obtain ⟨zs,zs1,zs2,zs3⟩ : ∃ z,zeroOf Try.prog 9 = some z ∧ z.cells.size = 1 ∧ ones z.cells.toList = true := ⟨.string ⟨#[]⟩,by kernel_rfl,rfl,rfl⟩
  obtain ⟨zo,zo1,zo2,zo3⟩ := zero_of (e := 63) (E := 6) (by kernel_rfl) (by kernel_rfl)
  obtain ⟨h1,e1,g1,R1,n1⟩ := mkRows (t := 52) (e := 9) (E := 1) (z := zs) (by kernel_rfl) zs1 (by kernel_rfl) zs2 zs3 (Nat.le_of_ble_eq_true (by kernel_rfl)) (n := t.ins.length + 3) (by omega) h
  obtain ⟨h2,e2,g2,R2,n2⟩ := mkRows (t := 53) (e := 63) (E := 6) (z := zo) (by kernel_rfl) zo1 (by kernel_rfl) zo2 zo3 (Nat.le_of_ble_eq_true (by kernel_rfl)) (n := t.outs.length + 3) (by omega) h1
  have G2 := (g.trans g1).trans g2
  have hbm := H.get_lt M.2
  obtain ⟨h3,x3,e3,u3,R3⟩ := cpRows (t := 52) (e := 9) (E := 1) (cap := t.ins.length + 3) (S.grow G2) (R1.grow g2) (by rw [List.length_map,List.length_replicate]; omega) Nat.one_pos (by kernel_rfl) (by kernel_rfl) (by kernel_rfl)
  rw [List.length_replicate] at e3
  rw [List.length_map,drop_rep] at R3
  have hbb : h.next ≠ h1.next := by omega
  have R2' := R2.upd u3 (fun z => hbb z.symm)
  have G3 : Grow h0 h3 := grow_then G2 u3 fun b hb => by rw [hb]; exact g.next
  obtain ⟨orows,os,oh⟩ := O.grow G3
  have hol : orows.length = t.outs.length := hds.len oh
  obtain ⟨h4,x4,e4,u4,R4⟩ := cpRows (t := 53) (e := 63) (E := 6) (cap := t.outs.length + 3) os R2' (by rw [hol,List.length_replicate]; omega) (Nat.succ_pos 5) (by kernel_rfl) (by kernel_rfl) (by kernel_rfl)
  rw [List.length_replicate] at e4
  rw [hol,drop_rep] at R4
  have R3' := R3.upd u4 hbb
  have G4 : Grow h0 h4 := grow_then G3 u4 fun b hb => by rw [hb]; exact Nat.le_trans g.next g1.next
  have hsl : (sr t.ins).length = t.ins.length := sr_len _
  have s0 : LnS h0 h4 t h.next h1.next (sr t.ins ++ [zs.cells.toList,zs.cells.toList,zs.cells.toList]) (orows ++ [zo.cells.toList,zo.cells.toList,zo.cells.toList]) :=
    ⟨G4,R3',R4,by rw [List.length_append,hsl]; rfl,by rw [List.length_append,hol]; rfl,g.next,Nat.le_trans g.next g1.next⟩
  obtain ⟨h5,s1,u5,e5⟩ := ln_step (x3 := .slice (some ⟨bm,0,none⟩) (ts.length + 3) (ts.length + 3)) T ht (by omega) (by omega) (q := 0) (by omega) s0 (a := zs.cells.toList) (b := zo.cells.toList) (by rw [Nat.add_zero,← hsl,List.getElem?_append_right (Nat.le_refl _),Nat.sub_self]; rfl) (by rw [Nat.add_zero,← hol,List.getElem?_append_right (Nat.le_refl _),Nat.sub_self]; rfl)
  obtain ⟨h6,s2,u6,e6⟩ := ln_step (x3 := .slice (some ⟨bm,0,none⟩) (ts.length + 3) (ts.length + 3)) T ht (by omega) (by omega) (q := 1) (by omega) s1 (a := zs.cells.toList) (b := zo.cells.toList) (by rw [List.getElem?_set_ne (by omega),← hsl,List.getElem?_append_right (by omega),show (sr t.ins).length + 1 - (sr t.ins).length = 1 by omega]; rfl) (by rw [List.getElem?_set_ne (by omega),← hol,List.getElem?_append_right (by omega),show orows.length + 1 - orows.length = 1 by omega]; rfl)
  obtain ⟨h7,s3,u7,e7⟩ := ln_step (x3 := .slice (some ⟨bm,0,none⟩) (ts.length + 3) (ts.length + 3)) T ht (by omega) (by omega) (q := 2) (by omega) s2 (a := zs.cells.toList) (b := zo.cells.toList) (by rw [List.getElem?_set_ne (by omega),List.getElem?_set_ne (by omega),← hsl,List.getElem?_append_right (by omega),show (sr t.ins).length + 2 - (sr t.ins).length = 2 by omega]; rfl) (by rw [List.getElem?_set_ne (by omega),List.getElem?_set_ne (by omega),← hol,List.getElem?_append_right (by omega),show orows.length + 2 - orows.length = 2 by omega]; rfl)
  simp only [Nat.add_zero] at s3
  have hzs : zs = .string ⟨#[]⟩ := by
    have : zeroOf Try.prog 9 = some (.string ⟨#[]⟩) := by kernel_rfl
    rw [this] at zs1; cases zs1; rfl
  have hsw : (((sr t.ins ++ [zs.cells.toList,zs.cells.toList,zs.cells.toList]).set t.ins.length (zs.cells.toList.set 0 (.string room))).set (t.ins.length + 1) (zs.cells.toList.set 0 (.string room))).set (t.ins.length + 2) (zs.cells.toList.set 0 (.string room)) = sr (t.ins ++ [room,room,room]) := by
    rw [← hsl,set3,hzs]
    unfold sr
    rw [List.map_append]
    rfl
  have how : (((orows ++ [zo.cells.toList,zo.cells.toList,zo.cells.toList]).set t.outs.length (zo.cells.toList.set 0 (.string room))).set (t.outs.length + 1) (zo.cells.toList.set 0 (.string room))).set (t.outs.length + 2) (zo.cells.toList.set 0 (.string room)) = orows ++ [zo.cells.toList.set 0 (.string room),zo.cells.toList.set 0 (.string room),zo.cells.toList.set 0 (.string room)] := by
    rw [← hol,set3]
  rw [hsw,how] at s3
  have hhd : (zo.cells.toList.set 0 (.string room)).head? = some (.string room) := by
    have : zo.cells.toList.length = 6 := by rw [← zo2]; simp
    cases q : zo.cells.toList with
    | nil => rw [q] at this; cases this
    | cons a l => rfl
  have hhds : hds (orows ++ [zo.cells.toList.set 0 (.string room),zo.cells.toList.set 0 (.string room),zo.cells.toList.set 0 (.string room)]) (t.outs ++ [room,room,room]) := by
    unfold hds
    rw [List.map_append,List.map_append]
    congr 1
    simp only [List.map_cons,List.map_nil,hhd]
  have U7 : Upd (fun y => h.next ≤ y) h h7 := by
    have w1 : Upd (fun y => h.next ≤ y) h h2 := (g1.trans g2).upd _
    have w3 := w1.trans (u3.mono fun x _ z => by rw [z]; exact Nat.le_refl _)
    have w4 := w3.trans (u4.mono fun x _ z => by rw [z]; exact g1.next)
    have m : ∀ {a b : H},Upd (fun y => y = h.next ∨ y = h1.next) a b → Upd (fun y => h.next ≤ y) a b := fun u => u.mono fun x _ z => z.elim (fun z => by rw [z]; exact Nat.le_refl _) (fun z => by rw [z]; exact g1.next)
    exact ((w4.trans (m u5)).trans (m u6)).trans (m u7)
  have M7 := M.upd U7 (by omega)
  have hi3 : i < rows.length := by omega
  obtain ⟨h8,w8,u8,M8⟩ := M7.wrow hi3 (r := [.string t.name,.int .i64 t.bud,vi,vo]) rfl hones
  have hset8 : (rows.set i [.string t.name,.int .i64 t.bud,vi,vo])[i]? = some [.string t.name,.int .i64 t.bud,vi,vo] := List.getElem?_set_self hi3
  obtain ⟨h9,w9,u9,M9⟩ := M8.wcell hset8 (j := 2) (by omega) (v := .slice (some ⟨h.next,0,none⟩) t.ins.length (t.ins.length + 3)) rfl
  rw [List.set_set] at M9
  have hset9 : (rows.set i ([.string t.name,.int .i64 t.bud,vi,vo].set 2 (.slice (some ⟨h.next,0,none⟩) t.ins.length (t.ins.length + 3))))[i]? = some [.string t.name,.int .i64 t.bud,.slice (some ⟨h.next,0,none⟩) t.ins.length (t.ins.length + 3),vo] := List.getElem?_set_self hi3
  obtain ⟨hX,wX,uX,MX⟩ := M9.wcell hset9 (j := 3) (by omega) (v := .slice (some ⟨h1.next,0,none⟩) t.outs.length (t.outs.length + 3)) rfl
  rw [List.set_set] at MX
  have nb1 : ¬ h.next = bm := by omega
  have nb2 : ¬ h1.next = bm := by have := g1.next; omega
  have UX : Upd (fun y => y = bm) h7 hX := (u8.trans u9).trans uX
  have ex1 : xslice Try.prog 52 (.slice (some ⟨h.next,0,none⟩) (t.ins.length + 3) (t.ins.length + 3)) none (some (.int .i64 (t.ins.length : Nat))) none h8 = .ok (.slice (some ⟨h.next,0,none⟩) t.ins.length (t.ins.length + 3)) h8 := by
    have := xslice_c (P := Try.prog) (t := 52) (e := 9) (lo := none) (hi := some (.int .i64 (t.ins.length : Nat))) (o := 0) (n := t.ins.length + 3) (cap := t.ins.length + 3) un52 (by kernel_rfl) (s3.s.upd u8 nb1).2 (l := 0) (u := t.ins.length) rfl rfl (by omega) (by omega) (by omega)
    rw [Nat.zero_mul,Nat.zero_add,Nat.sub_zero,Nat.sub_zero] at this
    exact this
  have ex2 : xslice Try.prog 53 (.slice (some ⟨h1.next,0,none⟩) (t.outs.length + 3) (t.outs.length + 3)) none (some (.int .i64 (t.outs.length : Nat))) none h9 = .ok (.slice (some ⟨h1.next,0,none⟩) t.outs.length (t.outs.length + 3)) h9 := by
    have := xslice_c (P := Try.prog) (t := 53) (e := 63) (lo := none) (hi := some (.int .i64 (t.outs.length : Nat))) (o := 0) (n := t.outs.length + 3) (cap := t.outs.length + 3) (by kernel_rfl) (by kernel_rfl) ((s3.o.upd u8 nb2).upd u9 nb2).2 (l := 0) (u := t.outs.length) rfl rfl (by omega) (by omega) (by omega)
    rw [Nat.zero_mul,Nat.zero_add,Nat.sub_zero,Nat.sub_zero] at this
    exact this
  have n12 : h1.next = h.next + 1 := n1
  refine ⟨hX,_,(U7.mono fun x _ z => .inr z).trans (UX.mono fun x _ z => .inl z),⟨rfl,s3.s.upd UX nb1,_,n12 ▸ s3.o.upd UX nb2,hhds⟩,by rw [← n12]; exact MX,by have := UX.next; have := U7.next; have := H.get_lt s3.o.2; omega,?_⟩
  have G7 : Grow h0 h7 := s3.g
  have c2 : ∀ hh,Grow h0 hh → xload Try.prog 52 (.pointer (some ⟨bb,o + 2,none⟩)) hh = .ok vi hh := fun hh g => by rw [ld52,(row.grow g).cell (j := 2) rfl,ofO_some]
  have c3 : ∀ hh,Grow h0 hh → xload Try.prog 53 (.pointer (some ⟨bb,o + 3,none⟩)) hh = .ok vo hh := fun hh g => by rw [ld53,(row.grow g).cell (j := 3) rfl,ofO_some]
  have hrow7 := (row.grow G7).row (n := 4) rfl
  have st8 : xstore Try.prog 55 (.pointer (some ⟨bm,0 + i * 4,none⟩)) (.agg ⟨[.string t.name,.int .i64 t.bud,vi,vo]⟩) h7 = .ok undef h8 := by rw [st55 _ _ _ rfl,cells_agg,Nat.zero_add,w8,ofU_some]
  have st9 : xstore Try.prog 52 (.pointer (some ⟨bm,0 + i * 4 + 2,none⟩)) (.slice (some ⟨h.next,0,none⟩) t.ins.length (t.ins.length + 3)) h8 = .ok undef h9 := by rw [st52 _ _ _ rfl,cells_slice,Nat.zero_add,w9,ofU_some]
  have stX : xstore Try.prog 53 (.pointer (some ⟨bm,0 + i * 4 + 3,none⟩)) (.slice (some ⟨h1.next,0,none⟩) t.outs.length (t.outs.length + 3)) h9 = .ok undef hX := by rw [st53 _ _ _ rfl,cells_slice,Nat.zero_add,wX,ofU_some]
  have ix : ∀ hh : H,xindexAddr Try.prog 22 (.slice (some ⟨bm,0,none⟩) (ts.length + 3) (ts.length + 3)) (.int .i64 (i : Nat)) hh = .ok (.pointer (some ⟨bm,0 + i * 4,none⟩)) hh := fun hh => ia22 _ _ _ _ _ _ _ _ (by omega)
  have G8 : Grow h0 h8 := grow_then G7 u8 fun b hb => hb ▸ hb0
  have G9 : Grow h0 h9 := grow_then G8 u9 fun b hb => hb ▸ hb0
  have w3 : ∀ n : Nat,n ≤ 12 → IntKind.i64.wrap ((n : Int) + 3) = ((n + 3 : Nat) : Int) := fun n hn => by rw [wrap64 (by omega)]; omega
  rw [F12.j7_eq,a1,go_ok,fa55_2,go_ok,c2 _ g,go_ok,S.len,go_ok,xadd,go_ok,w3 _ hti,e1,go_ok,a1,go_ok,fa55_3,go_ok,c3 _ (g.trans g1),go_ok,O.len,go_ok,xadd,go_ok,w3 _ hto,e2,go_ok,a1,go_ok,fa55_2,go_ok,c2 _ G2,go_ok,e3,go_ok,a1,go_ok,fa55_3,go_ok,c3 _ G3,go_ok,e4,go_ok,
    show (Value.int .i64 0) = .int .i64 ((0 : Nat) : Int) from rfl,e5,e6,e7,F12.l12_eq,xlss,go_ok,ifV_dec,if_neg (by omega),F12.j16_eq,a1,go_ok,ld55,hrow7,ofA_some,go_ok,ix,go_ok,st8,go_ok,a1,go_ok,fa55_2,go_ok,c2 _ G8,go_ok,S.len,go_ok,ex1,go_ok,ix,go_ok,fa55_2,go_ok,st9,go_ok,a1,go_ok,fa55_3,go_ok,c3 _ G9,go_ok,O.len,go_ok,ex2,go_ok,ix,go_ok,fa55_3,go_ok,stX,go_ok]
theorem ln_loop {h0 : H} {x0 : Value} {ts : List TK} {bm : Nat} (T : Tasks h0 x0 ts) (F : Few ts) (hb0 : h0.next ≤ bm) : ∀ (d i : Nat) {h : H} {rows : List (List Value)} {bs : List (Nat × Nat)},ts.length - i = d → i ≤ ts.length → Grow h0 h → RB h bm 55 4 false rows → rows.length = ts.length + 3 → bs.length = i →
    (∀ (k : Nat) (t : TK),k < i → ts[k]? = some t → ∃ p r,bs[k]? = some p ∧ rows[k]? = some r ∧ LT h t p.1 p.2 r) → (∀ p ∈ bs,(p.1 < h.next ∧ p.2 < h.next) ∧ h0.next ≤ p.1 ∧ h0.next ≤ p.2) → (bs.map (·.1)).Nodup → (bs.map (·.2)).Nodup →
    ∃ (h' : H) (rows' : List (List Value)) (bs' : List (Nat × Nat)),Grow h0 h' ∧ RB h' bm 55 4 false rows' ∧ rows'.length = ts.length + 3 ∧ bs'.length = ts.length ∧ (∀ (k : Nat) (t : TK),k < ts.length → ts[k]? = some t → ∃ p r,bs'[k]? = some p ∧ rows'[k]? = some r ∧ LT h' t p.1 p.2 r) ∧ (bs'.map (·.1)).Nodup ∧ (bs'.map (·.2)).Nodup ∧ (∀ p ∈ bs',(p.1 < h'.next ∧ p.2 < h'.next) ∧ h0.next ≤ p.1 ∧ h0.next ≤ p.2) ∧
      F12.l3 Try.prog CLM nu0 nu0 x0 (.slice (some ⟨bm,0,none⟩) (ts.length + 3) (ts.length + 3)) (.int .i64 (i : Nat)) h = F12.l3 Try.prog CLM nu0 nu0 x0 (.slice (some ⟨bm,0,none⟩) (ts.length + 3) (ts.length + 3)) (.int .i64 (ts.length : Nat)) h' := by
  intro d
  have hn := F.n
  induction d with
  | zero =>
    intro i h rows bs hd hi g M hl hbl hT hlt d1 d2
    have : i = ts.length := by omega
    subst this
    exact ⟨h,rows,bs,g,M,hl,hbl,hT,d1,d2,hlt,rfl⟩
  | succ d ih =>
    intro i h rows bs hd hi g M hl hbl hT hlt d1 d2
    have hil : i < ts.length := by omega
    have ht : ts[i]? = some ts[i] := List.getElem?_eq_getElem hil
    obtain ⟨h1,r,u1,L1,M1,n1,e1⟩ := ln_task T F ht g M hl hb0
    have hbm := H.get_lt M.2
    have g1 : Grow h0 h1 := grow_then g u1 fun b hb => hb.elim (fun z => z ▸ hb0) fun z => Nat.le_trans g.next z
    obtain ⟨h',rows',bs',r1,r2,r3,r4,r5,r6,r7,r8,r9⟩ := ih (i + 1) (bs := bs ++ [(h.next,h.next + 1)]) (by omega) (by omega) g1 M1 (by rw [List.length_set]; exact hl) (by rw [List.length_append,hbl]; rfl) (fun k t hk hkt => by
      by_cases e : k = i
      · subst e
        rw [ht] at hkt; cases hkt
        exact ⟨(h.next,h.next + 1),r,by rw [← hbl,List.getElem?_append_right (Nat.le_refl _),Nat.sub_self]; rfl,List.getElem?_set_self (by omega),L1⟩
      · obtain ⟨p,r',a,b,c⟩ := hT k t (by omega) hkt
        have hp := hlt p (List.mem_of_getElem? a)
        have hpm := (List.mem_of_getElem? a)
        refine ⟨p,r',by rw [List.getElem?_append_left (by omega)]; exact a,by rw [List.getElem?_set_ne (fun z => e z.symm)]; exact b,c.upd u1 (fun z => ?_) (fun z => ?_)⟩
        · rcases z with z | z
          · exact (c.i.ne M (by decide)) z
          · omega
        · obtain ⟨_,_,orw,oc,_⟩ := c
          rcases z with z | z
          · exact (oc.ne M (by decide)) z
          · omega) (fun p hp => by
      rcases List.mem_append.1 hp with z | z
      · have := hlt p z; have := u1.next; omega
      · have := g.next; simp only [List.mem_singleton] at z; subst z; simp only; omega) (by
      rw [List.map_append,List.nodup_append]
      refine ⟨d1,List.pairwise_singleton _ _,fun a ha b hb e => ?_⟩
      obtain ⟨p,hp,rfl⟩ := List.mem_map.1 ha
      have := hlt p hp
      simp at hb; omega) (by
      rw [List.map_append,List.nodup_append]
      refine ⟨d2,List.pairwise_singleton _ _,fun a ha b hb e => ?_⟩
      obtain ⟨p,hp,rfl⟩ := List.mem_map.1 ha
      have := hlt p hp
      simp at hb; omega)
    refine ⟨h',rows',bs',r1,r2,r3,r4,r5,r6,r7,r8,?_⟩
    rw [F12.l3_eq,ln22,go_ok,xlss,go_ok,ifV_dec,if_pos (by omega),F12.j5_eq,T.len,go_ok,xgeq,go_ok,ifV_dec,if_neg (by omega),e1,F12.j4_eq,xadd,go_ok,wadd1 (by omega)]
    exact r9
theorem ln_room {h0 : H} {x0 : Value} {ts : List TK} {bm : Nat} (T : Tasks h0 x0 ts) (hn : ts.length ≤ 3000) : ∀ (d i : Nat) {h : H} {rows : List (List Value)},ts.length + 3 - i = d → ts.length ≤ i → i ≤ ts.length + 3 → RB h bm 55 4 false rows → rows.length = ts.length + 3 → (∀ k,ts.length ≤ k → k < i → rows[k]? = some roomRow) →
    ∃ h' rows',Upd (fun y => y = bm) h h' ∧ RB h' bm 55 4 false rows' ∧ rows'.length = ts.length + 3 ∧ (∀ k,k < ts.length → rows'[k]? = rows[k]?) ∧ (∀ k,ts.length ≤ k → k < ts.length + 3 → rows'[k]? = some roomRow) ∧
      F12.l3 Try.prog CLM nu0 nu0 x0 (.slice (some ⟨bm,0,none⟩) (ts.length + 3) (ts.length + 3)) (.int .i64 (i : Nat)) h = F12.j19 Try.prog CLM nu0 nu0 x0 (.slice (some ⟨bm,0,none⟩) (ts.length + 3) (ts.length + 3)) h' := by
  intro d
  induction d with
  | zero =>
    intro i h rows hd h1 h2 M hl hr
    have : i = ts.length + 3 := by omega
    subst this
    refine ⟨h,rows,Upd.refl _ _,M,hl,fun _ _ => rfl,hr,?_⟩
    rw [F12.l3_eq,ln22,go_ok,xlss,go_ok,ifV_dec,if_neg (by omega)]
  | succ d ih =>
    intro i h rows hd h1 h2 M hl hr
    obtain ⟨h3,w3,u3,M3⟩ := M.wrow (i := i) (r := roomRow) (by omega) rfl rfl
    obtain ⟨h',rows',u',M',hl',k1,k2,e'⟩ := ih (i + 1) (by omega) (by omega) (by omega) M3 (by rw [List.length_set]; exact hl) (fun k hk hk2 => by
      by_cases e : k = i
      · subst e; exact List.getElem?_set_self (by omega)
      · rw [List.getElem?_set_ne (fun z => e z.symm)]; exact hr k hk (by omega))
    refine ⟨h',rows',u3.trans u',M',hl',fun k hk => by rw [k1 k hk,List.getElem?_set_ne (by omega)],k2,?_⟩
    have bd : xbuild Try.prog 55 [(0,.string room)] h = .ok (.agg ⟨roomRow⟩) h := by kernel_rfl
    have st8 : xstore Try.prog 55 (.pointer (some ⟨bm,0 + i * 4,none⟩)) (.agg ⟨roomRow⟩) h = .ok undef h3 := by rw [st55 _ _ _ rfl,cells_agg,Nat.zero_add,w3,ofU_some]
    rw [F12.l3_eq,ln22,go_ok,xlss,go_ok,ifV_dec,if_pos (by omega),F12.j5_eq,T.len h,go_ok,xgeq,go_ok,ifV_dec,if_pos (by omega)]
    show ((xbuild Try.prog 55 [(0,.string room)] h).go .pan _) = _
    rw [bd,go_ok,ia22 _ _ _ _ _ _ _ _ (by omega),go_ok,st8,go_ok,F12.j4_eq,xadd,go_ok,wadd1 (by omega)]
    exact e'
theorem eLent {h0 : H} {x0 : Value} {ts : List TK} (T : Tasks h0 x0 ts) (F : Few ts) : ∃ h' v bm rows bs,Grow h0 h' ∧ Lent h' v bm rows bs ts ∧ h0.next ≤ bm ∧ (∀ p ∈ bs,h0.next ≤ p.1 ∧ h0.next ≤ p.2) ∧ CLM (.f 12) [x0] h0 = .ok v h' := by
  have hn := F.n
  obtain ⟨z,z1,z2,z3⟩ := zero_of (e := 55) (E := 4) (by kernel_rfl) (by kernel_rfl)
  obtain ⟨h1,e1,g1,R1,n1⟩ := mkRows (t := 22) (e := 55) (E := 4) (z := z) (by kernel_rfl) z1 (by kernel_rfl) z2 z3 (Nat.le_of_ble_eq_true (by kernel_rfl)) (n := ts.length + 3) (by omega) h0
  obtain ⟨h2,rows,bs,g2,M2,hl2,hbl,hT,d1,d2,hlt,e2⟩ := ln_loop T F (Nat.le_refl h0.next) _ 0 rfl (Nat.zero_le _) g1 R1 (by rw [List.length_replicate]) (bs := []) rfl (fun k t hk => absurd hk (Nat.not_lt_zero _)) (fun p hp => by cases hp) List.Pairwise.nil List.Pairwise.nil
  obtain ⟨h3,rows3,u3,M3,hl3,k1,k2,e3⟩ := ln_room T hn _ _ rfl (Nat.le_refl _) (by omega) M2 hl2 (fun k hk hk2 => by omega)
  have g3 : Grow h0 h3 := grow_then g2 u3 fun b hb => by rw [hb]; exact Nat.le_refl _
  have sl := xslice_c (P := Try.prog) (t := 22) (e := 55) (lo := none) (hi := some (.int .i64 (ts.length : Nat))) (o := 0) (n := ts.length + 3) (cap := ts.length + 3) (by kernel_rfl) (by kernel_rfl) M3.2 (l := 0) (u := ts.length) rfl rfl (by omega) (by omega) (by omega)
  rw [Nat.zero_mul,Nat.zero_add,Nat.sub_zero,Nat.sub_zero] at sl
  refine ⟨h3,.slice (some ⟨h0.next,0,none⟩) ts.length (ts.length + 3),h0.next,rows3,bs,g3,⟨rfl,M3,hl3,hbl,fun i t ht => ?_,k2,d1,d2⟩,Nat.le_refl _,fun p hp => (hlt p hp).2,?_⟩
  · have hi := (List.getElem?_eq_some_iff.1 ht).1
    obtain ⟨p,r,a,b,c⟩ := hT i t hi ht
    obtain ⟨ce,ci,orw,co,ch⟩ := id c
    exact ⟨p,r,a,by rw [k1 i hi]; exact b,c.upd u3 (ci.ne M2 (by decide)) (co.ne M2 (by decide))⟩
  · have w3 : IntKind.i64.wrap ((ts.length : Int) + 3) = ((ts.length + 3 : Nat) : Int) := by rw [wrap64 (by omega)]; omega
    rw [cM12,F12.eq,T.len,go_ok,xadd,go_ok,w3,e1,go_ok,show (Value.int .i64 0) = .int .i64 ((0 : Nat) : Int) from rfl,e2,e3,F12.j19_eq,T.len,go_ok,sl,go_ok]
end Go.Proofs.Ytdadiidfhnojcaa.K
namespace Go.Proofs.Ytdadiidfhnojcaa.K
open Go Go.Kx
set_option linter.unusedVariables false
set_option linter.unusedSimpArgs false
set_option maxRecDepth 20000
theorem w3' {n : Nat} (h : n ≤ 60000) : IntKind.i64.wrap ((n : Int) + 3) = ((n + 3 : Nat) : Int) := by rw [wrap64 (by omega)]; omega
section
variable {h : H} {x0 x1 : Value} {ts : List TK} (T : Tasks h x1 ts) {i : Nat} {t : TK} (ht : ts[i]? = some t) (hi : t.ins.length ≤ 60000) (ho : t.outs.length ≤ 60000) {bi bo p : Nat} {r : List Value} (L : LT h t bi bo r) (gp : h.get p = some (.cells r 55 0 false))
include T ht hi ho L gp
end
end Go.Proofs.Ytdadiidfhnojcaa.K
