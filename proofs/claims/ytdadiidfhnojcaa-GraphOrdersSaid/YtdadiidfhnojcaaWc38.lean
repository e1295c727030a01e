/- Proved here: GraphOrders: for every input the call tells true, and what it was handed reads as it did. Conditions: none beyond those of the given row. -/
import Derived.Test.YtdadiidfhnojcaaWc37
namespace Go.Proofs.Ytdadiidfhnojcaa.K
open Go Go.Kx
set_option linter.unusedVariables false
set_option linter.unusedSimpArgs false
set_option maxRecDepth 20000
theorem xappS_in {P : Program} {t e xt : TypeId} {b o n cap k : Nat} {s : Option Nat} {x : Value} {new : List Value} {h h' : H} (he : elemOf? P t = some e) (hz : szOk P e = true) (hx : isIntT P xt = some false) (hl : lenV x = some k) (hf : firstC h (P.cellsOf e) k x = some new) (hk : n + k ≤ cap) (h0 : k ≠ 0)
    (hw : h.write ⟨b,o + n * P.cellsOf e,none⟩ new = some h') : xbuiltin P .append [t,xt] [.slice (some ⟨b,o,s⟩) n cap,x] h = .ok (.slice (some ⟨b,o,s⟩) (n + k) cap) h' := by
  show xappend P t xt _ x h = _
  unfold xappend appendC
  simp only [he,hz,hx,hl,hf,cond_true,Nat.ble_eq_true_of_le hk,beqF h0,cond_false,hw]
theorem xappS_0 {P : Program} {t e xt : TypeId} {b o n cap : Nat} {s : Option Nat} {x : Value} {new : List Value} {h : H} (he : elemOf? P t = some e) (hz : szOk P e = true) (hx : isIntT P xt = some false) (hl : lenV x = some 0) (hf : firstC h (P.cellsOf e) 0 x = some new) (hk : n ≤ cap) :
    xbuiltin P .append [t,xt] [.slice (some ⟨b,o,s⟩) n cap,x] h = .ok (.slice (some ⟨b,o,s⟩) n cap) h := by
  show xappend P t xt _ x h = _
  unfold xappend appendC
  simp only [he,hz,hx,hl,hf,cond_true,Nat.add_zero,Nat.ble_eq_true_of_le hk,beqT rfl]
def TQ (h : H) (v : Value) (br : Option Nat) (l : List Int) : Prop :=
  (br = none ∧ v = .slice none 0 0 ∧ l = []) ∨ ∃ b s rest cap,br = some b ∧ v = .slice (some ⟨b,0,s⟩) l.length cap ∧ (s = none ∨ s = some 0) ∧ h.get b = some (.cells (iv l ++ rest) 3 0 true) ∧ l.length ≤ cap ∧ cap ≤ l.length + rest.length
theorem TQ.il {h : H} {v : Value} {br : Option Nat} {l : List Int} (q : TQ h v br l) : IL h v l := by
  rcases q with ⟨_,rfl,rfl⟩ | ⟨b,s,rest,cap,_,rfl,_,hg,_⟩
  · exact .inl ⟨rfl,rfl⟩
  · exact .inr ⟨b,s,cap,rest,true,rfl,hg⟩
theorem TQ.upd {S : Nat → Prop} {h h' : H} (u : Upd S h h') {v : Value} {br : Option Nat} {l : List Int} (q : TQ h v br l) (hS : ∀ b,br = some b → ¬ S b) : TQ h' v br l := by
  refine q.imp id ?_
  rintro ⟨b,s,rest,cap,e1,e2,e3,hg,e4⟩
  exact ⟨b,s,rest,cap,e1,e2,e3,u.old _ _ (hS b e1) hg,e4⟩
theorem TQ.of {h : H} {v : Value} {br : Option Nat} {l : List Int} (q : PL h v br l) (hb : ∀ b,br = some b → True) : ∃ br',TQ h v br' l ∧ ∀ b,br' = some b → br = some b := by
  rcases q with ⟨rfl,rfl⟩ | ⟨b,sp,rfl,rfl,hg,_⟩
  · exact ⟨none,.inl ⟨rfl,rfl,rfl⟩,fun b z => by cases z⟩
  · exact ⟨some b,.inr ⟨b,some 0,sp,_,rfl,rfl,.inr rfl,hg,Nat.le_refl _,Nat.le_add_right _ _⟩,fun _ => id⟩
theorem TQ.ne2 {h : H} {v : Value} {br : Option Nat} {l : List Int} (q : TQ h v br l) {b n : Nat} {op : Bool} {B : Nat → Bool} (hg : BL h b n op B) : br ≠ some b := by
  intro z
  rcases q with ⟨w,_⟩ | ⟨b',s,rest,cap,w,_,_,hg',_⟩
  · rw [w] at z; cases z
  · rw [w] at z; cases z; unfold BL at hg; rw [hg] at hg'
    simp only [Option.some.injEq,Blk.cells.injEq] at hg'
    exact absurd hg'.2.1 (by decide)
theorem xslice_s {P : Program} {t e b n cap u : Nat} {h : H} (hu : P.underlying t = some (.slice e)) (hz : szOk P e = true) (h1 : u ≤ n) (h2 : n ≤ cap) : xslice P t (.slice (some ⟨b,0,some 0⟩) n cap) none (some (.int .i64 (u : Nat))) none h = .ok (.slice (some ⟨b,0,some 0⟩) u cap) h := by
  have hcut : (cutAt false ⟨b,0,some 0⟩ 0 cap (P.cellsOf e)) = ⟨b,0,some 0⟩ := by
    unfold cutAt
    cases Nat.beq cap 0 <;> simp
  unfold xslice
  simp only [hu,show asNat? none 0 = some 0 from rfl,show asNat? (some (Value.int .i64 (u : Nat))) n = some u from rfl,show asNat? none cap = some cap from rfl,Nat.ble_eq_true_of_le (Nat.zero_le u),Nat.ble_eq_true_of_le (Nat.le_trans h1 h2),Nat.ble_eq_true_of_le (Nat.le_refl cap),hz,Bool.and_true,cond_true,hcut,Nat.sub_zero]
theorem TQ.pop {h : H} {v : Value} {br : Option Nat} {l : List Nat} {x : Nat} (q : TQ h v br (nl (l ++ [x]))) :
    (∀ h',xbuiltin Try.prog .len [27] [v] h' = .ok (.int .i64 ((l.length + 1 : Nat) : Int)) h') ∧
    (∃ a,xindexAddr Try.prog 27 v (.int .i64 (l.length : Nat)) h = .ok (.pointer (some a)) h ∧ xload Try.prog 3 (.pointer (some a)) h = .ok (.int .i64 (x : Nat)) h) ∧
    ∃ v',xslice Try.prog 27 v none (some (.int .i64 (l.length : Nat))) none h = .ok v' h ∧ TQ h v' br (nl l) := by
  have hl : (nl (l ++ [x])).length = l.length + 1 := by rw [nl_len]; simp
  refine ⟨fun h' => by rw [q.il.len,hl],q.il.at_ (by rw [nl_append,List.getElem?_append_right (by rw [nl_len]; exact Nat.le_refl _),nl_len,Nat.sub_self]; rfl),?_⟩
  rcases q with ⟨_,_,e⟩ | ⟨b,s,rest,cap,e1,rfl,es,hg,e3,e4⟩
  · exact absurd (congrArg List.length e) (by rw [hl]; simp)
  · rw [hl] at e3 e4
    have hg2 : h.get b = some (.cells (iv (nl l) ++ (.int .i64 (x : Nat) :: rest)) 3 0 true) := by
      rw [hg,nl_append,iv_append,List.append_assoc]
      rfl
    rcases es with rfl | rfl
    · have T := xslice_o (P := Try.prog) (t := 27) (lo := none) (hi := some (.int .i64 (l.length : Nat))) (o := 0) (n := (nl (l ++ [x])).length) (cap := cap) un27 sz3 hg rfl (l := 0) (u := l.length) rfl rfl (by omega) (by omega) (by omega)
      rw [Nat.zero_mul,Nat.zero_add,Nat.sub_zero,Nat.sub_zero] at T
      exact ⟨_,T,.inr ⟨b,none,_,cap,e1,by rw [nl_len],.inl rfl,hg2,by rw [nl_len]; omega,by rw [nl_len,List.length_cons]; omega⟩⟩
    · exact ⟨_,xslice_s un27 sz3 (by omega) (by omega),.inr ⟨b,some 0,_,cap,e1,by rw [nl_len],.inr rfl,hg2,by rw [nl_len]; omega,by rw [nl_len,List.length_cons]; omega⟩⟩
theorem TQ.app {h : H} {v : Value} {br : Option Nat} {l m : List Int} {w : Value} (q : TQ h v br l) (few : l.length + m.length ≤ 1000000) (r : IL h w m) :
    ∃ v' br' h',xbuiltin Try.prog .append [27,27] [v,w] h = .ok v' h' ∧ Upd (fun x => some x = br) h h' ∧ TQ h' v' br' (l ++ m) ∧ NewBr h br br' := by
  obtain ⟨f1,f2⟩ := r.first
  have hc : Try.prog.cellsOf 3 = 1 := by kernel_rfl
  have hby : bytesOf Try.prog 3 ≤ 4096 := LI.by_
  have b1 : (l.length + m.length) * bytesOf Try.prog 3 ≤ 35184372088832 := by
    have := Nat.mul_le_mul few hby
    omega
  have ones_iv : ∀ k : List Int,ones (iv k) = true := fun k => by
    induction k with
    | nil => rfl
    | cons z k ih => show (true && ones (iv k)) = true; rw [ih]; rfl
  by_cases hm : m.length = 0
  · have : m = [] := List.length_eq_zero_iff.1 hm
    subst this
    rw [List.append_nil]
    have f2' : firstC h (Try.prog.cellsOf 3) 0 w = some [] := f2
    have f1' : lenV w = some 0 := f1
    rcases q with ⟨rfl,rfl,rfl⟩ | ⟨b,s,rest,cap,rfl,rfl,es,hg,e3,e4⟩
    · exact ⟨_,none,h,xapp_n0 LI.el LI.sz LI.iss f1 f2',Upd.refl _ _,.inl ⟨rfl,rfl,rfl⟩,.inl rfl⟩
    · exact ⟨.slice (some ⟨b,0,s⟩) l.length cap,some b,h,xappS_0 LI.el LI.sz LI.iss f1' f2' e3,Upd.refl _ _,.inr ⟨b,s,rest,cap,rfl,rfl,es,hg,e3,e4⟩,.inl rfl⟩
  · rcases q with ⟨rfl,rfl,rfl⟩ | ⟨b,s,rest,cap,rfl,rfl,es,hg,e3,e4⟩
    · obtain ⟨v',br',h',e,u,o,n⟩ := (OL.nil (h := h)).app (m := m) (by simpa using few) r
      refine ⟨v',br',h',e,u,?_,n⟩
      rcases o with ⟨z1,z2,z3⟩ | ⟨b,sp,cap,z1,z2,z3,z4,_⟩
      · exact .inl ⟨z1,z2,z3⟩
      · exact .inr ⟨b,none,sp,cap,z1,z2,.inl rfl,z3,by omega,by omega⟩
    · by_cases hfit : l.length + m.length ≤ cap
      · have hw : h.write ⟨b,0 + l.length * 1,none⟩ (iv m) = some _ := H.write_eq hg (by rw [List.length_append,iv_len,iv_len]; omega) (ones_iv m)
        refine ⟨.slice (some ⟨b,0,s⟩) (l.length + m.length) cap,some b,_,?_,(Upd.refl (fun x => some x = some b) h).put (.inl rfl) (H.get_lt hg) (.cells (iv (l ++ m) ++ rest.drop m.length) 3 0 true),.inr ⟨b,s,rest.drop m.length,cap,rfl,by rw [List.length_append],es,H.put_self hg,by rw [List.length_append]; omega,by rw [List.length_append,List.length_drop]; omega⟩,.inl rfl⟩
        have hcell : (iv l ++ rest).take (0 + l.length * 1) ++ (iv m ++ (iv l ++ rest).drop (0 + l.length * 1 + (iv m).length)) = iv (l ++ m) ++ rest.drop m.length := by
          rw [Nat.zero_add,Nat.mul_one,List.take_left' (iv_len l),← List.drop_drop,List.drop_left' (iv_len l),iv_len,iv_append,List.append_assoc]
        rw [hcell] at hw
        exact xappS_in LI.el LI.sz LI.iss f1 (by rw [hc]; exact f2) hfit hm (by rw [hc]; exact hw)
      · have hold : firstC h (Try.prog.cellsOf 3) l.length (.slice (some ⟨b,0,s⟩) l.length cap) = some (iv l) := by
          show h.row ⟨b,0,none⟩ (l.length * _) = _
          rw [hc,H.row_eq hg (by rw [List.length_append,iv_len]; omega),List.drop_zero,Nat.mul_one,List.take_left' (iv_len l)]
        have hok : appOk 3 h (some ⟨b,0,s⟩) = true := by
          unfold appOk
          simp only [hg]
          rfl
        have e1 := xapp_new (k := m.length) (base := some ⟨b,0,s⟩) (n := l.length) (cap := cap) (old := iv l) (new := iv m) LI.el LI.sz LI.iss f1 (by rw [hc]; exact f2) hold hfit b1 (by omega) (by omega) LI.zf (ones_iv m) hok
        have hlv : Upd (fun x => some x = some b) h (h.leave (some ⟨b,0,s⟩)) ∧ (h.leave (some ⟨b,0,s⟩)).next = h.next := by
          rcases es with rfl | rfl
          · have : h.leave (some ⟨b,0,none⟩) = h.put b .dead := by unfold H.leave; simp only [hg]
            rw [this]
            exact ⟨(Upd.refl (fun x => some x = some b) h).put (.inl rfl) (H.get_lt hg) _,rfl⟩
          · have : h.leave (some ⟨b,0,some 0⟩) = h := by unfold H.leave; simp only [hg]
            rw [this]
            exact ⟨Upd.refl _ _,rfl⟩
        refine ⟨_,some h.next,_,e1,hlv.1.alloc _,.inr ⟨h.next,none,[],l.length + m.length,rfl,by rw [List.length_append],.inl rfl,?_,by rw [List.length_append]; exact Nat.le_refl _,by rw [List.length_append]; exact Nat.le_refl _⟩,.inr ⟨_,rfl,Nat.le_refl _⟩⟩
        rw [← hlv.2,H.alloc_self,iv_append,List.append_nil]
structure CyS (h0 h : H) (n bs : Nat) (seen : Nat → Bool) (v : Value) (br : Option Nat) (todo : List Nat) : Prop where
  gr : Grow h0 h
  s : BL h bs n false seen
  t : TQ h v br (nl todo)
  fs : h0.next ≤ bs
  ft : ∀ b,br = some b → h0.next ≤ b
theorem cy_loop {h0 : H} {x0 : Value} {ts : List TK} (T : Tasks h0 x0 ts) (F : Few ts) {i : Nat} (hi : i < ts.length) {x1 x5 e1 e2 e3 e4 e5 e6 e7 e8 e9 e10 : Value} : ∀ (m : Nat) {h : H} {bs : Nat} {seen : Nat → Bool} {v : Value} {br : Option Nat} {todo : List Nat},
    todo.length + sumN ts.length (fun k => if seen k then 0 else (nd ts k).length) = m → m ≤ 100000 → CyS h0 h ts.length bs seen v br todo → Dfs (nd ts) i seen todo → seen i = false → (∀ k ∈ todo,k < ts.length) →
    ∃ h' seen' y1 y2 y3 y4 y5,Grow h0 h' ∧ BL h' bs ts.length false seen' ∧ (seen' i = true ↔ OnC (nd ts) i) ∧
      F24.l8 Try.prog CLM nu0 nu0 x0 x1 x5 (.int .i64 (i : Nat)) (.slice (some ⟨bs,0,none⟩) ts.length ts.length) v e1 e2 e3 e4 e5 e6 e7 e8 e9 e10 h = F24.j16 Try.prog CLM nu0 nu0 x0 x1 x5 (.int .i64 (i : Nat)) (.slice (some ⟨bs,0,none⟩) ts.length ts.length) e1 e2 e3 e4 e5 e6 e7 e8 e9 e10 y1 y2 y3 y4 y5 h' := by
  intro m
  induction m using Nat.strongRecOn with
  | ind m ih =>
  intro h bs seen v br todo hm hb s d hsi hlt
  have hn := F.n
  obtain ⟨i1,i2⟩ := s.s.ld (m := ts.length) (cap := ts.length) hi hi
  rcases snoc_cases todo with rfl | ⟨t,j,rfl⟩
  · refine ⟨h,seen,.tuple #[],.tuple #[],.tuple #[],.tuple #[],.tuple #[],s.gr,s.s,⟨fun z => (by rw [hsi] at z; cases z),fun z => absurd z d.no⟩,?_⟩
    have hl : (nl ([] : List Nat)).length = 0 := rfl
    rw [F24.l8_eq,s.t.il.len,go_ok,xgtr,go_ok,hl,ifV_dec,if_neg (by omega)]
  · obtain ⟨p1,⟨a,p2,p3⟩,v',p4,p5⟩ := s.t.pop
    have hjn : j < ts.length := hlt j (by simp)
    rw [List.length_append,List.length_singleton] at hm
    obtain ⟨b1,b2⟩ := s.s.ld (m := ts.length) (cap := ts.length) hjn hjn
    rw [hsi] at i2
    have top : F24.l8 Try.prog CLM nu0 nu0 x0 x1 x5 (.int .i64 (i : Nat)) (.slice (some ⟨bs,0,none⟩) ts.length ts.length) v e1 e2 e3 e4 e5 e6 e7 e8 e9 e10 h = ifV (.bool (!seen j))
        ((xindexAddr Try.prog 83 (.slice (some ⟨bs,0,none⟩) ts.length ts.length) (.int .i64 (j : Nat)) h).go .pan fun t39 h => (xstore Try.prog 4 t39 (.bool true) h).go .pan fun t40 h => (CLM (.f 21) [x0,.int .i64 (j : Nat)] h).go .pan fun t41 h => (xbuiltin Try.prog .append [27,27] [v',t41] h).go .pan fun t42 h => F24.l8 Try.prog CLM nu0 nu0 x0 x1 x5 (.int .i64 (i : Nat)) (.slice (some ⟨bs,0,none⟩) ts.length ts.length) t42 e1 e2 e3 e4 e5 e6 e7 e8 e9 e10 h)
        (F24.l8 Try.prog CLM nu0 nu0 x0 x1 x5 (.int .i64 (i : Nat)) (.slice (some ⟨bs,0,none⟩) ts.length ts.length) v' e1 e2 e3 e4 e5 e6 e7 e8 e9 e10 h) := by
      rw [F24.l8_eq,p1,go_ok,xgtr,go_ok,ifV_dec,if_pos (by omega),i1,go_ok,i2,go_ok,xun_not,go_ok,show (!false) = true from rfl,ifV_t,F24.j9_eq,p1,go_ok,xsub,go_ok,wsub1 (by omega) (by omega),Nat.add_sub_cancel,p2,go_ok,p3,go_ok,p1,go_ok,xsub,go_ok,wsub1 (by omega) (by omega),Nat.add_sub_cancel,p4,go_ok,xlss,go_ok,ifV_dec,if_neg (by omega),(T.grow s.gr).len,go_ok,xgeq,go_ok,ifV_dec,if_neg (by omega),F24.j13_eq,b1,go_ok,b2,go_ok,xun_not,go_ok,b1]
    rw [top]
    cases hs : seen j with
    | true =>
      rw [show (!true) = false from rfl,ifV_f]
      exact ih (t.length + sumN ts.length (fun k => if seen k then 0 else (nd ts k).length)) (by omega) rfl (by omega) ⟨s.gr,s.s,p5,s.fs,s.ft⟩ (d.skip hs) hsi (fun k hk => hlt k (by simp [hk]))
    | false =>
      rw [show (!false) = true from rfl,ifV_t]
      obtain ⟨h1,w1,u1,B1⟩ := s.s.st hjn true
      have G1 : Grow h0 h1 := grow_then s.gr u1 fun b hb => hb ▸ s.fs
      have t1 : TQ h1 v' br (nl t) := p5.upd u1 fun b hb z => p5.ne2 s.s (by rw [hb,z])
      obtain ⟨h2,vN,bN,g2,N,hbN,eN⟩ := eNeeds (T.grow G1) F (j : Int)
      have en : ndI ts (j : Int) = nl (nd ts j) := by unfold ndI; rw [if_pos (by omega),Int.toNat_natCast]; rfl
      rw [en] at N
      have t2 := t1.upd (g2.upd fun _ => False) (fun _ _ => id)
      have B2 : BL h2 bs ts.length false (updN seen j true) := g2.old _ _ B1
      have hsum := sumN_upd (f := fun k => if seen k then 0 else (nd ts k).length) (f' := fun k => if updN seen j true k then 0 else (nd ts k).length) (j := j) (fun k hk => by simp only [updN_ne hk]) hjn
      simp only [hs,updN_eq,if_true,Bool.false_eq_true,if_false] at hsum
      obtain ⟨v2,br2,h3,eA,u3,t3,nb3⟩ := t2.app (by rw [nl_len,nl_len]; omega) N.nl.1
      have G2 := G1.trans g2
      have G3 : Grow h0 h3 := grow_then G2 u3 fun b hb => s.ft b hb.symm
      have B3 : BL h3 bs ts.length false (updN seen j true) := B2.upd u3 fun z => t2.ne2 B2 z.symm
      rw [← nl_append] at t3
      have hft : ∀ b,br2 = some b → h0.next ≤ b := fun b hb => by
        rcases nb3 with z | ⟨b',z,z2⟩
        · exact s.ft b (z ▸ hb)
        · rw [z] at hb; cases hb; exact Nat.le_trans G2.next z2
      rw [b1,go_ok,w1,go_ok,eN,go_ok,eA,go_ok]
      by_cases hji : j = i
      · subst hji
        obtain ⟨k1,k2⟩ := B3.ld (m := ts.length) (cap := ts.length) hjn hjn
        rw [updN_eq] at k2
        by_cases hz : (t ++ nd ts j).length = 0
        · refine ⟨h3,_,.tuple #[],.tuple #[],.tuple #[],.tuple #[],.tuple #[],G3,B3,⟨fun _ => d.yes,fun _ => updN_eq⟩,?_⟩
          rw [F24.l8_eq,t3.il.len,go_ok,nl_len,xgtr,go_ok,ifV_dec,if_neg (by omega)]
        · refine ⟨h3,_,.slice (some ⟨bs,0,none⟩) ts.length ts.length,.int .i64 (j : Nat),.pointer (some ⟨bs,0 + j * 1,none⟩),.bool true,.bool false,G3,B3,⟨fun _ => d.yes,fun _ => updN_eq⟩,?_⟩
          rw [F24.l8_eq,t3.il.len,go_ok,nl_len,xgtr,go_ok,ifV_dec,if_pos (by omega),k1,go_ok,k2,go_ok,xun_not,go_ok,show (!true) = false from rfl,ifV_f]
      · exact ih ((t ++ nd ts j).length + sumN ts.length (fun k => if updN seen j true k then 0 else (nd ts k).length)) (by rw [List.length_append]; omega) rfl (by rw [List.length_append]; omega)
          ⟨G3,B3,t3,s.fs,hft⟩
          (d.mark hji fun k => by
            by_cases e : k = j
            · subst e; simp [updN_eq]
            · simp [updN_ne e,e])
          (by rw [updN_ne (fun z => hji z.symm)]; exact hsi)
          (fun k hk => by
            rcases List.mem_append.1 hk with z | z
            · exact hlt k (by simp [z])
            · exact nd_lt z)
theorem cy_at {h0 : H} {x0 : Value} {ts : List TK} (T : Tasks h0 x0 ts) (F : Few ts) {i : Nat} (hi : i < ts.length) {name : ByteArray} (hmin : OnC (nd ts) i → sLt (nm ts (i : Int)) name = false) (s : Bool) (e1 e2 e3 e4 e5 e6 e7 e8 e9 e10 : Value) :
    ∃ h' r,Grow h0 h' ∧ (r = true ↔ OnC (nd ts) i) ∧ F24.j6 Try.prog CLM nu0 nu0 x0 (.string name) (.bool s) (.int .i64 (i : Nat)) e1 e2 e3 e4 e5 e6 e7 e8 e9 e10 h0 = F24.j4 Try.prog CLM nu0 nu0 x0 (.string name) (.bool (s || r)) (.int .i64 (i : Nat)) e1 e2 e3 e4 e5 e6 e7 e8 e9 e10 h' := by
  have hn := F.n
  obtain ⟨h1,w1,g1,B1,n1⟩ := BL.new (n := ts.length) (by omega) h0
  obtain ⟨h2,v,br,g2,N,hbr,eN⟩ := eNeeds (T.grow g1) F (i : Int)
  have en : ndI ts (i : Int) = nl (nd ts i) := by unfold ndI; rw [if_pos (by omega),Int.toNat_natCast]; rfl
  rw [en] at N
  obtain ⟨br',Q,hq⟩ := TQ.of N (fun _ _ => trivial)
  have hs : sumN ts.length (fun k => if false = true then 0 else (nd ts k).length) ≤ 60000 := F.e
  have hd := nd_len ts i
  have G := g1.trans g2
  obtain ⟨h3,seen,y1,y2,y3,y4,y5,g3,B3,hr,e3⟩ := cy_loop (x1 := .string name) (x5 := .bool s) (e1 := e1) (e2 := e2) (e3 := e3) (e4 := e4) (e5 := e5) (e6 := e6) (e7 := e7) (e8 := e8) (e9 := e9) (e10 := e10) T F hi _ (h := h2) (bs := h0.next) (seen := fun _ => false) (v := v) (br := br') (todo := nd ts i) rfl (by omega)
    ⟨G,g2.old _ _ B1,Q,Nat.le_refl _,fun b hb => Nat.le_trans g1.next (hbr b (hq b hb))⟩ (Dfs.init _ _) rfl (fun k hk => nd_lt hk)
  obtain ⟨i1,i2⟩ := B3.ld (m := ts.length) (cap := ts.length) hi hi
  obtain ⟨b,o,vi,vo,a1,row,-⟩ := (T.grow g3).at_ (List.getElem?_eq_getElem hi)
  have c1 := row.cell (j := 0) rfl
  rw [Nat.add_zero,← nm_at (List.getElem?_eq_getElem hi)] at c1
  have l1 : xload Try.prog 9 (.pointer (some ⟨b,o,none⟩)) h3 = .ok (.string (nm ts (i : Int))) h3 := by rw [ld9,c1,ofO_some]
  refine ⟨h3,seen i,g3,hr,?_⟩
  rw [F24.j6_eq,T.len,go_ok,w1,go_ok,eN,go_ok,e3,F24.j16_eq,i1,go_ok,i2,go_ok]
  cases hsi : seen i with
  | true =>
    rw [hsi] at i2
    rw [ifV_t,a1,go_ok,fa55_0,go_ok,l1,go_ok,xslss,go_ok,hmin (hr.1 hsi),ifV_f,F24.j18_eq]
    cases s with
    | true => rw [ifV_t]; rfl
    | false => rw [ifV_f,i1,go_ok,i2,go_ok]; rfl
  | false =>
    rw [hsi] at i2
    rw [ifV_f,F24.j18_eq]
    cases s with
    | true => rw [ifV_t]; rfl
    | false => rw [ifV_f,i1,go_ok,i2,go_ok]; rfl
def CyI (ts : List TK) (c i : Nat) (s : Bool) : Prop := s = true ↔ ∃ k,k < i ∧ OnC (nd ts) k ∧ nm ts (k : Int) = nm ts (c : Int)
theorem cy_main {h0 : H} {x0 : Value} {ts : List TK} (T : Tasks h0 x0 ts) (F : Few ts) {c : Nat} (C : CycMin ts c) : ∀ (d i : Nat) {h : H} {s : Bool},ts.length - i = d → i ≤ ts.length → Grow h0 h → CyI ts c i s →
    ∃ h',Grow h0 h' ∧ F24.l3 Try.prog CLM nu0 nu0 x0 (.string (nm ts (c : Int))) (.bool s) (.int .i64 (i : Nat)) h = .ok (.bool true) h' := by
  intro d
  have hn := F.n
  have hmin : ∀ j : Nat,OnC (nd ts) j → sLt (nm ts (j : Int)) (nm ts (c : Int)) = false := fun j hj => by
    have := C.2.2 j hj
    unfold aLt at this
    rw [Bool.or_eq_false_iff] at this
    exact this.1
  induction d with
  | zero =>
    intro i h s hd hi g hs
    have : i = ts.length := by omega
    subst this
    have st : s = true := hs.2 ⟨c,C.1,C.2.1,rfl⟩
    refine ⟨h,g,?_⟩
    rw [F24.l3_eq,(T.grow g).len,go_ok,xlss,go_ok,ifV_dec,if_neg (by omega),F24.j19_eq,st]
  | succ d ih =>
    intro i h s hd hi g hs
    have hil : i < ts.length := by omega
    obtain ⟨b,o,vi,vo,a1,row,-⟩ := (T.grow g).at_ (List.getElem?_eq_getElem hil)
    have c1 := row.cell (j := 0) rfl
    rw [Nat.add_zero,← nm_at (List.getElem?_eq_getElem hil)] at c1
    have l1 : xload Try.prog 9 (.pointer (some ⟨b,o,none⟩)) h = .ok (.string (nm ts (i : Int))) h := by rw [ld9,c1,ofO_some]
    have nxt : ∀ {h1 : H} {s' : Bool},Grow h0 h1 → CyI ts c (i + 1) s' → ∀ z1 z2 z3 z4 z5 z6 z7 z8 z9 z10 : Value,
        ∃ h',Grow h0 h' ∧ F24.j4 Try.prog CLM nu0 nu0 x0 (.string (nm ts (c : Int))) (.bool s') (.int .i64 (i : Nat)) z1 z2 z3 z4 z5 z6 z7 z8 z9 z10 h1 = .ok (.bool true) h' := by
      intro h1 s' g1 hs' z1 z2 z3 z4 z5 z6 z7 z8 z9 z10
      obtain ⟨h',g',e'⟩ := ih (i + 1) (by omega) (by omega) g1 hs'
      refine ⟨h',g',?_⟩
      rw [F24.j4_eq,xadd,go_ok,wadd1 (by omega)]
      exact e'
    have look : ∀ (s0 : Bool),s0 = s → ¬ (sLt (nm ts (c : Int)) (nm ts (i : Int)) = true) → ∀ z1 z2 z3 z4 z5 z6 z7 z8 z9 z10 : Value,
        ∃ h',Grow h0 h' ∧ F24.j6 Try.prog CLM nu0 nu0 x0 (.string (nm ts (c : Int))) (.bool s0) (.int .i64 (i : Nat)) z1 z2 z3 z4 z5 z6 z7 z8 z9 z10 h = .ok (.bool true) h' := by
      intro s0 es hle z1 z2 z3 z4 z5 z6 z7 z8 z9 z10
      subst es
      obtain ⟨h1,r,g1,hr,e1⟩ := cy_at (T.grow g) F hil (name := nm ts (c : Int)) (hmin i) s0 z1 z2 z3 z4 z5 z6 z7 z8 z9 z10
      rw [e1]
      refine nxt (g.trans g1) (Iff.intro (fun z => ?_) fun ⟨k,k1,k2,k3⟩ => ?_) ..
      · rw [Bool.or_eq_true] at z
        rcases z with z | z
        · obtain ⟨k,k1,k2,k3⟩ := hs.1 z
          exact ⟨k,by omega,k2,k3⟩
        · refine ⟨i,by omega,hr.1 z,?_⟩
          rcases sLt_tri (nm ts (i : Int)) (nm ts (c : Int)) with w | w | w
          · rw [hmin i (hr.1 z)] at w; cases w
          · exact w
          · exact absurd w hle
      · rw [Bool.or_eq_true]
        by_cases e : k = i
        · subst e; exact .inr (hr.2 k2)
        · exact .inl (hs.2 ⟨k,by omega,k2,k3⟩)
    rw [F24.l3_eq,(T.grow g).len,go_ok,xlss,go_ok,ifV_dec,if_pos (by omega),F24.j5_eq,a1,go_ok,fa55_0,go_ok,l1,go_ok,xsgtr,go_ok]
    rcases sLt_tri (nm ts (i : Int)) (nm ts (c : Int)) with w | w | w
    · have hne : ¬ nm ts (i : Int) = nm ts (c : Int) := fun z => by rw [z,sLt_irrefl] at w; cases w
      rw [w,show (!(true || decide (nm ts (i : Int) = nm ts (c : Int)))) = false by simp,ifV_f,a1,go_ok,fa55_0,go_ok,l1,go_ok,xseql,go_ok,ifV_dec,if_neg hne]
      exact look s rfl (fun z => by rw [sLt_asymm w] at z; cases z) ..
    · rw [w,sLt_irrefl,show (!(false || decide (nm ts (c : Int) = nm ts (c : Int)))) = false by simp,ifV_f,a1,go_ok,fa55_0,go_ok,l1,go_ok,w,xseql,go_ok,ifV_dec,if_pos rfl]
      cases hsb : s with
      | true =>
        rw [ifV_t]
        rw [hsb] at hs
        refine nxt g (Iff.intro (fun _ => ?_) fun _ => rfl) ..
        obtain ⟨k,k1,k2,k3⟩ := hs.1 rfl
        exact ⟨k,by omega,k2,k3⟩
      | false =>
        rw [ifV_f]
        exact look false hsb.symm (fun z => by rw [w,sLt_irrefl] at z; cases z) ..
    · have hne : ¬ nm ts (i : Int) = nm ts (c : Int) := fun z => by rw [z,sLt_irrefl] at w; cases w
      rw [sLt_asymm w,decide_eq_false hne,show (!(false || false)) = true from rfl,ifV_t]
      refine nxt g (Iff.intro (fun z => ?_) fun ⟨k,k1,k2,k3⟩ => hs.2 ⟨k,?_,k2,k3⟩) ..
      · obtain ⟨k,k1,k2,k3⟩ := hs.1 z
        exact ⟨k,by omega,k2,k3⟩
      · by_cases e : k = i
        · subst e; exact absurd k3 hne
        · omega
theorem eCyclic {h0 : H} {x0 : Value} {ts : List TK} (T : Tasks h0 x0 ts) (F : Few ts) {c : Nat} (C : CycMin ts c) : ∃ h',Grow h0 h' ∧ CLM (.f 24) [x0,.string (nm ts (c : Int))] h0 = .ok (.bool true) h' := by
  obtain ⟨h',g',e'⟩ := cy_main T F C _ 0 (s := false) rfl (Nat.zero_le _) (Grow.refl h0) (Iff.intro (fun z => by cases z) fun ⟨k,k1,_⟩ => absurd k1 (Nat.not_lt_zero k))
  refine ⟨h',g',?_⟩
  rw [cM24,F24.eq,show (Value.int .i64 0) = .int .i64 ((0 : Nat) : Int) from rfl]
  exact e'
end Go.Proofs.Ytdadiidfhnojcaa.K
namespace Go.Proofs.Ytdadiidfhnojcaa.K
open Go Go.Kx Go.ChangeShapes Go.WideShapes Go.ChangeAt Go.RowKit
set_option maxRecDepth 100000
set_option linter.unusedVariables false
theorem orders {h0 : H} {x0 : Value} {ts0 : List TK} (T0 : TasksA h0 x0 ts0) : ∃ h',CLM (.f 5) [x0] h0 = .ok (.bool true) h' ∧ Grow h0 h' := by
  obtain ⟨h1,v,g1,T,e1⟩ := eFew T0
  have F : Few (fewL ts0) := few_few
  obtain ⟨ts,ets⟩ : ∃ ts,ts = fewL ts0 := ⟨_,rfl⟩
  rw [← ets] at T F
  have hn := F.n
  obtain ⟨h2,a,ca,na,g2,ra,e2⟩ := eOrder T F
  obtain ⟨h3,c,cc,nc,g3,rc,e3⟩ := eLevels (T.grow g2) F
  have G3 := (g1.trans g2).trans g3
  have T3 := T.grow (g2.trans g3)
  rcases ra with ⟨x,hx,rfl,rfl,rfl⟩ | ⟨no,R,b,io,hl,hb,oa,rfl,rfl,rfl⟩
  · rcases rc with ⟨y,hy,rfl,rfl,rfl⟩ | ⟨no,_⟩
    rotate_left
    · exact absurd hx.2.1 (no x)
    have := hx.uniq hy
    subst this
    obtain ⟨h4,g4,e4⟩ := eCyclic T3 F hx
    obtain ⟨h5,g5,e5⟩ := eStarted h4
    refine ⟨h5,?_,(G3.trans g4).trans g5⟩
    rw [cM5,F5.eq,e1,go_ok,e2,go_ok,xextract_0,go_ok,xextract_1,go_ok,xextract_2,go_ok,e3,go_ok,xextract_0,go_ok,xextract_1,go_ok,xextract_2,go_ok,eNum,go_ok,eNum,go_ok,xneq,go_ok,ifV_not,if_pos rfl,xsneq,go_ok,ifV_not,if_pos rfl,
      F5.j6_eq,eNum,go_ok,xneq,go_ok,ifV_not,if_neg (by decide),eNum,go_ok,xeql,go_ok,ifV_dec,if_pos rfl,ln27,go_ok,ln33,go_ok,xadd,go_ok,xeql,go_ok,ifV_dec,if_pos (by decide),e4,go_ok,ifV_t,e5,go_ok]
  · rcases rc with ⟨y,hy,_⟩ | ⟨_,L,ls,bo,w,V,o,rfl,rfl⟩
    · exact absurd hy.2.1 (no y)
    have I : IL h3 (.slice (some ⟨b,0,none⟩) ts.length ts.length) (nl R) := (Out.il oa hl).grow g3
    obtain ⟨h4,e4,g4,q4,n4⟩ := AL.new (n := ts.length) (by omega) h3
    have q4 : ZL h4 h3.next ts.length (fun j => ((0 : Nat) : Int)) := q4
    obtain ⟨h5,Z5,u5,q5,z5,e5⟩ := or_fill (x3 := .slice (some ⟨b,0,none⟩) ts.length ts.length) (x6 := c) T3 F (Nat.le_refl h3.next) _ 0 rfl (Nat.zero_le _) g4 q4 (fun j hj => absurd hj (Nat.not_lt_zero j))
    have g5 : Grow h3 h5 := grow_then g4 u5 fun y hy => by rw [hy]; exact Nat.le_refl _
    obtain ⟨h6,Z6,u6,q6,P6,e6⟩ := or_scan (x6 := c) T3 F io hl (Nat.le_refl h3.next) (Grow.refl h3) I (fun y hy => absurd (H.get_lt hy) (Nat.lt_irrefl _)) _ 0 rfl (Nat.zero_le _) g5 q5 ⟨fun k x hk _ => absurd hk (Nat.not_lt_zero k),fun x hx _ => z5 x (by omega)⟩
    have g6 : Grow h3 h6 := grow_then g5 u6 fun y hy => by rw [hy]; exact Nat.le_refl _
    obtain ⟨h7,g7,e7⟩ := oo_main (x6 := c) (T3.grow g6) F io hl (I.grow g6) q6 P6 _ 0 rfl (Nat.zero_le _) (Grow.refl h6)
    have G7 := g6.trans g7
    obtain ⟨h8,g8,e8⟩ := eLeveled (T3.grow G7) F V ⟨_,_,_,o.grow G7⟩
    obtain ⟨h9,g9,e9⟩ := eStarted h8
    refine ⟨h9,?_,((G3.trans G7).trans g8).trans g9⟩
    rw [cM5,F5.eq,e1,go_ok,e2,go_ok,xextract_0,go_ok,xextract_1,go_ok,xextract_2,go_ok,e3,go_ok,xextract_0,go_ok,xextract_1,go_ok,xextract_2,go_ok,eNum,go_ok,eNum,go_ok,xneq,go_ok,ifV_not,if_pos rfl,xsneq,go_ok,ifV_not,if_pos rfl,
      F5.j6_eq,eNum,go_ok,xneq,go_ok,ifV_not,if_pos rfl,F5.j8_eq,ln27,go_ok,T3.len,go_ok,xneq,go_ok,ifV_not,if_pos rfl,F5.j10_eq,T3.len,go_ok,e4,go_ok,show (Value.int .i64 0) = .int .i64 ((0 : Nat) : Int) from rfl,e5,F5.j15_eq,show (Value.int .i64 0) = .int .i64 ((0 : Nat) : Int) from rfl,e6,F5.j21_eq,show (Value.int .i64 0) = .int .i64 ((0 : Nat) : Int) from rfl,e7,F5.j39_eq,e8,go_ok,ifV_t,e9,go_ok]
theorem trodAll_one' {H : Type} {enc : TypeId × Value → H} {P : Program} {w : World} {base : Nat} {spare : Nat → Bool} {held : Bool} {t0 : TypeId} {args : Array Value} {ds : List (DataW H)} {ps : List MemPlace} (h : DataW.TrodAll enc P w base spare held [t0] args.toList ds ps) :
    ∃ v0 d0 p0,args = #[v0] ∧ ds = [d0] ∧ DataW.Trod enc P w base spare held t0 v0 d0 p0 := by
  obtain ⟨v0,vs,d0,ds',p0,q,hargs,rfl,rfl,hd,hrest⟩ := trodAll_cons h
  obtain ⟨rfl,rfl,rfl⟩ := trodAll_nil hrest
  exact ⟨v0,d0,p0,by cases args; simp_all,rfl,hd⟩
theorem contract5 (H : Type) (enc : TypeId × Value → H) (W : World) (base : Nat) (args : Array Value) (ds gs : List (DataW H)) (before : List MemPlace)
    (hval : ∀ (j : Nat) t v,Try.f5.params[j]? = some t → args[j]? = some v → Value.okWide Try.prog W .any base t v)
    (hW : DataW.Whole enc Try.prog Try.f5.params.toList Rows.graphOrdersSpec.vars false W args.toList ds gs before) :
    Calls Try.prog 5 args W fun e W' => ∃ v,e = .returned v ∧ Rows.graphOrdersSpec.post enc Try.prog Try.f5 false true false false W args v W' := by
  have hW' := hW
  obtain ⟨p,q,hA0,hV,rfl,hfz,hnd⟩ := hW
  have hA : DataW.TrodAll enc Try.prog W 0 (fun _ => true) true Try.f5.params.toList args.toList ds p := hA0
  rw [Try.params5] at hA hval
  obtain ⟨v0,d0,p0,rfl,rfl,h0⟩ := trodAll_one' hA
  obtain ⟨u,ts,rx0,T,_⟩ := read_tasks (hval 0 _ v0 rfl rfl) h0
  obtain ⟨h',hr,hg⟩ := orders T
  refine bare_true laidOut' ?_ rfl Try.func5 (by kernel_rfl) (by kernel_rfl) (tb := 4) (by kernel_rfl) Try.underlying4 rfl hW' CLM_ok ?_ hr hg
  · rw [Try.params5]
    intro t ht
    simp only [List.mem_cons,List.not_mem_nil,or_false] at ht
    subst ht
    exact ⟨by kernel_rfl,of_decide_eq_true (by kernel_rfl)⟩
  · exact .cons rx0 .nil
theorem lifted5 (os : Os) (started : os.Started) (H : Type) (enc : TypeId × Value → H) :
    ReturnsInHanded {} Try.checked os 5 .any (Rows.graphOrdersSpec.pre6 enc Try.prog Try.f5 Rows.graphOrdersRow.domain false) (Rows.graphOrdersSpec.post enc Try.prog Try.f5 false true false false) := by
  refine returnsInHanded_of_change (C := Try.checked) own' started (by kernel_rfl) Try.func5
    (ChangeSpec.witness6 (enc := enc) (C := Try.checked) false ⟨#[],#[.slice none 0 0],[]⟩ 8 (by kernel_rfl) (by kernel_rfl) (by kernel_rfl) (by kernel_rfl)) ?_
  intro W base args ds gs before hval hW _ _
  exact contract5 H enc W base args ds gs before hval hW
end Go.Proofs.Ytdadiidfhnojcaa.K
namespace Go.Proofs.Ytdadiidfhnojcaa
open Go
set_option maxRecDepth 100000
theorem graphOrders_holds : Rows.GraphOrdersSaid :=
  OpenClaim.holds_of_wide 5 Try.f5 rfl rfl rfl rfl rfl rfl rfl ⟨rfl,rfl,rfl,rfl,rfl⟩ rfl rfl rfl rfl rfl (by kernel_rfl) Try.func5 (by kernel_rfl)
    (of_decide_eq_true (by kernel_rfl)) (by unfold Func.isWrapper; first | (rw [if_pos (by decide +kernel)]; kernel_rfl) | (rw [if_neg (by decide +kernel)]; exact ⟨rfl,rfl⟩))
    (fun os started H enc _ => K.lifted5 os started H enc)
end Go.Proofs.Ytdadiidfhnojcaa
#print axioms Go.Proofs.Ytdadiidfhnojcaa.graphOrders_holds
