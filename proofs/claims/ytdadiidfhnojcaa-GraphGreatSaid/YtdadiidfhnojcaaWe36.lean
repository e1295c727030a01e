/- My texts for this claim, in one file: part 36. -/
import Derived.Test.YtdadiidfhnojcaaWe35
namespace Go.Proofs.Ytdadiidfhnojcaa.K
open Go Go.Kx
set_option linter.unusedVariables false
set_option linter.unusedSimpArgs false
set_option maxRecDepth 20000
def ASorted (ts : List TK) (l : List Nat) : Prop := l.Pairwise fun i j : Nat => aLt ts (i : Int) (j : Int) = true
def Out (h : H) (b n : Nat) (R : List Nat) : Prop := ∃ sp,h.get b = some (.cells (iv (nl R) ++ sp) 3 0 false) ∧ R.length + sp.length = n
theorem Out.upd {S : Nat → Prop} {h h' : H} (u : Upd S h h') {b n : Nat} {R : List Nat} (q : Out h b n R) (hS : ¬ S b) : Out h' b n R := by
  obtain ⟨sp,hg,e⟩ := q
  exact ⟨sp,u.old _ _ hS hg,e⟩
theorem Out.push {h : H} {b n : Nat} {R : List Nat} (q : Out h b n R) (hR : R.length < n) {vb x : Nat} (hv : h.get vb = some (.cells [.int .i64 (x : Nat)] 3 0 false)) :
    ∃ h',xbuiltin Try.prog .append [27,27] [.slice (some ⟨b,0,none⟩) R.length n,.slice (some ⟨vb,0,none⟩) 1 1] h = .ok (.slice (some ⟨b,0,none⟩) (R.length + 1) n) h' ∧ Upd (fun y => y = b) h h' ∧ Out h' b n (R ++ [x]) := by
  obtain ⟨sp,hg,e⟩ := q
  cases sp with
  | nil => simp at e; omega
  | cons s sp =>
    have hce : Try.prog.cellsOf 3 = 1 := by kernel_rfl
    have hrow : h.row ⟨vb,0,none⟩ (1 * 1) = some [.int .i64 (x : Nat)] := H.row_all hv rfl
    have hw : h.write ⟨b,R.length,none⟩ [.int .i64 (x : Nat)] = some (h.put b (.cells (iv (nl (R ++ [x])) ++ sp) 3 0 false)) := by
      rw [write_cell' hg (by rw [List.length_append,iv_len,nl_len,List.length_cons]; omega) rfl,nl_append,iv_append]
      congr 3
      rw [List.set_append_right _ _ (by rw [iv_len,nl_len]; exact Nat.le_refl _),iv_len,nl_len,Nat.sub_self,List.append_assoc]
      rfl
    refine ⟨_,xapp_in (k := 1) LI.el LI.sz LI.iss rfl (by rw [hce]; exact hrow) (by omega) (by omega) (by rw [hce,Nat.zero_add,Nat.mul_one]; exact hw),(Upd.refl (fun y => y = b) h).put (.inl rfl) (H.get_lt hg) _,sp,H.put_self hg,by simp at e ⊢; omega⟩
structure OrS (hN h : H) (n bl : Nat) (L : Nat → Nat) (v : Value) (br : Option Nat) (F : List Nat) : Prop where
  gr : Grow hN h
  l : AL h bl n false L
  f : ML h v br F
  fl : hN.next ≤ bl
  ff : ∀ b,br = some b → hN.next ≤ b ∧ b ≠ bl
section
variable {hN h : H} {n bl : Nat} {L : Nat → Nat} {v : Value} {br : Option Nat} {F : List Nat}
theorem OrS.setL (s : OrS hN h n bl L v br F) {j : Nat} (hj : j < n) (x : Nat) :
    ∃ h',xstore Try.prog 3 (.pointer (some ⟨bl,0 + j * 1,none⟩)) (.int .i64 (x : Nat)) h = .ok undef h' ∧ Upd (fun y => y = bl) h h' ∧ OrS hN h' n bl (updN L j x) v br F := by
  obtain ⟨h',e,u,l'⟩ := s.l.st hj x
  exact ⟨h',e,u,grow_then s.gr u fun b hb => hb ▸ s.fl,l',s.f.upd u fun b hb z => (s.ff b hb).2 z,s.fl,s.ff⟩
theorem OrS.congr (s : OrS hN h n bl L v br F) {L' : Nat → Nat} (h1 : ∀ k,k < n → L k = L' k) : OrS hN h n bl L' v br F := ⟨s.gr,s.l.congr h1,s.f,s.fl,s.ff⟩
theorem OrS.ins {g : Nat} {ts : List TK} {vt : Value} (N : Net hN g ts vt) (s : OrS hN h n bl L v br F) {x : Nat} (hx : x < ts.length) (hl : ∀ k ∈ F,k < ts.length) (few : F.length ≤ 60000) (hs : ASorted ts F) (hxl : x ∉ F) :
    ∃ h' v' br' F',OrS hN h' n bl L v' br' F' ∧ F'.Perm (F ++ [x]) ∧ ASorted ts F' ∧ Upd (fun y => some y = br) h h' ∧ (∀ b,br' = some b → h.next ≤ b) ∧ CLM (.f 34) [.pointer (some ⟨g,0,none⟩),v,.int .i64 (x : Nat)] h = .ok v' h' := by
  obtain ⟨h',v',b',l',u,ml,hb,p,srt,e⟩ := eInsert N s.gr s.f hx hl few hs hxl
  have hbl := H.get_lt s.l
  refine ⟨h',v',some b',l',⟨grow_then s.gr u fun b hb => (s.ff b hb.symm).1,s.l.upd u fun z => (s.ff bl z.symm).2 rfl,ml,s.fl,fun b e => ?_⟩,?_,srt,u,fun b e => ?_,e⟩
  · cases e; have := s.gr.next; exact ⟨by omega,by omega⟩
  · exact p.trans (List.perm_append_comm (l₁ := [x]) (l₂ := F))
  · cases e; exact hb
end
theorem or_init {hN : H} {g : Nat} {ts : List TK} {vt vn : Value} {bl : Nat} (N : Net hN g ts vt) (LN : LLv hN vn ts.length (ndL ts)) (F0 : Few ts) :
    ∀ (m i : Nat) {h : H} {v : Value} {br : Option Nat} {F : List Nat},ts.length - i = m → i ≤ ts.length → OrS hN h ts.length bl (fun j => if j < i then (nd ts j).length else 0) v br F → F.Perm ((List.range i).filter fun j => decide ((nd ts j).length = 0)) → ASorted ts F →
      ∃ h' v' br' F',OrS hN h' ts.length bl (cntN (nd ts) []) v' br' F' ∧ F'.Perm ((List.range ts.length).filter fun j => decide ((nd ts j).length = 0)) ∧ ASorted ts F' ∧
        F13.l8 Try.prog CLM nu0 nu0 vt (.pointer (some ⟨g,0,none⟩)) (.slice (some ⟨bl,0,none⟩) ts.length ts.length) v vn (.int .i64 (ts.length : Nat)) (.int .i64 (i : Nat)) h = F13.j14 Try.prog CLM nu0 nu0 vt (.pointer (some ⟨g,0,none⟩)) (.slice (some ⟨bl,0,none⟩) ts.length ts.length) v' h' := by
  intro m
  have hn := F0.n
  induction m with
  | zero =>
    intro i h v br F hm hi s p srt
    have : i = ts.length := by omega
    subst this
    refine ⟨h,v,br,F,s.congr (fun k hk => by rw [if_pos hk,cntN_nil]),p,srt,?_⟩
    rw [F13.l8_eq,xlss,go_ok,F13.j9_eq,ifV_dec,if_neg (by omega)]
  | succ m ih =>
    intro i h v br F hm hi s p srt
    have hil : i < ts.length := by omega
    have hfl := nd_len ts i
    obtain ⟨a,u,a1,a2,I⟩ := LN.at_ hil
    obtain ⟨l1,_⟩ := s.l.ld (m := ts.length) (cap := ts.length) hil hil
    obtain ⟨h1,e1,u1,s1⟩ := s.setL hil (nd ts i).length
    have s2 := s1.congr (L' := fun j => if j < i + 1 then (nd ts j).length else 0) (fun k hk => by
      by_cases e : k = i
      · subst e; rw [updN_eq,if_pos (by omega)]
      · rw [updN_ne e]
        by_cases q : k < i
        · rw [if_pos q,if_pos (by omega)]
        · rw [if_neg q,if_neg (by omega)])
    have hlen : (ndL ts i).length = (nd ts i).length := nl_len _
    have hE : F13.l8 Try.prog CLM nu0 nu0 vt (.pointer (some ⟨g,0,none⟩)) (.slice (some ⟨bl,0,none⟩) ts.length ts.length) v vn (.int .i64 (ts.length : Nat)) (.int .i64 (i : Nat)) h =
        if (((nd ts i).length : Nat) : Int) = 0 then ((CLM (.f 34) [.pointer (some ⟨g,0,none⟩),v,.int .i64 (i : Nat)] h1).go .pan fun t41 h42 => ((xbin Try.prog .add 3 (.int .i64 (i : Nat)) (.int .i64 1) h42).go .pan fun t43 h44 => F13.l8 Try.prog CLM nu0 nu0 vt (.pointer (some ⟨g,0,none⟩)) (.slice (some ⟨bl,0,none⟩) ts.length ts.length) t41 vn (.int .i64 (ts.length : Nat)) t43 h44))
        else ((xbin Try.prog .add 3 (.int .i64 (i : Nat)) (.int .i64 1) h1).go .pan fun t45 h46 => F13.l8 Try.prog CLM nu0 nu0 vt (.pointer (some ⟨g,0,none⟩)) (.slice (some ⟨bl,0,none⟩) ts.length ts.length) v vn (.int .i64 (ts.length : Nat)) t45 h46) := by
      rw [F13.l8_eq,xlss,go_ok,F13.j9_eq,ifV_dec,if_pos (by omega),F13.j9_1_eq,a1,go_ok,a2 _ s.gr,go_ok,I.1.len,go_ok,hlen,l1,go_ok,e1,go_ok,I.1.len,go_ok,hlen,xeql,go_ok,ifV_dec]
    rw [hE]
    by_cases hz : (nd ts i).length = 0
    · rw [if_pos (by omega)]
      have hFl : F.length ≤ 3000 := by
        rw [p.length_eq]
        have := List.length_filter_le (fun j => decide ((nd ts j).length = 0)) (List.range i)
        rw [List.length_range] at this; omega
      obtain ⟨h3,v3,br3,F3,s3,p3,srt3,u3,_,e3⟩ := s2.ins N hil (fun k hk => by
        have := List.mem_range.1 (List.mem_filter.1 (p.mem_iff.1 hk)).1; omega) (by omega) srt (fun hk => by
        have := List.mem_range.1 (List.mem_filter.1 (p.mem_iff.1 hk)).1; omega)
      obtain ⟨h',v',br',F',s',p',srt',e'⟩ := ih (i + 1) (by omega) (by omega) s3 (by
        rw [List.range_succ,List.filter_append,show [i].filter (fun j => decide ((nd ts j).length = 0)) = [i] from List.filter_cons_of_pos (decide_eq_true hz)]
        exact p3.trans (List.Perm.append_right _ p)) srt3
      refine ⟨h',v',br',F',s',p',srt',?_⟩
      rw [e3,go_ok,xadd,go_ok,wadd1 (by omega)]
      exact e'
    · rw [if_neg (by omega)]
      obtain ⟨h',v',br',F',s',p',srt',e'⟩ := ih (i + 1) (by omega) (by omega) s2 (by
        rw [List.range_succ,List.filter_append,show [i].filter (fun j => decide ((nd ts j).length = 0)) = [] from List.filter_cons_of_neg (by rw [decide_eq_true_iff]; exact hz),List.append_nil]
        exact p) srt
      refine ⟨h',v',br',F',s',p',srt',?_⟩
      rw [xadd,go_ok,wadd1 (by omega)]
      exact e'
theorem newZ_sub {f t : Nat → List Nat} {R : List Nat} {i q : Nat} : (newZ f t R i q).Sublist (newZ f t R i (t i).length) := by
  unfold newZ
  rw [List.take_length]
  exact (List.take_sublist _ _).filter _
theorem or_inner {hN : H} {g : Nat} {ts : List TK} {vt u : Value} {bl bo i nn : Nat} {R F : List Nat} (N : Net hN g ts vt) (hn : ts.length ≤ 3000) (hi : i < ts.length) (hiR : i ∉ R) (hbo : hN.next ≤ bo) (hlo : bo ≠ bl) (I : IL hN u (usL ts i))
    (k : Kahn ts.length (nd ts) (R ++ [i]) (F ++ newZ (nd ts) (us ts) R i (us ts i).length)) :
    ∀ (m q : Nat) {h : H} {v : Value} {br : Option Nat} {G : List Nat},(us ts i).length - q = m → q ≤ (us ts i).length → OrS hN h ts.length bl (lefQ (nd ts) (us ts) R i q) v br G → G.Perm (F ++ newZ (nd ts) (us ts) R i q) → ASorted ts G → br ≠ some bo → Out h bo nn (R ++ [i]) →
      ∃ h' v' br' G',OrS hN h' ts.length bl (cntN (nd ts) (R ++ [i])) v' br' G' ∧ G'.Perm (F ++ newZ (nd ts) (us ts) R i (us ts i).length) ∧ ASorted ts G' ∧ br' ≠ some bo ∧ Out h' bo nn (R ++ [i]) ∧
        ∀ vo : Value,F13.l20 Try.prog CLM nu0 nu0 (.pointer (some ⟨g,0,none⟩)) (.slice (some ⟨bl,0,none⟩) ts.length ts.length) v vo u (.int .i64 ((us ts i).length : Nat)) (.int .i64 (q : Nat)) h = F13.l15 Try.prog CLM nu0 nu0 (.pointer (some ⟨g,0,none⟩)) (.slice (some ⟨bl,0,none⟩) ts.length ts.length) v' vo h' := by
  intro m
  have gr := needGr ts
  have hul := us_len ts i
  induction m with
  | zero =>
    intro q h v br G hm hq s p srt nb o
    have : q = (us ts i).length := by omega
    subst this
    refine ⟨h,v,br,G,s.congr (fun k hk => lefQ_end gr hi hk),p,srt,nb,o,fun vo => ?_⟩
    rw [F13.l20_eq,xlss,go_ok,F13.j21_eq,ifV_dec,if_neg (by omega)]
  | succ m ih =>
    intro q h v br G hm hq s p srt nb o
    have hql : q < (us ts i).length := by omega
    have hj : (us ts i)[q]? = some (us ts i)[q] := List.getElem?_eq_getElem hql
    obtain ⟨j,hjd⟩ : ∃ j,j = (us ts i)[q] := ⟨_,rfl⟩
    rw [← hjd] at hj
    have hjn : j < ts.length := gr.tl i j hi (List.mem_of_getElem? hj)
    obtain ⟨z1,z2,z3⟩ := lefQ_step gr hi hiR hj
    obtain ⟨a,a1,a2⟩ := (I.grow s.gr).at_ (show (usL ts i)[q]? = some (j : Int) by unfold usL nl; rw [List.getElem?_map,hj]; rfl)
    obtain ⟨l1,l2⟩ := s.l.ld (m := ts.length) (cap := ts.length) hjn hjn
    rw [z1] at l2
    obtain ⟨h1,e1,u1,s1⟩ := s.setL hjn (cntN (nd ts) (R ++ [i]) j)
    obtain ⟨_,l3⟩ := s1.l.ld (m := ts.length) (cap := ts.length) hjn hjn
    rw [updN_eq] at l3
    have s2 := s1.congr (L' := lefQ (nd ts) (us ts) R i (q + 1)) (fun k _ => by rw [z2 k]; rfl)
    have o1 := o.upd u1 hlo
    have hc : cntN (nd ts) (R ++ [i]) j < 100000 := by
      unfold cntN
      have := List.length_filter_le (fun k => decide (k ∉ R ++ [i])) (nd ts j)
      have := nd_len ts j
      omega
    have hE : ∀ vo : Value,F13.l20 Try.prog CLM nu0 nu0 (.pointer (some ⟨g,0,none⟩)) (.slice (some ⟨bl,0,none⟩) ts.length ts.length) v vo u (.int .i64 ((us ts i).length : Nat)) (.int .i64 (q : Nat)) h =
        if ((cntN (nd ts) (R ++ [i]) j : Nat) : Int) = 0 then ((CLM (.f 34) [.pointer (some ⟨g,0,none⟩),v,.int .i64 (j : Nat)] h1).go .pan fun t99 h100 => ((xbin Try.prog .add 3 (.int .i64 (q : Nat)) (.int .i64 1) h100).go .pan fun t101 h102 => F13.l20 Try.prog CLM nu0 nu0 (.pointer (some ⟨g,0,none⟩)) (.slice (some ⟨bl,0,none⟩) ts.length ts.length) t99 vo u (.int .i64 ((us ts i).length : Nat)) t101 h102))
        else ((xbin Try.prog .add 3 (.int .i64 (q : Nat)) (.int .i64 1) h1).go .pan fun t103 h104 => F13.l20 Try.prog CLM nu0 nu0 (.pointer (some ⟨g,0,none⟩)) (.slice (some ⟨bl,0,none⟩) ts.length ts.length) v vo u (.int .i64 ((us ts i).length : Nat)) t103 h104) := fun vo => by
      rw [F13.l20_eq,xlss,go_ok,F13.j21_eq,ifV_dec,if_pos (by omega),F13.j21_1_eq,a1,go_ok,a2,go_ok,l1,go_ok,l2,go_ok,xsub,go_ok,wsub1 (by omega) (by omega),Nat.add_sub_cancel,l1,go_ok,e1,go_ok,l1,go_ok,l3,go_ok,xeql,go_ok,ifV_dec]
    by_cases hz : cntN (nd ts) (R ++ [i]) j = 0
    · rw [if_pos hz] at z3
      have hnod : (F ++ (newZ (nd ts) (us ts) R i q ++ [j])).Nodup := by
        have h1 := k.nod
        rw [List.nodup_append] at h1
        refine h1.2.1.sublist (List.Sublist.append (List.Sublist.refl _) ?_)
        rw [← z3]; exact newZ_sub
      have hjG : j ∉ G := fun z => by
        rw [p.mem_iff] at z
        rw [← List.append_assoc,List.nodup_append] at hnod
        exact hnod.2.2 j z j (by simp) rfl
      have hGlt : ∀ y ∈ G,y < ts.length := fun y hy => by
        rw [p.mem_iff] at hy
        rcases List.mem_append.1 hy with z | z
        · exact k.lt y (by simp [z])
        · exact k.lt y (by have := newZ_sub.subset z; simp [this])
      have hGlen : G.length ≤ 3000 := by
        have h1 := List.Nodup.length_le_of_subset (p.nodup_iff.2 (by rw [← List.append_assoc,List.nodup_append] at hnod; exact hnod.1)) (l₂ := List.range ts.length) fun y hy => List.mem_range.2 (hGlt y hy)
        rw [List.length_range] at h1; omega
      obtain ⟨h3,v3,br3,G3,s3,p3,srt3,u3,f3,e3⟩ := s2.ins N hjn hGlt (by omega) srt hjG
      have o3 := o1.upd u3 fun z => nb z.symm
      obtain ⟨spx,hox,_⟩ := o1
      obtain ⟨h',v',br',G',s',p',srt',nb',o',e'⟩ := ih (q + 1) (by omega) (by omega) s3 (by
        rw [z3,← List.append_assoc]; exact p3.trans (List.Perm.append_right _ p)) srt3 (fun z => by have := f3 bo z; have := H.get_lt hox; omega) o3
      refine ⟨h',v',br',G',s',p',srt',nb',o',fun vo => ?_⟩
      rw [hE,if_pos (by omega),e3,go_ok,xadd,go_ok,wadd1 (by omega)]
      exact e' vo
    · rw [if_neg hz,List.append_nil] at z3
      obtain ⟨h',v',br',G',s',p',srt',nb',o',e'⟩ := ih (q + 1) (by omega) (by omega) s2 (by rw [z3]; exact p) srt nb o1
      refine ⟨h',v',br',G',s',p',srt',nb',o',fun vo => ?_⟩
      rw [hE,if_neg (by omega),xadd,go_ok,wadd1 (by omega)]
      exact e' vo
theorem or_main {hN : H} {g : Nat} {ts : List TK} {vt : Value} {bl bo : Nat} (N : Net hN g ts vt) (F0 : Few ts) (nc : NoC ts) (hbo : hN.next ≤ bo) (hlo : bo ≠ bl) :
    ∀ (m : Nat) {h : H} {v : Value} {br : Option Nat} {R F : List Nat},ts.length - R.length = m → OrS hN h ts.length bl (cntN (nd ts) R) v br F → Kahn ts.length (nd ts) R F → ASorted ts F → IsOrd ts R → br ≠ some bo → Out h bo ts.length R →
      ∃ h' R',Grow hN h' ∧ IsOrd ts R' ∧ R'.length = ts.length ∧ Out h' bo ts.length R' ∧
        F13.l15 Try.prog CLM nu0 nu0 (.pointer (some ⟨g,0,none⟩)) (.slice (some ⟨bl,0,none⟩) ts.length ts.length) v (.slice (some ⟨bo,0,none⟩) R.length ts.length) h = .ok (.tuple ⟨[.slice (some ⟨bo,0,none⟩) ts.length ts.length,.int .i64 0,.string ⟨#[]⟩]⟩) h' := by
  have hn := F0.n
  have fin : ∀ {h : H} {v : Value} {br : Option Nat} {R : List Nat},OrS hN h ts.length bl (cntN (nd ts) R) v br [] → Kahn ts.length (nd ts) R [] → IsOrd ts R → Out h bo ts.length R → ∃ h' R',Grow hN h' ∧ IsOrd ts R' ∧ R'.length = ts.length ∧ Out h' bo ts.length R' ∧
        F13.l15 Try.prog CLM nu0 nu0 (.pointer (some ⟨g,0,none⟩)) (.slice (some ⟨bl,0,none⟩) ts.length ts.length) v (.slice (some ⟨bo,0,none⟩) R.length ts.length) h = .ok (.tuple ⟨[.slice (some ⟨bo,0,none⟩) ts.length ts.length,.int .i64 0,.string ⟨#[]⟩]⟩) h' := by
    intro h v br R s k io o
    have hR := k.done nc
    refine ⟨h,R,s.gr,io,hR,o,?_⟩
    rw [F13.l15_eq,s.f.len,go_ok,xgtr,go_ok,show ([] : List Nat).length = 0 from rfl,ifV_dec,if_neg (by omega),F13.j26_eq,hR]
  intro m
  induction m with
  | zero =>
    intro h v br R F hm s k srt io nb o
    have hl := k.len
    rw [List.length_append] at hl
    have hF : F = [] := List.length_eq_zero_iff.1 (by omega)
    subst hF
    exact fin s k io o
  | succ m ih =>
    intro h v br R F hm s k srt io nb o
    cases F with
    | nil => exact fin s k io o
    | cons i F =>
      have hl := k.len
      rw [List.length_append,List.length_cons] at hl
      have hi : i < ts.length := k.lt i (by simp)
      have pk := k.pick srt
      have hiR : i ∉ R := pk.1.2.1
      obtain ⟨⟨a,p2,p3⟩,v',p4,p5⟩ := s.f.pop
      have k1 : Kahn ts.length (nd ts) R (F ++ [i]) := k.perm (List.perm_append_comm (l₁ := F) (l₂ := [i]))
      have k2 := k1.step (needGr ts)
      have g1 : Grow h (h.alloc (.cells [.int .i64 (i : Nat)] 3 0 false)) := (Grow.refl h).alloc _
      have eb : xbuildSlice Try.prog 27 1 [(0,.int .i64 (i : Nat))] h = .ok (.slice (some ⟨h.next,0,none⟩) 1 1) (h.alloc (.cells [.int .i64 (i : Nat)] 3 0 false)) := by kernel_rfl
      obtain ⟨h2,e2,u2,o2⟩ := (o.upd (g1.upd fun _ => False) id).push (by omega) (H.alloc_self h (.cells [.int .i64 (i : Nat)] 3 0 false))
      have G2 : Grow hN h2 := grow_then (s.gr.trans g1) u2 fun b hb => hb ▸ hbo
      have s2 : OrS hN h2 ts.length bl (lefQ (nd ts) (us ts) R i 0) v' br F :=
        ⟨G2,AL.congr ((g1.old _ _ s.l |> fun z : AL _ bl ts.length false (cntN (nd ts) R) => z.upd u2 fun z => hlo z.symm)) (fun k _ => by rw [lefQ_zero]),(p5.grow g1).upd u2 fun b hb z => nb (by rw [hb,z]),s.fl,s.ff⟩
      obtain ⟨vn,vu,nn,T,LN,LU⟩ := id N
      obtain ⟨a',u,a1,a2,I⟩ := LU.at_ hi
      obtain ⟨h3,v3,br3,G3,s3,p3',srt3,nb3,o3,e3⟩ := or_inner (F := F) N hn hi hiR hbo hlo I.1 k2 _ 0 rfl (Nat.zero_le _) s2 (by rw [show newZ (nd ts) (us ts) R i 0 = [] by unfold newZ; simp,List.append_nil]) (List.pairwise_cons.1 srt).2 nb o2
      obtain ⟨h',R',g',io',l',o',e'⟩ := ih (by rw [List.length_append,List.length_singleton]; omega) s3 (k2.perm p3') srt3 (io.snoc pk) nb3 o3
      refine ⟨h',R',g',io',l',o',?_⟩
      have n2 := nn.grow G2
      rw [List.length_append,List.length_singleton] at e'
      rw [F13.l15_eq,s.f.len,go_ok,xgtr,go_ok,List.length_cons,ifV_dec,if_pos (by omega),F13.j16_eq,p2,go_ok,p3,go_ok,p4,go_ok,eb,go_ok,e2,go_ok,xnil_ptr,go_ok,fa79_2,go_ok,ld33,n2.u,ofO_some,go_ok,a1,go_ok,a2 _ G2,go_ok,I.1.len,go_ok,show (usL ts i).length = (us ts i).length from nl_len _,
        show (Value.int .i64 0) = .int .i64 ((0 : Nat) : Int) from rfl,e3]
      exact e'
def CycMin (ts : List TK) (c : Nat) : Prop := c < ts.length ∧ OnC (nd ts) c ∧ ∀ j : Nat,OnC (nd ts) j → aLt ts (j : Int) (c : Int) = false
theorem CycMin.uniq {ts : List TK} {a b : Nat} (p : CycMin ts a) (q : CycMin ts b) : a = b := by
  rcases aLt_tri ts (a : Int) (b : Int) with h | h | h
  · have := q.2.2 a p.2.1; rw [h] at this; cases this
  · omega
  · have := p.2.2 b q.2.1; rw [h] at this; cases this
def OrdR (h0 h : H) (ts : List TK) (v : Value) (code : Int) (name : ByteArray) : Prop :=
  (∃ c,CycMin ts c ∧ v = .slice none 0 0 ∧ code = 130 ∧ name = nm ts (c : Int)) ∨
  (NoC ts ∧ ∃ R b,IsOrd ts R ∧ R.length = ts.length ∧ h0.next ≤ b ∧ Out h b ts.length R ∧ v = .slice (some ⟨b,0,none⟩) ts.length ts.length ∧ code = 0 ∧ name = ⟨#[]⟩)
theorem eOrder {h0 : H} {vt : Value} {ts : List TK} (T : Tasks h0 vt ts) (F : Few ts) :
    ∃ h' v code name,Grow h0 h' ∧ OrdR h0 h' ts v code name ∧ CLM (.f 13) [vt] h0 = .ok (.tuple ⟨[v,.int .i64 code,.string name]⟩) h' := by
  have hn := F.n
  obtain ⟨h1,g,g1,fg,N1,e1⟩ := eBuild T F
  obtain ⟨h2,c,g2,hc,e2⟩ := eCycle N1 F
  rcases hc with ⟨hc,no⟩ | ⟨k,hc,hk,ok,mn⟩
  · subst hc
    have N2 := N1.grow g2
    have T2 := T.grow (g1.trans g2)
    obtain ⟨vn,vu,nn,_,LN,LU⟩ := id N2
    obtain ⟨h3,e3,g3,A3,n3⟩ := AL.new (n := ts.length) (by omega) h2
    have n3' := nn.grow g3
    obtain ⟨h4,v4,br4,F4,s4,p4,srt4,e4⟩ := or_init (vn := vn) (bl := h2.next) N2 LN F _ 0 rfl (Nat.zero_le _) (h := h3) (v := .slice none 0 0) (br := none) (F := [])
      ⟨g3,A3.congr (fun k _ => by simp),ML.nil,Nat.le_refl _,fun b z => by cases z⟩ (List.Perm.refl _) List.Pairwise.nil
    have k4 : Kahn ts.length (nd ts) [] F4 := Kahn.init.perm p4
    obtain ⟨h5,hh5⟩ : ∃ h5,h5 = h4.alloc (.cells (iv (List.replicate ts.length 0)) 3 0 false) := ⟨_,rfl⟩
    have g5 : Grow h4 h5 := by rw [hh5]; exact (Grow.refl h4).alloc _
    have o5 : Out h5 h4.next ts.length [] := ⟨iv (List.replicate ts.length 0),by rw [hh5]; exact H.alloc_self _ _,by rw [iv_len]; simp⟩
    have hb4 := H.get_lt s4.l
    have s5 : OrS h2 h5 ts.length h2.next (cntN (nd ts) []) v4 br4 F4 := ⟨s4.gr.trans g5,g5.old _ _ s4.l,s4.f.grow g5,s4.fl,s4.ff⟩
    obtain ⟨h6,R,g6,io,hl,o6,e6⟩ := or_main N2 F no (bo := h4.next) s4.gr.next (by omega) _ rfl s5 k4 srt4 (IsOrd.nil ts) (fun z => by have := s4.f.lt z; omega) o5
    have G6 := (g1.trans g2).trans g6
    refine ⟨h6,_,_,_,G6,.inr ⟨no,R,h4.next,io,hl,by have := (g1.trans g2).next; have := s4.gr.next; omega,o6,rfl,rfl,rfl⟩,?_⟩
    rw [cM13,F13.eq,e1,go_ok,e2,go_ok,xgeq,go_ok,ifV_dec,if_neg (by omega),F13.j5_eq,T.len,go_ok,e3,go_ok,xnil_ptr,go_ok,fa79_1,go_ok,ld33,n3'.n,ofO_some,go_ok,LN.len,go_ok,show (Value.int .i64 0) = .int .i64 ((0 : Nat) : Int) from rfl,e4,F13.j14_eq,T.len,go_ok,mkI0 (by omega),go_ok,← hh5]
    exact e6
  · subst hc
    have G2 := g1.trans g2
    obtain ⟨b,o,vi,vo,a1,row,-⟩ := (T.grow G2).at_ (List.getElem?_eq_getElem hk)
    have c1 := row.cell (j := 0) rfl
    rw [Nat.add_zero] at c1
    have n1 := nm_at (List.getElem?_eq_getElem hk)
    rw [← n1] at c1
    have l1 : xload Try.prog 9 (.pointer (some ⟨b,o,none⟩)) h2 = .ok (.string (nm ts (k : Int))) h2 := by rw [ld9,c1,ofO_some]
    refine ⟨h2,_,_,_,G2,.inl ⟨k,⟨hk,ok,mn⟩,rfl,rfl,rfl⟩,?_⟩
    rw [cM13,F13.eq,e1,go_ok,e2,go_ok,xgeq,go_ok,ifV_dec,if_pos (by omega),a1,Res.ok1_ok,fa55_0,Res.ok1_ok,l1,Res.ok1_ok,l1,rc_str,Bool.and_self,cond_true,cond_true]
end Go.Proofs.Ytdadiidfhnojcaa.K
namespace Go.Proofs.Ytdadiidfhnojcaa.K
open Go Go.Kx
set_option linter.unusedVariables false
set_option linter.unusedSimpArgs false
set_option maxRecDepth 20000
def ndI (ts : List TK) (i : Int) : List Int := if 0 ≤ i ∧ i < ts.length then ndL ts i.toNat else []
theorem eNeeds {h0 : H} {vt : Value} {ts : List TK} (T : Tasks h0 vt ts) (F : Few ts) (i : Int) :
    ∃ h' v br,Grow h0 h' ∧ PL h' v br (ndI ts i) ∧ (∀ b,br = some b → h0.next ≤ b) ∧ CLM (.f 21) [vt,.int .i64 i] h0 = .ok v h' := by
  have no : ¬ (0 ≤ i ∧ i < ts.length) → PL h0 (.slice none 0 0) none (ndI ts i) := fun h => .inl ⟨rfl,if_neg h⟩
  by_cases h1 : i < 0
  · refine ⟨h0,_,none,Grow.refl _,no (by omega),(fun b z => by cases z),?_⟩
    rw [cM21,F21.eq,xlss,go_ok,ifV_dec,if_pos h1]
  · by_cases h2 : (ts.length : Int) ≤ i
    · refine ⟨h0,_,none,Grow.refl _,no (by omega),(fun b z => by cases z),?_⟩
      rw [cM21,F21.eq,xlss,go_ok,ifV_dec,if_neg h1,T.len,go_ok,xgeq,go_ok,ifV_dec,if_pos h2]
    · obtain ⟨k,rfl⟩ : ∃ k : Nat,i = k := ⟨i.toNat,by omega⟩
      have hk : k < ts.length := by omega
      obtain ⟨h',bo,vs,g,fr,hb,hl,D,e⟩ := eNeedsOf T F
      obtain ⟨v,br,hv,P,f⟩ := D k hk
      obtain ⟨l1,l2⟩ := ll_ld (sp := none) (n := ts.length) (cap := ts.length) hb hk hv
      refine ⟨h',v,br,g,by unfold ndI; rw [if_pos (by omega),Int.toNat_natCast]; exact P,f,?_⟩
      rw [cM21,F21.eq,xlss,go_ok,ifV_dec,if_neg h1,T.len,go_ok,xgeq,go_ok,ifV_dec,if_neg h2,F21.j3_eq,e,go_ok,l1,go_ok,l2,go_ok]
theorem LLT : LsT Try.prog 33 27 1 := ⟨by kernel_rfl,by kernel_rfl,by kernel_rfl,by kernel_rfl,by kernel_rfl,by omega,by kernel_rfl,Nat.le_of_ble_eq_true (by kernel_rfl)⟩
def wr (m : Nat) (w : Nat → Value × Option Nat) : List (List Value) := tb m fun k => [(w k).1]
structure LvO (h0 h : H) (sl : Value) (bo : Option Nat) (m : Nat) (w : Nat → Value × Option Nat) (f : Nat → List Nat) : Prop where
  o : Lst 27 1 h sl bo (wr m w)
  fr : ∀ b,bo = some b → h0.next ≤ b
  ol : ∀ k,k < m → OL h (w k).1 (w k).2 (nl (f k)) ∧ ∀ b,(w k).2 = some b → h0.next ≤ b
  ap : ∀ k k' b,k < m → k' < m → k ≠ k' → (w k).2 = some b → (w k').2 ≠ some b
theorem wr_good {h : H} {m : Nat} {w : Nat → Value × Option Nat} {f : Nat → List Nat} (ol : ∀ k,k < m → OL h (w k).1 (w k).2 (nl (f k))) : GoodR 1 (wr m w) := fun r hr => by
  obtain ⟨k,hk,rfl⟩ := List.mem_map.1 hr
  exact ⟨rfl,by
    show ((w k).1.oneCell' && true) = true
    rw [(ol k (List.mem_range.1 hk)).one.2.2]; rfl⟩
theorem wr_len (m : Nat) (w : Nat → Value × Option Nat) : (wr m w).length = m := tb_len _ _
theorem OL.neL {h : H} {v : Value} {br : Option Nat} {l : List Int} (q : OL h v br l) {sl : Value} {bo : Option Nat} {rows : List (List Value)} (o : Lst 27 1 h sl bo rows) {b : Nat} (hb : br = some b) : bo ≠ some b := by
  intro z
  rcases o with ⟨w,_⟩ | ⟨b',sp,cap,w,_,hg,_⟩
  · rw [w] at z; cases z
  · rw [w] at z; cases z
    exact q.ne hg hb
theorem LvO.grow {h0 h h' : H} (g : Grow h h') {sl : Value} {bo : Option Nat} {m : Nat} {w : Nat → Value × Option Nat} {f : Nat → List Nat} (q : LvO h0 h sl bo m w f) : LvO h0 h' sl bo m w f :=
  ⟨q.o.grow g,q.fr,fun k hk => ⟨(q.ol k hk).1.grow g,(q.ol k hk).2⟩,q.ap⟩
theorem LvO.upd {S : Nat → Prop} {h0 h h' : H} (u : Upd S h h') {sl : Value} {bo : Option Nat} {m : Nat} {w : Nat → Value × Option Nat} {f : Nat → List Nat} (q : LvO h0 h sl bo m w f) (h1 : ∀ b,bo = some b → ¬ S b) (h2 : ∀ k b,k < m → (w k).2 = some b → ¬ S b) : LvO h0 h' sl bo m w f :=
  ⟨q.o.upd u h1,q.fr,fun k hk => ⟨(q.ol k hk).1.upd u fun b e => h2 k b hk e,(q.ol k hk).2⟩,q.ap⟩
theorem LvO.len {h0 h : H} {sl : Value} {bo : Option Nat} {m : Nat} {w : Nat → Value × Option Nat} {f : Nat → List Nat} (q : LvO h0 h sl bo m w f) (h' : H) : xbuiltin Try.prog .len [33] [sl] h' = .ok (.int .i64 (m : Nat)) h' := by
  obtain ⟨a,c,e⟩ := q.o.len
  rw [e,wr_len]
  exact ln33 _ _ _ _
theorem LvO.ld {h0 h : H} {sl : Value} {bo : Option Nat} {m : Nat} {w : Nat → Value × Option Nat} {f : Nat → List Nat} (q : LvO h0 h sl bo m w f) {k : Nat} (hk : k < m) :
    ∃ a,(∀ h',xindexAddr Try.prog 33 sl (.int .i64 (k : Nat)) h' = .ok (.pointer (some a)) h') ∧ (∀ h',Grow h h' → xload Try.prog 27 (.pointer (some a)) h' = .ok (w k).1 h') ∧ ∃ b,bo = some b ∧ a = ⟨b,k * 1,none⟩ := by
  obtain ⟨b,cap,c,e1,e2,hg,hle,_,hc⟩ := q.o.at_ (wr_good fun k hk => (q.ol k hk).1) (show (wr m w)[k]? = some [(w k).1] from tb_at _ hk)
  rw [wr_len] at e2
  refine ⟨⟨b,k * 1,none⟩,fun h' => ?_,fun h' g => ?_,b,e1,rfl⟩
  · rw [e2,ia33 _ _ _ _ _ _ _ _ hk,Nat.zero_add]
  · have h0 := hc 0 (by omega)
    rw [H.cell_eq hg] at h0
    rw [ld27,H.cell_eq (g.old _ _ hg)]
    simp only [Nat.add_zero,List.getElem?_cons_zero] at h0
    rw [h0,ofO_some]
theorem LvO.ext {h0 h : H} {sl : Value} {bo : Option Nat} {m : Nat} {w : Nat → Value × Option Nat} {f : Nat → List Nat} (q : LvO h0 h sl bo m w f) (hn : h0.next ≤ h.next) (few : m < 100000) :
    ∃ h' sl' bo',Upd (fun x => some x = bo) h h' ∧ LvO h0 h' sl' bo' (m + 1) (updN w m (.slice none 0 0,none)) (updN f m []) ∧ NewBr h bo bo' ∧
      ∃ t h1,xbuildSlice Try.prog 33 1 [(0,.slice none 0 0)] h = .ok t h1 ∧ xbuiltin Try.prog .append [33,33] [sl,t] h1 = .ok sl' h' := by
  have eb : xbuildSlice Try.prog 33 1 [(0,.slice none 0 0)] h = .ok (.slice (some ⟨h.next,0,none⟩) 1 1) (h.alloc (.cells [.slice none 0 0] 27 0 false)) := by kernel_rfl
  have g1 : Grow h (h.alloc (.cells [.slice none 0 0] 27 0 false)) := (Grow.refl h).alloc _
  have q1 := q.grow g1
  obtain ⟨sl',bo',h',e,u,l,nb⟩ := lst_push LLT q1.o (wr_good fun k hk => (q1.ol k hk).1) (by rw [wr_len]; omega) (H.alloc_self h (.cells [.slice none 0 0] 27 0 false)) rfl rfl
  have hw : wr m w ++ [[Value.slice none 0 0]] = wr (m + 1) (updN w m (.slice none 0 0,none)) := by
    unfold wr tb
    rw [List.range_succ,List.map_append]
    congr 1
    · exact List.map_congr_left fun k hk => by rw [updN_ne (by have := List.mem_range.1 hk; omega)]
    · simp [updN_eq]
  rw [hw] at l
  refine ⟨h',sl',bo',(g1.upd _).trans u,⟨l,fun b e => ?_,fun k hk => ?_,fun k k' b hk hk' hne e1 e2 => ?_⟩,nb.imp id fun ⟨b,w1,w2⟩ => ⟨b,w1,Nat.le_of_succ_le w2⟩,_,_,eb,e⟩
  · rcases nb with z | ⟨b2,z,z2⟩
    · exact q.fr b (z ▸ e)
    · rw [z] at e; cases e; exact Nat.le_trans hn (Nat.le_trans g1.next z2)
  · by_cases e : k = m
    · subst e; rw [updN_eq,updN_eq]; exact ⟨OL.nil,fun b z => by cases z⟩
    · rw [updN_ne e,updN_ne e]
      exact ⟨(q1.ol k (by omega)).1.upd u fun b hb z => (q1.ol k (by omega)).1.neL q1.o hb z.symm,(q.ol k (by omega)).2⟩
  · by_cases a1 : k = m
    · subst a1; rw [updN_eq] at e1; cases e1
    · rw [updN_ne a1] at e1
      by_cases a2 : k' = m
      · subst a2; rw [updN_eq] at e2; cases e2
      · rw [updN_ne a2] at e2
        exact q.ap k k' b (by omega) (by omega) hne e1 e2
theorem LvO.push {h0 h : H} {sl : Value} {bo : Option Nat} {m : Nat} {w : Nat → Value × Option Nat} {f : Nat → List Nat} (q : LvO h0 h sl bo m w f) (hn : h0.next ≤ h.next) {k : Nat} (hk : k < m) (few : (f k).length < 100000) (x : Nat) :
    ∃ h' w',LvO h0 h' sl bo m w' (updN f k (f k ++ [x])) ∧ Upd (fun y => some y = bo ∨ some y = (w k).2) h h' ∧ (∀ j,j < m → ∀ b,(w' j).2 = some b → (w j).2 = some b ∨ h.next ≤ b) ∧
      ∃ t h1 h2 v',xbuildSlice Try.prog 27 1 [(0,.int .i64 (x : Nat))] h = .ok t h1 ∧ Grow h h1 ∧ xbuiltin Try.prog .append [27,27] [(w k).1,t] h1 = .ok v' h2 ∧ Upd (fun y => some y = (w k).2) h h2 ∧
        ∀ a,(∀ h',xindexAddr Try.prog 33 sl (.int .i64 (k : Nat)) h' = .ok (.pointer (some a)) h') → xstore Try.prog 27 (.pointer (some a)) v' h2 = .ok undef h' := by
  obtain ⟨v',br',h2,u,o,nb,eb,ea⟩ := (q.ol k hk).1.push2 (by rw [nl_len]; omega) (x : Int)
  have gd := wr_good fun k hk => (q.ol k hk).1
  have hbo : ∀ b,bo = some b → ¬ some b = (w k).2 := fun b e z => (q.ol k hk).1.neL q.o z.symm e
  have l2 := q.o.upd u hbo
  obtain ⟨b,cap,h',e1,e2,hw,u3,l3⟩ := lst_set l2 gd (i := k) (r := [v']) (by rw [wr_len]; exact hk) rfl (by show (v'.oneCell' && true) = true; rw [o.one.2.2]; rfl)
  have hwr : (wr m w).set k [v'] = wr m (updN w k (v',br')) := by
    unfold wr
    rw [tb_set _ hk]
    exact tb_congr fun j hj => by
      unfold updN
      split <;> rfl
  rw [hwr] at l3
  refine ⟨h',updN w k (v',br'),⟨l3,q.fr,fun j hj => ?_,fun a c d ha hc hac e => ?_⟩,(u.mono fun x _ z => .inr z).trans (u3.mono fun x _ z => .inl z),fun j hj b hb => ?_,_,_,h2,v',eb,(Grow.refl h).alloc _,ea,u,fun a ha => ?_⟩
  · have keep : ∀ {v br l},OL h2 v br l → OL h' v br l := fun o => o.upd u3 fun b e z => o.neL l2 e z.symm
    by_cases e : j = k
    · subst e
      rw [updN_eq,updN_eq,nl_append]
      refine ⟨keep o,fun b hb => ?_⟩
      rcases nb with z | ⟨b2,z,z2⟩
      · exact (q.ol j hj).2 b (z ▸ hb)
      · simp only at hb; rw [z] at hb; cases hb; omega
    · rw [updN_ne e,updN_ne e]
      exact ⟨keep ((q.ol j hj).1.upd u fun b hb z => q.ap k j b hk hj (fun z => e z.symm) z.symm hb),(q.ol j hj).2⟩
  · have fresh : ∀ j,j < m → j ≠ k → br' = some d → (w j).2 ≠ some d := fun j hj hjk z z2 => by
      rcases nb with y | ⟨b2,y,y2⟩
      · exact q.ap k j d hk hj (fun z => hjk z.symm) (y ▸ z) z2
      · rw [y] at z; cases z
        have := (q.ol j hj).1.lt z2
        omega
    by_cases e1 : a = k
    · subst e1
      rw [updN_eq] at e
      rw [updN_ne (fun z => hac z.symm)]
      exact fresh c hc (fun z => hac z.symm) e
    · rw [updN_ne e1] at e
      by_cases e2 : c = k
      · subst e2
        rw [updN_eq]
        exact fun z => fresh a ha hac z e
      · rw [updN_ne e2]
        exact q.ap a c d ha hc hac e
  · by_cases e : j = k
    · subst e
      rw [updN_eq] at hb
      rcases nb with z | ⟨b2,z,z2⟩
      · exact .inl (z ▸ hb)
      · simp only at hb; rw [z] at hb; cases hb; exact .inr z2
    · rw [updN_ne e] at hb; exact .inl hb
  · have h5 := ha h2
    rw [e2,wr_len,ia33 _ _ _ _ _ _ _ _ hk] at h5
    simp only [Res.ok.injEq,Value.pointer.injEq,Option.some.injEq] at h5
    rw [← h5.1,st27 _ _ _ o.one.1,o.one.2.1,Nat.zero_add,hw,ofU_some]
theorem xmax (P : Program) (t : TypeId) (a b : Int) (h : H) : xbuiltin P .max [t,t] [.int .i64 a,.int .i64 b] h = .ok (.int .i64 (if a < b then b else a)) h := by
  show (bif flatL [.int .i64 a,.int .i64 b] then xflat (P := P) (prun P (Builtin.max_ #[] 0 ⟨[.int .i64 a,.int .i64 b]⟩)) h else .bad) = _
  rw [show flatL [Value.int .i64 a,.int .i64 b] = true from rfl,cond_true]
  have e : Builtin.max_ #[] 0 ⟨[.int .i64 a,.int .i64 b]⟩ = (pure (.int .i64 (if b > a then b else a)) : Sem Value) := by simp [Builtin.max_,Builtin.max2]
  rw [e]
  simp [prun,xflat,pure,Sem.pure,flat]
structure LeS (hN h : H) (n bl : Nat) (L : Nat → Nat) (sl : Value) (bo : Option Nat) (m : Nat) (w : Nat → Value × Option Nat) (f : Nat → List Nat) : Prop where
  gr : Grow hN h
  l : AL h bl n false L
  fl : hN.next ≤ bl
  v : LvO hN h sl bo m w f
  vb : ∀ k b,k < m → (w k).2 = some b → b ≠ bl
theorem LeS.bo {hN h : H} {n bl : Nat} {L : Nat → Nat} {sl : Value} {bo : Option Nat} {m : Nat} {w : Nat → Value × Option Nat} {f : Nat → List Nat} (s : LeS hN h n bl L sl bo m w f) : bo ≠ some bl := fun z => by
  rcases s.v.o with ⟨w,_⟩ | ⟨b',sp,cap,w,_,hg,_⟩
  · rw [w] at z; cases z
  · rw [w] at z; cases z
    have := s.l
    unfold AL at this
    rw [hg] at this
    simp only [Option.some.injEq,Blk.cells.injEq] at this
    exact absurd this.2.1 (by decide)
theorem LeS.setL {hN h : H} {n bl : Nat} {L : Nat → Nat} {sl : Value} {bo : Option Nat} {m : Nat} {w : Nat → Value × Option Nat} {f : Nat → List Nat} (s : LeS hN h n bl L sl bo m w f) {j : Nat} (hj : j < n) (x : Nat) :
    ∃ h',xstore Try.prog 3 (.pointer (some ⟨bl,0 + j * 1,none⟩)) (.int .i64 (x : Nat)) h = .ok undef h' ∧ LeS hN h' n bl (updN L j x) sl bo m w f := by
  obtain ⟨h',e,u,l'⟩ := s.l.st hj x
  exact ⟨h',e,grow_then s.gr u fun b hb => hb ▸ s.fl,l',s.fl,s.v.upd u (fun b e z => s.bo (z ▸ e)) (fun k b hk e z => s.vb k b hk e z),s.vb⟩
theorem LeS.congr {hN h : H} {n bl : Nat} {L L' : Nat → Nat} {sl : Value} {bo : Option Nat} {m : Nat} {w : Nat → Value × Option Nat} {f : Nat → List Nat} (s : LeS hN h n bl L sl bo m w f) (e : ∀ k,k < n → L k = L' k) : LeS hN h n bl L' sl bo m w f :=
  ⟨s.gr,s.l.congr e,s.fl,s.v,s.vb⟩
def acc (ts : List TK) (L : Nat → Nat) (i q : Nat) : Nat := ((nd ts i).take q).foldl (fun a j => max a (L j + 1)) 0
theorem acc_next {ts : List TK} {L : Nat → Nat} {i q j : Nat} (h : (nd ts i)[q]? = some j) : acc ts L i (q + 1) = max (acc ts L i q) (L j + 1) := by
  unfold acc
  rw [List.take_add_one,h,List.foldl_append]
  rfl
theorem le_inner {hN : H} {g : Nat} {ts : List TK} {u vo : Value} {bl i pos : Nat} {L : Nat → Nat} {sl : Value} {bo : Option Nat} {m0 : Nat} {w : Nat → Value × Option Nat} {f : Nat → List Nat} (hn : ts.length ≤ 3000) (hi : i < ts.length) (hii : i ∉ nd ts i) (hL : ∀ j,L j ≤ 3000) (I : IL hN u (ndL ts i)) :
    ∀ (m q : Nat) {h : H},(nd ts i).length - q = m → q ≤ (nd ts i).length → LeS hN h ts.length bl (updN L i (acc ts L i q)) sl bo m0 w f →
      ∃ h',LeS hN h' ts.length bl (updN L i (lvS ts L i)) sl bo m0 w f ∧
        F15.l11 Try.prog CLM nu0 nu0 (.pointer (some ⟨g,0,none⟩)) (.slice (some ⟨bl,0,none⟩) ts.length ts.length) sl (.int .i64 (i : Nat)) vo (.int .i64 (ts.length : Nat)) (.int .i64 (pos : Nat)) u (.int .i64 ((nd ts i).length : Nat)) (.int .i64 (q : Nat)) h =
          F15.l15 Try.prog CLM nu0 nu0 (.pointer (some ⟨g,0,none⟩)) (.slice (some ⟨bl,0,none⟩) ts.length ts.length) sl (.int .i64 (i : Nat)) vo (.int .i64 (ts.length : Nat)) (.int .i64 (pos : Nat)) h' := by
  intro m
  have hnd := nd_len ts i
  induction m with
  | zero =>
    intro q h hm hq s
    have : q = (nd ts i).length := by omega
    subst this
    refine ⟨h,s.congr fun k _ => by unfold acc lvS; rw [List.take_length],?_⟩
    rw [F15.l11_eq,xlss,go_ok,F15.j12_eq,ifV_dec,if_neg (by omega),F15.j15_eq]
  | succ m ih =>
    intro q h hm hq s
    have hql : q < (nd ts i).length := by omega
    have hj : (nd ts i)[q]? = some (nd ts i)[q] := List.getElem?_eq_getElem hql
    obtain ⟨j,hjd⟩ : ∃ j,j = (nd ts i)[q] := ⟨_,rfl⟩
    rw [← hjd] at hj
    have hjm := List.mem_of_getElem? hj
    have hjn : j < ts.length := nd_lt hjm
    have hji : j ≠ i := fun z => hii (z ▸ hjm)
    obtain ⟨a,a1,a2⟩ := (I.grow s.gr).at_ (show (ndL ts i)[q]? = some (j : Int) by unfold ndL nl; rw [List.getElem?_map,hj]; rfl)
    obtain ⟨l1,l2⟩ := s.l.ld (m := ts.length) (cap := ts.length) hi hi
    rw [updN_eq] at l2
    obtain ⟨l3,l4⟩ := s.l.ld (m := ts.length) (cap := ts.length) hjn hjn
    rw [updN_ne hji] at l4
    have hLj := hL j
    obtain ⟨h1,e1,s1⟩ := s.setL hi (max (acc ts L i q) (L j + 1))
    have s2 := s1.congr (L' := updN L i (acc ts L i (q + 1))) (fun k _ => by
      rw [acc_next hj]
      by_cases e : k = i
      · subst e; rw [updN_eq,updN_eq]
      · rw [updN_ne e,updN_ne e,updN_ne e])
    obtain ⟨h',s',e'⟩ := ih (q + 1) (by omega) (by omega) s2
    refine ⟨h',s',?_⟩
    have hmax : (if ((acc ts L i q : Nat) : Int) < ((L j + 1 : Nat) : Int) then ((L j + 1 : Nat) : Int) else ((acc ts L i q : Nat) : Int)) = ((max (acc ts L i q) (L j + 1) : Nat) : Int) := by
      split
      · rw [Nat.max_eq_right (by omega)]
      · rw [Nat.max_eq_left (by omega)]
    rw [F15.l11_eq,xlss,go_ok,F15.j12_eq,ifV_dec,if_pos (by omega),F15.j12_1_eq,a1,go_ok,a2,go_ok,l1,Res.ok1_ok,l2,Res.ok1_ok,l3,Res.ok1_ok,l4,Res.ok1_ok,plain2_int,cond_true,xadd,Res.ok1_ok,wadd1 (by omega),xmax,go_ok,hmax,l1,Res.ok1_ok,e1,go_ok,xadd,go_ok,wadd1 (by omega)]
    exact e'
structure LvI (ts : List TK) (R : List Nat) (k : Nat) (L : Nat → Nat) (m : Nat) (f : Nat → List Nat) : Prop where
  z : ∀ i,i ∉ R.take k → L i = 0
  d : ∀ i,i ∈ R.take k → L i = lvS ts L i ∧ L i < m
  ff : ∀ l,l < m → f l = (R.take k).filter fun i => decide (L i = l)
  ne : ∀ l,l < m → f l ≠ []
  ub : m ≤ k
theorem lvS_congr {ts : List TK} {L M : Nat → Nat} {i : Nat} (h : ∀ j ∈ nd ts i,L j = M j) : lvS ts L i = lvS ts M i := by
  unfold lvS
  have aux : ∀ (l : List Nat) (a : Nat),(∀ j ∈ l,L j = M j) → l.foldl (fun a j => max a (L j + 1)) a = l.foldl (fun a j => max a (M j + 1)) a := by
    intro l
    induction l with
    | nil => intro a _; rfl
    | cons x l ih => intro a ha; rw [List.foldl_cons,List.foldl_cons,ha x (by simp)]; exact ih _ fun j hj => ha j (by simp [hj])
  exact aux _ _ h
theorem LvI.step {ts : List TK} {R : List Nat} {k : Nat} {L : Nat → Nat} {m : Nat} {f : Nat → List Nat} (p : LvI ts R k L m f) (io : IsOrd ts R) {i : Nat} (hi : R[k]? = some i) :
    lvS ts L i ≤ m ∧ LvI ts R (k + 1) (updN L i (lvS ts L i)) (max m (lvS ts L i + 1)) (updN (fun l => if l < m then f l else []) (lvS ts L i) ((if lvS ts L i < m then f (lvS ts L i) else []) ++ [i])) := by
  have pk := io k i hi
  have hiR := pk.1.2.1
  have hin : ∀ j ∈ nd ts i,j ∈ R.take k := pk.1.2.2
  have hii : i ∉ nd ts i := fun z => hiR (hin i z)
  have hle : lvS ts L i ≤ m := by
    rcases (foldl_max (L := L) (nd ts i) 0).2.2 with z | ⟨j,hj,z⟩
    · unfold lvS; omega
    · have := (p.d j (hin j hj)).2; unfold lvS; omega
  have htk : R.take (k + 1) = R.take k ++ [i] := by rw [List.take_add_one,hi]; rfl
  have hself : lvS ts (updN L i (lvS ts L i)) i = lvS ts L i := lvS_congr fun j hj => updN_ne (fun z => hii (z ▸ hj))
  have hold : ∀ x ∈ R.take k,x ≠ i := fun x hx z => hiR (z ▸ hx)
  have hfil : ∀ l,((R.take k).filter fun x => decide (updN L i (lvS ts L i) x = l)) = (R.take k).filter fun x => decide (L x = l) := fun l => List.filter_congr fun x hx => by rw [updN_ne (hold x hx)]
  have m1 := Nat.le_max_left m (lvS ts L i + 1)
  have m2 := Nat.le_max_right m (lvS ts L i + 1)
  refine ⟨hle,fun x hx => ?_,fun x hx => ?_,fun l hl => ?_,fun l hl => ?_,?_⟩
  · rw [htk] at hx
    have : x ≠ i := fun z => hx (by simp [z])
    rw [updN_ne this]
    exact p.z x fun z => hx (by simp [z])
  · rw [htk] at hx
    rcases List.mem_append.1 hx with hx | hx
    · rw [updN_ne (hold x hx)]
      refine ⟨?_,by have := (p.d x hx).2; omega⟩
      rw [(p.d x hx).1]
      refine lvS_congr fun j hj => ?_
      obtain ⟨q,hq⟩ := List.mem_iff_getElem?.1 hx
      have hqk := (List.getElem?_eq_some_iff.1 hq).1
      rw [List.length_take] at hqk
      rw [List.getElem?_take_of_lt (by omega)] at hq
      have := io.before hq hj
      have hjR : j ∈ R.take k := (List.take_subset_take_left R (show q ≤ k by omega)) this
      have hji : j ≠ i := fun z => hiR (z ▸ hjR)
      rw [updN_ne hji]
    · rw [List.mem_singleton] at hx
      subst hx
      rw [updN_eq,hself]
      exact ⟨rfl,by omega⟩
  · rw [htk,List.filter_append,hfil]
    have hlm : ∀ l,m ≤ l → ((R.take k).filter fun x => decide (L x = l)) = [] := fun l hl => List.filter_eq_nil_iff.2 fun x hx => by
      have := (p.d x hx).2
      simp; omega
    by_cases e : l = lvS ts L i
    · subst e
      rw [updN_eq,show [i].filter (fun x => decide (updN L i (lvS ts L i) x = lvS ts L i)) = [i] from List.filter_cons_of_pos (by rw [updN_eq]; exact decide_eq_true rfl)]
      congr 1
      split
      · rename_i h; exact p.ff _ h
      · rename_i h; exact (hlm _ (by omega)).symm
    · rw [updN_ne e,show [i].filter (fun x => decide (updN L i (lvS ts L i) x = l)) = [] from List.filter_cons_of_neg (by rw [updN_eq,decide_eq_true_iff]; exact fun z => e z.symm),List.append_nil]
      split
      · rename_i h; exact p.ff _ h
      · rename_i h; exact (hlm _ (by omega)).symm
  · by_cases e : l = lvS ts L i
    · subst e; rw [updN_eq]; simp
    · rw [updN_ne e]
      have hl2 : l < m := by
        rcases Nat.le_total m (lvS ts L i + 1) with z | z
        · rw [Nat.max_eq_right z] at hl; omega
        · rw [Nat.max_eq_left z] at hl; exact hl
      rw [if_pos hl2]
      exact p.ne l hl2
  · have := p.ub
    rcases Nat.le_total m (lvS ts L i + 1) with z | z
    · rw [Nat.max_eq_right z]; omega
    · rw [Nat.max_eq_left z]; omega
end Go.Proofs.Ytdadiidfhnojcaa.K
namespace Go.Proofs.Ytdadiidfhnojcaa.K
open Go Go.Kx
set_option linter.unusedVariables false
set_option linter.unusedSimpArgs false
set_option maxRecDepth 20000
theorem LvO.congrF {h0 h : H} {sl : Value} {bo : Option Nat} {m : Nat} {w : Nat → Value × Option Nat} {f f' : Nat → List Nat} (q : LvO h0 h sl bo m w f) (e : ∀ k,k < m → f k = f' k) : LvO h0 h sl bo m w f' :=
  ⟨q.o,q.fr,fun k hk => by rw [← e k hk]; exact q.ol k hk,q.ap⟩
theorem LvO.base {h0 h1 h : H} {sl : Value} {bo : Option Nat} {m : Nat} {w : Nat → Value × Option Nat} {f : Nat → List Nat} (q : LvO h1 h sl bo m w f) (e : h0.next ≤ h1.next) : LvO h0 h sl bo m w f :=
  ⟨q.o,fun b hb => Nat.le_trans e (q.fr b hb),fun k hk => ⟨(q.ol k hk).1,fun b hb => Nat.le_trans e ((q.ol k hk).2 b hb)⟩,q.ap⟩
theorem rc_int (k : IntKind) (a : Int) (h : H) : rc (.ok (.int k a) h) (some (.int k a)) = true := by simp [rc,veq]
theorem le_ext {hN : H} {g : Nat} {ts : List TK} {vo : Value} {bl i pos : Nat} {L : Nat → Nat} {sl : Value} {bo : Option Nat} {m0 : Nat} {w : Nat → Value × Option Nat} {f : Nat → List Nat} {h : H} (hi : i < ts.length) (s : LeS hN h ts.length bl L sl bo m0 w f) (hle : L i ≤ m0) (few : m0 ≤ 3000) :
    ∃ h' sl' bo' w',LeS hN h' ts.length bl L sl' bo' (max m0 (L i + 1)) w' (fun l => if l < m0 then f l else []) ∧
      F15.l15 Try.prog CLM nu0 nu0 (.pointer (some ⟨g,0,none⟩)) (.slice (some ⟨bl,0,none⟩) ts.length ts.length) sl (.int .i64 (i : Nat)) vo (.int .i64 (ts.length : Nat)) (.int .i64 (pos : Nat)) h =
        F15.j17 Try.prog CLM nu0 nu0 (.pointer (some ⟨g,0,none⟩)) (.slice (some ⟨bl,0,none⟩) ts.length ts.length) sl' (.int .i64 (i : Nat)) vo (.int .i64 (ts.length : Nat)) (.int .i64 (pos : Nat)) h' := by
  obtain ⟨l1,l2⟩ := s.l.ld (m := ts.length) (cap := ts.length) hi hi
  by_cases hm : m0 ≤ L i
  · have he : m0 = L i := by omega
    obtain ⟨h',sl',bo',u,v',nb,t,h1,eb,ea⟩ := s.v.ext s.gr.next (by omega)
    have G' : Grow hN h' := grow_then s.gr u fun b hb => s.v.fr b hb.symm
    have l' : AL h' bl ts.length false L := s.l.upd u fun z => s.bo z.symm
    have s' : LeS hN h' ts.length bl L sl' bo' (m0 + 1) (updN w m0 (.slice none 0 0,none)) (updN f m0 []) := ⟨G',l',s.fl,v',fun k b hk e => by
      by_cases z : k = m0
      · subst z; rw [updN_eq] at e; cases e
      · rw [updN_ne z] at e; exact s.vb k b (by omega) e⟩
    obtain ⟨l3,l4⟩ := s'.l.ld (m := ts.length) (cap := ts.length) hi hi
    refine ⟨h',sl',bo',updN w m0 (.slice none 0 0,none),⟨s'.gr,s'.l,s'.fl,?_,?_⟩,?_⟩
    · rw [← he,Nat.max_eq_right (by omega)]
      exact s'.v.congrF fun k hk => by
        by_cases z : k = m0
        · subst z; rw [updN_eq,if_neg (by omega)]
        · rw [updN_ne z,if_pos (by omega)]
    · rw [← he,Nat.max_eq_right (by omega)]
      exact s'.vb
    · rw [F15.l15_eq,s.v.len,go_ok,l1,go_ok,l2,go_ok,xleq,go_ok,ifV_dec,if_pos (by omega),eb,go_ok,ea,go_ok,F15.l15_eq,s'.v.len,go_ok,l3,go_ok,l4,go_ok,xleq,go_ok,ifV_dec,if_neg (by omega)]
  · refine ⟨h,sl,bo,w,⟨s.gr,s.l,s.fl,?_,?_⟩,?_⟩
    · rw [Nat.max_eq_left (by omega)]
      exact s.v.congrF fun k hk => by rw [if_pos hk]
    · rw [Nat.max_eq_left (by omega)]
      exact s.vb
    · rw [F15.l15_eq,s.v.len,go_ok,l1,go_ok,l2,go_ok,xleq,go_ok,ifV_dec,if_neg (by omega)]
theorem le_push {hN : H} {g : Nat} {ts : List TK} {vo : Value} {bl i pos : Nat} {L : Nat → Nat} {sl : Value} {bo : Option Nat} {m0 : Nat} {w : Nat → Value × Option Nat} {f : Nat → List Nat} {h : H} (hi : i < ts.length) (s : LeS hN h ts.length bl L sl bo m0 w f) (hl : L i < m0) (few : (f (L i)).length < 100000) (hp : pos ≤ 3000) :
    ∃ h' w',LeS hN h' ts.length bl L sl bo m0 w' (updN f (L i) (f (L i) ++ [i])) ∧
      F15.j17 Try.prog CLM nu0 nu0 (.pointer (some ⟨g,0,none⟩)) (.slice (some ⟨bl,0,none⟩) ts.length ts.length) sl (.int .i64 (i : Nat)) vo (.int .i64 (ts.length : Nat)) (.int .i64 (pos : Nat)) h =
        F15.l8 Try.prog CLM nu0 nu0 (.pointer (some ⟨g,0,none⟩)) (.slice (some ⟨bl,0,none⟩) ts.length ts.length) sl vo (.int .i64 (ts.length : Nat)) (.int .i64 ((pos + 1 : Nat) : Int)) h' := by
  obtain ⟨l1,l2⟩ := s.l.ld (m := ts.length) (cap := ts.length) hi hi
  obtain ⟨a,a1,a2,b,eb1,ea1⟩ := s.v.ld hl
  obtain ⟨h',w',v',u,old,t,h1,h2,v2,eb,g1,ea,u2,est⟩ := s.v.push s.gr.next hl few i
  obtain ⟨_,l3⟩ := AL.ld (g1.old _ _ s.l) (m := ts.length) (cap := ts.length) hi hi
  have hbl : ¬ some bl = (w (L i)).2 := fun z => s.vb (L i) bl hl z.symm rfl
  obtain ⟨_,l4⟩ := AL.ld (s.l.upd u2 hbl) (m := ts.length) (cap := ts.length) hi hi
  refine ⟨h',w',⟨grow_then s.gr u fun b hb => hb.elim (fun z => s.v.fr b z.symm) (fun z => (s.v.ol (L i) hl).2 b z.symm),s.l.upd u fun z => z.elim (fun z => s.bo z.symm) hbl,s.fl,v',fun k b hk e => ?_⟩,?_⟩
  · rcases old k hk b e with z | z
    · exact s.vb k b hk z
    · have := H.get_lt s.l; omega
  · rw [F15.j17_eq,l1,Res.ok1_ok,l2,Res.ok1_ok,l1,Res.ok1_ok,l2,Res.ok1_ok,a1,Res.ok1_ok,a2 _ (Grow.refl h),Res.ok1_ok,eb,go_ok,l3,rc_int,a2 _ g1,(s.v.ol (L i) hl).1.rc,Bool.and_self,Bool.and_self,Bool.and_self,cond_true,ea,go_ok,l4,rc_int,Bool.and_self,cond_true,a1,Res.ok1_ok,est a a1,go_ok,F15.j18_eq,xadd,go_ok,wadd1 (by omega)]
theorem le_main {hN : H} {g : Nat} {ts : List TK} {vt vo : Value} {bl : Nat} {R : List Nat} (N : Net hN g ts vt) (F0 : Few ts) (io : IsOrd ts R) (hR : R.length = ts.length) (IR : IL hN vo (nl R)) :
    ∀ (d k : Nat) {h : H} {L : Nat → Nat} {sl : Value} {bo : Option Nat} {m0 : Nat} {w : Nat → Value × Option Nat} {f : Nat → List Nat},ts.length - k = d → k ≤ ts.length → LeS hN h ts.length bl L sl bo m0 w f → LvI ts R k L m0 f →
      ∃ h' L' sl' bo' m' w' f',LeS hN h' ts.length bl L' sl' bo' m' w' f' ∧ LvI ts R ts.length L' m' f' ∧
        F15.l8 Try.prog CLM nu0 nu0 (.pointer (some ⟨g,0,none⟩)) (.slice (some ⟨bl,0,none⟩) ts.length ts.length) sl vo (.int .i64 (ts.length : Nat)) (.int .i64 (k : Nat)) h = F15.j19 Try.prog CLM nu0 nu0 (.pointer (some ⟨g,0,none⟩)) sl' h' := by
  intro d
  have hn := F0.n
  induction d with
  | zero =>
    intro k h L sl bo m0 w f hd hk s p
    have : k = ts.length := by omega
    subst this
    refine ⟨h,L,sl,bo,m0,w,f,s,p,?_⟩
    rw [F15.l8_eq,xlss,go_ok,F15.j9_eq,ifV_dec,if_neg (by omega)]
  | succ d ih =>
    intro k h L sl bo m0 w f hd hk s p
    have hkR : k < R.length := by omega
    have hik : R[k]? = some R[k] := List.getElem?_eq_getElem hkR
    obtain ⟨i,hid⟩ : ∃ i,i = R[k] := ⟨_,rfl⟩
    rw [← hid] at hik
    have pk := io k i hik
    have hi : i < ts.length := pk.1.1
    have hii : i ∉ nd ts i := fun z => pk.1.2.1 (pk.1.2.2 i z)
    obtain ⟨hle,p2⟩ := p.step io hik
    have hm0 : m0 ≤ 3000 := by have := p.ub; omega
    have hL : ∀ j,L j ≤ 3000 := fun j => by
      by_cases q : j ∈ R.take k
      · have := (p.d j q).2; omega
      · rw [p.z j q]; omega
    obtain ⟨a,a1,a2⟩ := (IR.grow s.gr).at_ (show (nl R)[k]? = some (i : Int) by unfold nl; rw [List.getElem?_map,hik]; rfl)
    obtain ⟨vn,vu,nn,T,LN,LU⟩ := id N
    obtain ⟨a',u,b1,b2,I⟩ := LN.at_ hi
    obtain ⟨h1,s1,e1⟩ := le_inner (g := g) (vo := vo) (pos := k) hn hi hii hL I.1 _ 0 rfl (Nat.zero_le _) (h := h) (s.congr fun x _ => by
      by_cases e : x = i
      · subst e; rw [updN_eq,p.z x pk.1.2.1]; rfl
      · rw [updN_ne e])
    have hLi : updN L i (lvS ts L i) i = lvS ts L i := updN_eq
    obtain ⟨h2,sl2,bo2,w2,s2,e2⟩ := le_ext (g := g) (vo := vo) (pos := k) hi s1 (by rw [hLi]; exact hle) hm0
    rw [hLi] at s2
    have hmx := Nat.le_max_right m0 (lvS ts L i + 1)
    have hfew : (if updN L i (lvS ts L i) i < m0 then f (updN L i (lvS ts L i) i) else []).length < 100000 := by
      rw [hLi]
      split
      · rename_i q
        rw [p.ff _ q]
        have := List.length_filter_le (fun i => decide (L i = lvS ts L i)) (R.take k)
        rw [List.length_take] at this
        have h3 : ((R.take k).filter fun x => decide (L x = lvS ts L i)).length ≤ (R.take k).length := List.length_filter_le _ _
        rw [List.length_take] at h3
        omega
      · simp
    obtain ⟨h3,w3,s3,e3⟩ := le_push (g := g) (vo := vo) (pos := k) (f := fun l => if l < m0 then f l else []) hi s2 (by rw [hLi]; omega) hfew (by omega)
    rw [hLi] at s3
    obtain ⟨h',L',sl',bo',m',w',f',s',p',e'⟩ := ih (k + 1) (by omega) (by omega) s3 p2
    refine ⟨h',L',sl',bo',m',w',f',s',p',?_⟩
    have n1 := nn.grow s.gr
    rw [F15.l8_eq,xlss,go_ok,F15.j9_eq,ifV_dec,if_pos (by omega),F15.j9_1_eq,a1,go_ok,a2,go_ok,xnil_ptr,go_ok,fa79_1,go_ok,ld33,n1.n,ofO_some,go_ok,b1,go_ok,b2 _ s.gr,go_ok,I.1.len,go_ok,show (ndL ts i).length = (nd ts i).length from nl_len _,
      show (Value.int .i64 0) = .int .i64 ((0 : Nat) : Int) from rfl,e1,e2,e3]
    exact e'
theorem le_sort {hN : H} {g : Nat} {ts : List TK} {vt : Value} {sl : Value} {bo : Option Nat} {m0 : Nat} {w : Nat → Value × Option Nat} {f0 : Nat → List Nat} (N : Net hN g ts vt) (hm0 : m0 ≤ 3000) (hf : ∀ k,k < m0 → (f0 k).length ≤ 3000 ∧ ∀ i ∈ f0 k,i < ts.length) :
    ∀ (d k : Nat) {h : H} {f : Nat → List Nat},m0 - k = d → k ≤ m0 → Grow hN h → LvO hN h sl bo m0 w f → (∀ l,l < m0 → (f l).Perm (f0 l)) → (∀ l,l < k → (f l).Pairwise fun i j : Nat => aLt ts (j : Int) (i : Int) = false) →
      ∃ h' f',Grow hN h' ∧ LvO hN h' sl bo m0 w f' ∧ (∀ l,l < m0 → (f' l).Perm (f0 l)) ∧ (∀ l,l < m0 → (f' l).Pairwise fun i j : Nat => aLt ts (j : Int) (i : Int) = false) ∧
        F15.l20 Try.prog CLM nu0 nu0 (.pointer (some ⟨g,0,none⟩)) sl (.int .i64 (m0 : Nat)) (.int .i64 (k : Nat)) h = .ok (.tuple ⟨[sl,.int .i64 0,.string ⟨#[]⟩]⟩) h' := by
  intro d
  induction d with
  | zero =>
    intro k h f hd hk G v p srt
    have : k = m0 := by omega
    subst this
    refine ⟨h,f,G,v,p,srt,?_⟩
    rw [F15.l20_eq,xlss,go_ok,F15.j21_eq,ifV_dec,if_neg (by omega),F15.j24_eq]
  | succ d ih =>
    intro k h f hd hk G v p srt
    have hkm : k < m0 := by omega
    obtain ⟨a,a1,a2,b,eb,ea⟩ := v.ld hkm
    have hp := p k hkm
    obtain ⟨h1,l1,u,o,p1,s1,e1⟩ := eSortA N G (v.ol k hkm).1 (v.ol k hkm).2 (fun i hi => (hf k hkm).2 i (hp.mem_iff.1 hi)) (by rw [hp.length_eq]; have := (hf k hkm).1; omega)
    have G1 : Grow hN h1 := grow_then G u fun b hb => (v.ol k hkm).2 b hb.symm
    have v1 : LvO hN h1 sl bo m0 w (updN f k l1) := ⟨v.o.upd u fun b hb z => (v.ol k hkm).1.neL v.o z.symm hb,v.fr,fun j hj => by
      by_cases e : j = k
      · subst e; rw [updN_eq]; exact ⟨o,(v.ol j hj).2⟩
      · rw [updN_ne e]; exact ⟨(v.ol j hj).1.upd u fun b hb z => v.ap k j b hkm hj (fun z => e z.symm) z.symm hb,(v.ol j hj).2⟩,v.ap⟩
    obtain ⟨h',f',g',v',p',s',e'⟩ := ih (k + 1) (by omega) (by omega) G1 v1 (fun l hl => by
      by_cases e : l = k
      · subst e; rw [updN_eq]; exact p1.trans hp
      · rw [updN_ne e]; exact p l hl) (fun l hl => by
      by_cases e : l = k
      · subst e; rw [updN_eq]; exact s1
      · rw [updN_ne e]; exact srt l (by omega))
    refine ⟨h',f',g',v',p',s',?_⟩
    rw [F15.l20_eq,xlss,go_ok,F15.j21_eq,ifV_dec,if_pos (by omega),F15.j21_1_eq,a1,go_ok,a2 _ (Grow.refl h),go_ok]
    show ((CLM (.f 39) [(w k).1,aheadV g] h).go .pan _) = _
    rw [e1,go_ok,xadd,go_ok,wadd1 (by omega)]
    exact e'
theorem asorted_of {ts : List TK} {l : List Nat} (h : l.Pairwise fun i j : Nat => aLt ts (j : Int) (i : Int) = false) (hn : l.Nodup) : ASorted ts l := by
  unfold ASorted
  rw [List.pairwise_iff_getElem] at *
  intro i j hi hj hij
  have h1 := h i j hi hj hij
  have h2 := (List.pairwise_iff_getElem.1 hn) i j hi hj hij
  rcases aLt_tri ts (l[i] : Int) (l[j] : Int) with z | z | z
  · exact z
  · exact absurd (by omega) h2
  · rw [h1] at z; cases z
def LevR (h0 h : H) (ts : List TK) (v : Value) (code : Int) (name : ByteArray) : Prop :=
  (∃ c,CycMin ts c ∧ v = .slice none 0 0 ∧ code = 130 ∧ name = nm ts (c : Int)) ∨
  (NoC ts ∧ ∃ L ls bo w,IsLevs ts L ls ∧ LvO h0 h v bo ls.length w (fun k => (ls[k]?).getD []) ∧ code = 0 ∧ name = ⟨#[]⟩)
theorem eLevels {h0 : H} {vt : Value} {ts : List TK} (T : Tasks h0 vt ts) (F : Few ts) :
    ∃ h' v code name,Grow h0 h' ∧ LevR h0 h' ts v code name ∧ CLM (.f 15) [vt] h0 = .ok (.tuple ⟨[v,.int .i64 code,.string name]⟩) h' := by
  have hn := F.n
  obtain ⟨h1,vo,code,name,g1,hr,e1⟩ := eOrder T F
  rcases hr with ⟨c,hc,rfl,rfl,rfl⟩ | ⟨nc,R,b,io,hR,fb,hO,rfl,rfl,rfl⟩
  · refine ⟨h1,.slice none 0 0,130,nm ts (c : Int),g1,.inl ⟨c,hc,rfl,rfl,rfl⟩,?_⟩
    rw [cM15,F15.eq,e1,go_ok,xextract_0,go_ok,xextract_1,go_ok,xextract_2,go_ok,xneq,go_ok,ifV_not,if_neg (by omega)]
  · obtain ⟨h2,g,g2,fg,N2,e2⟩ := eBuild (T.grow g1) F
    obtain ⟨h3,e3,g3,A3,n3⟩ := AL.new (n := ts.length) (by omega) h2
    have IR : IL h2 (.slice (some ⟨b,0,none⟩) ts.length ts.length) (nl R) := by
      obtain ⟨sp,hg,_⟩ := hO
      exact .inr ⟨b,none,ts.length,sp,false,by rw [nl_len,hR],g2.old _ _ hg⟩
    have p0 : LvI ts R 0 (fun _ => 0) 0 (fun _ => []) := ⟨fun _ _ => rfl,fun i hi => by simp at hi,fun l hl => absurd hl (Nat.not_lt_zero _),fun l hl => absurd hl (Nat.not_lt_zero _),Nat.le_refl _⟩
    have s0 : LeS h2 h3 ts.length h2.next (fun _ => 0) (.slice none 0 0) none 0 (fun _ => (.slice none 0 0,none)) (fun _ => []) :=
      ⟨g3,A3,Nat.le_refl _,⟨Lst.nil,(fun b z => by cases z),fun k hk => absurd hk (Nat.not_lt_zero _),fun k k' b hk => absurd hk (Nat.not_lt_zero _)⟩,fun k b hk => absurd hk (Nat.not_lt_zero _)⟩
    obtain ⟨h4,L,sl,bo,m,w,f,s4,p4,e4⟩ := le_main (vt := vt) N2 F io hR IR _ 0 rfl (Nat.zero_le _) s0 p0
    have htk : R.take ts.length = R := List.take_of_length_le (by omega)
    have hmem : ∀ i,i < ts.length → i ∈ R := fun i hi => io.mem hR hi
    have hf : ∀ l,l < m → ∀ i,i ∈ f l ↔ i < ts.length ∧ L i = l := fun l hl i => by
      rw [p4.ff l hl,htk,List.mem_filter,decide_eq_true_iff]
      exact ⟨fun z => ⟨io.lt z.1,z.2⟩,fun z => ⟨hmem i z.1,z.2⟩⟩
    have hnodf : ∀ l,l < m → (f l).Nodup := fun l hl => by rw [p4.ff l hl,htk]; exact io.nodup.filter _
    obtain ⟨h5,f',g5,v5,p5,s5,e5⟩ := le_sort (f0 := f) N2 (by have := p4.ub; omega) (fun k hk => ⟨by
      rw [p4.ff k hk,htk]
      have := List.length_filter_le (fun i => decide (L i = k)) R
      omega,fun i hi => ((hf k hk i).1 hi).1⟩) _ 0 rfl (Nat.zero_le _) s4.gr s4.v (fun l _ => List.Perm.refl _) (fun l hl => absurd hl (Nat.not_lt_zero _))
    have hls : ∀ k,k < m → (tb m f')[k]? = some (f' k) := fun k hk => tb_at _ hk
    have hlen : (tb m f').length = m := tb_len _ _
    have G5 := (g1.trans g2).trans g5
    refine ⟨h5,sl,0,⟨#[]⟩,G5,.inr ⟨nc,L,tb m f',bo,w,?_,?_,rfl,rfl⟩,?_⟩
    · refine ⟨fun i hi => ?_,fun l hl => ?_,fun k l hk i => ?_,fun i hi => ?_,fun l hl => ?_⟩
      · exact (p4.d i (by rw [htk]; exact hmem i hi)).1
      · obtain ⟨k,hk,rfl⟩ := List.mem_map.1 hl
        have hkm := List.mem_range.1 hk
        exact asorted_of (s5 k hkm) ((p5 k hkm).nodup_iff.2 (hnodf k hkm))
      · have hkm := (List.getElem?_eq_some_iff.1 hk).1
        rw [hlen] at hkm
        rw [hls k hkm] at hk
        cases hk
        rw [(p5 k hkm).mem_iff]
        exact hf k hkm i
      · rw [hlen]; exact (p4.d i (by rw [htk]; exact hmem i hi)).2
      · obtain ⟨k,hk,rfl⟩ := List.mem_map.1 hl
        have hkm := List.mem_range.1 hk
        intro z
        have := (p5 k hkm)
        rw [z] at this
        exact p4.ne k hkm this.symm.eq_nil
    · rw [hlen]
      exact (v5.congrF fun k hk => by rw [hls k hk]; rfl).base (g1.trans g2).next
    · rw [cM15,F15.eq,e1,go_ok,xextract_0,go_ok,xextract_1,go_ok,xextract_2,go_ok,xneq,go_ok,ifV_not,if_pos rfl,F15.j4_eq,e2,go_ok,T.len,go_ok,e3,go_ok,ln27,go_ok,show (Value.int .i64 0) = .int .i64 ((0 : Nat) : Int) from rfl,e4,F15.j19_eq,s4.v.len,go_ok]
      exact e5
end Go.Proofs.Ytdadiidfhnojcaa.K
namespace Go.Proofs.Ytdadiidfhnojcaa.K
open Go Go.Kx
set_option linter.unusedVariables false
set_option linter.unusedSimpArgs false
set_option maxRecDepth 20000
theorem Tasks.row {h : H} {v : Value} {ts : List TK} (q : Tasks h v ts) {i : Nat} {t : TK} (ht : ts[i]? = some t) :
    ∃ a r,(∀ h',xindexAddr Try.prog 22 v (.int .i64 (i : Nat)) h' = .ok (.pointer (some a)) h') ∧ (∀ h',Grow h h' → xload Try.prog 55 (.pointer (some a)) h' = .ok (.agg ⟨r⟩) h') ∧ TaskR h t r := by
  obtain ⟨b,o,vi,vo,a1,row,S,O,_⟩ := q.at_ ht
  refine ⟨⟨b,o,none⟩,_,a1,fun h' g => ?_,vi,vo,rfl,S,O⟩
  rw [ld55,(row.grow g).row (n := 4) rfl,ofA_some]
theorem LvO.add {h0 h : H} {sl : Value} {bo : Option Nat} {m : Nat} {w : Nat → Value × Option Nat} {f : Nat → List Nat} (q : LvO h0 h sl bo m w f) (hn : h0.next ≤ h.next) (few : m < 100000) {v : Value} {br : Option Nat} {l : List Nat} (o : OL h v br (nl l)) (hb : ∀ b,br = some b → h0.next ≤ b) (hw : ∀ k b,k < m → (w k).2 = some b → br ≠ some b) :
    ∃ h' sl' bo',Upd (fun x => some x = bo) h h' ∧ LvO h0 h' sl' bo' (m + 1) (updN w m (v,br)) (updN f m l) ∧ NewBr h bo bo' ∧
      ∃ t h1,xbuildSlice Try.prog 33 1 [(0,v)] h = .ok t h1 ∧ xbuiltin Try.prog .append [33,33] [sl,t] h1 = .ok sl' h' := by
  have eb : xbuildSlice Try.prog 33 1 [(0,v)] h = .ok (.slice (some ⟨h.next,0,none⟩) 1 1) (h.alloc (.cells [v] 27 0 false)) := by
    rcases o with ⟨_,rfl,_⟩ | ⟨b,sp,cap,_,rfl,_⟩ <;> kernel_rfl
  have g1 : Grow h (h.alloc (.cells [v] 27 0 false)) := (Grow.refl h).alloc _
  have q1 := q.grow g1
  obtain ⟨sl',bo',h',e,u,l',nb⟩ := lst_push LLT q1.o (wr_good fun k hk => (q1.ol k hk).1) (by rw [wr_len]; omega) (H.alloc_self h (.cells [v] 27 0 false)) rfl (by show (v.oneCell' && true) = true; rw [o.one.2.2]; rfl)
  have hwr : wr m w ++ [[v]] = wr (m + 1) (updN w m (v,br)) := by
    unfold wr tb
    rw [List.range_succ,List.map_append]
    congr 1
    · exact List.map_congr_left fun k hk => by rw [updN_ne (by have := List.mem_range.1 hk; omega)]
    · simp [updN_eq]
  rw [hwr] at l'
  refine ⟨h',sl',bo',(g1.upd _).trans u,⟨l',fun b e => ?_,fun k hk => ?_,fun k k' b hk hk' hne e1 e2 => ?_⟩,nb.imp id fun ⟨b,w1,w2⟩ => ⟨b,w1,Nat.le_of_succ_le w2⟩,_,_,eb,e⟩
  · rcases nb with z | ⟨b2,z,z2⟩
    · exact q.fr b (z ▸ e)
    · rw [z] at e; cases e; exact Nat.le_trans hn (Nat.le_trans g1.next z2)
  · by_cases e : k = m
    · subst e; rw [updN_eq,updN_eq]; exact ⟨(o.grow g1).upd u fun b hb z => (o.grow g1).neL q1.o hb z.symm,hb⟩
    · rw [updN_ne e,updN_ne e]
      exact ⟨(q1.ol k (by omega)).1.upd u fun b hb z => (q1.ol k (by omega)).1.neL q1.o hb z.symm,(q.ol k (by omega)).2⟩
  · by_cases a1 : k = m
    · subst a1
      rw [updN_eq] at e1
      rw [updN_ne (fun z => hne z.symm)] at e2
      exact hw k' b (by omega) e2 e1
    · rw [updN_ne a1] at e1
      by_cases a2 : k' = m
      · subst a2; rw [updN_eq] at e2; exact hw k b (by omega) e1 e2
      · rw [updN_ne a2] at e2
        exact q.ap k k' b (by omega) (by omega) hne e1 e2
end Go.Proofs.Ytdadiidfhnojcaa.K
namespace Go.Proofs.Ytdadiidfhnojcaa.K
open Go Go.Kx
set_option linter.unusedVariables false
set_option linter.unusedSimpArgs false
set_option maxRecDepth 20000
def CycI (ts : List TK) (i : Nat) (c : Int) : Prop := (c = -1 ∧ ∀ k,k < i → ¬ OnC (nd ts) k) ∨ ∃ k : Nat,c = k ∧ k < i ∧ OnC (nd ts) k ∧ ∀ j : Nat,j < i → OnC (nd ts) j → aLt ts (j : Int) (k : Int) = false
theorem CycI.all {ts : List TK} {c : Int} (h : CycI ts ts.length c) : CycR ts c := by
  rcases h with ⟨e,no⟩ | ⟨k,e,hk,ok,mn⟩
  · exact .inl ⟨e,fun k hk => no k (OnC_lt hk) hk⟩
  · exact .inr ⟨k,e,hk,ok,fun j hj => mn j (OnC_lt hj) hj⟩
end Go.Proofs.Ytdadiidfhnojcaa.K
namespace Go.Proofs.Ytdadiidfhnojcaa.K
open Go Go.Kx
set_option linter.unusedVariables false
set_option linter.unusedSimpArgs false
set_option maxRecDepth 20000
def PickI (ts : List TK) (R : List Nat) (i : Nat) (c : Int) : Prop := (c = -1 ∧ ∀ j,j < i → ¬ Ready ts R j) ∨ ∃ k : Nat,c = k ∧ k < i ∧ Ready ts R k ∧ ∀ j : Nat,j < i → Ready ts R j → j = k ∨ aLt ts (k : Int) (j : Int) = true
theorem PickI.skip {ts : List TK} {R : List Nat} {i : Nat} {c : Int} (p : PickI ts R i c) (h : ¬ Ready ts R i) : PickI ts R (i + 1) c := by
  rcases p with ⟨e,no⟩ | ⟨k,e,hk,rk,mn⟩
  · refine .inl ⟨e,fun j hj => ?_⟩
    by_cases q : j = i
    · subst q; exact h
    · exact no j (by omega)
  · refine .inr ⟨k,e,by omega,rk,fun j hj rj => ?_⟩
    by_cases q : j = i
    · subst q; exact absurd rj h
    · exact mn j (by omega) rj
theorem ready_all {ts : List TK} {R : List Nat} {i : Nat} : ((nd ts i).all fun j => decide (j ∈ R)) = true ↔ ∀ k ∈ nd ts i,k ∈ R := by
  rw [List.all_eq_true]
  exact ⟨fun h k hk => of_decide_eq_true (h k hk),fun h k hk => decide_eq_true (h k hk)⟩
end Go.Proofs.Ytdadiidfhnojcaa.K
namespace Go.Proofs.Ytdadiidfhnojcaa.K
open Go Go.Kx
set_option linter.unusedVariables false
set_option linter.unusedSimpArgs false
set_option maxRecDepth 20000
theorem LvO.ne2 {h0 h : H} {sl : Value} {bo : Option Nat} {m : Nat} {w : Nat → Value × Option Nat} {f : Nat → List Nat} (q : LvO h0 h sl bo m w f) {b n : Nat} {op : Bool} {B : Nat → Bool} (hg : BL h b n op B) : bo ≠ some b := by
  intro z
  rcases q.o with ⟨w,_⟩ | ⟨b',sp,cap,w,_,hg',_⟩
  · rw [w] at z; cases z
  · rw [w] at z; cases z; unfold BL at hg; rw [hg] at hg'
    simp only [Option.some.injEq,Blk.cells.injEq] at hg'
    exact absurd hg'.2.1 (by decide)
end Go.Proofs.Ytdadiidfhnojcaa.K
namespace Go.Proofs.Ytdadiidfhnojcaa.K
open Go Go.Kx
set_option linter.unusedVariables false
set_option linter.unusedSimpArgs false
set_option maxRecDepth 20000
theorem si_loop {h : H} {v w : Value} {l m : List Int} (I : IL h v l) (J : IL h w m) (hlm : l.length = m.length) (few : l.length ≤ 1000000) : ∀ (d i : Nat),l.length - i = d → i ≤ l.length → l.take i = m.take i →
    F17.l4 Try.prog CLM nu0 nu0 v w (.int .i64 (i : Nat)) h = .ok (.bool (decide (l = m))) h := by
  intro d
  induction d with
  | zero =>
    intro i hd hi ht
    have : i = l.length := by omega
    subst this
    have e : l = m := by rw [List.take_length,hlm,List.take_length] at ht; exact ht
    rw [F17.l4_eq,I.len,go_ok,xlss,go_ok,ifV_dec,if_neg (by omega),F17.j8_eq,decide_eq_true e]
  | succ d ih =>
    intro i hd hi ht
    have hil : i < l.length := by omega
    have h1 := List.getElem?_eq_getElem hil
    have h2 := List.getElem?_eq_getElem (show i < m.length by omega)
    obtain ⟨a,a1,a2⟩ := I.at_ h1
    obtain ⟨b,b1,b2⟩ := J.at_ h2
    rw [F17.l4_eq,I.len,go_ok,xlss,go_ok,ifV_dec,if_pos (by omega),F17.j6_eq,a1,Res.ok1_ok,a2,Res.ok1_ok,b1,Res.ok1_ok,b2,Res.ok1_ok,plain2_int,cond_true,xneq,Res.ok1_ok,ifV_not]
    by_cases e : l[i] = m[i]
    · rw [if_pos e,xadd,go_ok,wadd1 (by omega)]
      exact ih (i + 1) (by omega) (by omega) (by rw [List.take_add_one,List.take_add_one,ht,h1,h2,e])
    · rw [if_neg e,decide_eq_false fun z => e (by subst z; rfl)]
theorem eSameI {h : H} {v w : Value} {l m : List Int} (I : IL h v l) (J : IL h w m) (few : l.length ≤ 1000000) : CLM (.f 17) [v,w] h = .ok (.bool (decide (l = m))) h := by
  rw [cM17,F17.eq,I.len,go_ok,J.len,go_ok,xneq,go_ok,ifV_not]
  by_cases e : l.length = m.length
  · rw [if_pos (by omega),F17.j3_eq,show (Value.int .i64 0) = .int .i64 ((0 : Nat) : Int) from rfl,si_loop I J e few _ 0 rfl (Nat.zero_le _) (by simp)]
  · rw [if_neg (by omega),decide_eq_false fun z => e (by rw [z])]
def LvV (h : H) (v : Value) (ls : List (List Nat)) : Prop := ∃ (h0 : H) (bo : Option Nat) (w : Nat → Value × Option Nat),LvO h0 h v bo ls.length w fun k => (ls[k]?).getD []
theorem LvV.nil (h : H) : LvV h (.slice none 0 0) [] := ⟨h,none,fun _ => (.slice none 0 0,none),Lst.nil,(fun b z => by cases z),fun k hk => absurd hk (Nat.not_lt_zero _),fun k k' b hk => absurd hk (Nat.not_lt_zero _)⟩
theorem LvV.grow {h h' : H} (g : Grow h h') {v : Value} {ls : List (List Nat)} (q : LvV h v ls) : LvV h' v ls := by
  obtain ⟨h0,bo,w,l⟩ := q
  exact ⟨h0,bo,w,l.grow g⟩
theorem eNum (v : Value) (h : H) : CLM (.f 18) [v] h = .ok v h := by rw [cM18,F18.eq]
def Zs (v : Value) : Prop := Nul v ∨ ∃ b o n cap,v = .slice (some ⟨b,o,some 0⟩) n cap ∧ n ≤ cap
theorem Sl.cut {E : Nat} {h : H} {v : Value} {rows : List (List Value)} (q : Sl E h v rows) (z : Zs v) {t e : TypeId} (hu : Try.prog.underlying t = some (.slice e)) (hz : szOk Try.prog e = true) {u : Nat} (hle : u ≤ rows.length) :
    ∃ v',(∀ h',xslice Try.prog t v none (some (.int .i64 (u : Nat))) none h' = .ok v' h') ∧ Sl E h v' (rows.take u) ∧ v'.oneCell' = true ∧ v'.cells.size = 1 ∧ v'.cells.toList = [v'] := by
  rcases q.2 with ⟨zn,rfl⟩ | ⟨b,o,sp,cap,rfl,row⟩
  · have hu0 : u = 0 := by simpa using hle
    subst hu0
    rcases zn with rfl | ⟨b,o,k,rfl⟩
    · refine ⟨.slice none 0 0,fun h' => ?_,⟨GoodR.nil,.inl ⟨Nul.nil,rfl⟩⟩,rfl,rfl,rfl⟩
      unfold xslice
      simp only [hu,hz,cond_true]
      rfl
    · refine ⟨.slice (some ⟨b,o,some (k + 2)⟩) 0 0,fun h' => ?_,⟨GoodR.nil,.inl ⟨.inr ⟨b,o,k,rfl⟩,rfl⟩⟩,rfl,rfl,rfl⟩
      unfold xslice
      simp only [hu,hz,cond_true]
      rfl
  · rcases z with z | ⟨b',o',n',cap',z,hc⟩
    · rcases z with z | ⟨b',o',k,z⟩
      · cases z
      · obtain ⟨z1,z2⟩ : (some (⟨b,o,sp⟩ : Addr) = some ⟨b',o',some (k + 2)⟩) ∧ (rows.length = 0 ∧ cap = 0) := by
          simpa using z
        have hr : rows = [] := List.length_eq_zero_iff.1 z2.1
        subst hr
        have hu0 : u = 0 := by simpa using hle
        subst hu0
        simp only [Option.some.injEq,Addr.mk.injEq] at z1
        obtain ⟨rfl,rfl,rfl⟩ := z1
        obtain ⟨_,rfl⟩ := z2
        refine ⟨.slice (some ⟨b,o,some (k + 2)⟩) 0 0,fun h' => ?_,⟨GoodR.nil,.inl ⟨.inr ⟨b,o,k,rfl⟩,rfl⟩⟩,rfl,rfl,rfl⟩
        unfold xslice
        simp only [hu,hz,cond_true]
        rfl
    · cases z
      have hcut : (cutAt false ⟨b,o,some 0⟩ 0 cap (Try.prog.cellsOf e)) = ⟨b,o,some 0⟩ := by
        unfold cutAt
        cases Nat.beq cap 0 <;> simp
      refine ⟨.slice (some ⟨b,o,some 0⟩) u cap,fun h' => ?_,⟨q.1.take u,.inr ⟨b,o,some 0,cap,by rw [List.length_take,Nat.min_eq_left hle],?_⟩⟩,rfl,rfl,rfl⟩
      · unfold xslice
        simp only [hu,show asNat? none 0 = some 0 from rfl,show asNat? (some (Value.int .i64 (u : Nat))) rows.length = some u from rfl,show asNat? none cap = some cap from rfl,Nat.ble_eq_true_of_le (Nat.zero_le u),Nat.ble_eq_true_of_le (Nat.le_trans hle hc),Nat.ble_eq_true_of_le (Nat.le_refl cap),hz,Bool.and_true,cond_true,hcut,Nat.sub_zero]
      · have := row.sub (k := 0) (m := (rows.take u).flatten.length) (by
          rw [flat_len q.1,flat_len (q.1.take u),List.length_take,Nat.min_eq_left hle,Nat.zero_add]
          exact Nat.mul_le_mul_right _ hle)
        rw [Nat.add_zero,List.drop_zero] at this
        have e2 : rows.flatten.take (rows.take u).flatten.length = (rows.take u).flatten := by
          rw [flat_len (q.1.take u),List.length_take,Nat.min_eq_left hle]
          have := flat_take q.1 hle []
          rwa [List.append_nil] at this
        rw [e2] at this
        exact this
def TasksA (h : H) (v : Value) (ts : List TK) : Prop := ∃ rows,Sl 4 h v rows ∧ rows.length = ts.length ∧ ∀ (i : Nat) (t : TK),ts[i]? = some t → ∃ r vi vo,rows[i]? = some r ∧ r = [.string t.name,.int .i64 t.bud,vi,vo] ∧ StrSl h vi t.ins ∧ OutSl h vo t.outs ∧ Zs vi ∧ Zs vo
theorem TasksA.tasks {h : H} {v : Value} {ts : List TK} (q : TasksA h v ts) : Tasks h v ts := by
  obtain ⟨rows,s,e,f⟩ := q
  exact ⟨rows,s,e,fun i t ht => by obtain ⟨r,vi,vo,a,b,c,d,_⟩ := f i t ht; exact ⟨r,a,vi,vo,b,c,d⟩⟩
theorem TasksA.at_ {h : H} {v : Value} {ts : List TK} (q : TasksA h v ts) {i : Nat} {t : TK} (ht : ts[i]? = some t) :
    ∃ b o vi vo,(∀ h',xindexAddr Try.prog 22 v (.int .i64 (i : Nat)) h' = .ok (.pointer (some ⟨b,o,none⟩)) h') ∧ Row h b o [.string t.name,.int .i64 t.bud,vi,vo] ∧ StrSl h vi t.ins ∧ OutSl h vo t.outs ∧ ones [.string t.name,.int .i64 t.bud,vi,vo] = true ∧ Zs vi ∧ Zs vo := by
  obtain ⟨rows,s,e,f⟩ := q
  obtain ⟨r,vi,vo,hr,rfl,q1,q2,z1,z2⟩ := f i t ht
  have hi := (List.getElem?_eq_some_iff.1 hr).1
  obtain ⟨b,o,sp,cap,rfl,row,_,ho⟩ := s.at_ hr
  exact ⟨b,o + i * 4,vi,vo,fun h' => ia22 _ _ _ _ _ _ _ h' hi,row,q1,q2,ho,z1,z2⟩
theorem TT : LsT Try.prog 22 55 4 := ⟨by kernel_rfl,by kernel_rfl,by kernel_rfl,by kernel_rfl,by kernel_rfl,by omega,by kernel_rfl,Nat.le_of_ble_eq_true (by kernel_rfl)⟩
theorem StrSl.cut {h : H} {v : Value} {l : List ByteArray} (q : StrSl h v l) (z : Zs v) {u : Nat} (hle : u ≤ l.length) :
    ∃ v',(∀ h',xslice Try.prog 52 v none (some (.int .i64 (u : Nat))) none h' = .ok v' h') ∧ StrSl h v' (l.take u) ∧ v'.oneCell' = true ∧ v'.cells.size = 1 ∧ v'.cells.toList = [v'] := by
  obtain ⟨v',e,s,r⟩ := Sl.cut q z (t := 52) (e := 9) un52 (by kernel_rfl) (u := u) (by rw [List.length_map]; exact hle)
  refine ⟨v',e,?_,r⟩
  unfold StrSl
  rw [List.map_take]; exact s
theorem OutSl.cut {h : H} {v : Value} {l : List ByteArray} (q : OutSl h v l) (z : Zs v) {u : Nat} (hle : u ≤ l.length) :
    ∃ v',(∀ h',xslice Try.prog 53 v none (some (.int .i64 (u : Nat))) none h' = .ok v' h') ∧ OutSl h v' (l.take u) ∧ v'.oneCell' = true ∧ v'.cells.size = 1 ∧ v'.cells.toList = [v'] := by
  obtain ⟨rows,s,e0⟩ := q
  have hl : rows.length = l.length := by have := congrArg List.length e0; simpa using this
  obtain ⟨v',e,s',r⟩ := Sl.cut s z (t := 53) (e := 63) (by kernel_rfl) (by kernel_rfl) (u := u) (by rw [hl]; exact hle)
  exact ⟨v',e,⟨rows.take u,s',by rw [List.map_take,e0,List.map_take]⟩,r⟩
theorem Lst.sl {e E : Nat} {h : H} {sl : Value} {br : Option Nat} {rows : List (List Value)} (l : Lst e E h sl br rows) (g : GoodR E rows) : Sl E h sl rows := by
  refine ⟨g,l.imp (fun ⟨_,a,b⟩ => ⟨.inl a,b⟩) ?_⟩
  rintro ⟨b,sp,cap,_,q2,q3,_,_⟩
  exact ⟨b,0,none,cap,q2,_,_,_,_,q3,by rw [List.length_append]; omega,by rw [List.drop_zero,List.take_left]⟩
end Go.Proofs.Ytdadiidfhnojcaa.K
namespace Go.Proofs.Ytdadiidfhnojcaa.K
open Go Go.Kx
set_option linter.unusedVariables false
set_option linter.unusedSimpArgs false
set_option maxRecDepth 20000
def RB (h : H) (b el E : Nat) (op : Bool) (rows : List (List Value)) : Prop := GoodR E rows ∧ h.get b = some (.cells rows.flatten el 0 op)
theorem RB.upd {S : Nat → Prop} {h h' : H} (u : Upd S h h') {b el E : Nat} {op : Bool} {rows : List (List Value)} (q : RB h b el E op rows) (hS : ¬ S b) : RB h' b el E op rows := ⟨q.1,u.old _ _ hS q.2⟩
theorem RB.grow {h h' : H} (g : Grow h h') {b el E : Nat} {op : Bool} {rows : List (List Value)} (q : RB h b el E op rows) : RB h' b el E op rows := ⟨q.1,g.old _ _ q.2⟩
theorem RB.all {h : H} {b el E : Nat} {op : Bool} {rows : List (List Value)} (q : RB h b el E op rows) : Row h b 0 rows.flatten := ⟨_,_,_,_,q.2,by omega,by rw [List.drop_zero,List.take_length]⟩
theorem RB.row {h : H} {b el E : Nat} {op : Bool} {rows : List (List Value)} (q : RB h b el E op rows) {i : Nat} {r : List Value} (hr : rows[i]? = some r) : Row h b (i * E) r := by
  have hi := (List.getElem?_eq_some_iff.1 hr).1
  have hl := flat_len q.1
  have h1 := Nat.mul_le_mul_right E (show i + 1 ≤ rows.length by omega)
  rw [Nat.add_mul,Nat.one_mul] at h1
  have := q.all.sub (k := i * E) (m := E) (by omega)
  rw [show (rows.flatten.drop (i * E)).take E = r by have := flat_at q.1 hr []; rwa [List.append_nil] at this,Nat.zero_add] at this
  exact this
theorem flatten_set {E : Nat} {r : List Value} {v : Value} {j : Nat} (hj : j < E) : ∀ (rows : List (List Value)) (i : Nat),GoodR E rows → rows[i]? = some r → rows.flatten.set (i * E + j) v = (rows.set i (r.set j v)).flatten
  | [],i,_,h => by simp at h
  | a :: l,0,g,h => by
    simp only [List.getElem?_cons_zero,Option.some.injEq] at h
    subst h
    have := (g a (by simp)).1
    rw [Nat.zero_mul,Nat.zero_add,List.set_cons_zero,List.flatten_cons,List.flatten_cons,List.set_append_left _ _ (by omega)]
  | a :: l,i + 1,g,h => by
    rw [List.getElem?_cons_succ] at h
    have ha := (g a (by simp)).1
    have ih := flatten_set (v := v) hj l i (fun q hq => g q (by simp [hq])) h
    rw [List.set_cons_succ,List.flatten_cons,List.flatten_cons,List.set_append_right _ _ (by rw [ha,Nat.add_mul,Nat.one_mul]; omega),← ih,ha,show (i + 1) * E + j - E = i * E + j by rw [Nat.add_mul,Nat.one_mul]; omega]
theorem ones_set {r : List Value} {v : Value} {j : Nat} (h : ones r = true) (hv : v.oneCell' = true) : ones (r.set j v) = true := by
  rw [ones_iff] at *
  intro x hx
  rcases List.mem_or_eq_of_mem_set hx with z | z
  · exact h x z
  · subst z; exact hv
theorem Sl.first {E : Nat} {h : H} {v : Value} {rows : List (List Value)} (q : Sl E h v rows) : lenV v = some rows.length ∧ (rows.length ≠ 0 → firstC h E rows.length v = some rows.flatten) := by
  rcases q.2 with ⟨zn,rfl⟩ | ⟨b,o,sp,cap,rfl,row⟩
  · obtain ⟨a,rfl⟩ := zn.val
    exact ⟨rfl,fun z => absurd rfl z⟩
  · refine ⟨rfl,fun _ => ?_⟩
    show h.row ⟨b,o,none⟩ (rows.length * E) = _
    exact row.row (flat_len q.1)
end Go.Proofs.Ytdadiidfhnojcaa.K
namespace Go.Proofs.Ytdadiidfhnojcaa.K
open Go Go.Kx
set_option linter.unusedVariables false
set_option linter.unusedSimpArgs false
set_option maxRecDepth 20000
def room : ByteArray := ⟨#[114,111,111,109]⟩
def sr (l : List ByteArray) : List (List Value) := l.map fun s => [.string s]
theorem sr_good (l : List ByteArray) : GoodR 1 (sr l) := fun r hr => by
  obtain ⟨s,_,rfl⟩ := List.mem_map.1 hr
  exact ⟨rfl,rfl⟩
def hds (rows : List (List Value)) (l : List ByteArray) : Prop := rows.map (·.head?) = l.map fun s => some (.string s)
theorem hds.len {rows : List (List Value)} {l : List ByteArray} (h : hds rows l) : rows.length = l.length := by have := congrArg List.length h; simpa using this
structure LT (h : H) (t : TK) (bi bo : Nat) (r : List Value) : Prop where
  e : r = [.string t.name,.int .i64 t.bud,.slice (some ⟨bi,0,none⟩) t.ins.length (t.ins.length + 3),.slice (some ⟨bo,0,none⟩) t.outs.length (t.outs.length + 3)]
  i : RB h bi 9 1 false (sr (t.ins ++ [room,room,room]))
  o : ∃ rows,RB h bo 63 6 false rows ∧ hds rows (t.outs ++ [room,room,room])
theorem LT.upd {S : Nat → Prop} {h h' : H} (u : Upd S h h') {t : TK} {bi bo : Nat} {r : List Value} (q : LT h t bi bo r) (h1 : ¬ S bi) (h2 : ¬ S bo) : LT h' t bi bo r := by
  obtain ⟨e,i,rows,a,b⟩ := q
  exact ⟨e,i.upd u h1,rows,a.upd u h2,b⟩
theorem LT.grow {h h' : H} (g : Grow h h') {t : TK} {bi bo : Nat} {r : List Value} (q : LT h t bi bo r) : LT h' t bi bo r := q.upd (g.upd fun _ => False) id id
theorem LT.lt {h : H} {t : TK} {bi bo : Nat} {r : List Value} (q : LT h t bi bo r) : bi < h.next ∧ bo < h.next := by
  obtain ⟨e,i,rows,a,b⟩ := q
  exact ⟨H.get_lt i.2,H.get_lt a.2⟩
def roomRow : List Value := [.string room,.int .i64 0,.slice none 0 0,.slice none 0 0]
structure Lent (h : H) (v : Value) (bm : Nat) (rows : List (List Value)) (bs : List (Nat × Nat)) (ts : List TK) : Prop where
  v : v = .slice (some ⟨bm,0,none⟩) ts.length (ts.length + 3)
  m : RB h bm 55 4 false rows
  len : rows.length = ts.length + 3
  bl : bs.length = ts.length
  t : ∀ (i : Nat) (t : TK),ts[i]? = some t → ∃ p r,bs[i]? = some p ∧ rows[i]? = some r ∧ LT h t p.1 p.2 r
  r : ∀ i,ts.length ≤ i → i < ts.length + 3 → rows[i]? = some roomRow
  d1 : (bs.map (·.1)).Nodup
  d2 : (bs.map (·.2)).Nodup
theorem Lent.grow {h h' : H} (g : Grow h h') {v : Value} {bm : Nat} {rows : List (List Value)} {bs : List (Nat × Nat)} {ts : List TK} (q : Lent h v bm rows bs ts) : Lent h' v bm rows bs ts :=
  ⟨q.v,q.m.grow g,q.len,q.bl,fun i t ht => by obtain ⟨p,r,a,b,c⟩ := q.t i t ht; exact ⟨p,r,a,b,c.grow g⟩,q.r,q.d1,q.d2⟩
theorem Row.pre {h : H} {b : Nat} {a c : List Value} (q : Row h b 0 (a ++ c)) : Row h b 0 a := by
  have := q.sub (k := 0) (m := a.length) (by simp)
  rw [List.drop_zero,List.take_left] at this
  exact this
theorem LT.taskR {h : H} {t : TK} {bi bo : Nat} {r : List Value} (q : LT h t bi bo r) : TaskR h t r := by
  obtain ⟨rfl,i,rows,o,hd⟩ := q
  refine ⟨_,_,rfl,⟨sr_good t.ins,.inr ⟨bi,0,none,t.ins.length + 3,by rw [List.length_map],?_⟩⟩,rows.take t.outs.length,⟨o.1.take _,.inr ⟨bo,0,none,t.outs.length + 3,?_,?_⟩⟩,?_⟩
  · have := i.all
    rw [show (sr (t.ins ++ [room,room,room])).flatten = (sr t.ins).flatten ++ (sr [room,room,room]).flatten by unfold sr; rw [List.map_append,List.flatten_append]] at this
    exact this.pre
  · have := hd.len
    rw [List.length_append] at this
    rw [List.length_take,Nat.min_eq_left (by omega)]
  · have := o.all
    rw [← List.take_append_drop t.outs.length rows,List.flatten_append] at this
    exact this.pre
  · unfold hds at hd
    rw [List.map_take,hd,List.map_append,List.take_left' (by simp)]
theorem Lent.tasks {h : H} {v : Value} {bm : Nat} {rows : List (List Value)} {bs : List (Nat × Nat)} {ts : List TK} (q : Lent h v bm rows bs ts) : Tasks h v ts := by
  have hl : (rows.take ts.length).length = ts.length := by rw [List.length_take,q.len]; omega
  refine ⟨rows.take ts.length,⟨q.m.1.take _,.inr ⟨bm,0,none,ts.length + 3,by rw [hl]; exact q.v,?_⟩⟩,hl,fun i t ht => ?_⟩
  · have := q.m.all
    rw [← List.take_append_drop ts.length rows,List.flatten_append] at this
    exact this.pre
  · obtain ⟨p,r,a,b,c⟩ := q.t i t ht
    exact ⟨r,by rw [List.getElem?_take_of_lt (List.getElem?_eq_some_iff.1 ht).1]; exact b,c.taskR⟩
theorem RB.ne {h : H} {b c e f E F : Nat} {op op' : Bool} {r s : List (List Value)} (p : RB h b e E op r) (q : RB h c f F op' s) (hef : e ≠ f) : b ≠ c := fun z => by
  have h1 := p.2
  rw [z,q.2] at h1
  simp only [Option.some.injEq,Blk.cells.injEq] at h1
  exact hef h1.2.1.symm
end Go.Proofs.Ytdadiidfhnojcaa.K
namespace Go.Proofs.Ytdadiidfhnojcaa.K
open Go Go.Kx
set_option linter.unusedVariables false
set_option linter.unusedSimpArgs false
set_option maxRecDepth 20000
end Go.Proofs.Ytdadiidfhnojcaa.K
namespace Go.Proofs.Ytdadiidfhnojcaa.K
open Go Go.Kx
set_option linter.unusedVariables false
set_option linter.unusedSimpArgs false
set_option maxRecDepth 20000
theorem w3' {n : Nat} (h : n ≤ 60000) : IntKind.i64.wrap ((n : Int) + 3) = ((n + 3 : Nat) : Int) := by rw [wrap64 (by omega)]; omega
section
variable {h : H} {x0 x1 : Value} {ts : List TK} (T : Tasks h x1 ts) {i : Nat} {t : TK} (ht : ts[i]? = some t) (hi : t.ins.length ≤ 60000) (ho : t.outs.length ≤ 60000) {bi bo p : Nat} {r : List Value} (L : LT h t bi bo r) (gp : h.get p = some (.cells r 55 0 false))
include T ht hi ho L gp
end
end Go.Proofs.Ytdadiidfhnojcaa.K
namespace Go.Proofs.Ytdadiidfhnojcaa.K
open Go Go.Kx
set_option linter.unusedVariables false
set_option linter.unusedSimpArgs false
set_option maxRecDepth 20000
def bsX : ByteArray := ⟨#[120]⟩
def bsY : ByteArray := ⟨#[121]⟩
def bsA : ByteArray := ⟨#[97]⟩
def bsB : ByteArray := ⟨#[98]⟩
def bsC : ByteArray := ⟨#[99]⟩
def bsP : ByteArray := ⟨#[112]⟩
def bsT : ByteArray := ⟨#[116]⟩
def bsA2 : ByteArray := ⟨#[97,50]⟩
def bsSrc : ByteArray := ⟨#[115,114,99]⟩
def ts4 : List TK := [⟨bsB,0,[],[bsX]⟩,⟨bsA,0,[bsX],[bsY]⟩,⟨bsC,0,[bsY,bsX,bsSrc],[]⟩,⟨bsA2,0,[],[]⟩]
def ts1 : List TK := [⟨bsT,0,[bsP],[bsP]⟩]
theorem nd4 : nd ts4 0 = [] ∧ nd ts4 1 = [0] ∧ nd ts4 2 = [0,1] ∧ nd ts4 3 = [] := by decide +kernel
theorem nd1 : nd ts1 0 = [0] := by decide +kernel
theorem nd_out {ts : List TK} {i : Nat} (h : ts.length ≤ i) : nd ts i = [] := by
  cases e : nd ts i with
  | nil => rfl
  | cons a l =>
    have := need_out (nd_mem.1 (show a ∈ nd ts i by rw [e]; simp)).2
    omega
theorem few4 : Few ts4 := ⟨by decide,by decide +kernel,by decide +kernel,by decide +kernel⟩
theorem few1 : Few ts1 := ⟨by decide,by decide +kernel,by decide +kernel,by decide +kernel⟩
theorem noC_of {ts : List TK} (h : ∀ i j,j ∈ nd ts i → j < i) : NoC ts := by
  have all : ∀ {a b},Path (nd ts) a b → b < a := by
    intro a b p
    induction p with
    | one e => exact h _ _ e
    | cons e _ ih => have := h _ _ e; omega
  intro k hk
  exact Nat.lt_irrefl _ (all hk)
theorem noC4 : NoC ts4 := noC_of fun i j hj => by
  obtain ⟨n0,n1,n2,n3⟩ := nd4
  match i with
  | 0 => rw [n0] at hj; cases hj
  | 1 => rw [n1] at hj; simp at hj; omega
  | 2 => rw [n2] at hj; simp at hj; omega
  | 3 => rw [n3] at hj; cases hj
  | i + 4 => rw [nd_out (by show 4 ≤ i + 4; omega)] at hj; cases hj
theorem cyc1 : CycMin ts1 0 := ⟨by decide,.one (by show (0 : Nat) ∈ nd ts1 0; rw [nd1]; simp),fun j hj => by
  have := OnC_lt hj
  have hj0 : j = 0 := by have h1 : ts1.length = 1 := rfl; omega
  subst hj0; exact aLt_irrefl _ _⟩
def readyB (ts : List TK) (R : List Nat) (j : Nat) : Bool := decide (j < ts.length) && (decide (j ∉ R) && (nd ts j).all fun k => decide (k ∈ R))
theorem readyB_iff {ts : List TK} {R : List Nat} {j : Nat} : readyB ts R j = true ↔ Ready ts R j := by
  unfold readyB Ready
  rw [Bool.and_eq_true,Bool.and_eq_true,decide_eq_true_iff,decide_eq_true_iff,ready_all]
def pickB (ts : List TK) (R : List Nat) (x : Nat) : Bool := readyB ts R x && (List.range ts.length).all fun j => !readyB ts R j || (decide (j = x) || aLt ts (x : Int) (j : Int))
theorem pickB_ok {ts : List TK} {R : List Nat} {x : Nat} (h : pickB ts R x = true) : Pick ts R x := by
  unfold pickB at h
  rw [Bool.and_eq_true,List.all_eq_true] at h
  refine ⟨readyB_iff.1 h.1,fun j hj => ?_⟩
  have := h.2 j (List.mem_range.2 hj.1)
  rw [readyB_iff.2 hj] at this
  simp only [Bool.not_true,Bool.false_or,Bool.or_eq_true,decide_eq_true_eq] at this
  exact this
theorem pk4 : pickB ts4 [] 3 = true ∧ pickB ts4 [3] 0 = true ∧ pickB ts4 [3,0] 1 = true ∧ pickB ts4 [3,0,1] 2 = true := by decide +kernel
theorem ord4 : IsOrd ts4 [3,0,1,2] := fun k x h => by
  obtain ⟨p0,p1,p2,p3⟩ := pk4
  match k with
  | 0 => cases h; exact pickB_ok p0
  | 1 => cases h; exact pickB_ok p1
  | 2 => cases h; exact pickB_ok p2
  | 3 => cases h; exact pickB_ok p3
  | k + 4 => simp at h
theorem bOut (s : ByteArray) (h : H) : xbuild Try.prog 63 [(0,.string s)] h = .ok (.agg ⟨.string s :: zc63.drop 1⟩) h := by kernel_rfl
theorem bOuts (s : ByteArray) (h : H) : xbuildSlice Try.prog 53 1 [(0,.agg ⟨.string s :: zc63.drop 1⟩)] h = .ok (.slice (some ⟨h.next,0,none⟩) 1 1) (h.alloc (.cells (.string s :: zc63.drop 1) 63 0 false)) := by kernel_rfl
theorem oneOut {h : H} {b : Nat} {s : ByteArray} (g : h.get b = some (.cells (.string s :: zc63.drop 1) 63 0 false)) : OutSl h (.slice (some ⟨b,0,none⟩) 1 1) [s] := by
  have hl : (Value.string s :: zc63.drop 1).length = 6 := by simp [zc63_len]
  have ho : ones (Value.string s :: zc63.drop 1) = true := by
    show (true && ones (zc63.drop 1)) = true
    rw [ones_drop zc63_ones]; rfl
  refine ⟨[.string s :: zc63.drop 1],⟨GoodR.one hl ho,.inr ⟨b,0,none,1,rfl,_,_,_,_,g,by simp,by simp only [List.drop_zero,List.flatten_cons,List.flatten_nil,List.append_nil]; exact List.take_length⟩⟩,rfl⟩
theorem someStr {h : H} {b : Nat} {l : List ByteArray} (g : h.get b = some (.cells (l.map fun s => .string s) 9 0 false)) : StrSl h (.slice (some ⟨b,0,none⟩) l.length l.length) l := by
  have e : (l.map fun s => [Value.string s]).flatten = l.map fun s => .string s := by
    clear g
    induction l with
    | nil => rfl
    | cons a l ih => simp only [List.map_cons,List.flatten_cons,ih]; rfl
  refine ⟨sr_good l,.inr ⟨b,0,none,l.length,by rw [List.length_map],_,_,_,_,g,?_,?_⟩⟩
  · rw [e]; omega
  · rw [e,List.drop_zero,List.take_length]
theorem nilStr (h : H) : StrSl h (.slice none 0 0) [] := ⟨GoodR.nil,.inl ⟨Nul.nil,rfl⟩⟩
theorem nilOut (h : H) : OutSl h (.slice none 0 0) [] := ⟨[],⟨GoodR.nil,.inl ⟨Nul.nil,rfl⟩⟩,rfl⟩
theorem bT (n : ByteArray) (h : H) : xbuild Try.prog 55 [(0,.string n)] h = .ok (.agg ⟨[.string n,.int .i64 0,.slice none 0 0,.slice none 0 0]⟩) h := by kernel_rfl
theorem bTo (n : ByteArray) (b c d : Nat) (h : H) : xbuild Try.prog 55 [(0,.string n),(3,.slice (some ⟨b,0,none⟩) c d)] h = .ok (.agg ⟨[.string n,.int .i64 0,.slice none 0 0,.slice (some ⟨b,0,none⟩) c d]⟩) h := by kernel_rfl
theorem bTi (n : ByteArray) (b c d : Nat) (h : H) : xbuild Try.prog 55 [(0,.string n),(2,.slice (some ⟨b,0,none⟩) c d)] h = .ok (.agg ⟨[.string n,.int .i64 0,.slice (some ⟨b,0,none⟩) c d,.slice none 0 0]⟩) h := by kernel_rfl
theorem bTio (n : ByteArray) (b c d b' c' d' : Nat) (h : H) : xbuild Try.prog 55 [(0,.string n),(2,.slice (some ⟨b,0,none⟩) c d),(3,.slice (some ⟨b',0,none⟩) c' d')] h = .ok (.agg ⟨[.string n,.int .i64 0,.slice (some ⟨b,0,none⟩) c d,.slice (some ⟨b',0,none⟩) c' d']⟩) h := by kernel_rfl
theorem bS1 (s : ByteArray) (h : H) : xbuildSlice Try.prog 52 1 [(0,.string s)] h = .ok (.slice (some ⟨h.next,0,none⟩) 1 1) (h.alloc (.cells [.string s] 9 0 false)) := by kernel_rfl
theorem bS3 (s t u : ByteArray) (h : H) : xbuildSlice Try.prog 52 3 [(0,.string s),(1,.string t),(2,.string u)] h = .ok (.slice (some ⟨h.next,0,none⟩) 3 3) (h.alloc (.cells [.string s,.string t,.string u] 9 0 false)) := by kernel_rfl
def tr (n : ByteArray) (i o : Value) : List Value := [.string n,.int .i64 0,i,o]
def sv (b n : Nat) : Value := .slice (some ⟨b,0,none⟩) n n
theorem tr_good {n : ByteArray} {i o : Value} (hi : i.oneCell' = true) (ho : o.oneCell' = true) : (tr n i o).length = 4 ∧ ones (tr n i o) = true := ⟨rfl,by
  show (true && (true && (i.oneCell' && (o.oneCell' && true)))) = true
  rw [hi,ho]; rfl⟩
theorem lay4 (h : H) : ∃ h' v,Grow h h' ∧ Tasks h' v ts4 ∧ ∀ K : Value → H → Res Value,
    ((xbuild Try.prog 63 [(0,.string bsX)] h).go .pan fun t1 h2 => (xbuildSlice Try.prog 53 1 [(0,t1)] h2).go .pan fun t3 h4 => (xbuild Try.prog 55 [(0,.string bsB),(3,t3)] h4).go .pan fun t5 h6 => (xbuildSlice Try.prog 52 1 [(0,.string bsX)] h6).go .pan fun t7 h8 => (xbuild Try.prog 63 [(0,.string bsY)] h8).go .pan fun t9 h10 => (xbuildSlice Try.prog 53 1 [(0,t9)] h10).go .pan fun t11 h12 =>
      (xbuild Try.prog 55 [(0,.string bsA),(2,t7),(3,t11)] h12).go .pan fun t13 h14 => (xbuildSlice Try.prog 52 3 [(0,.string bsY),(1,.string bsX),(2,.string bsSrc)] h14).go .pan fun t15 h16 => (xbuild Try.prog 55 [(0,.string bsC),(2,t15)] h16).go .pan fun t17 h18 => (xbuild Try.prog 55 [(0,.string bsA2)] h18).go .pan fun t19 h20 => (xbuildSlice Try.prog 22 4 [(0,t5),(1,t13),(2,t17),(3,t19)] h20).go .pan K) = K v h' := by
  obtain ⟨h1,e1⟩ : ∃ h1,h1 = h.alloc (.cells (.string bsX :: zc63.drop 1) 63 0 false) := ⟨_,rfl⟩
  obtain ⟨h2,e2⟩ : ∃ h2,h2 = h1.alloc (.cells [.string bsX] 9 0 false) := ⟨_,rfl⟩
  obtain ⟨h3,e3⟩ : ∃ h3,h3 = h2.alloc (.cells (.string bsY :: zc63.drop 1) 63 0 false) := ⟨_,rfl⟩
  obtain ⟨h4,e4⟩ : ∃ h4,h4 = h3.alloc (.cells [.string bsY,.string bsX,.string bsSrc] 9 0 false) := ⟨_,rfl⟩
  obtain ⟨h5,e5⟩ : ∃ h5,h5 = h4.alloc (.cells (tr bsB (.slice none 0 0) (sv h.next 1) ++ (tr bsA (sv h1.next 1) (sv h2.next 1) ++ (tr bsC (sv h3.next 3) (.slice none 0 0) ++ tr bsA2 (.slice none 0 0) (.slice none 0 0)))) 55 0 false) := ⟨_,rfl⟩
  have g1 : Grow h h1 := by rw [e1]; exact (Grow.refl h).alloc _
  have g2 : Grow h1 h2 := by rw [e2]; exact (Grow.refl h1).alloc _
  have g3 : Grow h2 h3 := by rw [e3]; exact (Grow.refl h2).alloc _
  have g4 : Grow h3 h4 := by rw [e4]; exact (Grow.refl h3).alloc _
  have g5 : Grow h4 h5 := by rw [e5]; exact (Grow.refl h4).alloc _
  have b1 : h5.get h.next = some (.cells (.string bsX :: zc63.drop 1) 63 0 false) := g5.old _ _ (g4.old _ _ (g3.old _ _ (g2.old _ _ (by rw [e1]; exact H.alloc_self _ _))))
  have b2 : h5.get h1.next = some (.cells [.string bsX] 9 0 false) := g5.old _ _ (g4.old _ _ (g3.old _ _ (by rw [e2]; exact H.alloc_self _ _)))
  have b3 : h5.get h2.next = some (.cells (.string bsY :: zc63.drop 1) 63 0 false) := g5.old _ _ (g4.old _ _ (by rw [e3]; exact H.alloc_self _ _))
  have b4 : h5.get h3.next = some (.cells [.string bsY,.string bsX,.string bsSrc] 9 0 false) := g5.old _ _ (by rw [e4]; exact H.alloc_self _ _)
  have b5 : h5.get h4.next = some (.cells (tr bsB (.slice none 0 0) (sv h.next 1) ++ (tr bsA (sv h1.next 1) (sv h2.next 1) ++ (tr bsC (sv h3.next 3) (.slice none 0 0) ++ tr bsA2 (.slice none 0 0) (.slice none 0 0)))) 55 0 false) := by rw [e5]; exact H.alloc_self _ _
  refine ⟨h5,sv h4.next 4,(((g1.trans g2).trans g3).trans g4).trans g5,⟨[tr bsB (.slice none 0 0) (sv h.next 1),tr bsA (sv h1.next 1) (sv h2.next 1),tr bsC (sv h3.next 3) (.slice none 0 0),tr bsA2 (.slice none 0 0) (.slice none 0 0)],⟨fun r hr => ?_,.inr ⟨h4.next,0,none,4,rfl,_,_,_,_,b5,by simp,by simp [tr]⟩⟩,rfl,fun i t ht => ?_⟩,fun K => ?_⟩
  · simp only [List.mem_cons,List.not_mem_nil,or_false] at hr
    rcases hr with rfl | rfl | rfl | rfl <;> exact tr_good rfl rfl
  · match i with
    | 0 => cases ht; exact ⟨_,rfl,_,_,rfl,nilStr _,oneOut b1⟩
    | 1 => cases ht; exact ⟨_,rfl,_,_,rfl,someStr (l := [bsX]) b2,oneOut b3⟩
    | 2 => cases ht; exact ⟨_,rfl,_,_,rfl,someStr (l := [bsY,bsX,bsSrc]) b4,nilOut _⟩
    | 3 => cases ht; exact ⟨_,rfl,_,_,rfl,nilStr _,nilOut _⟩
    | i + 4 => simp [ts4] at ht
  · have eb : xbuildSlice Try.prog 22 4 [(0,.agg ⟨tr bsB (.slice none 0 0) (sv h.next 1)⟩),(1,.agg ⟨tr bsA (sv h1.next 1) (sv h2.next 1)⟩),(2,.agg ⟨tr bsC (sv h3.next 3) (.slice none 0 0)⟩),(3,.agg ⟨tr bsA2 (.slice none 0 0) (.slice none 0 0)⟩)] h4 = .ok (sv h4.next 4) h5 := by
      rw [e5]; kernel_rfl
    rw [bOut,go_ok,bOuts,go_ok,← e1,bTo,go_ok,bS1,go_ok,← e2,bOut,go_ok,bOuts,go_ok,← e3,bTio,go_ok,bS3,go_ok,← e4,bTi,go_ok,bT,go_ok]
    exact (congrArg (fun z => z.go .pan K) eb).trans (go_ok _ _ _ _)
theorem lay1 (h : H) : ∃ h' v,Grow h h' ∧ Tasks h' v ts1 ∧ ∀ K : Value → H → Res Value,
    ((xbuildSlice Try.prog 52 1 [(0,.string bsP)] h).go .pan fun t31 h32 => (xbuild Try.prog 63 [(0,.string bsP)] h32).go .pan fun t33 h34 => (xbuildSlice Try.prog 53 1 [(0,t33)] h34).go .pan fun t35 h36 => (xbuild Try.prog 55 [(0,.string bsT),(2,t31),(3,t35)] h36).go .pan fun t37 h38 => (xbuildSlice Try.prog 22 1 [(0,t37)] h38).go .pan K) = K v h' := by
  obtain ⟨h1,e1⟩ : ∃ h1,h1 = h.alloc (.cells [.string bsP] 9 0 false) := ⟨_,rfl⟩
  obtain ⟨h2,e2⟩ : ∃ h2,h2 = h1.alloc (.cells (.string bsP :: zc63.drop 1) 63 0 false) := ⟨_,rfl⟩
  obtain ⟨h3,e3⟩ : ∃ h3,h3 = h2.alloc (.cells (tr bsT (sv h.next 1) (sv h1.next 1)) 55 0 false) := ⟨_,rfl⟩
  have g1 : Grow h h1 := by rw [e1]; exact (Grow.refl h).alloc _
  have g2 : Grow h1 h2 := by rw [e2]; exact (Grow.refl h1).alloc _
  have g3 : Grow h2 h3 := by rw [e3]; exact (Grow.refl h2).alloc _
  have b1 : h3.get h.next = some (.cells [.string bsP] 9 0 false) := g3.old _ _ (g2.old _ _ (by rw [e1]; exact H.alloc_self _ _))
  have b2 : h3.get h1.next = some (.cells (.string bsP :: zc63.drop 1) 63 0 false) := g3.old _ _ (by rw [e2]; exact H.alloc_self _ _)
  have b3 : h3.get h2.next = some (.cells (tr bsT (sv h.next 1) (sv h1.next 1)) 55 0 false) := by rw [e3]; exact H.alloc_self _ _
  refine ⟨h3,sv h2.next 1,(g1.trans g2).trans g3,⟨[tr bsT (sv h.next 1) (sv h1.next 1)],⟨fun r hr => ?_,.inr ⟨h2.next,0,none,1,rfl,_,_,_,_,b3,by simp,by simp [tr]⟩⟩,rfl,fun i t ht => ?_⟩,fun K => ?_⟩
  · simp only [List.mem_cons,List.not_mem_nil,or_false] at hr
    subst hr; exact tr_good rfl rfl
  · match i with
    | 0 => cases ht; exact ⟨_,rfl,_,_,rfl,someStr (l := [bsP]) b1,oneOut b2⟩
    | i + 1 => simp [ts1] at ht
  · have eb : xbuildSlice Try.prog 22 1 [(0,.agg ⟨tr bsT (sv h.next 1) (sv h1.next 1)⟩)] h2 = .ok (sv h2.next 1) h3 := by
      rw [e3]; kernel_rfl
    rw [bS1,go_ok,← e1,bOut,go_ok,bOuts,go_ok,← e2,bTio,go_ok]
    exact (congrArg (fun z => z.go .pan K) eb).trans (go_ok _ _ _ _)
end Go.Proofs.Ytdadiidfhnojcaa.K
namespace Go.Proofs.Ytdadiidfhnojcaa.K
open Go Go.Kx
set_option linter.unusedVariables false
set_option linter.unusedSimpArgs false
set_option maxRecDepth 20000
theorem Out.il {h : H} {b : Nat} {R : List Nat} {n : Nat} (o : Out h b n R) (hn : R.length = n) : IL h (.slice (some ⟨b,0,none⟩) n n) (nl R) := by
  obtain ⟨sp,hg,_⟩ := o
  exact .inr ⟨b,none,n,sp,false,by rw [nl_len,hn],hg⟩
theorem eStarted (h : H) : ∃ h',Grow h h' ∧ CLM (.f 11) [] h = .ok (.bool true) h' := by
  obtain ⟨h1,v1,g1,T1,e1⟩ := lay4 h
  obtain ⟨h2,a,ca,na,g2,ra,e2⟩ := eOrder T1 few4
  obtain ⟨h3,v3,g3,T3,e3⟩ := lay1 h2
  obtain ⟨h4,b,cb,nb,g4,rb,e4⟩ := eOrder T3 few1
  rcases ra with ⟨c,hc,_⟩ | ⟨_,R,ba,io,hl,_,oa,rfl,rfl,rfl⟩
  · exact absurd hc.2.1 (noC4 c)
  rcases rb with ⟨c,hc,rfl,rfl,rfl⟩ | ⟨nc,_⟩
  rotate_left
  · exact absurd cyc1.2.1 (nc 0)
  have hR : R = [3,0,1,2] := io.uniq ord4 hl
  have hc0 : c = 0 := hc.uniq cyc1
  subst hR hc0
  have T1' := T1.grow ((g2.trans g3).trans g4)
  obtain ⟨h5,hh5⟩ : ∃ h5,h5 = h4.alloc (.cells [.int .i64 3,.int .i64 0,.int .i64 1,.int .i64 2] 3 0 false) := ⟨_,rfl⟩
  have g5 : Grow h4 h5 := by rw [hh5]; exact (Grow.refl h4).alloc _
  have eb : xbuildSlice Try.prog 27 4 [(0,.int .i64 3),(1,.int .i64 0),(2,.int .i64 1),(3,.int .i64 2)] h4 = .ok (.slice (some ⟨h4.next,0,none⟩) 4 4) h5 := by rw [hh5]; kernel_rfl
  have I1 : IL h5 (.slice (some ⟨ba,0,none⟩) ts4.length ts4.length) (nl [3,0,1,2]) := (Out.il oa rfl).grow ((g3.trans g4).trans g5)
  have I2 : IL h5 (.slice (some ⟨h4.next,0,none⟩) 4 4) (nl [3,0,1,2]) := .inr ⟨h4.next,none,4,[],false,rfl,by rw [hh5]; exact H.alloc_self _ _⟩
  have e5 := eSameI I1 I2 (by simp [nl])
  rw [decide_eq_true rfl] at e5
  obtain ⟨h6,v6,b6,g6,P6,_,e6⟩ := eNeeds (T1'.grow g5) few4 4
  obtain ⟨h7,v7,b7,g7,P7,_,e7⟩ := eNeeds (T1'.grow (g5.trans g6)) few4 (-1)
  have n4 : ndI ts4 4 = [] := if_neg (by decide)
  have n5 : ndI ts4 (-1) = [] := if_neg (by decide)
  rw [n4] at P6
  rw [n5] at P7
  have l6 := P6.nl.1.len h6
  have hz : ((0 : Nat) : Int) = 0 := rfl
  have hlz : ((([] : List Int).length : Nat) : Int) = 0 := rfl
  have hnm : nm ts1 ((0 : Nat) : Int) = ⟨#[116]⟩ := rfl
  have l7 := P7.nl.1.len h7
  refine ⟨h7,(((((g1.trans g2).trans g3).trans g4).trans g5).trans g6).trans g7,?_⟩
  rw [cM11,F11.eq]
  refine (e1 _).trans ?_
  show ((CLM (.f 13) [v1] h1).go .pan _) = _
  rw [e2,go_ok,xextract_0,go_ok,xextract_1,go_ok,xextract_2,go_ok]
  refine (e3 _).trans ?_
  show ((CLM (.f 13) [v3] h3).go .pan _) = _
  rw [e4,go_ok,xextract_0,go_ok,xextract_1,go_ok,xextract_2,go_ok,eb,go_ok,e5,go_ok,ifV_t,eNum,go_ok,xeql,go_ok,ifV_dec,if_pos rfl,xseql,go_ok,ifV_dec,if_pos rfl,ln27,go_ok,xeql,go_ok,ifV_dec,if_pos hz,eNum,go_ok,xeql,go_ok,ifV_dec,if_pos rfl,xseql,go_ok,ifV_dec,if_pos hnm,e6,go_ok,l6,go_ok,xeql,go_ok,ifV_dec,if_pos hlz,e7,go_ok,l7,go_ok,xeql,go_ok]
  rfl
theorem LevR.known {h0 h1 : H} {ts : List TK} {v : Value} {c : Int} {m : ByteArray} (p : LevR h0 h1 ts v c m) : NoC ts → ∃ L ls,IsLevs ts L ls := fun nc => by
  rcases p with ⟨x,hx,_⟩ | ⟨_,L,ls,_,_,lv,_⟩
  · exact absurd hx.2.1 (nc x)
  · exact ⟨L,ls,lv⟩
end Go.Proofs.Ytdadiidfhnojcaa.K
