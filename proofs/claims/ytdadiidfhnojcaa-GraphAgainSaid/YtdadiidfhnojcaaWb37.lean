/- My texts for this claim, in one file: part 37. -/
import Derived.Test.YtdadiidfhnojcaaWb36
namespace Go.Proofs.Ytdadiidfhnojcaa.K
open Go Go.Kx
set_option linter.unusedVariables false
set_option linter.unusedSimpArgs false
set_option maxRecDepth 20000
def ASorted (ts : List TK) (l : List Nat) : Prop := l.Pairwise fun i j : Nat => aLt ts (i : Int) (j : Int) = true
def Out (h : H) (b n : Nat) (R : List Nat) : Prop := ∃ sp,h.get b = some (.cells (iv (nl R) ++ sp) 3 0 false) ∧ R.length + sp.length = n
theorem Out.upd {S : Nat → Prop} {h h' : H} (u : Upd S h h') {b n : Nat} {R : List Nat} (q : Out h b n R) (hS : ¬ S b) : Out h' b n R := by
  obtain ⟨sp,hg,e⟩ := q
  exact ⟨sp,u.old _ _ hS hg,e⟩
theorem Out.push {h : H} {b n : Nat} {R : List Nat} (q : Out h b n R) (hR : R.length < n) {vb x : Nat} (hv : h.get vb = some (.cells [.int .i64 (x : Nat)] 3 0 false)) :
    ∃ h',xbuiltin Try.prog .append [27,27] [.slice (some ⟨b,0,none⟩) R.length n,.slice (some ⟨vb,0,none⟩) 1 1] h = .ok (.slice (some ⟨b,0,none⟩) (R.length + 1) n) h' ∧ Upd (fun y => y = b) h h' ∧ Out h' b n (R ++ [x]) := by
  obtain ⟨sp,hg,e⟩ := q
  cases sp with
  | nil => simp at e; omega
  | cons s sp =>
    have hce : Try.prog.cellsOf 3 = 1 := by kernel_rfl
    have hrow : h.row ⟨vb,0,none⟩ (1 * 1) = some [.int .i64 (x : Nat)] := H.row_all hv rfl
    have hw : h.write ⟨b,R.length,none⟩ [.int .i64 (x : Nat)] = some (h.put b (.cells (iv (nl (R ++ [x])) ++ sp) 3 0 false)) := by
      rw [write_cell' hg (by rw [List.length_append,iv_len,nl_len,List.length_cons]; omega) rfl,nl_append,iv_append]
      congr 3
      rw [List.set_append_right _ _ (by rw [iv_len,nl_len]; exact Nat.le_refl _),iv_len,nl_len,Nat.sub_self,List.append_assoc]
      rfl
    refine ⟨_,xapp_in (k := 1) LI.el LI.sz LI.iss rfl (by rw [hce]; exact hrow) (by omega) (by omega) (by rw [hce,Nat.zero_add,Nat.mul_one]; exact hw),(Upd.refl (fun y => y = b) h).put (.inl rfl) (H.get_lt hg) _,sp,H.put_self hg,by simp at e ⊢; omega⟩
structure OrS (hN h : H) (n bl : Nat) (L : Nat → Nat) (v : Value) (br : Option Nat) (F : List Nat) : Prop where
  gr : Grow hN h
  l : AL h bl n false L
  f : ML h v br F
  fl : hN.next ≤ bl
  ff : ∀ b,br = some b → hN.next ≤ b ∧ b ≠ bl
section
variable {hN h : H} {n bl : Nat} {L : Nat → Nat} {v : Value} {br : Option Nat} {F : List Nat}
theorem OrS.setL (s : OrS hN h n bl L v br F) {j : Nat} (hj : j < n) (x : Nat) :
    ∃ h',xstore Try.prog 3 (.pointer (some ⟨bl,0 + j * 1,none⟩)) (.int .i64 (x : Nat)) h = .ok undef h' ∧ Upd (fun y => y = bl) h h' ∧ OrS hN h' n bl (updN L j x) v br F := by
  obtain ⟨h',e,u,l'⟩ := s.l.st hj x
  exact ⟨h',e,u,grow_then s.gr u fun b hb => hb ▸ s.fl,l',s.f.upd u fun b hb z => (s.ff b hb).2 z,s.fl,s.ff⟩
theorem OrS.congr (s : OrS hN h n bl L v br F) {L' : Nat → Nat} (h1 : ∀ k,k < n → L k = L' k) : OrS hN h n bl L' v br F := ⟨s.gr,s.l.congr h1,s.f,s.fl,s.ff⟩
theorem OrS.ins {g : Nat} {ts : List TK} {vt : Value} (N : Net hN g ts vt) (s : OrS hN h n bl L v br F) {x : Nat} (hx : x < ts.length) (hl : ∀ k ∈ F,k < ts.length) (few : F.length ≤ 60000) (hs : ASorted ts F) (hxl : x ∉ F) :
    ∃ h' v' br' F',OrS hN h' n bl L v' br' F' ∧ F'.Perm (F ++ [x]) ∧ ASorted ts F' ∧ Upd (fun y => some y = br) h h' ∧ (∀ b,br' = some b → h.next ≤ b) ∧ CLM (.f 34) [.pointer (some ⟨g,0,none⟩),v,.int .i64 (x : Nat)] h = .ok v' h' := by
  obtain ⟨h',v',b',l',u,ml,hb,p,srt,e⟩ := eInsert N s.gr s.f hx hl few hs hxl
  have hbl := H.get_lt s.l
  refine ⟨h',v',some b',l',⟨grow_then s.gr u fun b hb => (s.ff b hb.symm).1,s.l.upd u fun z => (s.ff bl z.symm).2 rfl,ml,s.fl,fun b e => ?_⟩,?_,srt,u,fun b e => ?_,e⟩
  · cases e; have := s.gr.next; exact ⟨by omega,by omega⟩
  · exact p.trans (List.perm_append_comm (l₁ := [x]) (l₂ := F))
  · cases e; exact hb
end
theorem or_init {hN : H} {g : Nat} {ts : List TK} {vt vn : Value} {bl : Nat} (N : Net hN g ts vt) (LN : LLv hN vn ts.length (ndL ts)) (F0 : Few ts) :
    ∀ (m i : Nat) {h : H} {v : Value} {br : Option Nat} {F : List Nat},ts.length - i = m → i ≤ ts.length → OrS hN h ts.length bl (fun j => if j < i then (nd ts j).length else 0) v br F → F.Perm ((List.range i).filter fun j => decide ((nd ts j).length = 0)) → ASorted ts F →
      ∃ h' v' br' F',OrS hN h' ts.length bl (cntN (nd ts) []) v' br' F' ∧ F'.Perm ((List.range ts.length).filter fun j => decide ((nd ts j).length = 0)) ∧ ASorted ts F' ∧
        F13.l8 Try.prog CLM nu0 nu0 vt (.pointer (some ⟨g,0,none⟩)) (.slice (some ⟨bl,0,none⟩) ts.length ts.length) v vn (.int .i64 (ts.length : Nat)) (.int .i64 (i : Nat)) h = F13.j14 Try.prog CLM nu0 nu0 vt (.pointer (some ⟨g,0,none⟩)) (.slice (some ⟨bl,0,none⟩) ts.length ts.length) v' h' := by
  intro m
  have hn := F0.n
  induction m with
  | zero =>
    intro i h v br F hm hi s p srt
    have : i = ts.length := by omega
    subst this
    refine ⟨h,v,br,F,s.congr (fun k hk => by rw [if_pos hk,cntN_nil]),p,srt,?_⟩
    rw [F13.l8_eq,xlss,go_ok,F13.j9_eq,ifV_dec,if_neg (by omega)]
  | succ m ih =>
    intro i h v br F hm hi s p srt
    have hil : i < ts.length := by omega
    have hfl := nd_len ts i
    obtain ⟨a,u,a1,a2,I⟩ := LN.at_ hil
    obtain ⟨l1,_⟩ := s.l.ld (m := ts.length) (cap := ts.length) hil hil
    obtain ⟨h1,e1,u1,s1⟩ := s.setL hil (nd ts i).length
    have s2 := s1.congr (L' := fun j => if j < i + 1 then (nd ts j).length else 0) (fun k hk => by
      by_cases e : k = i
      · subst e; rw [updN_eq,if_pos (by omega)]
      · rw [updN_ne e]
        by_cases q : k < i
        · rw [if_pos q,if_pos (by omega)]
        · rw [if_neg q,if_neg (by omega)])
    have hlen : (ndL ts i).length = (nd ts i).length := nl_len _
    have hE : F13.l8 Try.prog CLM nu0 nu0 vt (.pointer (some ⟨g,0,none⟩)) (.slice (some ⟨bl,0,none⟩) ts.length ts.length) v vn (.int .i64 (ts.length : Nat)) (.int .i64 (i : Nat)) h =
        if (((nd ts i).length : Nat) : Int) = 0 then ((CLM (.f 34) [.pointer (some ⟨g,0,none⟩),v,.int .i64 (i : Nat)] h1).go .pan fun t41 h42 => ((xbin Try.prog .add 3 (.int .i64 (i : Nat)) (.int .i64 1) h42).go .pan fun t43 h44 => F13.l8 Try.prog CLM nu0 nu0 vt (.pointer (some ⟨g,0,none⟩)) (.slice (some ⟨bl,0,none⟩) ts.length ts.length) t41 vn (.int .i64 (ts.length : Nat)) t43 h44))
        else ((xbin Try.prog .add 3 (.int .i64 (i : Nat)) (.int .i64 1) h1).go .pan fun t45 h46 => F13.l8 Try.prog CLM nu0 nu0 vt (.pointer (some ⟨g,0,none⟩)) (.slice (some ⟨bl,0,none⟩) ts.length ts.length) v vn (.int .i64 (ts.length : Nat)) t45 h46) := by
      rw [F13.l8_eq,xlss,go_ok,F13.j9_eq,ifV_dec,if_pos (by omega),F13.j9_1_eq,a1,go_ok,a2 _ s.gr,go_ok,I.1.len,go_ok,hlen,l1,go_ok,e1,go_ok,I.1.len,go_ok,hlen,xeql,go_ok,ifV_dec]
    rw [hE]
    by_cases hz : (nd ts i).length = 0
    · rw [if_pos (by omega)]
      have hFl : F.length ≤ 3000 := by
        rw [p.length_eq]
        have := List.length_filter_le (fun j => decide ((nd ts j).length = 0)) (List.range i)
        rw [List.length_range] at this; omega
      obtain ⟨h3,v3,br3,F3,s3,p3,srt3,u3,_,e3⟩ := s2.ins N hil (fun k hk => by
        have := List.mem_range.1 (List.mem_filter.1 (p.mem_iff.1 hk)).1; omega) (by omega) srt (fun hk => by
        have := List.mem_range.1 (List.mem_filter.1 (p.mem_iff.1 hk)).1; omega)
      obtain ⟨h',v',br',F',s',p',srt',e'⟩ := ih (i + 1) (by omega) (by omega) s3 (by
        rw [List.range_succ,List.filter_append,show [i].filter (fun j => decide ((nd ts j).length = 0)) = [i] from List.filter_cons_of_pos (decide_eq_true hz)]
        exact p3.trans (List.Perm.append_right _ p)) srt3
      refine ⟨h',v',br',F',s',p',srt',?_⟩
      rw [e3,go_ok,xadd,go_ok,wadd1 (by omega)]
      exact e'
    · rw [if_neg (by omega)]
      obtain ⟨h',v',br',F',s',p',srt',e'⟩ := ih (i + 1) (by omega) (by omega) s2 (by
        rw [List.range_succ,List.filter_append,show [i].filter (fun j => decide ((nd ts j).length = 0)) = [] from List.filter_cons_of_neg (by rw [decide_eq_true_iff]; exact hz),List.append_nil]
        exact p) srt
      refine ⟨h',v',br',F',s',p',srt',?_⟩
      rw [xadd,go_ok,wadd1 (by omega)]
      exact e'
theorem newZ_sub {f t : Nat → List Nat} {R : List Nat} {i q : Nat} : (newZ f t R i q).Sublist (newZ f t R i (t i).length) := by
  unfold newZ
  rw [List.take_length]
  exact (List.take_sublist _ _).filter _
theorem or_inner {hN : H} {g : Nat} {ts : List TK} {vt u : Value} {bl bo i nn : Nat} {R F : List Nat} (N : Net hN g ts vt) (hn : ts.length ≤ 3000) (hi : i < ts.length) (hiR : i ∉ R) (hbo : hN.next ≤ bo) (hlo : bo ≠ bl) (I : IL hN u (usL ts i))
    (k : Kahn ts.length (nd ts) (R ++ [i]) (F ++ newZ (nd ts) (us ts) R i (us ts i).length)) :
    ∀ (m q : Nat) {h : H} {v : Value} {br : Option Nat} {G : List Nat},(us ts i).length - q = m → q ≤ (us ts i).length → OrS hN h ts.length bl (lefQ (nd ts) (us ts) R i q) v br G → G.Perm (F ++ newZ (nd ts) (us ts) R i q) → ASorted ts G → br ≠ some bo → Out h bo nn (R ++ [i]) →
      ∃ h' v' br' G',OrS hN h' ts.length bl (cntN (nd ts) (R ++ [i])) v' br' G' ∧ G'.Perm (F ++ newZ (nd ts) (us ts) R i (us ts i).length) ∧ ASorted ts G' ∧ br' ≠ some bo ∧ Out h' bo nn (R ++ [i]) ∧
        ∀ vo : Value,F13.l20 Try.prog CLM nu0 nu0 (.pointer (some ⟨g,0,none⟩)) (.slice (some ⟨bl,0,none⟩) ts.length ts.length) v vo u (.int .i64 ((us ts i).length : Nat)) (.int .i64 (q : Nat)) h = F13.l15 Try.prog CLM nu0 nu0 (.pointer (some ⟨g,0,none⟩)) (.slice (some ⟨bl,0,none⟩) ts.length ts.length) v' vo h' := by
  intro m
  have gr := needGr ts
  have hul := us_len ts i
  induction m with
  | zero =>
    intro q h v br G hm hq s p srt nb o
    have : q = (us ts i).length := by omega
    subst this
    refine ⟨h,v,br,G,s.congr (fun k hk => lefQ_end gr hi hk),p,srt,nb,o,fun vo => ?_⟩
    rw [F13.l20_eq,xlss,go_ok,F13.j21_eq,ifV_dec,if_neg (by omega)]
  | succ m ih =>
    intro q h v br G hm hq s p srt nb o
    have hql : q < (us ts i).length := by omega
    have hj : (us ts i)[q]? = some (us ts i)[q] := List.getElem?_eq_getElem hql
    obtain ⟨j,hjd⟩ : ∃ j,j = (us ts i)[q] := ⟨_,rfl⟩
    rw [← hjd] at hj
    have hjn : j < ts.length := gr.tl i j hi (List.mem_of_getElem? hj)
    obtain ⟨z1,z2,z3⟩ := lefQ_step gr hi hiR hj
    obtain ⟨a,a1,a2⟩ := (I.grow s.gr).at_ (show (usL ts i)[q]? = some (j : Int) by unfold usL nl; rw [List.getElem?_map,hj]; rfl)
    obtain ⟨l1,l2⟩ := s.l.ld (m := ts.length) (cap := ts.length) hjn hjn
    rw [z1] at l2
    obtain ⟨h1,e1,u1,s1⟩ := s.setL hjn (cntN (nd ts) (R ++ [i]) j)
    obtain ⟨_,l3⟩ := s1.l.ld (m := ts.length) (cap := ts.length) hjn hjn
    rw [updN_eq] at l3
    have s2 := s1.congr (L' := lefQ (nd ts) (us ts) R i (q + 1)) (fun k _ => by rw [z2 k]; rfl)
    have o1 := o.upd u1 hlo
    have hc : cntN (nd ts) (R ++ [i]) j < 100000 := by
      unfold cntN
      have := List.length_filter_le (fun k => decide (k ∉ R ++ [i])) (nd ts j)
      have := nd_len ts j
      omega
    have hE : ∀ vo : Value,F13.l20 Try.prog CLM nu0 nu0 (.pointer (some ⟨g,0,none⟩)) (.slice (some ⟨bl,0,none⟩) ts.length ts.length) v vo u (.int .i64 ((us ts i).length : Nat)) (.int .i64 (q : Nat)) h =
        if ((cntN (nd ts) (R ++ [i]) j : Nat) : Int) = 0 then ((CLM (.f 34) [.pointer (some ⟨g,0,none⟩),v,.int .i64 (j : Nat)] h1).go .pan fun t99 h100 => ((xbin Try.prog .add 3 (.int .i64 (q : Nat)) (.int .i64 1) h100).go .pan fun t101 h102 => F13.l20 Try.prog CLM nu0 nu0 (.pointer (some ⟨g,0,none⟩)) (.slice (some ⟨bl,0,none⟩) ts.length ts.length) t99 vo u (.int .i64 ((us ts i).length : Nat)) t101 h102))
        else ((xbin Try.prog .add 3 (.int .i64 (q : Nat)) (.int .i64 1) h1).go .pan fun t103 h104 => F13.l20 Try.prog CLM nu0 nu0 (.pointer (some ⟨g,0,none⟩)) (.slice (some ⟨bl,0,none⟩) ts.length ts.length) v vo u (.int .i64 ((us ts i).length : Nat)) t103 h104) := fun vo => by
      rw [F13.l20_eq,xlss,go_ok,F13.j21_eq,ifV_dec,if_pos (by omega),F13.j21_1_eq,a1,go_ok,a2,go_ok,l1,go_ok,l2,go_ok,xsub,go_ok,wsub1 (by omega) (by omega),Nat.add_sub_cancel,l1,go_ok,e1,go_ok,l1,go_ok,l3,go_ok,xeql,go_ok,ifV_dec]
    by_cases hz : cntN (nd ts) (R ++ [i]) j = 0
    · rw [if_pos hz] at z3
      have hnod : (F ++ (newZ (nd ts) (us ts) R i q ++ [j])).Nodup := by
        have h1 := k.nod
        rw [List.nodup_append] at h1
        refine h1.2.1.sublist (List.Sublist.append (List.Sublist.refl _) ?_)
        rw [← z3]; exact newZ_sub
      have hjG : j ∉ G := fun z => by
        rw [p.mem_iff] at z
        rw [← List.append_assoc,List.nodup_append] at hnod
        exact hnod.2.2 j z j (by simp) rfl
      have hGlt : ∀ y ∈ G,y < ts.length := fun y hy => by
        rw [p.mem_iff] at hy
        rcases List.mem_append.1 hy with z | z
        · exact k.lt y (by simp [z])
        · exact k.lt y (by have := newZ_sub.subset z; simp [this])
      have hGlen : G.length ≤ 3000 := by
        have h1 := List.Nodup.length_le_of_subset (p.nodup_iff.2 (by rw [← List.append_assoc,List.nodup_append] at hnod; exact hnod.1)) (l₂ := List.range ts.length) fun y hy => List.mem_range.2 (hGlt y hy)
        rw [List.length_range] at h1; omega
      obtain ⟨h3,v3,br3,G3,s3,p3,srt3,u3,f3,e3⟩ := s2.ins N hjn hGlt (by omega) srt hjG
      have o3 := o1.upd u3 fun z => nb z.symm
      obtain ⟨spx,hox,_⟩ := o1
      obtain ⟨h',v',br',G',s',p',srt',nb',o',e'⟩ := ih (q + 1) (by omega) (by omega) s3 (by
        rw [z3,← List.append_assoc]; exact p3.trans (List.Perm.append_right _ p)) srt3 (fun z => by have := f3 bo z; have := H.get_lt hox; omega) o3
      refine ⟨h',v',br',G',s',p',srt',nb',o',fun vo => ?_⟩
      rw [hE,if_pos (by omega),e3,go_ok,xadd,go_ok,wadd1 (by omega)]
      exact e' vo
    · rw [if_neg hz,List.append_nil] at z3
      obtain ⟨h',v',br',G',s',p',srt',nb',o',e'⟩ := ih (q + 1) (by omega) (by omega) s2 (by rw [z3]; exact p) srt nb o1
      refine ⟨h',v',br',G',s',p',srt',nb',o',fun vo => ?_⟩
      rw [hE,if_neg (by omega),xadd,go_ok,wadd1 (by omega)]
      exact e' vo
theorem or_main {hN : H} {g : Nat} {ts : List TK} {vt : Value} {bl bo : Nat} (N : Net hN g ts vt) (F0 : Few ts) (nc : NoC ts) (hbo : hN.next ≤ bo) (hlo : bo ≠ bl) :
    ∀ (m : Nat) {h : H} {v : Value} {br : Option Nat} {R F : List Nat},ts.length - R.length = m → OrS hN h ts.length bl (cntN (nd ts) R) v br F → Kahn ts.length (nd ts) R F → ASorted ts F → IsOrd ts R → br ≠ some bo → Out h bo ts.length R →
      ∃ h' R',Grow hN h' ∧ IsOrd ts R' ∧ R'.length = ts.length ∧ Out h' bo ts.length R' ∧
        F13.l15 Try.prog CLM nu0 nu0 (.pointer (some ⟨g,0,none⟩)) (.slice (some ⟨bl,0,none⟩) ts.length ts.length) v (.slice (some ⟨bo,0,none⟩) R.length ts.length) h = .ok (.tuple ⟨[.slice (some ⟨bo,0,none⟩) ts.length ts.length,.int .i64 0,.string ⟨#[]⟩]⟩) h' := by
  have hn := F0.n
  have fin : ∀ {h : H} {v : Value} {br : Option Nat} {R : List Nat},OrS hN h ts.length bl (cntN (nd ts) R) v br [] → Kahn ts.length (nd ts) R [] → IsOrd ts R → Out h bo ts.length R → ∃ h' R',Grow hN h' ∧ IsOrd ts R' ∧ R'.length = ts.length ∧ Out h' bo ts.length R' ∧
        F13.l15 Try.prog CLM nu0 nu0 (.pointer (some ⟨g,0,none⟩)) (.slice (some ⟨bl,0,none⟩) ts.length ts.length) v (.slice (some ⟨bo,0,none⟩) R.length ts.length) h = .ok (.tuple ⟨[.slice (some ⟨bo,0,none⟩) ts.length ts.length,.int .i64 0,.string ⟨#[]⟩]⟩) h' := by
    intro h v br R s k io o
    have hR := k.done nc
    refine ⟨h,R,s.gr,io,hR,o,?_⟩
    rw [F13.l15_eq,s.f.len,go_ok,xgtr,go_ok,show ([] : List Nat).length = 0 from rfl,ifV_dec,if_neg (by omega),F13.j26_eq,hR]
  intro m
  induction m with
  | zero =>
    intro h v br R F hm s k srt io nb o
    have hl := k.len
    rw [List.length_append] at hl
    have hF : F = [] := List.length_eq_zero_iff.1 (by omega)
    subst hF
    exact fin s k io o
  | succ m ih =>
    intro h v br R F hm s k srt io nb o
    cases F with
    | nil => exact fin s k io o
    | cons i F =>
      have hl := k.len
      rw [List.length_append,List.length_cons] at hl
      have hi : i < ts.length := k.lt i (by simp)
      have pk := k.pick srt
      have hiR : i ∉ R := pk.1.2.1
      obtain ⟨⟨a,p2,p3⟩,v',p4,p5⟩ := s.f.pop
      have k1 : Kahn ts.length (nd ts) R (F ++ [i]) := k.perm (List.perm_append_comm (l₁ := F) (l₂ := [i]))
      have k2 := k1.step (needGr ts)
      have g1 : Grow h (h.alloc (.cells [.int .i64 (i : Nat)] 3 0 false)) := (Grow.refl h).alloc _
      have eb : xbuildSlice Try.prog 27 1 [(0,.int .i64 (i : Nat))] h = .ok (.slice (some ⟨h.next,0,none⟩) 1 1) (h.alloc (.cells [.int .i64 (i : Nat)] 3 0 false)) := by kernel_rfl
      obtain ⟨h2,e2,u2,o2⟩ := (o.upd (g1.upd fun _ => False) id).push (by omega) (H.alloc_self h (.cells [.int .i64 (i : Nat)] 3 0 false))
      have G2 : Grow hN h2 := grow_then (s.gr.trans g1) u2 fun b hb => hb ▸ hbo
      have s2 : OrS hN h2 ts.length bl (lefQ (nd ts) (us ts) R i 0) v' br F :=
        ⟨G2,AL.congr ((g1.old _ _ s.l |> fun z : AL _ bl ts.length false (cntN (nd ts) R) => z.upd u2 fun z => hlo z.symm)) (fun k _ => by rw [lefQ_zero]),(p5.grow g1).upd u2 fun b hb z => nb (by rw [hb,z]),s.fl,s.ff⟩
      obtain ⟨vn,vu,nn,T,LN,LU⟩ := id N
      obtain ⟨a',u,a1,a2,I⟩ := LU.at_ hi
      obtain ⟨h3,v3,br3,G3,s3,p3',srt3,nb3,o3,e3⟩ := or_inner (F := F) N hn hi hiR hbo hlo I.1 k2 _ 0 rfl (Nat.zero_le _) s2 (by rw [show newZ (nd ts) (us ts) R i 0 = [] by unfold newZ; simp,List.append_nil]) (List.pairwise_cons.1 srt).2 nb o2
      obtain ⟨h',R',g',io',l',o',e'⟩ := ih (by rw [List.length_append,List.length_singleton]; omega) s3 (k2.perm p3') srt3 (io.snoc pk) nb3 o3
      refine ⟨h',R',g',io',l',o',?_⟩
      have n2 := nn.grow G2
      rw [List.length_append,List.length_singleton] at e'
      rw [F13.l15_eq,s.f.len,go_ok,xgtr,go_ok,List.length_cons,ifV_dec,if_pos (by omega),F13.j16_eq,p2,go_ok,p3,go_ok,p4,go_ok,eb,go_ok,e2,go_ok,xnil_ptr,go_ok,fa79_2,go_ok,ld33,n2.u,ofO_some,go_ok,a1,go_ok,a2 _ G2,go_ok,I.1.len,go_ok,show (usL ts i).length = (us ts i).length from nl_len _,
        show (Value.int .i64 0) = .int .i64 ((0 : Nat) : Int) from rfl,e3]
      exact e'
def CycMin (ts : List TK) (c : Nat) : Prop := c < ts.length ∧ OnC (nd ts) c ∧ ∀ j : Nat,OnC (nd ts) j → aLt ts (j : Int) (c : Int) = false
theorem CycMin.uniq {ts : List TK} {a b : Nat} (p : CycMin ts a) (q : CycMin ts b) : a = b := by
  rcases aLt_tri ts (a : Int) (b : Int) with h | h | h
  · have := q.2.2 a p.2.1; rw [h] at this; cases this
  · omega
  · have := p.2.2 b q.2.1; rw [h] at this; cases this
def OrdR (h0 h : H) (ts : List TK) (v : Value) (code : Int) (name : ByteArray) : Prop :=
  (∃ c,CycMin ts c ∧ v = .slice none 0 0 ∧ code = 130 ∧ name = nm ts (c : Int)) ∨
  (NoC ts ∧ ∃ R b,IsOrd ts R ∧ R.length = ts.length ∧ h0.next ≤ b ∧ Out h b ts.length R ∧ v = .slice (some ⟨b,0,none⟩) ts.length ts.length ∧ code = 0 ∧ name = ⟨#[]⟩)
theorem eOrder {h0 : H} {vt : Value} {ts : List TK} (T : Tasks h0 vt ts) (F : Few ts) :
    ∃ h' v code name,Grow h0 h' ∧ OrdR h0 h' ts v code name ∧ CLM (.f 13) [vt] h0 = .ok (.tuple ⟨[v,.int .i64 code,.string name]⟩) h' := by
  have hn := F.n
  obtain ⟨h1,g,g1,fg,N1,e1⟩ := eBuild T F
  obtain ⟨h2,c,g2,hc,e2⟩ := eCycle N1 F
  rcases hc with ⟨hc,no⟩ | ⟨k,hc,hk,ok,mn⟩
  · subst hc
    have N2 := N1.grow g2
    have T2 := T.grow (g1.trans g2)
    obtain ⟨vn,vu,nn,_,LN,LU⟩ := id N2
    obtain ⟨h3,e3,g3,A3,n3⟩ := AL.new (n := ts.length) (by omega) h2
    have n3' := nn.grow g3
    obtain ⟨h4,v4,br4,F4,s4,p4,srt4,e4⟩ := or_init (vn := vn) (bl := h2.next) N2 LN F _ 0 rfl (Nat.zero_le _) (h := h3) (v := .slice none 0 0) (br := none) (F := [])
      ⟨g3,A3.congr (fun k _ => by simp),ML.nil,Nat.le_refl _,fun b z => by cases z⟩ (List.Perm.refl _) List.Pairwise.nil
    have k4 : Kahn ts.length (nd ts) [] F4 := Kahn.init.perm p4
    obtain ⟨h5,hh5⟩ : ∃ h5,h5 = h4.alloc (.cells (iv (List.replicate ts.length 0)) 3 0 false) := ⟨_,rfl⟩
    have g5 : Grow h4 h5 := by rw [hh5]; exact (Grow.refl h4).alloc _
    have o5 : Out h5 h4.next ts.length [] := ⟨iv (List.replicate ts.length 0),by rw [hh5]; exact H.alloc_self _ _,by rw [iv_len]; simp⟩
    have hb4 := H.get_lt s4.l
    have s5 : OrS h2 h5 ts.length h2.next (cntN (nd ts) []) v4 br4 F4 := ⟨s4.gr.trans g5,g5.old _ _ s4.l,s4.f.grow g5,s4.fl,s4.ff⟩
    obtain ⟨h6,R,g6,io,hl,o6,e6⟩ := or_main N2 F no (bo := h4.next) s4.gr.next (by omega) _ rfl s5 k4 srt4 (IsOrd.nil ts) (fun z => by have := s4.f.lt z; omega) o5
    have G6 := (g1.trans g2).trans g6
    refine ⟨h6,_,_,_,G6,.inr ⟨no,R,h4.next,io,hl,by have := (g1.trans g2).next; have := s4.gr.next; omega,o6,rfl,rfl,rfl⟩,?_⟩
    rw [cM13,F13.eq,e1,go_ok,e2,go_ok,xgeq,go_ok,ifV_dec,if_neg (by omega),F13.j5_eq,T.len,go_ok,e3,go_ok,xnil_ptr,go_ok,fa79_1,go_ok,ld33,n3'.n,ofO_some,go_ok,LN.len,go_ok,show (Value.int .i64 0) = .int .i64 ((0 : Nat) : Int) from rfl,e4,F13.j14_eq,T.len,go_ok,mkI0 (by omega),go_ok,← hh5]
    exact e6
  · subst hc
    have G2 := g1.trans g2
    obtain ⟨b,o,vi,vo,a1,row,-⟩ := (T.grow G2).at_ (List.getElem?_eq_getElem hk)
    have c1 := row.cell (j := 0) rfl
    rw [Nat.add_zero] at c1
    have n1 := nm_at (List.getElem?_eq_getElem hk)
    rw [← n1] at c1
    have l1 : xload Try.prog 9 (.pointer (some ⟨b,o,none⟩)) h2 = .ok (.string (nm ts (k : Int))) h2 := by rw [ld9,c1,ofO_some]
    refine ⟨h2,_,_,_,G2,.inl ⟨k,⟨hk,ok,mn⟩,rfl,rfl,rfl⟩,?_⟩
    rw [cM13,F13.eq,e1,go_ok,e2,go_ok,xgeq,go_ok,ifV_dec,if_pos (by omega),a1,Res.ok1_ok,fa55_0,Res.ok1_ok,l1,Res.ok1_ok,l1,rc_str,Bool.and_self,cond_true,cond_true]
end Go.Proofs.Ytdadiidfhnojcaa.K
namespace Go.Proofs.Ytdadiidfhnojcaa.K
open Go Go.Kx
set_option linter.unusedVariables false
set_option linter.unusedSimpArgs false
set_option maxRecDepth 20000
def ndI (ts : List TK) (i : Int) : List Int := if 0 ≤ i ∧ i < ts.length then ndL ts i.toNat else []
theorem eNeeds {h0 : H} {vt : Value} {ts : List TK} (T : Tasks h0 vt ts) (F : Few ts) (i : Int) :
    ∃ h' v br,Grow h0 h' ∧ PL h' v br (ndI ts i) ∧ (∀ b,br = some b → h0.next ≤ b) ∧ CLM (.f 21) [vt,.int .i64 i] h0 = .ok v h' := by
  have no : ¬ (0 ≤ i ∧ i < ts.length) → PL h0 (.slice none 0 0) none (ndI ts i) := fun h => .inl ⟨rfl,if_neg h⟩
  by_cases h1 : i < 0
  · refine ⟨h0,_,none,Grow.refl _,no (by omega),(fun b z => by cases z),?_⟩
    rw [cM21,F21.eq,xlss,go_ok,ifV_dec,if_pos h1]
  · by_cases h2 : (ts.length : Int) ≤ i
    · refine ⟨h0,_,none,Grow.refl _,no (by omega),(fun b z => by cases z),?_⟩
      rw [cM21,F21.eq,xlss,go_ok,ifV_dec,if_neg h1,T.len,go_ok,xgeq,go_ok,ifV_dec,if_pos h2]
    · obtain ⟨k,rfl⟩ : ∃ k : Nat,i = k := ⟨i.toNat,by omega⟩
      have hk : k < ts.length := by omega
      obtain ⟨h',bo,vs,g,fr,hb,hl,D,e⟩ := eNeedsOf T F
      obtain ⟨v,br,hv,P,f⟩ := D k hk
      obtain ⟨l1,l2⟩ := ll_ld (sp := none) (n := ts.length) (cap := ts.length) hb hk hv
      refine ⟨h',v,br,g,by unfold ndI; rw [if_pos (by omega),Int.toNat_natCast]; exact P,f,?_⟩
      rw [cM21,F21.eq,xlss,go_ok,ifV_dec,if_neg h1,T.len,go_ok,xgeq,go_ok,ifV_dec,if_neg h2,F21.j3_eq,e,go_ok,l1,go_ok,l2,go_ok]
theorem LLT : LsT Try.prog 33 27 1 := ⟨by kernel_rfl,by kernel_rfl,by kernel_rfl,by kernel_rfl,by kernel_rfl,by omega,by kernel_rfl,Nat.le_of_ble_eq_true (by kernel_rfl)⟩
def wr (m : Nat) (w : Nat → Value × Option Nat) : List (List Value) := tb m fun k => [(w k).1]
structure LvO (h0 h : H) (sl : Value) (bo : Option Nat) (m : Nat) (w : Nat → Value × Option Nat) (f : Nat → List Nat) : Prop where
  o : Lst 27 1 h sl bo (wr m w)
  fr : ∀ b,bo = some b → h0.next ≤ b
  ol : ∀ k,k < m → OL h (w k).1 (w k).2 (nl (f k)) ∧ ∀ b,(w k).2 = some b → h0.next ≤ b
  ap : ∀ k k' b,k < m → k' < m → k ≠ k' → (w k).2 = some b → (w k').2 ≠ some b
theorem wr_good {h : H} {m : Nat} {w : Nat → Value × Option Nat} {f : Nat → List Nat} (ol : ∀ k,k < m → OL h (w k).1 (w k).2 (nl (f k))) : GoodR 1 (wr m w) := fun r hr => by
  obtain ⟨k,hk,rfl⟩ := List.mem_map.1 hr
  exact ⟨rfl,by
    show ((w k).1.oneCell' && true) = true
    rw [(ol k (List.mem_range.1 hk)).one.2.2]; rfl⟩
theorem wr_len (m : Nat) (w : Nat → Value × Option Nat) : (wr m w).length = m := tb_len _ _
theorem OL.neL {h : H} {v : Value} {br : Option Nat} {l : List Int} (q : OL h v br l) {sl : Value} {bo : Option Nat} {rows : List (List Value)} (o : Lst 27 1 h sl bo rows) {b : Nat} (hb : br = some b) : bo ≠ some b := by
  intro z
  rcases o with ⟨w,_⟩ | ⟨b',sp,cap,w,_,hg,_⟩
  · rw [w] at z; cases z
  · rw [w] at z; cases z
    exact q.ne hg hb
theorem LvO.grow {h0 h h' : H} (g : Grow h h') {sl : Value} {bo : Option Nat} {m : Nat} {w : Nat → Value × Option Nat} {f : Nat → List Nat} (q : LvO h0 h sl bo m w f) : LvO h0 h' sl bo m w f :=
  ⟨q.o.grow g,q.fr,fun k hk => ⟨(q.ol k hk).1.grow g,(q.ol k hk).2⟩,q.ap⟩
theorem LvO.upd {S : Nat → Prop} {h0 h h' : H} (u : Upd S h h') {sl : Value} {bo : Option Nat} {m : Nat} {w : Nat → Value × Option Nat} {f : Nat → List Nat} (q : LvO h0 h sl bo m w f) (h1 : ∀ b,bo = some b → ¬ S b) (h2 : ∀ k b,k < m → (w k).2 = some b → ¬ S b) : LvO h0 h' sl bo m w f :=
  ⟨q.o.upd u h1,q.fr,fun k hk => ⟨(q.ol k hk).1.upd u fun b e => h2 k b hk e,(q.ol k hk).2⟩,q.ap⟩
theorem LvO.len {h0 h : H} {sl : Value} {bo : Option Nat} {m : Nat} {w : Nat → Value × Option Nat} {f : Nat → List Nat} (q : LvO h0 h sl bo m w f) (h' : H) : xbuiltin Try.prog .len [33] [sl] h' = .ok (.int .i64 (m : Nat)) h' := by
  obtain ⟨a,c,e⟩ := q.o.len
  rw [e,wr_len]
  exact ln33 _ _ _ _
theorem LvO.ld {h0 h : H} {sl : Value} {bo : Option Nat} {m : Nat} {w : Nat → Value × Option Nat} {f : Nat → List Nat} (q : LvO h0 h sl bo m w f) {k : Nat} (hk : k < m) :
    ∃ a,(∀ h',xindexAddr Try.prog 33 sl (.int .i64 (k : Nat)) h' = .ok (.pointer (some a)) h') ∧ (∀ h',Grow h h' → xload Try.prog 27 (.pointer (some a)) h' = .ok (w k).1 h') ∧ ∃ b,bo = some b ∧ a = ⟨b,k * 1,none⟩ := by
  obtain ⟨b,cap,c,e1,e2,hg,hle,_,hc⟩ := q.o.at_ (wr_good fun k hk => (q.ol k hk).1) (show (wr m w)[k]? = some [(w k).1] from tb_at _ hk)
  rw [wr_len] at e2
  refine ⟨⟨b,k * 1,none⟩,fun h' => ?_,fun h' g => ?_,b,e1,rfl⟩
  · rw [e2,ia33 _ _ _ _ _ _ _ _ hk,Nat.zero_add]
  · have h0 := hc 0 (by omega)
    rw [H.cell_eq hg] at h0
    rw [ld27,H.cell_eq (g.old _ _ hg)]
    simp only [Nat.add_zero,List.getElem?_cons_zero] at h0
    rw [h0,ofO_some]
theorem LvO.ext {h0 h : H} {sl : Value} {bo : Option Nat} {m : Nat} {w : Nat → Value × Option Nat} {f : Nat → List Nat} (q : LvO h0 h sl bo m w f) (hn : h0.next ≤ h.next) (few : m < 100000) :
    ∃ h' sl' bo',Upd (fun x => some x = bo) h h' ∧ LvO h0 h' sl' bo' (m + 1) (updN w m (.slice none 0 0,none)) (updN f m []) ∧ NewBr h bo bo' ∧
      ∃ t h1,xbuildSlice Try.prog 33 1 [(0,.slice none 0 0)] h = .ok t h1 ∧ xbuiltin Try.prog .append [33,33] [sl,t] h1 = .ok sl' h' := by
  have eb : xbuildSlice Try.prog 33 1 [(0,.slice none 0 0)] h = .ok (.slice (some ⟨h.next,0,none⟩) 1 1) (h.alloc (.cells [.slice none 0 0] 27 0 false)) := by kernel_rfl
  have g1 : Grow h (h.alloc (.cells [.slice none 0 0] 27 0 false)) := (Grow.refl h).alloc _
  have q1 := q.grow g1
  obtain ⟨sl',bo',h',e,u,l,nb⟩ := lst_push LLT q1.o (wr_good fun k hk => (q1.ol k hk).1) (by rw [wr_len]; omega) (H.alloc_self h (.cells [.slice none 0 0] 27 0 false)) rfl rfl
  have hw : wr m w ++ [[Value.slice none 0 0]] = wr (m + 1) (updN w m (.slice none 0 0,none)) := by
    unfold wr tb
    rw [List.range_succ,List.map_append]
    congr 1
    · exact List.map_congr_left fun k hk => by rw [updN_ne (by have := List.mem_range.1 hk; omega)]
    · simp [updN_eq]
  rw [hw] at l
  refine ⟨h',sl',bo',(g1.upd _).trans u,⟨l,fun b e => ?_,fun k hk => ?_,fun k k' b hk hk' hne e1 e2 => ?_⟩,nb.imp id fun ⟨b,w1,w2⟩ => ⟨b,w1,Nat.le_of_succ_le w2⟩,_,_,eb,e⟩
  · rcases nb with z | ⟨b2,z,z2⟩
    · exact q.fr b (z ▸ e)
    · rw [z] at e; cases e; exact Nat.le_trans hn (Nat.le_trans g1.next z2)
  · by_cases e : k = m
    · subst e; rw [updN_eq,updN_eq]; exact ⟨OL.nil,fun b z => by cases z⟩
    · rw [updN_ne e,updN_ne e]
      exact ⟨(q1.ol k (by omega)).1.upd u fun b hb z => (q1.ol k (by omega)).1.neL q1.o hb z.symm,(q.ol k (by omega)).2⟩
  · by_cases a1 : k = m
    · subst a1; rw [updN_eq] at e1; cases e1
    · rw [updN_ne a1] at e1
      by_cases a2 : k' = m
      · subst a2; rw [updN_eq] at e2; cases e2
      · rw [updN_ne a2] at e2
        exact q.ap k k' b (by omega) (by omega) hne e1 e2
theorem LvO.push {h0 h : H} {sl : Value} {bo : Option Nat} {m : Nat} {w : Nat → Value × Option Nat} {f : Nat → List Nat} (q : LvO h0 h sl bo m w f) (hn : h0.next ≤ h.next) {k : Nat} (hk : k < m) (few : (f k).length < 100000) (x : Nat) :
    ∃ h' w',LvO h0 h' sl bo m w' (updN f k (f k ++ [x])) ∧ Upd (fun y => some y = bo ∨ some y = (w k).2) h h' ∧ (∀ j,j < m → ∀ b,(w' j).2 = some b → (w j).2 = some b ∨ h.next ≤ b) ∧
      ∃ t h1 h2 v',xbuildSlice Try.prog 27 1 [(0,.int .i64 (x : Nat))] h = .ok t h1 ∧ Grow h h1 ∧ xbuiltin Try.prog .append [27,27] [(w k).1,t] h1 = .ok v' h2 ∧ Upd (fun y => some y = (w k).2) h h2 ∧
        ∀ a,(∀ h',xindexAddr Try.prog 33 sl (.int .i64 (k : Nat)) h' = .ok (.pointer (some a)) h') → xstore Try.prog 27 (.pointer (some a)) v' h2 = .ok undef h' := by
  obtain ⟨v',br',h2,u,o,nb,eb,ea⟩ := (q.ol k hk).1.push2 (by rw [nl_len]; omega) (x : Int)
  have gd := wr_good fun k hk => (q.ol k hk).1
  have hbo : ∀ b,bo = some b → ¬ some b = (w k).2 := fun b e z => (q.ol k hk).1.neL q.o z.symm e
  have l2 := q.o.upd u hbo
  obtain ⟨b,cap,h',e1,e2,hw,u3,l3⟩ := lst_set l2 gd (i := k) (r := [v']) (by rw [wr_len]; exact hk) rfl (by show (v'.oneCell' && true) = true; rw [o.one.2.2]; rfl)
  have hwr : (wr m w).set k [v'] = wr m (updN w k (v',br')) := by
    unfold wr
    rw [tb_set _ hk]
    exact tb_congr fun j hj => by
      unfold updN
      split <;> rfl
  rw [hwr] at l3
  refine ⟨h',updN w k (v',br'),⟨l3,q.fr,fun j hj => ?_,fun a c d ha hc hac e => ?_⟩,(u.mono fun x _ z => .inr z).trans (u3.mono fun x _ z => .inl z),fun j hj b hb => ?_,_,_,h2,v',eb,(Grow.refl h).alloc _,ea,u,fun a ha => ?_⟩
  · have keep : ∀ {v br l},OL h2 v br l → OL h' v br l := fun o => o.upd u3 fun b e z => o.neL l2 e z.symm
    by_cases e : j = k
    · subst e
      rw [updN_eq,updN_eq,nl_append]
      refine ⟨keep o,fun b hb => ?_⟩
      rcases nb with z | ⟨b2,z,z2⟩
      · exact (q.ol j hj).2 b (z ▸ hb)
      · simp only at hb; rw [z] at hb; cases hb; omega
    · rw [updN_ne e,updN_ne e]
      exact ⟨keep ((q.ol j hj).1.upd u fun b hb z => q.ap k j b hk hj (fun z => e z.symm) z.symm hb),(q.ol j hj).2⟩
  · have fresh : ∀ j,j < m → j ≠ k → br' = some d → (w j).2 ≠ some d := fun j hj hjk z z2 => by
      rcases nb with y | ⟨b2,y,y2⟩
      · exact q.ap k j d hk hj (fun z => hjk z.symm) (y ▸ z) z2
      · rw [y] at z; cases z
        have := (q.ol j hj).1.lt z2
        omega
    by_cases e1 : a = k
    · subst e1
      rw [updN_eq] at e
      rw [updN_ne (fun z => hac z.symm)]
      exact fresh c hc (fun z => hac z.symm) e
    · rw [updN_ne e1] at e
      by_cases e2 : c = k
      · subst e2
        rw [updN_eq]
        exact fun z => fresh a ha hac z e
      · rw [updN_ne e2]
        exact q.ap a c d ha hc hac e
  · by_cases e : j = k
    · subst e
      rw [updN_eq] at hb
      rcases nb with z | ⟨b2,z,z2⟩
      · exact .inl (z ▸ hb)
      · simp only at hb; rw [z] at hb; cases hb; exact .inr z2
    · rw [updN_ne e] at hb; exact .inl hb
  · have h5 := ha h2
    rw [e2,wr_len,ia33 _ _ _ _ _ _ _ _ hk] at h5
    simp only [Res.ok.injEq,Value.pointer.injEq,Option.some.injEq] at h5
    rw [← h5.1,st27 _ _ _ o.one.1,o.one.2.1,Nat.zero_add,hw,ofU_some]
theorem xmax (P : Program) (t : TypeId) (a b : Int) (h : H) : xbuiltin P .max [t,t] [.int .i64 a,.int .i64 b] h = .ok (.int .i64 (if a < b then b else a)) h := by
  show (bif flatL [.int .i64 a,.int .i64 b] then xflat (P := P) (prun P (Builtin.max_ #[] 0 ⟨[.int .i64 a,.int .i64 b]⟩)) h else .bad) = _
  rw [show flatL [Value.int .i64 a,.int .i64 b] = true from rfl,cond_true]
  have e : Builtin.max_ #[] 0 ⟨[.int .i64 a,.int .i64 b]⟩ = (pure (.int .i64 (if b > a then b else a)) : Sem Value) := by simp [Builtin.max_,Builtin.max2]
  rw [e]
  simp [prun,xflat,pure,Sem.pure,flat]
structure LeS (hN h : H) (n bl : Nat) (L : Nat → Nat) (sl : Value) (bo : Option Nat) (m : Nat) (w : Nat → Value × Option Nat) (f : Nat → List Nat) : Prop where
  gr : Grow hN h
  l : AL h bl n false L
  fl : hN.next ≤ bl
  v : LvO hN h sl bo m w f
  vb : ∀ k b,k < m → (w k).2 = some b → b ≠ bl
theorem LeS.bo {hN h : H} {n bl : Nat} {L : Nat → Nat} {sl : Value} {bo : Option Nat} {m : Nat} {w : Nat → Value × Option Nat} {f : Nat → List Nat} (s : LeS hN h n bl L sl bo m w f) : bo ≠ some bl := fun z => by
  rcases s.v.o with ⟨w,_⟩ | ⟨b',sp,cap,w,_,hg,_⟩
  · rw [w] at z; cases z
  · rw [w] at z; cases z
    have := s.l
    unfold AL at this
    rw [hg] at this
    simp only [Option.some.injEq,Blk.cells.injEq] at this
    exact absurd this.2.1 (by decide)
theorem LeS.setL {hN h : H} {n bl : Nat} {L : Nat → Nat} {sl : Value} {bo : Option Nat} {m : Nat} {w : Nat → Value × Option Nat} {f : Nat → List Nat} (s : LeS hN h n bl L sl bo m w f) {j : Nat} (hj : j < n) (x : Nat) :
    ∃ h',xstore Try.prog 3 (.pointer (some ⟨bl,0 + j * 1,none⟩)) (.int .i64 (x : Nat)) h = .ok undef h' ∧ LeS hN h' n bl (updN L j x) sl bo m w f := by
  obtain ⟨h',e,u,l'⟩ := s.l.st hj x
  exact ⟨h',e,grow_then s.gr u fun b hb => hb ▸ s.fl,l',s.fl,s.v.upd u (fun b e z => s.bo (z ▸ e)) (fun k b hk e z => s.vb k b hk e z),s.vb⟩
theorem LeS.congr {hN h : H} {n bl : Nat} {L L' : Nat → Nat} {sl : Value} {bo : Option Nat} {m : Nat} {w : Nat → Value × Option Nat} {f : Nat → List Nat} (s : LeS hN h n bl L sl bo m w f) (e : ∀ k,k < n → L k = L' k) : LeS hN h n bl L' sl bo m w f :=
  ⟨s.gr,s.l.congr e,s.fl,s.v,s.vb⟩
def acc (ts : List TK) (L : Nat → Nat) (i q : Nat) : Nat := ((nd ts i).take q).foldl (fun a j => max a (L j + 1)) 0
theorem acc_next {ts : List TK} {L : Nat → Nat} {i q j : Nat} (h : (nd ts i)[q]? = some j) : acc ts L i (q + 1) = max (acc ts L i q) (L j + 1) := by
  unfold acc
  rw [List.take_add_one,h,List.foldl_append]
  rfl
theorem le_inner {hN : H} {g : Nat} {ts : List TK} {u vo : Value} {bl i pos : Nat} {L : Nat → Nat} {sl : Value} {bo : Option Nat} {m0 : Nat} {w : Nat → Value × Option Nat} {f : Nat → List Nat} (hn : ts.length ≤ 3000) (hi : i < ts.length) (hii : i ∉ nd ts i) (hL : ∀ j,L j ≤ 3000) (I : IL hN u (ndL ts i)) :
    ∀ (m q : Nat) {h : H},(nd ts i).length - q = m → q ≤ (nd ts i).length → LeS hN h ts.length bl (updN L i (acc ts L i q)) sl bo m0 w f →
      ∃ h',LeS hN h' ts.length bl (updN L i (lvS ts L i)) sl bo m0 w f ∧
        F15.l11 Try.prog CLM nu0 nu0 (.pointer (some ⟨g,0,none⟩)) (.slice (some ⟨bl,0,none⟩) ts.length ts.length) sl (.int .i64 (i : Nat)) vo (.int .i64 (ts.length : Nat)) (.int .i64 (pos : Nat)) u (.int .i64 ((nd ts i).length : Nat)) (.int .i64 (q : Nat)) h =
          F15.l15 Try.prog CLM nu0 nu0 (.pointer (some ⟨g,0,none⟩)) (.slice (some ⟨bl,0,none⟩) ts.length ts.length) sl (.int .i64 (i : Nat)) vo (.int .i64 (ts.length : Nat)) (.int .i64 (pos : Nat)) h' := by
  intro m
  have hnd := nd_len ts i
  induction m with
  | zero =>
    intro q h hm hq s
    have : q = (nd ts i).length := by omega
    subst this
    refine ⟨h,s.congr fun k _ => by unfold acc lvS; rw [List.take_length],?_⟩
    rw [F15.l11_eq,xlss,go_ok,F15.j12_eq,ifV_dec,if_neg (by omega),F15.j15_eq]
  | succ m ih =>
    intro q h hm hq s
    have hql : q < (nd ts i).length := by omega
    have hj : (nd ts i)[q]? = some (nd ts i)[q] := List.getElem?_eq_getElem hql
    obtain ⟨j,hjd⟩ : ∃ j,j = (nd ts i)[q] := ⟨_,rfl⟩
    rw [← hjd] at hj
    have hjm := List.mem_of_getElem? hj
    have hjn : j < ts.length := nd_lt hjm
    have hji : j ≠ i := fun z => hii (z ▸ hjm)
    obtain ⟨a,a1,a2⟩ := (I.grow s.gr).at_ (show (ndL ts i)[q]? = some (j : Int) by unfold ndL nl; rw [List.getElem?_map,hj]; rfl)
    obtain ⟨l1,l2⟩ := s.l.ld (m := ts.length) (cap := ts.length) hi hi
    rw [updN_eq] at l2
    obtain ⟨l3,l4⟩ := s.l.ld (m := ts.length) (cap := ts.length) hjn hjn
    rw [updN_ne hji] at l4
    have hLj := hL j
    obtain ⟨h1,e1,s1⟩ := s.setL hi (max (acc ts L i q) (L j + 1))
    have s2 := s1.congr (L' := updN L i (acc ts L i (q + 1))) (fun k _ => by
      rw [acc_next hj]
      by_cases e : k = i
      · subst e; rw [updN_eq,updN_eq]
      · rw [updN_ne e,updN_ne e,updN_ne e])
    obtain ⟨h',s',e'⟩ := ih (q + 1) (by omega) (by omega) s2
    refine ⟨h',s',?_⟩
    have hmax : (if ((acc ts L i q : Nat) : Int) < ((L j + 1 : Nat) : Int) then ((L j + 1 : Nat) : Int) else ((acc ts L i q : Nat) : Int)) = ((max (acc ts L i q) (L j + 1) : Nat) : Int) := by
      split
      · rw [Nat.max_eq_right (by omega)]
      · rw [Nat.max_eq_left (by omega)]
    rw [F15.l11_eq,xlss,go_ok,F15.j12_eq,ifV_dec,if_pos (by omega),F15.j12_1_eq,a1,go_ok,a2,go_ok,l1,Res.ok1_ok,l2,Res.ok1_ok,l3,Res.ok1_ok,l4,Res.ok1_ok,plain2_int,cond_true,xadd,Res.ok1_ok,wadd1 (by omega),xmax,go_ok,hmax,l1,Res.ok1_ok,e1,go_ok,xadd,go_ok,wadd1 (by omega)]
    exact e'
structure LvI (ts : List TK) (R : List Nat) (k : Nat) (L : Nat → Nat) (m : Nat) (f : Nat → List Nat) : Prop where
  z : ∀ i,i ∉ R.take k → L i = 0
  d : ∀ i,i ∈ R.take k → L i = lvS ts L i ∧ L i < m
  ff : ∀ l,l < m → f l = (R.take k).filter fun i => decide (L i = l)
  ne : ∀ l,l < m → f l ≠ []
  ub : m ≤ k
theorem lvS_congr {ts : List TK} {L M : Nat → Nat} {i : Nat} (h : ∀ j ∈ nd ts i,L j = M j) : lvS ts L i = lvS ts M i := by
  unfold lvS
  have aux : ∀ (l : List Nat) (a : Nat),(∀ j ∈ l,L j = M j) → l.foldl (fun a j => max a (L j + 1)) a = l.foldl (fun a j => max a (M j + 1)) a := by
    intro l
    induction l with
    | nil => intro a _; rfl
    | cons x l ih => intro a ha; rw [List.foldl_cons,List.foldl_cons,ha x (by simp)]; exact ih _ fun j hj => ha j (by simp [hj])
  exact aux _ _ h
theorem LvI.step {ts : List TK} {R : List Nat} {k : Nat} {L : Nat → Nat} {m : Nat} {f : Nat → List Nat} (p : LvI ts R k L m f) (io : IsOrd ts R) {i : Nat} (hi : R[k]? = some i) :
    lvS ts L i ≤ m ∧ LvI ts R (k + 1) (updN L i (lvS ts L i)) (max m (lvS ts L i + 1)) (updN (fun l => if l < m then f l else []) (lvS ts L i) ((if lvS ts L i < m then f (lvS ts L i) else []) ++ [i])) := by
  have pk := io k i hi
  have hiR := pk.1.2.1
  have hin : ∀ j ∈ nd ts i,j ∈ R.take k := pk.1.2.2
  have hii : i ∉ nd ts i := fun z => hiR (hin i z)
  have hle : lvS ts L i ≤ m := by
    rcases (foldl_max (L := L) (nd ts i) 0).2.2 with z | ⟨j,hj,z⟩
    · unfold lvS; omega
    · have := (p.d j (hin j hj)).2; unfold lvS; omega
  have htk : R.take (k + 1) = R.take k ++ [i] := by rw [List.take_add_one,hi]; rfl
  have hself : lvS ts (updN L i (lvS ts L i)) i = lvS ts L i := lvS_congr fun j hj => updN_ne (fun z => hii (z ▸ hj))
  have hold : ∀ x ∈ R.take k,x ≠ i := fun x hx z => hiR (z ▸ hx)
  have hfil : ∀ l,((R.take k).filter fun x => decide (updN L i (lvS ts L i) x = l)) = (R.take k).filter fun x => decide (L x = l) := fun l => List.filter_congr fun x hx => by rw [updN_ne (hold x hx)]
  have m1 := Nat.le_max_left m (lvS ts L i + 1)
  have m2 := Nat.le_max_right m (lvS ts L i + 1)
  refine ⟨hle,fun x hx => ?_,fun x hx => ?_,fun l hl => ?_,fun l hl => ?_,?_⟩
  · rw [htk] at hx
    have : x ≠ i := fun z => hx (by simp [z])
    rw [updN_ne this]
    exact p.z x fun z => hx (by simp [z])
  · rw [htk] at hx
    rcases List.mem_append.1 hx with hx | hx
    · rw [updN_ne (hold x hx)]
      refine ⟨?_,by have := (p.d x hx).2; omega⟩
      rw [(p.d x hx).1]
      refine lvS_congr fun j hj => ?_
      obtain ⟨q,hq⟩ := List.mem_iff_getElem?.1 hx
      have hqk := (List.getElem?_eq_some_iff.1 hq).1
      rw [List.length_take] at hqk
      rw [List.getElem?_take_of_lt (by omega)] at hq
      have := io.before hq hj
      have hjR : j ∈ R.take k := (List.take_subset_take_left R (show q ≤ k by omega)) this
      have hji : j ≠ i := fun z => hiR (z ▸ hjR)
      rw [updN_ne hji]
    · rw [List.mem_singleton] at hx
      subst hx
      rw [updN_eq,hself]
      exact ⟨rfl,by omega⟩
  · rw [htk,List.filter_append,hfil]
    have hlm : ∀ l,m ≤ l → ((R.take k).filter fun x => decide (L x = l)) = [] := fun l hl => List.filter_eq_nil_iff.2 fun x hx => by
      have := (p.d x hx).2
      simp; omega
    by_cases e : l = lvS ts L i
    · subst e
      rw [updN_eq,show [i].filter (fun x => decide (updN L i (lvS ts L i) x = lvS ts L i)) = [i] from List.filter_cons_of_pos (by rw [updN_eq]; exact decide_eq_true rfl)]
      congr 1
      split
      · rename_i h; exact p.ff _ h
      · rename_i h; exact (hlm _ (by omega)).symm
    · rw [updN_ne e,show [i].filter (fun x => decide (updN L i (lvS ts L i) x = l)) = [] from List.filter_cons_of_neg (by rw [updN_eq,decide_eq_true_iff]; exact fun z => e z.symm),List.append_nil]
      split
      · rename_i h; exact p.ff _ h
      · rename_i h; exact (hlm _ (by omega)).symm
  · by_cases e : l = lvS ts L i
    · subst e; rw [updN_eq]; simp
    · rw [updN_ne e]
      have hl2 : l < m := by
        rcases Nat.le_total m (lvS ts L i + 1) with z | z
        · rw [Nat.max_eq_right z] at hl; omega
        · rw [Nat.max_eq_left z] at hl; exact hl
      rw [if_pos hl2]
      exact p.ne l hl2
  · have := p.ub
    rcases Nat.le_total m (lvS ts L i + 1) with z | z
    · rw [Nat.max_eq_right z]; omega
    · rw [Nat.max_eq_left z]; omega
end Go.Proofs.Ytdadiidfhnojcaa.K
namespace Go.Proofs.Ytdadiidfhnojcaa.K
open Go Go.Kx
set_option linter.unusedVariables false
set_option linter.unusedSimpArgs false
set_option maxRecDepth 20000
theorem LvO.congrF {h0 h : H} {sl : Value} {bo : Option Nat} {m : Nat} {w : Nat → Value × Option Nat} {f f' : Nat → List Nat} (q : LvO h0 h sl bo m w f) (e : ∀ k,k < m → f k = f' k) : LvO h0 h sl bo m w f' :=
  ⟨q.o,q.fr,fun k hk => by rw [← e k hk]; exact q.ol k hk,q.ap⟩
theorem LvO.base {h0 h1 h : H} {sl : Value} {bo : Option Nat} {m : Nat} {w : Nat → Value × Option Nat} {f : Nat → List Nat} (q : LvO h1 h sl bo m w f) (e : h0.next ≤ h1.next) : LvO h0 h sl bo m w f :=
  ⟨q.o,fun b hb => Nat.le_trans e (q.fr b hb),fun k hk => ⟨(q.ol k hk).1,fun b hb => Nat.le_trans e ((q.ol k hk).2 b hb)⟩,q.ap⟩
theorem rc_int (k : IntKind) (a : Int) (h : H) : rc (.ok (.int k a) h) (some (.int k a)) = true := by simp [rc,veq]
theorem le_ext {hN : H} {g : Nat} {ts : List TK} {vo : Value} {bl i pos : Nat} {L : Nat → Nat} {sl : Value} {bo : Option Nat} {m0 : Nat} {w : Nat → Value × Option Nat} {f : Nat → List Nat} {h : H} (hi : i < ts.length) (s : LeS hN h ts.length bl L sl bo m0 w f) (hle : L i ≤ m0) (few : m0 ≤ 3000) :
    ∃ h' sl' bo' w',LeS hN h' ts.length bl L sl' bo' (max m0 (L i + 1)) w' (fun l => if l < m0 then f l else []) ∧
      F15.l15 Try.prog CLM nu0 nu0 (.pointer (some ⟨g,0,none⟩)) (.slice (some ⟨bl,0,none⟩) ts.length ts.length) sl (.int .i64 (i : Nat)) vo (.int .i64 (ts.length : Nat)) (.int .i64 (pos : Nat)) h =
        F15.j17 Try.prog CLM nu0 nu0 (.pointer (some ⟨g,0,none⟩)) (.slice (some ⟨bl,0,none⟩) ts.length ts.length) sl' (.int .i64 (i : Nat)) vo (.int .i64 (ts.length : Nat)) (.int .i64 (pos : Nat)) h' := by
  obtain ⟨l1,l2⟩ := s.l.ld (m := ts.length) (cap := ts.length) hi hi
  by_cases hm : m0 ≤ L i
  · have he : m0 = L i := by omega
    obtain ⟨h',sl',bo',u,v',nb,t,h1,eb,ea⟩ := s.v.ext s.gr.next (by omega)
    have G' : Grow hN h' := grow_then s.gr u fun b hb => s.v.fr b hb.symm
    have l' : AL h' bl ts.length false L := s.l.upd u fun z => s.bo z.symm
    have s' : LeS hN h' ts.length bl L sl' bo' (m0 + 1) (updN w m0 (.slice none 0 0,none)) (updN f m0 []) := ⟨G',l',s.fl,v',fun k b hk e => by
      by_cases z : k = m0
      · subst z; rw [updN_eq] at e; cases e
      · rw [updN_ne z] at e; exact s.vb k b (by omega) e⟩
    obtain ⟨l3,l4⟩ := s'.l.ld (m := ts.length) (cap := ts.length) hi hi
    refine ⟨h',sl',bo',updN w m0 (.slice none 0 0,none),⟨s'.gr,s'.l,s'.fl,?_,?_⟩,?_⟩
    · rw [← he,Nat.max_eq_right (by omega)]
      exact s'.v.congrF fun k hk => by
        by_cases z : k = m0
        · subst z; rw [updN_eq,if_neg (by omega)]
        · rw [updN_ne z,if_pos (by omega)]
    · rw [← he,Nat.max_eq_right (by omega)]
      exact s'.vb
    · rw [F15.l15_eq,s.v.len,go_ok,l1,go_ok,l2,go_ok,xleq,go_ok,ifV_dec,if_pos (by omega),eb,go_ok,ea,go_ok,F15.l15_eq,s'.v.len,go_ok,l3,go_ok,l4,go_ok,xleq,go_ok,ifV_dec,if_neg (by omega)]
  · refine ⟨h,sl,bo,w,⟨s.gr,s.l,s.fl,?_,?_⟩,?_⟩
    · rw [Nat.max_eq_left (by omega)]
      exact s.v.congrF fun k hk => by rw [if_pos hk]
    · rw [Nat.max_eq_left (by omega)]
      exact s.vb
    · rw [F15.l15_eq,s.v.len,go_ok,l1,go_ok,l2,go_ok,xleq,go_ok,ifV_dec,if_neg (by omega)]
theorem le_push {hN : H} {g : Nat} {ts : List TK} {vo : Value} {bl i pos : Nat} {L : Nat → Nat} {sl : Value} {bo : Option Nat} {m0 : Nat} {w : Nat → Value × Option Nat} {f : Nat → List Nat} {h : H} (hi : i < ts.length) (s : LeS hN h ts.length bl L sl bo m0 w f) (hl : L i < m0) (few : (f (L i)).length < 100000) (hp : pos ≤ 3000) :
    ∃ h' w',LeS hN h' ts.length bl L sl bo m0 w' (updN f (L i) (f (L i) ++ [i])) ∧
      F15.j17 Try.prog CLM nu0 nu0 (.pointer (some ⟨g,0,none⟩)) (.slice (some ⟨bl,0,none⟩) ts.length ts.length) sl (.int .i64 (i : Nat)) vo (.int .i64 (ts.length : Nat)) (.int .i64 (pos : Nat)) h =
        F15.l8 Try.prog CLM nu0 nu0 (.pointer (some ⟨g,0,none⟩)) (.slice (some ⟨bl,0,none⟩) ts.length ts.length) sl vo (.int .i64 (ts.length : Nat)) (.int .i64 ((pos + 1 : Nat) : Int)) h' := by
  obtain ⟨l1,l2⟩ := s.l.ld (m := ts.length) (cap := ts.length) hi hi
  obtain ⟨a,a1,a2,b,eb1,ea1⟩ := s.v.ld hl
  obtain ⟨h',w',v',u,old,t,h1,h2,v2,eb,g1,ea,u2,est⟩ := s.v.push s.gr.next hl few i
  obtain ⟨_,l3⟩ := AL.ld (g1.old _ _ s.l) (m := ts.length) (cap := ts.length) hi hi
  have hbl : ¬ some bl = (w (L i)).2 := fun z => s.vb (L i) bl hl z.symm rfl
  obtain ⟨_,l4⟩ := AL.ld (s.l.upd u2 hbl) (m := ts.length) (cap := ts.length) hi hi
  refine ⟨h',w',⟨grow_then s.gr u fun b hb => hb.elim (fun z => s.v.fr b z.symm) (fun z => (s.v.ol (L i) hl).2 b z.symm),s.l.upd u fun z => z.elim (fun z => s.bo z.symm) hbl,s.fl,v',fun k b hk e => ?_⟩,?_⟩
  · rcases old k hk b e with z | z
    · exact s.vb k b hk z
    · have := H.get_lt s.l; omega
  · rw [F15.j17_eq,l1,Res.ok1_ok,l2,Res.ok1_ok,l1,Res.ok1_ok,l2,Res.ok1_ok,a1,Res.ok1_ok,a2 _ (Grow.refl h),Res.ok1_ok,eb,go_ok,l3,rc_int,a2 _ g1,(s.v.ol (L i) hl).1.rc,Bool.and_self,Bool.and_self,Bool.and_self,cond_true,ea,go_ok,l4,rc_int,Bool.and_self,cond_true,a1,Res.ok1_ok,est a a1,go_ok,F15.j18_eq,xadd,go_ok,wadd1 (by omega)]
theorem le_main {hN : H} {g : Nat} {ts : List TK} {vt vo : Value} {bl : Nat} {R : List Nat} (N : Net hN g ts vt) (F0 : Few ts) (io : IsOrd ts R) (hR : R.length = ts.length) (IR : IL hN vo (nl R)) :
    ∀ (d k : Nat) {h : H} {L : Nat → Nat} {sl : Value} {bo : Option Nat} {m0 : Nat} {w : Nat → Value × Option Nat} {f : Nat → List Nat},ts.length - k = d → k ≤ ts.length → LeS hN h ts.length bl L sl bo m0 w f → LvI ts R k L m0 f →
      ∃ h' L' sl' bo' m' w' f',LeS hN h' ts.length bl L' sl' bo' m' w' f' ∧ LvI ts R ts.length L' m' f' ∧
        F15.l8 Try.prog CLM nu0 nu0 (.pointer (some ⟨g,0,none⟩)) (.slice (some ⟨bl,0,none⟩) ts.length ts.length) sl vo (.int .i64 (ts.length : Nat)) (.int .i64 (k : Nat)) h = F15.j19 Try.prog CLM nu0 nu0 (.pointer (some ⟨g,0,none⟩)) sl' h' := by
  intro d
  have hn := F0.n
  induction d with
  | zero =>
    intro k h L sl bo m0 w f hd hk s p
    have : k = ts.length := by omega
    subst this
    refine ⟨h,L,sl,bo,m0,w,f,s,p,?_⟩
    rw [F15.l8_eq,xlss,go_ok,F15.j9_eq,ifV_dec,if_neg (by omega)]
  | succ d ih =>
    intro k h L sl bo m0 w f hd hk s p
    have hkR : k < R.length := by omega
    have hik : R[k]? = some R[k] := List.getElem?_eq_getElem hkR
    obtain ⟨i,hid⟩ : ∃ i,i = R[k] := ⟨_,rfl⟩
    rw [← hid] at hik
    have pk := io k i hik
    have hi : i < ts.length := pk.1.1
    have hii : i ∉ nd ts i := fun z => pk.1.2.1 (pk.1.2.2 i z)
    obtain ⟨hle,p2⟩ := p.step io hik
    have hm0 : m0 ≤ 3000 := by have := p.ub; omega
    have hL : ∀ j,L j ≤ 3000 := fun j => by
      by_cases q : j ∈ R.take k
      · have := (p.d j q).2; omega
      · rw [p.z j q]; omega
    obtain ⟨a,a1,a2⟩ := (IR.grow s.gr).at_ (show (nl R)[k]? = some (i : Int) by unfold nl; rw [List.getElem?_map,hik]; rfl)
    obtain ⟨vn,vu,nn,T,LN,LU⟩ := id N
    obtain ⟨a',u,b1,b2,I⟩ := LN.at_ hi
    obtain ⟨h1,s1,e1⟩ := le_inner (g := g) (vo := vo) (pos := k) hn hi hii hL I.1 _ 0 rfl (Nat.zero_le _) (h := h) (s.congr fun x _ => by
      by_cases e : x = i
      · subst e; rw [updN_eq,p.z x pk.1.2.1]; rfl
      · rw [updN_ne e])
    have hLi : updN L i (lvS ts L i) i = lvS ts L i := updN_eq
    obtain ⟨h2,sl2,bo2,w2,s2,e2⟩ := le_ext (g := g) (vo := vo) (pos := k) hi s1 (by rw [hLi]; exact hle) hm0
    rw [hLi] at s2
    have hmx := Nat.le_max_right m0 (lvS ts L i + 1)
    have hfew : (if updN L i (lvS ts L i) i < m0 then f (updN L i (lvS ts L i) i) else []).length < 100000 := by
      rw [hLi]
      split
      · rename_i q
        rw [p.ff _ q]
        have := List.length_filter_le (fun i => decide (L i = lvS ts L i)) (R.take k)
        rw [List.length_take] at this
        have h3 : ((R.take k).filter fun x => decide (L x = lvS ts L i)).length ≤ (R.take k).length := List.length_filter_le _ _
        rw [List.length_take] at h3
        omega
      · simp
    obtain ⟨h3,w3,s3,e3⟩ := le_push (g := g) (vo := vo) (pos := k) (f := fun l => if l < m0 then f l else []) hi s2 (by rw [hLi]; omega) hfew (by omega)
    rw [hLi] at s3
    obtain ⟨h',L',sl',bo',m',w',f',s',p',e'⟩ := ih (k + 1) (by omega) (by omega) s3 p2
    refine ⟨h',L',sl',bo',m',w',f',s',p',?_⟩
    have n1 := nn.grow s.gr
    rw [F15.l8_eq,xlss,go_ok,F15.j9_eq,ifV_dec,if_pos (by omega),F15.j9_1_eq,a1,go_ok,a2,go_ok,xnil_ptr,go_ok,fa79_1,go_ok,ld33,n1.n,ofO_some,go_ok,b1,go_ok,b2 _ s.gr,go_ok,I.1.len,go_ok,show (ndL ts i).length = (nd ts i).length from nl_len _,
      show (Value.int .i64 0) = .int .i64 ((0 : Nat) : Int) from rfl,e1,e2,e3]
    exact e'
theorem le_sort {hN : H} {g : Nat} {ts : List TK} {vt : Value} {sl : Value} {bo : Option Nat} {m0 : Nat} {w : Nat → Value × Option Nat} {f0 : Nat → List Nat} (N : Net hN g ts vt) (hm0 : m0 ≤ 3000) (hf : ∀ k,k < m0 → (f0 k).length ≤ 3000 ∧ ∀ i ∈ f0 k,i < ts.length) :
    ∀ (d k : Nat) {h : H} {f : Nat → List Nat},m0 - k = d → k ≤ m0 → Grow hN h → LvO hN h sl bo m0 w f → (∀ l,l < m0 → (f l).Perm (f0 l)) → (∀ l,l < k → (f l).Pairwise fun i j : Nat => aLt ts (j : Int) (i : Int) = false) →
      ∃ h' f',Grow hN h' ∧ LvO hN h' sl bo m0 w f' ∧ (∀ l,l < m0 → (f' l).Perm (f0 l)) ∧ (∀ l,l < m0 → (f' l).Pairwise fun i j : Nat => aLt ts (j : Int) (i : Int) = false) ∧
        F15.l20 Try.prog CLM nu0 nu0 (.pointer (some ⟨g,0,none⟩)) sl (.int .i64 (m0 : Nat)) (.int .i64 (k : Nat)) h = .ok (.tuple ⟨[sl,.int .i64 0,.string ⟨#[]⟩]⟩) h' := by
  intro d
  induction d with
  | zero =>
    intro k h f hd hk G v p srt
    have : k = m0 := by omega
    subst this
    refine ⟨h,f,G,v,p,srt,?_⟩
    rw [F15.l20_eq,xlss,go_ok,F15.j21_eq,ifV_dec,if_neg (by omega),F15.j24_eq]
  | succ d ih =>
    intro k h f hd hk G v p srt
    have hkm : k < m0 := by omega
    obtain ⟨a,a1,a2,b,eb,ea⟩ := v.ld hkm
    have hp := p k hkm
    obtain ⟨h1,l1,u,o,p1,s1,e1⟩ := eSortA N G (v.ol k hkm).1 (v.ol k hkm).2 (fun i hi => (hf k hkm).2 i (hp.mem_iff.1 hi)) (by rw [hp.length_eq]; have := (hf k hkm).1; omega)
    have G1 : Grow hN h1 := grow_then G u fun b hb => (v.ol k hkm).2 b hb.symm
    have v1 : LvO hN h1 sl bo m0 w (updN f k l1) := ⟨v.o.upd u fun b hb z => (v.ol k hkm).1.neL v.o z.symm hb,v.fr,fun j hj => by
      by_cases e : j = k
      · subst e; rw [updN_eq]; exact ⟨o,(v.ol j hj).2⟩
      · rw [updN_ne e]; exact ⟨(v.ol j hj).1.upd u fun b hb z => v.ap k j b hkm hj (fun z => e z.symm) z.symm hb,(v.ol j hj).2⟩,v.ap⟩
    obtain ⟨h',f',g',v',p',s',e'⟩ := ih (k + 1) (by omega) (by omega) G1 v1 (fun l hl => by
      by_cases e : l = k
      · subst e; rw [updN_eq]; exact p1.trans hp
      · rw [updN_ne e]; exact p l hl) (fun l hl => by
      by_cases e : l = k
      · subst e; rw [updN_eq]; exact s1
      · rw [updN_ne e]; exact srt l (by omega))
    refine ⟨h',f',g',v',p',s',?_⟩
    rw [F15.l20_eq,xlss,go_ok,F15.j21_eq,ifV_dec,if_pos (by omega),F15.j21_1_eq,a1,go_ok,a2 _ (Grow.refl h),go_ok]
    show ((CLM (.f 39) [(w k).1,aheadV g] h).go .pan _) = _
    rw [e1,go_ok,xadd,go_ok,wadd1 (by omega)]
    exact e'
theorem asorted_of {ts : List TK} {l : List Nat} (h : l.Pairwise fun i j : Nat => aLt ts (j : Int) (i : Int) = false) (hn : l.Nodup) : ASorted ts l := by
  unfold ASorted
  rw [List.pairwise_iff_getElem] at *
  intro i j hi hj hij
  have h1 := h i j hi hj hij
  have h2 := (List.pairwise_iff_getElem.1 hn) i j hi hj hij
  rcases aLt_tri ts (l[i] : Int) (l[j] : Int) with z | z | z
  · exact z
  · exact absurd (by omega) h2
  · rw [h1] at z; cases z
def LevR (h0 h : H) (ts : List TK) (v : Value) (code : Int) (name : ByteArray) : Prop :=
  (∃ c,CycMin ts c ∧ v = .slice none 0 0 ∧ code = 130 ∧ name = nm ts (c : Int)) ∨
  (NoC ts ∧ ∃ L ls bo w,IsLevs ts L ls ∧ LvO h0 h v bo ls.length w (fun k => (ls[k]?).getD []) ∧ code = 0 ∧ name = ⟨#[]⟩)
theorem eLevels {h0 : H} {vt : Value} {ts : List TK} (T : Tasks h0 vt ts) (F : Few ts) :
    ∃ h' v code name,Grow h0 h' ∧ LevR h0 h' ts v code name ∧ CLM (.f 15) [vt] h0 = .ok (.tuple ⟨[v,.int .i64 code,.string name]⟩) h' := by
  have hn := F.n
  obtain ⟨h1,vo,code,name,g1,hr,e1⟩ := eOrder T F
  rcases hr with ⟨c,hc,rfl,rfl,rfl⟩ | ⟨nc,R,b,io,hR,fb,hO,rfl,rfl,rfl⟩
  · refine ⟨h1,.slice none 0 0,130,nm ts (c : Int),g1,.inl ⟨c,hc,rfl,rfl,rfl⟩,?_⟩
    rw [cM15,F15.eq,e1,go_ok,xextract_0,go_ok,xextract_1,go_ok,xextract_2,go_ok,xneq,go_ok,ifV_not,if_neg (by omega)]
  · obtain ⟨h2,g,g2,fg,N2,e2⟩ := eBuild (T.grow g1) F
    obtain ⟨h3,e3,g3,A3,n3⟩ := AL.new (n := ts.length) (by omega) h2
    have IR : IL h2 (.slice (some ⟨b,0,none⟩) ts.length ts.length) (nl R) := by
      obtain ⟨sp,hg,_⟩ := hO
      exact .inr ⟨b,none,ts.length,sp,false,by rw [nl_len,hR],g2.old _ _ hg⟩
    have p0 : LvI ts R 0 (fun _ => 0) 0 (fun _ => []) := ⟨fun _ _ => rfl,fun i hi => by simp at hi,fun l hl => absurd hl (Nat.not_lt_zero _),fun l hl => absurd hl (Nat.not_lt_zero _),Nat.le_refl _⟩
    have s0 : LeS h2 h3 ts.length h2.next (fun _ => 0) (.slice none 0 0) none 0 (fun _ => (.slice none 0 0,none)) (fun _ => []) :=
      ⟨g3,A3,Nat.le_refl _,⟨Lst.nil,(fun b z => by cases z),fun k hk => absurd hk (Nat.not_lt_zero _),fun k k' b hk => absurd hk (Nat.not_lt_zero _)⟩,fun k b hk => absurd hk (Nat.not_lt_zero _)⟩
    obtain ⟨h4,L,sl,bo,m,w,f,s4,p4,e4⟩ := le_main (vt := vt) N2 F io hR IR _ 0 rfl (Nat.zero_le _) s0 p0
    have htk : R.take ts.length = R := List.take_of_length_le (by omega)
    have hmem : ∀ i,i < ts.length → i ∈ R := fun i hi => io.mem hR hi
    have hf : ∀ l,l < m → ∀ i,i ∈ f l ↔ i < ts.length ∧ L i = l := fun l hl i => by
      rw [p4.ff l hl,htk,List.mem_filter,decide_eq_true_iff]
      exact ⟨fun z => ⟨io.lt z.1,z.2⟩,fun z => ⟨hmem i z.1,z.2⟩⟩
    have hnodf : ∀ l,l < m → (f l).Nodup := fun l hl => by rw [p4.ff l hl,htk]; exact io.nodup.filter _
    obtain ⟨h5,f',g5,v5,p5,s5,e5⟩ := le_sort (f0 := f) N2 (by have := p4.ub; omega) (fun k hk => ⟨by
      rw [p4.ff k hk,htk]
      have := List.length_filter_le (fun i => decide (L i = k)) R
      omega,fun i hi => ((hf k hk i).1 hi).1⟩) _ 0 rfl (Nat.zero_le _) s4.gr s4.v (fun l _ => List.Perm.refl _) (fun l hl => absurd hl (Nat.not_lt_zero _))
    have hls : ∀ k,k < m → (tb m f')[k]? = some (f' k) := fun k hk => tb_at _ hk
    have hlen : (tb m f').length = m := tb_len _ _
    have G5 := (g1.trans g2).trans g5
    refine ⟨h5,sl,0,⟨#[]⟩,G5,.inr ⟨nc,L,tb m f',bo,w,?_,?_,rfl,rfl⟩,?_⟩
    · refine ⟨fun i hi => ?_,fun l hl => ?_,fun k l hk i => ?_,fun i hi => ?_,fun l hl => ?_⟩
      · exact (p4.d i (by rw [htk]; exact hmem i hi)).1
      · obtain ⟨k,hk,rfl⟩ := List.mem_map.1 hl
        have hkm := List.mem_range.1 hk
        exact asorted_of (s5 k hkm) ((p5 k hkm).nodup_iff.2 (hnodf k hkm))
      · have hkm := (List.getElem?_eq_some_iff.1 hk).1
        rw [hlen] at hkm
        rw [hls k hkm] at hk
        cases hk
        rw [(p5 k hkm).mem_iff]
        exact hf k hkm i
      · rw [hlen]; exact (p4.d i (by rw [htk]; exact hmem i hi)).2
      · obtain ⟨k,hk,rfl⟩ := List.mem_map.1 hl
        have hkm := List.mem_range.1 hk
        intro z
        have := (p5 k hkm)
        rw [z] at this
        exact p4.ne k hkm this.symm.eq_nil
    · rw [hlen]
      exact (v5.congrF fun k hk => by rw [hls k hk]; rfl).base (g1.trans g2).next
    · rw [cM15,F15.eq,e1,go_ok,xextract_0,go_ok,xextract_1,go_ok,xextract_2,go_ok,xneq,go_ok,ifV_not,if_pos rfl,F15.j4_eq,e2,go_ok,T.len,go_ok,e3,go_ok,ln27,go_ok,show (Value.int .i64 0) = .int .i64 ((0 : Nat) : Int) from rfl,e4,F15.j19_eq,s4.v.len,go_ok]
      exact e5
end Go.Proofs.Ytdadiidfhnojcaa.K
namespace Go.Proofs.Ytdadiidfhnojcaa.K
open Go Go.Kx
set_option linter.unusedVariables false
set_option linter.unusedSimpArgs false
set_option maxRecDepth 20000
theorem plain2_str (a b : ByteArray) : plain2 (.string a) (.string b) = true := Eq.trans rfl rfl
def TB (h : H) (b : Nat) (t : TK) : Prop := ∃ vi vo,h.get b = some (.cells [.string t.name,.int .i64 t.bud,vi,vo] 55 0 false) ∧ StrSl h vi t.ins ∧ OutSl h vo t.outs
theorem rn_inner {h : H} {ba bb : Nat} {a b : TK} (A : TB h ba a) (B : TB h bb b) (fb : b.outs.length ≤ 60000) {i : Nat} {s : ByteArray} (hs : a.ins[i]? = some s) : ∀ (m k : Nat),b.outs.length - k = m → k ≤ b.outs.length → s ∉ b.outs.take k →
    F42.l5 Try.prog CLM nu0 nu0 (.pointer (some ⟨ba,0,none⟩)) (.pointer (some ⟨bb,0,none⟩)) (.int .i64 (i : Nat)) (.int .i64 (k : Nat)) h =
      if s ∈ b.outs then .ok (.bool true) h else F42.j3 Try.prog CLM nu0 nu0 (.pointer (some ⟨ba,0,none⟩)) (.pointer (some ⟨bb,0,none⟩)) (.int .i64 (i : Nat)) h := by
  obtain ⟨vi,_,ga,SA,_⟩ := A
  obtain ⟨_,vo,gb,_,OB⟩ := B
  have ca : h.cell ⟨ba,0 + 2,none⟩ = some vi := by rw [H.cell_eq ga]; rfl
  have cb : h.cell ⟨bb,0 + 3,none⟩ = some vo := by rw [H.cell_eq gb]; rfl
  intro m
  induction m with
  | zero =>
    intro k hm hk hno
    have : k = b.outs.length := by omega
    subst this
    rw [List.take_length] at hno
    rw [F42.l5_eq,fa55_3,go_ok,ld53,cb,ofO_some,go_ok,OB.len,go_ok,xlss,go_ok,ifV_dec,if_neg (by omega),if_neg hno]
  | succ m ih =>
    intro k hm hk hno
    have hkl : k < b.outs.length := by omega
    have hp : b.outs[k]? = some b.outs[k] := List.getElem?_eq_getElem hkl
    obtain ⟨p,hpd⟩ : ∃ p,p = b.outs[k] := ⟨_,rfl⟩
    rw [← hpd] at hp
    obtain ⟨x,x1,x2⟩ := SA.at_ hs
    obtain ⟨bo,oo,r,y1,row,_,_⟩ := OB.at_ hp
    have cy := row.cell (j := 0) rfl
    rw [Nat.add_zero] at cy
    have hE : F42.l5 Try.prog CLM nu0 nu0 (.pointer (some ⟨ba,0,none⟩)) (.pointer (some ⟨bb,0,none⟩)) (.int .i64 (i : Nat)) (.int .i64 (k : Nat)) h =
        if s = p then .ok (.bool true) h else F42.l5 Try.prog CLM nu0 nu0 (.pointer (some ⟨ba,0,none⟩)) (.pointer (some ⟨bb,0,none⟩)) (.int .i64 (i : Nat)) (.int .i64 ((k + 1 : Nat) : Int)) h := by
      rw [F42.l5_eq,fa55_3,go_ok,ld53,cb,ofO_some,go_ok,OB.len,go_ok,xlss,go_ok,ifV_dec,if_pos (by omega),F42.j7_eq,fa55_2,Res.ok1_ok,ld52,ca,ofO_some,Res.ok1_ok,x1,Res.ok1_ok,x2,Res.ok1_ok,fa55_3,Res.ok1_ok,ld53,cb,ofO_some,Res.ok1_ok,y1,Res.ok1_ok,fa63_0,Res.ok1_ok,ld9,cy,ofO_some,Res.ok1_ok,
        plain2_str,cond_true,xseql,Res.ok1_ok,ifV_dec]
      by_cases e : s = p
      · rw [if_pos e,if_pos e]
      · rw [if_neg e,if_neg e,xadd,go_ok,wadd1 (by omega)]
    rw [hE]
    by_cases e : s = p
    · rw [if_pos e,if_pos (by rw [e]; exact List.mem_of_getElem? hp)]
    · rw [if_neg e]
      refine ih (k + 1) (by omega) (by omega) fun z => ?_
      rw [List.take_add_one,hp,List.mem_append] at z
      rcases z with z | z
      · exact hno z
      · simp at z; exact e z
theorem rn_outer {h : H} {ba bb : Nat} {a b : TK} (A : TB h ba a) (B : TB h bb b) (fa : a.ins.length ≤ 60000) (fb : b.outs.length ≤ 60000) : ∀ (m i : Nat),a.ins.length - i = m → i ≤ a.ins.length → (∀ s ∈ a.ins.take i,s ∉ b.outs) →
    F42.l2 Try.prog CLM nu0 nu0 (.pointer (some ⟨ba,0,none⟩)) (.pointer (some ⟨bb,0,none⟩)) (.int .i64 (i : Nat)) h = .ok (.bool (a.ins.any fun p => decide (p ∈ b.outs))) h := by
  obtain ⟨vi,_,ga,SA,_⟩ := id A
  have ca : h.cell ⟨ba,0 + 2,none⟩ = some vi := by rw [H.cell_eq ga]; rfl
  intro m
  induction m with
  | zero =>
    intro i hm hi hno
    have : i = a.ins.length := by omega
    subst this
    rw [List.take_length] at hno
    rw [F42.l2_eq,fa55_2,go_ok,ld52,ca,ofO_some,go_ok,SA.len,go_ok,xlss,go_ok,ifV_dec,if_neg (by omega),F42.j9_eq]
    rw [show (a.ins.any fun p => decide (p ∈ b.outs)) = false from List.any_eq_false.2 fun p hp => by simpa using hno p hp]
  | succ m ih =>
    intro i hm hi hno
    have hil : i < a.ins.length := by omega
    have hs : a.ins[i]? = some a.ins[i] := List.getElem?_eq_getElem hil
    obtain ⟨s,hsd⟩ : ∃ s,s = a.ins[i] := ⟨_,rfl⟩
    rw [← hsd] at hs
    have e := rn_inner A B fb hs b.outs.length 0 rfl (Nat.zero_le _) (by simp)
    rw [F42.l2_eq,fa55_2,go_ok,ld52,ca,ofO_some,go_ok,SA.len,go_ok,xlss,go_ok,ifV_dec,if_pos (by omega),F42.j4_eq,show (Value.int .i64 0) = .int .i64 ((0 : Nat) : Int) from rfl,e]
    by_cases hm2 : s ∈ b.outs
    · rw [if_pos hm2,show (a.ins.any fun p => decide (p ∈ b.outs)) = true from List.any_eq_true.2 ⟨s,List.mem_of_getElem? hs,decide_eq_true hm2⟩]
    · rw [if_neg hm2,F42.j3_eq,xadd,go_ok,wadd1 (by omega)]
      refine ih (i + 1) (by omega) (by omega) fun p hp => ?_
      rw [List.take_add_one,hs,List.mem_append] at hp
      rcases hp with z | z
      · exact hno p z
      · simp at z; exact z ▸ hm2
theorem eRneeds {h : H} {ra rb : List Value} {a b : TK} (A : TaskR h a ra) (B : TaskR h b rb) (fa : a.ins.length ≤ 60000) (fb : b.outs.length ≤ 60000) :
    ∃ h',Grow h h' ∧ CLM (.f 42) [.agg ⟨ra⟩,.agg ⟨rb⟩] h = .ok (.bool (a.ins.any fun p => decide (p ∈ b.outs))) h' := by
  obtain ⟨vi,vo,rfl,SA,OA⟩ := A
  obtain ⟨wi,wo,rfl,SB,OB⟩ := B
  have g1 : Grow h (h.alloc (.cells [.string a.name,.int .i64 a.bud,vi,vo] 55 0 false)) := (Grow.refl h).alloc _
  obtain ⟨h1,hh1⟩ : ∃ h1,h1 = h.alloc (.cells [.string a.name,.int .i64 a.bud,vi,vo] 55 0 false) := ⟨_,rfl⟩
  rw [← hh1] at g1
  have g2 : Grow h1 (h1.alloc (.cells [.string b.name,.int .i64 b.bud,wi,wo] 55 0 false)) := (Grow.refl h1).alloc _
  obtain ⟨h2,hh2⟩ : ∃ h2,h2 = h1.alloc (.cells [.string b.name,.int .i64 b.bud,wi,wo] 55 0 false) := ⟨_,rfl⟩
  rw [← hh2] at g2
  have TA : TB h2 h.next a := ⟨vi,vo,g2.old _ _ (by rw [hh1]; exact H.alloc_self _ _),SA.grow (g1.trans g2),OA.grow (g1.trans g2)⟩
  have TB' : TB h2 h1.next b := ⟨wi,wo,by rw [hh2]; exact H.alloc_self _ _,SB.grow (g1.trans g2),OB.grow (g1.trans g2)⟩
  refine ⟨h2,g1.trans g2,?_⟩
  have b1 : xbox 55 (.agg ⟨[.string a.name,.int .i64 a.bud,vi,vo]⟩) h = .ok (.pointer (some ⟨h.next,0,none⟩)) h1 := by rw [xbox_eq,cells_agg,hh1]
  have b2 : xbox 55 (.agg ⟨[.string b.name,.int .i64 b.bud,wi,wo]⟩) h1 = .ok (.pointer (some ⟨h1.next,0,none⟩)) h2 := by rw [xbox_eq,cells_agg,hh2]
  rw [cM42,F42.eq,b1,go_ok,b2,go_ok,show (Value.int .i64 0) = .int .i64 ((0 : Nat) : Int) from rfl,rn_outer TA TB' fa fb _ 0 rfl (Nat.zero_le _) (fun s hs => by simp at hs)]
theorem Tasks.row {h : H} {v : Value} {ts : List TK} (q : Tasks h v ts) {i : Nat} {t : TK} (ht : ts[i]? = some t) :
    ∃ a r,(∀ h',xindexAddr Try.prog 22 v (.int .i64 (i : Nat)) h' = .ok (.pointer (some a)) h') ∧ (∀ h',Grow h h' → xload Try.prog 55 (.pointer (some a)) h' = .ok (.agg ⟨r⟩) h') ∧ TaskR h t r := by
  obtain ⟨b,o,vi,vo,a1,row,S,O,_⟩ := q.at_ ht
  refine ⟨⟨b,o,none⟩,_,a1,fun h' g => ?_,vi,vo,rfl,S,O⟩
  rw [ld55,(row.grow g).row (n := 4) rfl,ofA_some]
theorem need_at {ts : List TK} {i k : Nat} {a b : TK} (ha : ts[i]? = some a) (hb : ts[k]? = some b) : need ts i k = a.ins.any fun p => decide (p ∈ b.outs) := by
  unfold need; rw [insAt_eq ha,outsAt_eq hb]
theorem rN_loop {h0 : H} {vt : Value} {ts : List TK} (T : Tasks h0 vt ts) (F : Few ts) {i : Nat} (hi : i < ts.length) : ∀ (m k : Nat) {h : H} {v : Value} {br : Option Nat},ts.length - k = m → k ≤ ts.length → Grow h0 h → OL h v br (nl ((List.range k).filter (need ts i))) → (∀ b,br = some b → h0.next ≤ b) →
    ∃ h' v' br',Grow h0 h' ∧ OL h' v' br' (nl (nd ts i)) ∧ (∀ b,br' = some b → h0.next ≤ b) ∧ F22.l5 Try.prog CLM nu0 nu0 vt (.int .i64 (i : Nat)) v (.int .i64 (k : Nat)) h = .ok v' h' := by
  intro m
  have hn := F.n
  induction m with
  | zero =>
    intro k h v br hm hk G o f
    have : k = ts.length := by omega
    subst this
    refine ⟨h,v,br,G,o,f,?_⟩
    rw [F22.l5_eq,T.len,go_ok,xlss,go_ok,ifV_dec,if_neg (by omega),F22.j9_eq]
  | succ m ih =>
    intro k h v br hm hk G o f
    have hkl : k < ts.length := by omega
    have ha := List.getElem?_eq_getElem hi
    have hb := List.getElem?_eq_getElem hkl
    obtain ⟨a1,r1,x1,x2,A⟩ := T.row ha
    obtain ⟨a2,r2,y1,y2,B⟩ := T.row hb
    have fa := F.i _ (List.mem_of_getElem? ha)
    have fb := F.o _ (List.mem_of_getElem? hb)
    obtain ⟨h1,g1,e1⟩ := eRneeds (A.grow G) (B.grow G) (by omega) (by omega)
    rw [← need_at ha hb] at e1
    have hE : F22.l5 Try.prog CLM nu0 nu0 vt (.int .i64 (i : Nat)) v (.int .i64 (k : Nat)) h = ifV (.bool (need ts i k)) ((xbuildSlice Try.prog 27 1 [(0,.int .i64 (k : Nat))] h1).go .pan fun t21 h22 => ((xbuiltin Try.prog .append [27,27] [v,t21] h22).go .pan fun t23 h24 => ((xbin Try.prog .add 3 (.int .i64 (k : Nat)) (.int .i64 1) h24).go .pan fun t25 h26 => F22.l5 Try.prog CLM nu0 nu0 vt (.int .i64 (i : Nat)) t23 t25 h26)))
        ((xbin Try.prog .add 3 (.int .i64 (k : Nat)) (.int .i64 1) h1).go .pan fun t27 h28 => F22.l5 Try.prog CLM nu0 nu0 vt (.int .i64 (i : Nat)) v t27 h28) := by
      rw [F22.l5_eq,T.len,go_ok,xlss,go_ok,ifV_dec,if_pos (by omega),F22.j7_eq,x1,Res.ok1_ok,x2 _ G,Res.ok1_ok,y1,Res.ok1_ok,y2 _ G,Res.ok1_ok,e1,go_ok]
    rw [hE]
    cases hq : need ts i k with
    | true =>
      have hfl : ((List.range k).filter (need ts i)).length ≤ k := by have := List.length_filter_le (need ts i) (List.range k); rwa [List.length_range] at this
      obtain ⟨v',br',h2,u,o1,nb,e⟩ := (o.grow g1).push (by rw [nl_len]; omega) (k : Int)
      obtain ⟨h',v'',br'',r1,r2,r3,r4⟩ := ih (k + 1) (h := h2) (v := v') (br := br') (by omega) (by omega) (grow_then (G.trans g1) u fun b hb => f b hb.symm) (by
        rw [List.range_succ,List.filter_append,show [k].filter (need ts i) = [k] from List.filter_cons_of_pos hq,nl_append]; exact o1) (fun b hb => by
        rcases nb with z | ⟨b2,z,z2⟩
        · exact f b (z ▸ hb)
        · rw [z] at hb; cases hb; exact Nat.le_trans (G.trans g1).next z2)
      refine ⟨h',v'',br'',r1,r2,r3,?_⟩
      rw [ifV_t,e,xadd,go_ok,wadd1 (by omega)]
      exact r4
    | false =>
      obtain ⟨h',v'',br'',r1,r2,r3,r4⟩ := ih (k + 1) (h := h1) (v := v) (br := br) (by omega) (by omega) (G.trans g1) (by
        rw [List.range_succ,List.filter_append,show [k].filter (need ts i) = [] from List.filter_cons_of_neg (by rw [hq]; simp),List.append_nil]; exact o.grow g1) f
      refine ⟨h',v'',br'',r1,r2,r3,?_⟩
      rw [ifV_f,xadd,go_ok,wadd1 (by omega)]
      exact r4
theorem eRNeeds {h0 : H} {vt : Value} {ts : List TK} (T : Tasks h0 vt ts) (F : Few ts) (i : Int) :
    ∃ h' v br,Grow h0 h' ∧ OL h' v br (ndI ts i) ∧ (∀ b,br = some b → h0.next ≤ b) ∧ CLM (.f 22) [vt,.int .i64 i] h0 = .ok v h' := by
  have no : ¬ (0 ≤ i ∧ i < ts.length) → OL h0 (.slice none 0 0) none (ndI ts i) := fun h => by unfold ndI; rw [if_neg h]; exact OL.nil
  by_cases h1 : i < 0
  · refine ⟨h0,_,none,Grow.refl _,no (by omega),(fun b z => by cases z),?_⟩
    rw [cM22,F22.eq,xlss,go_ok,ifV_dec,if_pos h1]
  · by_cases h2 : (ts.length : Int) ≤ i
    · refine ⟨h0,_,none,Grow.refl _,no (by omega),(fun b z => by cases z),?_⟩
      rw [cM22,F22.eq,xlss,go_ok,ifV_dec,if_neg h1,T.len,go_ok,xgeq,go_ok,ifV_dec,if_pos h2]
    · obtain ⟨k,rfl⟩ : ∃ k : Nat,i = k := ⟨i.toNat,by omega⟩
      have hk : k < ts.length := by omega
      obtain ⟨h',v',br',g,o,f,e⟩ := rN_loop T F hk _ 0 rfl (Nat.zero_le _) (Grow.refl h0) (v := .slice none 0 0) (br := none) OL.nil (fun b z => by cases z)
      refine ⟨h',v',br',g,by unfold ndI; rw [if_pos (by omega),Int.toNat_natCast]; exact o,f,?_⟩
      rw [cM22,F22.eq,xlss,go_ok,ifV_dec,if_neg h1,T.len,go_ok,xgeq,go_ok,ifV_dec,if_neg h2,F22.j4_eq,show (Value.int .i64 0) = .int .i64 ((0 : Nat) : Int) from rfl,e]
theorem LvO.add {h0 h : H} {sl : Value} {bo : Option Nat} {m : Nat} {w : Nat → Value × Option Nat} {f : Nat → List Nat} (q : LvO h0 h sl bo m w f) (hn : h0.next ≤ h.next) (few : m < 100000) {v : Value} {br : Option Nat} {l : List Nat} (o : OL h v br (nl l)) (hb : ∀ b,br = some b → h0.next ≤ b) (hw : ∀ k b,k < m → (w k).2 = some b → br ≠ some b) :
    ∃ h' sl' bo',Upd (fun x => some x = bo) h h' ∧ LvO h0 h' sl' bo' (m + 1) (updN w m (v,br)) (updN f m l) ∧ NewBr h bo bo' ∧
      ∃ t h1,xbuildSlice Try.prog 33 1 [(0,v)] h = .ok t h1 ∧ xbuiltin Try.prog .append [33,33] [sl,t] h1 = .ok sl' h' := by
  have eb : xbuildSlice Try.prog 33 1 [(0,v)] h = .ok (.slice (some ⟨h.next,0,none⟩) 1 1) (h.alloc (.cells [v] 27 0 false)) := by
    rcases o with ⟨_,rfl,_⟩ | ⟨b,sp,cap,_,rfl,_⟩ <;> kernel_rfl
  have g1 : Grow h (h.alloc (.cells [v] 27 0 false)) := (Grow.refl h).alloc _
  have q1 := q.grow g1
  obtain ⟨sl',bo',h',e,u,l',nb⟩ := lst_push LLT q1.o (wr_good fun k hk => (q1.ol k hk).1) (by rw [wr_len]; omega) (H.alloc_self h (.cells [v] 27 0 false)) rfl (by show (v.oneCell' && true) = true; rw [o.one.2.2]; rfl)
  have hwr : wr m w ++ [[v]] = wr (m + 1) (updN w m (v,br)) := by
    unfold wr tb
    rw [List.range_succ,List.map_append]
    congr 1
    · exact List.map_congr_left fun k hk => by rw [updN_ne (by have := List.mem_range.1 hk; omega)]
    · simp [updN_eq]
  rw [hwr] at l'
  refine ⟨h',sl',bo',(g1.upd _).trans u,⟨l',fun b e => ?_,fun k hk => ?_,fun k k' b hk hk' hne e1 e2 => ?_⟩,nb.imp id fun ⟨b,w1,w2⟩ => ⟨b,w1,Nat.le_of_succ_le w2⟩,_,_,eb,e⟩
  · rcases nb with z | ⟨b2,z,z2⟩
    · exact q.fr b (z ▸ e)
    · rw [z] at e; cases e; exact Nat.le_trans hn (Nat.le_trans g1.next z2)
  · by_cases e : k = m
    · subst e; rw [updN_eq,updN_eq]; exact ⟨(o.grow g1).upd u fun b hb z => (o.grow g1).neL q1.o hb z.symm,hb⟩
    · rw [updN_ne e,updN_ne e]
      exact ⟨(q1.ol k (by omega)).1.upd u fun b hb z => (q1.ol k (by omega)).1.neL q1.o hb z.symm,(q.ol k (by omega)).2⟩
  · by_cases a1 : k = m
    · subst a1
      rw [updN_eq] at e1
      rw [updN_ne (fun z => hne z.symm)] at e2
      exact hw k' b (by omega) e2 e1
    · rw [updN_ne a1] at e1
      by_cases a2 : k' = m
      · subst a2; rw [updN_eq] at e2; exact hw k b (by omega) e1 e2
      · rw [updN_ne a2] at e2
        exact q.ap k k' b (by omega) (by omega) hne e1 e2
theorem ra_loop {h0 : H} {vt : Value} {ts : List TK} (T : Tasks h0 vt ts) (F : Few ts) : ∀ (d k : Nat) {h : H} {sl : Value} {bo : Option Nat} {w : Nat → Value × Option Nat},ts.length - k = d → k ≤ ts.length → Grow h0 h → LvO h0 h sl bo k w (nd ts) →
    ∃ h' sl' bo' w',Grow h0 h' ∧ LvO h0 h' sl' bo' ts.length w' (nd ts) ∧ F35.l3 Try.prog CLM nu0 nu0 vt sl (.int .i64 (k : Nat)) h = .ok sl' h' := by
  intro d
  have hn := F.n
  induction d with
  | zero =>
    intro k h sl bo w hd hk G q
    have : k = ts.length := by omega
    subst this
    refine ⟨h,sl,bo,w,G,q,?_⟩
    rw [F35.l3_eq,T.len,go_ok,xlss,go_ok,ifV_dec,if_neg (by omega),F35.j6_eq]
  | succ d ih =>
    intro k h sl bo w hd hk G q
    have hkl : k < ts.length := by omega
    obtain ⟨h1,v,br,g1,o,f,e1⟩ := eRNeeds (T.grow G) F (k : Int)
    have o' : OL h1 v br (nl (nd ts k)) := by unfold ndI at o; rw [if_pos (by omega),Int.toNat_natCast] at o; exact o
    obtain ⟨h2,sl2,bo2,u,q2,nb,t,h3,eb,ea⟩ := (q.grow g1).add (G.trans g1).next (by omega) o' (fun b hb => Nat.le_trans G.next (f b hb)) (fun j b hj e z => by
      have := f b z; have := (q.ol j hj).1.lt e; omega)
    obtain ⟨h',sl',bo',w',G',q',e'⟩ := ih (k + 1) (by omega) (by omega) (grow_then (G.trans g1) u fun b hb => q.fr b hb.symm) (q2.congrF fun j hj => by
      by_cases e : j = k
      · subst e; rw [updN_eq]
      · rw [updN_ne e])
    refine ⟨h',sl',bo',w',G',q',?_⟩
    rw [F35.l3_eq,T.len,go_ok,xlss,go_ok,ifV_dec,if_pos (by omega),F35.j5_eq,e1,go_ok,eb,go_ok,ea,go_ok,xadd,go_ok,wadd1 (by omega)]
    exact e'
theorem eRall {h0 : H} {vt : Value} {ts : List TK} (T : Tasks h0 vt ts) (F : Few ts) : ∃ h' sl bo w,Grow h0 h' ∧ LvO h0 h' sl bo ts.length w (nd ts) ∧ CLM (.f 35) [vt] h0 = .ok sl h' := by
  obtain ⟨h',sl,bo,w,g,q,e⟩ := ra_loop T F _ 0 rfl (Nat.zero_le _) (Grow.refl h0) (sl := .slice none 0 0) (bo := none) (w := fun _ => (.slice none 0 0,none)) ⟨Lst.nil,(fun b z => by cases z),fun k hk => absurd hk (Nat.not_lt_zero _),fun k k' b hk => absurd hk (Nat.not_lt_zero _)⟩
  refine ⟨h',sl,bo,w,g,q,?_⟩
  rw [cM35,F35.eq,show (Value.int .i64 0) = .int .i64 ((0 : Nat) : Int) from rfl,e]
end Go.Proofs.Ytdadiidfhnojcaa.K
namespace Go.Proofs.Ytdadiidfhnojcaa.K
open Go Go.Kx
set_option linter.unusedVariables false
set_option linter.unusedSimpArgs false
set_option maxRecDepth 20000
theorem rb_loop {h0 : H} {ts : List TK} {sl : Value} {bo : Option Nat} {w : Nat → Value × Option Nat} {hq : H} (q : LvO hq h0 sl bo ts.length w (nd ts)) (F : Few ts) {i : Nat} (hi : i < ts.length) : ∀ (m : Nat) {h : H} {bs : Nat} {seen : Nat → Bool} {v : Value} {br : Option Nat} {todo : List Nat},
    todo.length + sumN ts.length (fun k => if seen k then 0 else (nd ts k).length) = m → m ≤ 100000 → CiS h0 h ts.length bs seen v br todo → Dfs (nd ts) i seen todo → (∀ k ∈ todo,k < ts.length) →
    ∃ h' r,Grow h0 h' ∧ (r = true ↔ OnC (nd ts) i) ∧ F48.l4 Try.prog CLM nu0 nu0 sl (.int .i64 (i : Nat)) (.slice (some ⟨bs,0,none⟩) ts.length ts.length) v h = .ok (.bool r) h' := by
  intro m
  induction m using Nat.strongRecOn with
  | ind m ih =>
  intro h bs seen v br todo hm hb s d hlt
  have hn := F.n
  rcases snoc_cases todo with rfl | ⟨t,j,rfl⟩
  · refine ⟨h,false,s.gr,⟨(fun z => by cases z),fun z => absurd z d.no⟩,?_⟩
    have hl : (nl ([] : List Nat)).length = 0 := rfl
    rw [F48.l4_eq,s.t.il.len,go_ok,xgtr,go_ok,hl,ifV_dec,if_neg (by omega),F48.j12_eq]
  · obtain ⟨p1,⟨a,p2,p3⟩,v',p4,p5⟩ := s.t.pop
    have hjn : j < ts.length := hlt j (by simp)
    rw [List.length_append,List.length_singleton] at hm
    by_cases hji : j = i
    · subst hji
      refine ⟨h,true,s.gr,⟨fun _ => d.yes,fun _ => rfl⟩,?_⟩
      rw [F48.l4_eq,p1,go_ok,xgtr,go_ok,ifV_dec,if_pos (by omega),F48.j5_eq,p1,go_ok,xsub,go_ok,wsub1 (by omega) (by omega),Nat.add_sub_cancel,p2,go_ok,p3,go_ok,p1,go_ok,xsub,go_ok,wsub1 (by omega) (by omega),Nat.add_sub_cancel,p4,go_ok,xeql,go_ok,ifV_dec,if_pos rfl]
    · obtain ⟨b1,b2⟩ := s.s.ld (m := ts.length) (cap := ts.length) hjn hjn
      have hE : F48.l4 Try.prog CLM nu0 nu0 sl (.int .i64 (i : Nat)) (.slice (some ⟨bs,0,none⟩) ts.length ts.length) v h = F48.j9 Try.prog CLM nu0 nu0 sl (.int .i64 (i : Nat)) (.slice (some ⟨bs,0,none⟩) ts.length ts.length) v' (.int .i64 (j : Nat)) h := by
        rw [F48.l4_eq,p1,go_ok,xgtr,go_ok,ifV_dec,if_pos (by omega),F48.j5_eq,p1,go_ok,xsub,go_ok,wsub1 (by omega) (by omega),Nat.add_sub_cancel,p2,go_ok,p3,go_ok,p1,go_ok,xsub,go_ok,wsub1 (by omega) (by omega),Nat.add_sub_cancel,p4,go_ok,xeql,go_ok,ifV_dec,if_neg (by omega)]
      rw [hE,F48.j9_eq,b1,go_ok,b2,go_ok,xun_not,go_ok]
      cases hs : seen j with
      | true =>
        rw [show (!true) = false from rfl,ifV_f]
        exact ih (t.length + sumN ts.length (fun k => if seen k then 0 else (nd ts k).length)) (by omega) rfl (by omega) ⟨s.gr,s.s,p5,s.fs,s.ft⟩ (d.skip hs) (fun k hk => hlt k (by simp [hk]))
      | false =>
        rw [show (!false) = true from rfl,ifV_t]
        obtain ⟨h1,e1,u1,B1⟩ := s.s.st hjn true
        have G1 : Grow h0 h1 := grow_then s.gr u1 fun b hb => hb ▸ s.fs
        have t1 : OL h1 v' br (nl t) := p5.upd u1 fun b hb z => p5.ne2 s.s (by rw [hb,z])
        obtain ⟨a1,a2,a3,_⟩ := q.ld hjn
        have I : IL h1 (w j).1 (nl (nd ts j)) := ((q.ol j hjn).1.grow G1).il
        have hsum := sumN_upd (f := fun k => if seen k then 0 else (nd ts k).length) (f' := fun k => if updN seen j true k then 0 else (nd ts k).length) (j := j) (fun k hk => by simp only [updN_ne hk]) hjn
        simp only [hs,updN_eq,if_true,Bool.false_eq_true,if_false] at hsum
        obtain ⟨v2,br2,h2,e2,u2,t2,nb2⟩ := t1.app (by rw [nl_len,nl_len]; omega) I
        have G2 : Grow h0 h2 := grow_then G1 u2 fun b hb => s.ft b hb.symm
        have B2 : BL h2 bs ts.length false (updN seen j true) := B1.upd u2 fun z => t1.ne2 B1 z.symm
        rw [← nl_append] at t2
        obtain ⟨h3,r,g3,hr,e3⟩ := ih ((t ++ nd ts j).length + sumN ts.length (fun k => if updN seen j true k then 0 else (nd ts k).length)) (by rw [List.length_append]; omega) rfl (by rw [List.length_append]; omega)
          ⟨G2,B2,t2,s.fs,fun b hb => by
            rcases nb2 with z | ⟨b',z,z2⟩
            · exact s.ft b (z ▸ hb)
            · rw [z] at hb; cases hb; exact Nat.le_trans G1.next z2⟩
          (d.mark hji fun k => by
            by_cases e : k = j
            · subst e; simp [updN_eq]
            · simp [updN_ne e,e])
          (fun k hk => by
            rcases List.mem_append.1 hk with z | z
            · exact hlt k (by simp [z])
            · exact nd_lt z)
        refine ⟨h3,r,g3,hr,?_⟩
        rw [b1,go_ok,e1,go_ok,a2,go_ok,a3 _ G1,go_ok,e2,go_ok]
        exact e3
theorem eRback {hq h0 : H} {ts : List TK} {sl : Value} {bo : Option Nat} {w : Nat → Value × Option Nat} (q : LvO hq h0 sl bo ts.length w (nd ts)) (F : Few ts) {i : Nat} (hi : i < ts.length) :
    ∃ h' r,Grow h0 h' ∧ (r = true ↔ OnC (nd ts) i) ∧ CLM (.f 48) [sl,.int .i64 (i : Nat)] h0 = .ok (.bool r) h' := by
  have hn := F.n
  obtain ⟨h1,e1,g1,B1,n1⟩ := BL.new (n := ts.length) (by omega) h0
  obtain ⟨a,a2,a3,_⟩ := q.ld hi
  have I : IL h1 (w i).1 (nl (nd ts i)) := ((q.ol i hi).1.grow g1).il
  have hd := nd_len ts i
  obtain ⟨v,br,h2,e2,u2,o2,nb⟩ := (OL.nil (h := h1)).app (by rw [nl_len]; simp; omega) I
  have g2 : Grow h1 h2 := grow_then (Grow.refl h1) u2 fun b hb => by cases hb
  have G := g1.trans g2
  have hs : sumN ts.length (fun k => if false = true then 0 else (nd ts k).length) ≤ 60000 := F.e
  obtain ⟨h3,r,g3,hr,e3⟩ := rb_loop q F hi _ (h := h2) (bs := h0.next) (seen := fun _ => false) (v := v) (br := br) (todo := nd ts i) rfl (by omega)
    ⟨G,g2.old _ _ B1,o2,Nat.le_refl _,fun b hb => by
      rcases nb with z | ⟨b',z,z2⟩
      · rw [z] at hb; cases hb
      · rw [z] at hb; cases hb; exact Nat.le_trans g1.next z2⟩ (Dfs.init _ _) (fun k hk => nd_lt hk)
  refine ⟨h3,r,g3,hr,?_⟩
  rw [cM48,F48.eq,q.len,go_ok,e1,go_ok,a2,go_ok,a3 _ g1,go_ok,e2,go_ok]
  exact e3
theorem eRahead {h : H} {vt : Value} {ts : List TK} (T : Tasks h vt ts) {i j : Nat} (hi : i < ts.length) (hj : j < ts.length) :
    CLM (.f 38) [vt,.int .i64 (i : Nat),.int .i64 (j : Nat)] h = .ok (.bool (aLt ts (i : Int) (j : Int))) h := by
  obtain ⟨b1,o1,vi1,vo1,a1,r1,-⟩ := T.at_ (List.getElem?_eq_getElem hi)
  obtain ⟨b2,o2,vi2,vo2,a2,r2,-⟩ := T.at_ (List.getElem?_eq_getElem hj)
  have c1 := r1.cell (j := 0) rfl
  have c2 := r2.cell (j := 0) rfl
  rw [Nat.add_zero] at c1 c2
  have n1 := nm_at (List.getElem?_eq_getElem hi)
  have n2 := nm_at (List.getElem?_eq_getElem hj)
  rw [← n1] at c1
  rw [← n2] at c2
  have l1 : xload Try.prog 9 (.pointer (some ⟨b1,o1,none⟩)) h = .ok (.string (nm ts (i : Int))) h := by rw [ld9,c1,ofO_some]
  have l2 : xload Try.prog 9 (.pointer (some ⟨b2,o2,none⟩)) h = .ok (.string (nm ts (j : Int))) h := by rw [ld9,c2,ofO_some]
  rw [cM38,F38.eq,a1,Res.ok1_ok,fa55_0,Res.ok1_ok,l1,Res.ok1_ok,a2,Res.ok1_ok,fa55_0,Res.ok1_ok,l2,Res.ok1_ok,plain2_str,cond_true,xsneq,Res.ok1_ok,ifV_not]
  unfold aLt
  by_cases e : nm ts (i : Int) = nm ts (j : Int)
  · rw [if_pos e,xlss,go_ok,e,sLt_irrefl,Bool.false_or,decide_eq_true rfl,Bool.true_and]
  · rw [if_neg e,a1,Res.ok1_ok,fa55_0,Res.ok1_ok,l1,Res.ok1_ok,a2,Res.ok1_ok,fa55_0,Res.ok1_ok,l2,Res.ok1_ok,plain2_str,cond_true,xslss,Res.ok1_ok,decide_eq_false e,Bool.false_and,Bool.or_false]
def CycI (ts : List TK) (i : Nat) (c : Int) : Prop := (c = -1 ∧ ∀ k,k < i → ¬ OnC (nd ts) k) ∨ ∃ k : Nat,c = k ∧ k < i ∧ OnC (nd ts) k ∧ ∀ j : Nat,j < i → OnC (nd ts) j → aLt ts (j : Int) (k : Int) = false
theorem CycI.all {ts : List TK} {c : Int} (h : CycI ts ts.length c) : CycR ts c := by
  rcases h with ⟨e,no⟩ | ⟨k,e,hk,ok,mn⟩
  · exact .inl ⟨e,fun k hk => no k (OnC_lt hk) hk⟩
  · exact .inr ⟨k,e,hk,ok,fun j hj => mn j (OnC_lt hj) hj⟩
theorem rc_loop {hq h0 : H} {vt : Value} {ts : List TK} {sl : Value} {bo : Option Nat} {w : Nat → Value × Option Nat} (T : Tasks h0 vt ts) (q : LvO hq h0 sl bo ts.length w (nd ts)) (F : Few ts) : ∀ (m i : Nat) {h : H} {c : Int},ts.length - i = m → i ≤ ts.length → Grow h0 h → CycI ts i c →
    ∃ (h' : H) (c' : Int),Grow h0 h' ∧ CycR ts c' ∧ F36.l3 Try.prog CLM nu0 nu0 vt sl (.int .i64 c) (.int .i64 (i : Nat)) h = .ok (.int .i64 c') h' := by
  intro m
  have hn := F.n
  induction m with
  | zero =>
    intro i h c hm hi G p
    have : i = ts.length := by omega
    subst this
    refine ⟨h,c,G,p.all,?_⟩
    rw [F36.l3_eq,T.len,go_ok,xlss,go_ok,ifV_dec,if_neg (by omega),F36.j7_eq]
  | succ m ih =>
    intro i h c hm hi G p
    have hil : i < ts.length := by omega
    obtain ⟨h1,r,g1,hr,e1⟩ := eRback (q.grow G) F hil
    have w1 : IntKind.i64.wrap ((i : Int) + 1) = ((i + 1 : Nat) : Int) := wadd1 (by omega)
    rcases p with ⟨rfl,no⟩ | ⟨k,rfl,hk,ok,mn⟩
    · have hE : F36.l3 Try.prog CLM nu0 nu0 vt sl (.int .i64 (-1)) (.int .i64 (i : Nat)) h = ifV (.bool r) (F36.l3 Try.prog CLM nu0 nu0 vt sl (.int .i64 (i : Nat)) (.int .i64 ((i + 1 : Nat) : Int)) h1) (F36.l3 Try.prog CLM nu0 nu0 vt sl (.int .i64 (-1)) (.int .i64 ((i + 1 : Nat) : Int)) h1) := by
        rw [F36.l3_eq,T.len,go_ok,xlss,go_ok,ifV_dec,if_pos (by omega),F36.j5_eq,xlss,go_ok,ifV_dec,if_pos (by omega),e1,go_ok,xadd,go_ok,w1,go_ok]
      rw [hE]
      cases r with
      | true =>
        rw [ifV_t]
        exact ih (i + 1) (by omega) (by omega) (G.trans g1) (.inr ⟨i,rfl,by omega,hr.1 rfl,fun j hj oj => by
          by_cases e : j = i
          · subst e; exact aLt_irrefl _ _
          · exact absurd oj (no j (by omega))⟩)
      | false =>
        rw [ifV_f]
        exact ih (i + 1) (by omega) (by omega) (G.trans g1) (.inl ⟨rfl,fun j hj oj => by
          by_cases e : j = i
          · subst e; have := hr.2 oj; cases this
          · exact no j (by omega) oj⟩)
    · have ea := eRahead (T.grow G) hil (show k < ts.length by omega)
      have hE : F36.l3 Try.prog CLM nu0 nu0 vt sl (.int .i64 (k : Nat)) (.int .i64 (i : Nat)) h = ifV (.bool (aLt ts (i : Int) (k : Int))) (ifV (.bool r) (F36.l3 Try.prog CLM nu0 nu0 vt sl (.int .i64 (i : Nat)) (.int .i64 ((i + 1 : Nat) : Int)) h1) (F36.l3 Try.prog CLM nu0 nu0 vt sl (.int .i64 (k : Nat)) (.int .i64 ((i + 1 : Nat) : Int)) h1))
          (F36.l3 Try.prog CLM nu0 nu0 vt sl (.int .i64 (k : Nat)) (.int .i64 ((i + 1 : Nat) : Int)) h) := by
        rw [F36.l3_eq,T.len,go_ok,xlss,go_ok,ifV_dec,if_pos (by omega),F36.j5_eq,xlss,go_ok,ifV_dec,if_neg (by omega),ea,go_ok,e1,go_ok,xadd,go_ok,w1,xadd,go_ok,w1,go_ok]
      rw [hE]
      cases hA : aLt ts (i : Int) (k : Int) with
      | false =>
        rw [ifV_f]
        exact ih (i + 1) (by omega) (by omega) G (.inr ⟨k,rfl,by omega,ok,fun j hj oj => by
          by_cases e : j = i
          · subst e; exact hA
          · exact mn j (by omega) oj⟩)
      | true =>
        rw [ifV_t]
        cases r with
        | true =>
          rw [ifV_t]
          exact ih (i + 1) (by omega) (by omega) (G.trans g1) (.inr ⟨i,rfl,by omega,hr.1 rfl,fun j hj oj => by
            by_cases e : j = i
            · subst e; exact aLt_irrefl _ _
            · cases z : aLt ts (j : Int) (i : Int) with
              | false => rfl
              | true => have := aLt_trans z hA; rw [mn j (by omega) oj] at this; cases this⟩)
        | false =>
          rw [ifV_f]
          exact ih (i + 1) (by omega) (by omega) (G.trans g1) (.inr ⟨k,rfl,by omega,ok,fun j hj oj => by
            by_cases e : j = i
            · subst e; have := hr.2 oj; cases this
            · exact mn j (by omega) oj⟩)
theorem eRcycle {hq h0 : H} {vt : Value} {ts : List TK} {sl : Value} {bo : Option Nat} {w : Nat → Value × Option Nat} (T : Tasks h0 vt ts) (q : LvO hq h0 sl bo ts.length w (nd ts)) (F : Few ts) :
    ∃ (h' : H) (c : Int),Grow h0 h' ∧ CycR ts c ∧ CLM (.f 36) [vt,sl] h0 = .ok (.int .i64 c) h' := by
  obtain ⟨h',c,g,p,e⟩ := rc_loop T q F _ 0 rfl (Nat.zero_le _) (Grow.refl h0) (c := -1) (.inl ⟨rfl,fun k hk => absurd hk (Nat.not_lt_zero _)⟩)
  refine ⟨h',c,g,p,?_⟩
  rw [cM36,F36.eq,show (Value.int .i64 0) = .int .i64 ((0 : Nat) : Int) from rfl,e]
theorem rr_loop {h : H} {v : Value} {l : List Nat} {n bd : Nat} {B : Nat → Bool} (I : IL h v (nl l)) (Q : BL h bd n false B) (hl : ∀ j ∈ l,j < n) (few : l.length ≤ 60000) : ∀ (m i : Nat),l.length - i = m → i ≤ l.length → (∀ j ∈ l.take i,B j = true) →
    F37.l2 Try.prog CLM nu0 nu0 v (.slice (some ⟨bd,0,none⟩) n n) (.int .i64 (i : Nat)) h = .ok (.bool (l.all B)) h := by
  intro m
  induction m with
  | zero =>
    intro i hm hi hall
    have : i = l.length := by omega
    subst this
    rw [List.take_length] at hall
    rw [F37.l2_eq,I.len,go_ok,nl_len,xlss,go_ok,ifV_dec,if_neg (by omega),F37.j6_eq,show l.all B = true from List.all_eq_true.2 hall]
  | succ m ih =>
    intro i hm hi hall
    have hil : i < l.length := by omega
    have hj : l[i]? = some l[i] := List.getElem?_eq_getElem hil
    obtain ⟨j,hjd⟩ : ∃ j,j = l[i] := ⟨_,rfl⟩
    rw [← hjd] at hj
    have hjm := List.mem_of_getElem? hj
    obtain ⟨a,a1,a2⟩ := I.at_ (show (nl l)[i]? = some (j : Int) by unfold nl; rw [List.getElem?_map,hj]; rfl)
    obtain ⟨b1,b2⟩ := Q.ld (m := n) (cap := n) (hl j hjm) (hl j hjm)
    rw [F37.l2_eq,I.len,go_ok,nl_len,xlss,go_ok,ifV_dec,if_pos (by omega),F37.j4_eq,a1,go_ok,a2,go_ok,b1,go_ok,b2,go_ok,xun_not,go_ok]
    cases hB : B j with
    | false =>
      rw [show (!false) = true from rfl,ifV_t,show l.all B = false from List.all_eq_false.2 ⟨j,hjm,by rw [hB]; simp⟩]
    | true =>
      rw [show (!true) = false from rfl,ifV_f,xadd,go_ok,wadd1 (by omega)]
      refine ih (i + 1) (by omega) (by omega) fun x hx => ?_
      rw [List.take_add_one,hj,List.mem_append] at hx
      rcases hx with z | z
      · exact hall x z
      · simp at z; exact z ▸ hB
theorem eRready {h : H} {v : Value} {l : List Nat} {n bd : Nat} {B : Nat → Bool} (I : IL h v (nl l)) (Q : BL h bd n false B) (hl : ∀ j ∈ l,j < n) (few : l.length ≤ 60000) : CLM (.f 37) [v,.slice (some ⟨bd,0,none⟩) n n] h = .ok (.bool (l.all B)) h := by
  rw [cM37,F37.eq,show (Value.int .i64 0) = .int .i64 ((0 : Nat) : Int) from rfl,rr_loop I Q hl few _ 0 rfl (Nat.zero_le _) (fun j hj => by simp at hj)]
end Go.Proofs.Ytdadiidfhnojcaa.K
