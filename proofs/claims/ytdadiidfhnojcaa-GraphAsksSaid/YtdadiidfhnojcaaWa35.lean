/- My texts for this claim, in one file: part 35. -/
import Derived.Test.YtdadiidfhnojcaaWa34
namespace Go.Proofs.Ytdadiidfhnojcaa.K
open Go Go.Kx
set_option linter.unusedVariables false
set_option linter.unusedSimpArgs false
set_option maxRecDepth 20000
theorem rc_str (s : ByteArray) (h : H) : rc (.ok (.string s) h) (some (.string s)) = true := by
  unfold rc
  simp [veq]
theorem OL.rc {h h' : H} {v : Value} {br : Option Nat} {l : List Int} (q : OL h v br l) : rc (.ok v h') (some v) = true := by
  rcases q with ⟨_,rfl,_⟩ | ⟨_,_,_,_,rfl,_⟩ <;> simp [Go.Kx.rc,veq]
theorem grow_then {S : Nat → Prop} {h0 h h' : H} (g : Grow h0 h) (u : Upd S h h') (hS : ∀ b,S b → h0.next ≤ b) : Grow h0 h' :=
  ⟨Nat.le_trans g.next u.next,fun b x e => u.old b x (fun z => by have := hS b z; have := H.get_lt e; omega) (g.old b x e)⟩
theorem repeat_one (z : Value) : ∀ n,repeatL [z] n = List.replicate n z
  | 0 => rfl
  | n + 1 => by show z :: repeatL [z] n = _; rw [repeat_one z n]; rfl
theorem mkI {n : Nat} (hn : n ≤ 65536) (h : H) : xmakeSlice Try.prog 27 (.int .i64 (n : Nat)) (.int .i64 (n : Nat)) h = .ok (.slice (some ⟨h.next,0,none⟩) n n) (h.alloc (.cells (iv (List.replicate n 0)) 3 0 false)) := by
  have hz : zeroOf Try.prog 3 = some (.int .i64 0) := by kernel_rfl
  have hb : bytesOf Try.prog 3 = 8 := by kernel_rfl
  have hc : Try.prog.cellsOf 3 = 1 := by kernel_rfl
  have hm : Nat.ble (8 * n) 140737488355328 = true := Nat.ble_eq_true_of_le (by omega)
  have hm2 : Nat.ble n 9223372036854775807 = true := Nat.ble_eq_true_of_le (by omega)
  unfold xmakeSlice
  simp only [LI.el,hz,Int.ofNat_eq_natCast]
  show (bif Nat.ble n n && Nat.ble (bytesOf Try.prog 3 * n) 140737488355328 && Nat.ble n 9223372036854775807 && Nat.beq (Value.int .i64 0).cells.size (Try.prog.cellsOf 3) then _ else _) = _
  rw [hb,hc,Nat.ble_eq_true_of_le (Nat.le_refl n),hm,hm2,show Nat.beq (Value.int .i64 0).cells.size 1 = true from rfl]
  simp only [Bool.and_true,cond_true]
  rw [show (Value.int .i64 0).cells.toList = [.int .i64 0] from rfl,repeat_one,iv,List.map_replicate]
theorem mkI0 {n : Nat} (hn : n ≤ 65536) (h : H) : xmakeSlice Try.prog 27 (.int .i64 0) (.int .i64 (n : Nat)) h = .ok (.slice (some ⟨h.next,0,none⟩) 0 n) (h.alloc (.cells (iv (List.replicate n 0)) 3 0 false)) := by
  have hz : zeroOf Try.prog 3 = some (.int .i64 0) := by kernel_rfl
  have hb : bytesOf Try.prog 3 = 8 := by kernel_rfl
  have hc : Try.prog.cellsOf 3 = 1 := by kernel_rfl
  have hm : Nat.ble (8 * n) 140737488355328 = true := Nat.ble_eq_true_of_le (by omega)
  have hm2 : Nat.ble n 9223372036854775807 = true := Nat.ble_eq_true_of_le (by omega)
  unfold xmakeSlice
  simp only [LI.el,hz,Int.ofNat_eq_natCast]
  show (bif Nat.ble 0 n && Nat.ble (bytesOf Try.prog 3 * n) 140737488355328 && Nat.ble n 9223372036854775807 && Nat.beq (Value.int .i64 0).cells.size (Try.prog.cellsOf 3) then _ else _) = _
  rw [hb,hc,Nat.ble_eq_true_of_le (Nat.zero_le n),hm,hm2,show Nat.beq (Value.int .i64 0).cells.size 1 = true from rfl]
  simp only [Bool.and_true,cond_true]
  rw [show (Value.int .i64 0).cells.toList = [.int .i64 0] from rfl,repeat_one,iv,List.map_replicate]
theorem mkLL {n : Nat} (hn : n ≤ 65536) (h : H) : xmakeSlice Try.prog 33 (.int .i64 (n : Nat)) (.int .i64 (n : Nat)) h = .ok (.slice (some ⟨h.next,0,none⟩) n n) (h.alloc (.cells (List.replicate n (.slice none 0 0)) 27 0 false)) := by
  have hz : zeroOf Try.prog 27 = some (.slice none 0 0) := by kernel_rfl
  have hb : bytesOf Try.prog 27 = 24 := by kernel_rfl
  have hc : Try.prog.cellsOf 27 = 1 := by kernel_rfl
  have he : elemOf? Try.prog 33 = some 27 := by kernel_rfl
  have hm : Nat.ble (24 * n) 140737488355328 = true := Nat.ble_eq_true_of_le (by omega)
  have hm2 : Nat.ble n 9223372036854775807 = true := Nat.ble_eq_true_of_le (by omega)
  unfold xmakeSlice
  simp only [he,hz,Int.ofNat_eq_natCast]
  show (bif Nat.ble n n && Nat.ble (bytesOf Try.prog 27 * n) 140737488355328 && Nat.ble n 9223372036854775807 && Nat.beq (Value.slice none 0 0).cells.size (Try.prog.cellsOf 27) then _ else _) = _
  rw [hb,hc,Nat.ble_eq_true_of_le (Nat.le_refl n),hm,hm2,show Nat.beq (Value.slice none 0 0).cells.size 1 = true from rfl]
  simp only [Bool.and_true,cond_true]
  rw [show (Value.slice none 0 0).cells.toList = [.slice none 0 0] from rfl,repeat_one]
theorem mkB {n : Nat} (hn : n ≤ 65536) (h : H) : xmakeSlice Try.prog 83 (.int .i64 (n : Nat)) (.int .i64 (n : Nat)) h = .ok (.slice (some ⟨h.next,0,none⟩) n n) (h.alloc (.cells (List.replicate n (.bool false)) 4 0 false)) := by
  have hz : zeroOf Try.prog 4 = some (.bool false) := by kernel_rfl
  have hb : bytesOf Try.prog 4 = 1 := by kernel_rfl
  have hc : Try.prog.cellsOf 4 = 1 := by kernel_rfl
  have he : elemOf? Try.prog 83 = some 4 := by kernel_rfl
  have hm : Nat.ble (1 * n) 140737488355328 = true := Nat.ble_eq_true_of_le (by omega)
  have hm2 : Nat.ble n 9223372036854775807 = true := Nat.ble_eq_true_of_le (by omega)
  unfold xmakeSlice
  simp only [he,hz,Int.ofNat_eq_natCast]
  show (bif Nat.ble n n && Nat.ble (bytesOf Try.prog 4 * n) 140737488355328 && Nat.ble n 9223372036854775807 && Nat.beq (Value.bool false).cells.size (Try.prog.cellsOf 4) then _ else _) = _
  rw [hb,hc,Nat.ble_eq_true_of_le (Nat.le_refl n),hm,hm2,show Nat.beq (Value.bool false).cells.size 1 = true from rfl]
  simp only [Bool.and_true,cond_true]
  rw [show (Value.bool false).cells.toList = [.bool false] from rfl,repeat_one]
theorem OL.push2 {h : H} {v : Value} {br : Option Nat} {l : List Int} (q : OL h v br l) (few : l.length < 1000000) (z : Int) :
    ∃ v' br' h',Upd (fun x => some x = br) h h' ∧ OL h' v' br' (l ++ [z]) ∧ NewBr h br br' ∧ xbuildSlice Try.prog 27 1 [(0,.int .i64 z)] h = .ok (.slice (some ⟨h.next,0,none⟩) 1 1) (h.alloc (.cells [.int .i64 z] 3 0 false)) ∧
      xbuiltin Try.prog .append [27,27] [v,.slice (some ⟨h.next,0,none⟩) 1 1] (h.alloc (.cells [.int .i64 z] 3 0 false)) = .ok v' h' := by
  have g : Grow h (h.alloc (.cells [.int .i64 z] 3 0 false)) := (Grow.refl h).alloc _
  have r : IL (h.alloc (.cells [.int .i64 z] 3 0 false)) (.slice (some ⟨h.next,0,none⟩) 1 1) [z] := .inr ⟨h.next,none,1,[],false,rfl,H.alloc_self _ _⟩
  obtain ⟨v',br',h',e,u,q',n⟩ := (q.grow g).app (m := [z]) (by simp; omega) r
  have eb : xbuildSlice Try.prog 27 1 [(0,.int .i64 z)] h = .ok (.slice (some ⟨h.next,0,none⟩) 1 1) (h.alloc (.cells [.int .i64 z] 3 0 false)) := by kernel_rfl
  exact ⟨v',br',h',(g.upd _).trans u,q',n.imp id fun ⟨b,w1,w2⟩ => ⟨b,w1,Nat.le_of_succ_le w2⟩,eb,e⟩
def insAt (ts : List TK) (k : Nat) : List ByteArray := ((ts[k]?).map TK.ins).getD []
def outsAt (ts : List TK) (k : Nat) : List ByteArray := ((ts[k]?).map TK.outs).getD []
theorem insAt_eq {ts : List TK} {k : Nat} {t : TK} (h : ts[k]? = some t) : insAt ts k = t.ins := by unfold insAt; rw [h]; rfl
theorem outsAt_eq {ts : List TK} {k : Nat} {t : TK} (h : ts[k]? = some t) : outsAt ts k = t.outs := by unfold outsAt; rw [h]; rfl
def need (ts : List TK) (i k : Nat) : Bool := (insAt ts i).any fun p => decide (p ∈ outsAt ts k)
def nd (ts : List TK) (i : Nat) : List Nat := (List.range ts.length).filter (need ts i)
def sumN (n : Nat) (f : Nat → Nat) : Nat := ((List.range n).map f).sum
structure Few (ts : List TK) : Prop where
  n : ts.length ≤ 3000
  i : ∀ t ∈ ts,t.ins.length ≤ 12
  o : ∀ t ∈ ts,t.outs.length ≤ 12
  e : sumN ts.length (fun k => (nd ts k).length) ≤ 60000
theorem Few.insAt {ts : List TK} (F : Few ts) (k : Nat) : (insAt ts k).length ≤ 12 := by
  cases h : ts[k]? with
  | none => unfold K.insAt; rw [h]; simp
  | some t => rw [insAt_eq h]; exact F.i t (List.mem_of_getElem? h)
theorem Few.outsAt {ts : List TK} (F : Few ts) (k : Nat) : (outsAt ts k).length ≤ 12 := by
  cases h : ts[k]? with
  | none => unfold K.outsAt; rw [h]; simp
  | some t => rw [outsAt_eq h]; exact F.o t (List.mem_of_getElem? h)
def nl (l : List Nat) : List Int := l.map fun k : Nat => (k : Int)
theorem nl_len (l : List Nat) : (nl l).length = l.length := by simp [nl]
theorem nl_mem {l : List Nat} {z : Int} : z ∈ nl l ↔ ∃ k ∈ l,(k : Int) = z := by simp [nl]
theorem nl_append (a b : List Nat) : nl (a ++ b) = nl a ++ nl b := by simp [nl]
def mkL (ts : List TK) (p : ByteArray) (j : Nat) : List Int := nl ((List.range j).filter fun k => decide (p ∈ outsAt ts k))
def fQ (ts : List TK) (j q : Nat) : ByteArray → List Int := fun p => mkL ts p j ++ if p ∈ (outsAt ts j).take q then [(j : Int)] else []
theorem mkL_lt {ts : List TK} {p : ByteArray} {j : Nat} {z : Int} (h : z ∈ mkL ts p j) : z < j := by
  obtain ⟨k,hk,rfl⟩ := nl_mem.1 h
  have := List.mem_range.1 (List.mem_filter.1 hk).1
  omega
theorem mkL_len (ts : List TK) (p : ByteArray) (j : Nat) : (mkL ts p j).length ≤ j := by
  unfold mkL
  rw [nl_len]
  exact Nat.le_trans (List.length_filter_le _ _) (by simp)
theorem fQ_zero (ts : List TK) (j : Nat) : fQ ts j 0 = fun p => mkL ts p j := by
  funext p; unfold fQ; simp
theorem fQ_end (ts : List TK) (j : Nat) : fQ ts j (outsAt ts j).length = fun p => mkL ts p (j + 1) := by
  funext p
  unfold fQ mkL
  rw [List.take_length,List.range_succ,List.filter_append,nl_append]
  congr 1
  by_cases h : p ∈ outsAt ts j <;> simp [h,nl]
theorem fQ_len (ts : List TK) (j q : Nat) (p : ByteArray) : (fQ ts j q p).length ≤ j + 1 := by
  unfold fQ
  have := mkL_len ts p j
  rw [List.length_append]
  split <;> simp <;> omega
theorem fQ_same {ts : List TK} {j q : Nat} {s : ByteArray} (hs : (outsAt ts j)[q]? = some s) (hm : s ∈ (outsAt ts j).take q) : fQ ts j (q + 1) = fQ ts j q := by
  funext p
  unfold fQ
  rw [List.take_add_one,hs]
  have : p ∈ (outsAt ts j).take q ++ (some s).toList ↔ p ∈ (outsAt ts j).take q := by
    simp only [Option.toList_some,List.mem_append,List.mem_singleton]
    exact ⟨fun h => h.elim id fun z => z ▸ hm,.inl⟩
  simp only [this]
theorem fQ_new {ts : List TK} {j q : Nat} {s : ByteArray} (hs : (outsAt ts j)[q]? = some s) (hm : s ∉ (outsAt ts j).take q) : updF (fQ ts j q) s (fQ ts j q s ++ [(j : Int)]) = fQ ts j (q + 1) := by
  funext p
  unfold updF fQ
  rw [List.take_add_one,hs]
  by_cases e : p = s
  · subst e
    simp [hm]
  · have : p ∈ (outsAt ts j).take q ++ (some s).toList ↔ p ∈ (outsAt ts j).take q := by
      simp only [Option.toList_some,List.mem_append,List.mem_singleton]
      exact ⟨fun h => h.elim id fun z => absurd z e,.inl⟩
    rw [if_neg e]
    simp only [this]
theorem mk_inner {h0 : H} {vt vo : Value} {ts : List TK} {n j mp : Nat} (O : OutSl h0 vo (outsAt ts j)) (fo : (outsAt ts j).length ≤ 12) (hj : j ≤ 3000) :
    ∀ (m q : Nat) {h : H} {ms : List MkE},(outsAt ts j).length - q = m → q ≤ (outsAt ts j).length → Grow h0 h → MkR h0 h mp (fQ ts j q) ms →
      ∃ h' ms',Grow h0 h' ∧ MkR h0 h' mp (fQ ts j (outsAt ts j).length) ms' ∧
        F41.l6 Try.prog CLM nu0 nu0 vt (.map (some mp)) (.int .i64 (j : Nat)) vt (.int .i64 (n : Nat)) (.int .i64 (j : Nat)) vo (.int .i64 ((outsAt ts j).length : Nat)) (.int .i64 (q : Nat)) h = F41.j12 Try.prog CLM nu0 nu0 vt (.map (some mp)) vt (.int .i64 (n : Nat)) (.int .i64 (j : Nat)) h' := by
  intro m
  induction m with
  | zero =>
    intro q h ms hm hq g M
    have : q = (outsAt ts j).length := by omega
    refine ⟨h,ms,g,this ▸ M,?_⟩
    rw [F41.l6_eq,xlss,go_ok,F41.j7_eq,ifV_dec,if_neg (by omega)]
  | succ m ih =>
    intro q h ms hm hq g M
    have hql : q < (outsAt ts j).length := by omega
    have hs : (outsAt ts j)[q]? = some (outsAt ts j)[q] := List.getElem?_eq_getElem hql
    obtain ⟨s,hsd⟩ : ∃ s,s = (outsAt ts j)[q] := ⟨_,rfl⟩
    rw [← hsd] at hs
    obtain ⟨b,o,r,a1,row,hr5,hones⟩ := (O.grow g).at_ hs
    have hrow := row.row (n := 6) (by simp [hr5])
    obtain ⟨hA,eA⟩ : ∃ hA,hA = h.alloc (.cells zc63 63 0 false) := ⟨_,rfl⟩
    have gA : hA.get h.next = some (.cells zc63 63 0 false) := by rw [eA]; exact H.alloc_self _ _
    obtain ⟨hB,eB⟩ : ∃ hB,hB = hA.put h.next (.cells (.string s :: r) 63 0 false) := ⟨_,rfl⟩
    have gB : hB.get h.next = some (.cells (.string s :: r) 63 0 false) := by rw [eB]; exact H.put_self gA
    have wB : hA.write ⟨h.next,0,none⟩ (.string s :: r) = some hB := by rw [eB]; exact H.write_all gA (by simp [hr5,zc63_len]) hones
    have GA : Grow h hA := by rw [eA]; exact (Grow.refl h).alloc _
    have GB : Grow h hB := by rw [eB]; exact GA.put (Nat.le_refl _) (H.get_lt gA) _
    have hsz : (Value.agg ⟨.string s :: r⟩).cells.size = 6 := by rw [asz]; simp [hr5]
    have MB := M.grow GB
    obtain ⟨v,br,look,hasM,ol,hbr⟩ := MB.get s
    have cB : ∀ hh : H,hh.get h.next = some (.cells (.string s :: r) 63 0 false) → xload Try.prog 9 (.pointer (some ⟨h.next,0,none⟩)) hh = .ok (.string s) hh := fun hh e => by
      rw [ld9,H.cell_eq e]; rfl
    have no : s ∈ (outsAt ts j).take q → ∀ x37 x38 x39 x40 x41 x42 x43 x44 : Value,∃ h' ms',Grow h0 h' ∧ MkR h0 h' mp (fQ ts j (outsAt ts j).length) ms' ∧
        F41.j10 Try.prog CLM nu0 nu0 vt (.map (some mp)) (.int .i64 (j : Nat)) (.pointer (some ⟨h.next,0,none⟩)) v vt (.int .i64 (n : Nat)) (.int .i64 (j : Nat)) vo (.int .i64 ((outsAt ts j).length : Nat)) (.int .i64 (q : Nat)) x37 x38 x39 x40 x41 x42 x43 x44 (.bool false) hB = F41.j12 Try.prog CLM nu0 nu0 vt (.map (some mp)) vt (.int .i64 (n : Nat)) (.int .i64 (j : Nat)) h' := by
      intro hm2 x37 x38 x39 x40 x41 x42 x43 x44
      obtain ⟨h',ms',g',M',e⟩ := ih (q + 1) (h := hB) (ms := ms) (by omega) (by omega) (g.trans GB) (by rw [fQ_same hs hm2]; exact MB)
      refine ⟨h',ms',g',M',?_⟩
      rw [F41.j10_eq,ifV_f,xadd,go_ok,wadd1 (by omega)]
      exact e
    have yes : s ∉ (outsAt ts j).take q → ∀ x37 x38 x39 x40 x41 x42 x43 x44 : Value,∃ h' ms',Grow h0 h' ∧ MkR h0 h' mp (fQ ts j (outsAt ts j).length) ms' ∧
        F41.j10 Try.prog CLM nu0 nu0 vt (.map (some mp)) (.int .i64 (j : Nat)) (.pointer (some ⟨h.next,0,none⟩)) v vt (.int .i64 (n : Nat)) (.int .i64 (j : Nat)) vo (.int .i64 ((outsAt ts j).length : Nat)) (.int .i64 (q : Nat)) x37 x38 x39 x40 x41 x42 x43 x44 (.bool true) hB = F41.j12 Try.prog CLM nu0 nu0 vt (.map (some mp)) vt (.int .i64 (n : Nat)) (.int .i64 (j : Nat)) h' := by
      intro hm2 x37 x38 x39 x40 x41 x42 x43 x44
      obtain ⟨v',br',hC,uC,oC,nC,eb,ea⟩ := ol.push2 (by have := fQ_len ts j q s; omega) (j : Int)
      obtain ⟨hD,ms2,eD,uD,MD⟩ := MB.put (Nat.le_trans g.next GB.next) hasM hbr uC oC nC
      rw [fQ_new hs hm2] at MD
      have GD : Grow h0 hD := grow_then (g.trans GB) uD (fun b hb => hb.elim (fun z => by rw [z]; exact MB.mf) (fun z => (hbr b z.symm).1))
      obtain ⟨h',ms',g',M',e⟩ := ih (q + 1) (h := hD) (ms := ms2) (by omega) (by omega) GD MD
      refine ⟨h',ms',g',M',?_⟩
      have hnb : ¬ some h.next = br := fun z => by
        obtain ⟨c,el,ff,op,hc⟩ := ol.cells z.symm
        rw [gB] at hc
        simp only [Option.some.injEq,Blk.cells.injEq] at hc
        rcases hasM with ⟨_,_,w⟩ | ⟨pre,post,w,_⟩
        · rw [w] at z; cases z
        · have := (M.ol (s,v,br) (by rw [w]; simp)).1.lt z.symm
          omega
      have gC := uC.old _ _ hnb gB
      have g1 : (hB.alloc (.cells [.int .i64 (j : Int)] 3 0 false)).get h.next = some (.cells (.string s :: r) 63 0 false) := H.alloc_old gB
      rw [F41.j10_eq,ifV_t,fa63_0,Res.ok1_ok,cB _ gB,Res.ok1_ok,eb,go_ok,cB _ g1,rc_str,Bool.and_true,cond_true,ea,go_ok,cB _ gC,rc_str,Bool.and_true,cond_true,eD,go_ok,xadd,go_ok,wadd1 (by omega)]
      exact e
    have hE : F41.l6 Try.prog CLM nu0 nu0 vt (.map (some mp)) (.int .i64 (j : Nat)) vt (.int .i64 (n : Nat)) (.int .i64 (j : Nat)) vo (.int .i64 ((outsAt ts j).length : Nat)) (.int .i64 (q : Nat)) h =
        if (((fQ ts j q s).length : Nat) : Int) = 0 then F41.j10 Try.prog CLM nu0 nu0 vt (.map (some mp)) (.int .i64 (j : Nat)) (.pointer (some ⟨h.next,0,none⟩)) v vt (.int .i64 (n : Nat)) (.int .i64 (j : Nat)) vo (.int .i64 ((outsAt ts j).length : Nat)) (.int .i64 (q : Nat)) (.tuple #[]) (.tuple #[]) (.tuple #[]) (.tuple #[]) (.tuple #[]) (.tuple #[]) (.tuple #[]) (.tuple #[]) (.bool true) hB
        else ((xbin Try.prog .sub 3 (.int .i64 ((fQ ts j q s).length : Nat)) (.int .i64 1) hB).go .pan fun t51 h52 => (xindexAddr Try.prog 27 v t51 h52).go .pan fun t53 h54 => (xload Try.prog 3 t53 h54).go .pan fun t55 h56 => (xbin Try.prog .neq 3 t55 (.int .i64 (j : Nat)) h56).go .pan fun t57 h58 =>
          F41.j10 Try.prog CLM nu0 nu0 vt (.map (some mp)) (.int .i64 (j : Nat)) (.pointer (some ⟨h.next,0,none⟩)) v vt (.int .i64 (n : Nat)) (.int .i64 (j : Nat)) vo (.int .i64 ((outsAt ts j).length : Nat)) (.int .i64 (q : Nat)) v v (.int .i64 ((fQ ts j q s).length : Nat)) t51 t53 t55 (.int .i64 (j : Nat)) t57 t57 h58) := by
      rw [F41.l6_eq,xlss,go_ok,F41.j7_eq,ifV_dec,if_pos (by omega),F41.j7_1_eq,a1,go_ok,ld63,hrow,ofA_some,go_ok,al63,go_ok,← eA,st63 _ _ _ hsz,cells_agg,wB,ofU_some,go_ok,fa63_0,go_ok,cB _ gB,go_ok,look,go_ok,ol.il.len,go_ok,xeql,go_ok,ifV_dec,ol.il.len,go_ok]
    rw [hE]
    by_cases hm2 : s ∈ (outsAt ts j).take q
    · have e1 : fQ ts j q s = mkL ts s j ++ [(j : Int)] := by unfold fQ; rw [if_pos hm2]
      have hl : (fQ ts j q s).length = (mkL ts s j).length + 1 := by rw [e1]; simp
      have hlast : (fQ ts j q s)[(mkL ts s j).length]? = some (j : Int) := by rw [e1]; simp
      have hll := mkL_len ts s j
      obtain ⟨a,l1,l2⟩ := ol.il.at_ hlast
      rw [if_neg (by omega),xsub,go_ok,wsub1 (by omega) (by omega),hl,Nat.add_sub_cancel,l1,go_ok,l2,go_ok,xneq,go_ok,decide_eq_true rfl,show (!true) = false from rfl]
      exact no hm2 _ _ _ _ _ _ _ _
    · have e1 : fQ ts j q s = mkL ts s j := by unfold fQ; rw [if_neg hm2,List.append_nil]
      by_cases hz : (fQ ts j q s).length = 0
      · rw [if_pos (by omega)]
        exact yes hm2 _ _ _ _ _ _ _ _
      · have hll := fQ_len ts j q s
        have hlast : (fQ ts j q s)[(fQ ts j q s).length - 1]? = some (fQ ts j q s)[(fQ ts j q s).length - 1] := List.getElem?_eq_getElem (by omega)
        have hlt : (fQ ts j q s)[(fQ ts j q s).length - 1] < j := mkL_lt (ts := ts) (p := s) (by rw [← e1]; exact List.getElem_mem _)
        obtain ⟨a,l1,l2⟩ := ol.il.at_ hlast
        rw [if_neg (by omega),xsub,go_ok,wsub1 (by omega) (by omega),l1,go_ok,l2,go_ok,xneq,go_ok,decide_eq_false (by omega),show (!false) = true from rfl]
        exact yes hm2 _ _ _ _ _ _ _ _
theorem mk_outer {h0 : H} {vt : Value} {ts : List TK} {mp : Nat} (T : Tasks h0 vt ts) (F : Few ts) :
    ∀ (m j : Nat) {h : H} {ms : List MkE},ts.length - j = m → j ≤ ts.length → Grow h0 h → MkR h0 h mp (fun p => mkL ts p j) ms →
      ∃ h' ms',Grow h0 h' ∧ MkR h0 h' mp (fun p => mkL ts p ts.length) ms' ∧
        F41.l3 Try.prog CLM nu0 nu0 vt (.map (some mp)) vt (.int .i64 (ts.length : Nat)) (.int .i64 (j : Nat)) h = F41.j13 Try.prog CLM nu0 nu0 vt (.map (some mp)) h' := by
  intro m
  have hn := F.n
  induction m with
  | zero =>
    intro j h ms hm hj g M
    have : j = ts.length := by omega
    subst this
    refine ⟨h,ms,g,M,?_⟩
    rw [F41.l3_eq,xlss,go_ok,F41.j4_eq,ifV_dec,if_neg (by omega)]
  | succ m ih =>
    intro j h ms hm hj g M
    have hjl : j < ts.length := by omega
    have ht : ts[j]? = some ts[j] := List.getElem?_eq_getElem hjl
    obtain ⟨b,o,vi,vo,a1,row,-,O,hones⟩ := T.at_ ht
    have hrow := (row.grow g).row (n := 4) rfl
    rw [← outsAt_eq ht] at O
    obtain ⟨hA,eA⟩ : ∃ hA,hA = h.alloc (.cells zc55 55 0 false) := ⟨_,rfl⟩
    have gA : hA.get h.next = some (.cells zc55 55 0 false) := by rw [eA]; exact H.alloc_self _ _
    obtain ⟨hB,eB⟩ : ∃ hB,hB = hA.put h.next (.cells [.string ts[j].name,.int .i64 ts[j].bud,vi,vo] 55 0 false) := ⟨_,rfl⟩
    have gB : hB.get h.next = some (.cells [.string ts[j].name,.int .i64 ts[j].bud,vi,vo] 55 0 false) := by rw [eB]; exact H.put_self gA
    have wB : hA.write ⟨h.next,0,none⟩ [.string ts[j].name,.int .i64 ts[j].bud,vi,vo] = some hB := by rw [eB]; exact H.write_all gA (by simp [zc55_len]) hones
    have GA : Grow h hA := by rw [eA]; exact (Grow.refl h).alloc _
    have GB : Grow h hB := by rw [eB]; exact GA.put (Nat.le_refl _) (H.get_lt gA) _
    have hsz : (Value.agg ⟨[.string ts[j].name,.int .i64 ts[j].bud,vi,vo]⟩).cells.size = 4 := rfl
    have hc : hB.cell ⟨h.next,0 + 3,none⟩ = some vo := by rw [H.cell_eq gB]; rfl
    obtain ⟨h1,ms1,g1,M1,e1⟩ := mk_inner (vt := vt) (n := ts.length) (mp := mp) O (F.outsAt j) (show j ≤ 3000 by omega) _ 0 rfl (Nat.zero_le _) (g.trans GB) (by rw [fQ_zero]; exact M.grow GB)
    rw [fQ_end] at M1
    obtain ⟨h',ms',g',M',e⟩ := ih (j + 1) (by omega) (by omega) g1 M1
    refine ⟨h',ms',g',M',?_⟩
    rw [F41.l3_eq,xlss,go_ok,F41.j4_eq,ifV_dec,if_pos (by omega),F41.j4_1_eq,a1,go_ok,ld55,hrow,ofA_some,go_ok,al55,go_ok,← eA,st55 _ _ _ hsz,cells_agg,wB,ofU_some,go_ok,fa55_3,go_ok,ld53,hc,ofO_some,go_ok,O.len,go_ok,
      show (Value.int .i64 0) = .int .i64 ((0 : Nat) : Int) from rfl,e1,F41.j12_eq,xadd,go_ok,wadd1 (by omega)]
    exact e
end Go.Proofs.Ytdadiidfhnojcaa.K
namespace Go.Proofs.Ytdadiidfhnojcaa.K
open Go Go.Kx
set_option linter.unusedVariables false
set_option linter.unusedSimpArgs false
set_option maxRecDepth 20000
def ndL (ts : List TK) (i : Nat) : List Int := nl (nd ts i)
theorem rise_eq : ∀ {l m : List Int},l.Pairwise (· < ·) → m.Pairwise (· < ·) → (∀ z,z ∈ l ↔ z ∈ m) → l = m
  | [],[],_,_,_ => rfl
  | [],b :: m,_,_,h => absurd ((h b).2 List.mem_cons_self) List.not_mem_nil
  | a :: l,[],_,_,h => absurd ((h a).1 List.mem_cons_self) List.not_mem_nil
  | a :: l,b :: m,hl,hm,h => by
    have hl' := List.pairwise_cons.1 hl
    have hm' := List.pairwise_cons.1 hm
    have e : a = b := by
      rcases List.mem_cons.1 ((h a).1 List.mem_cons_self) with e | e
      · exact e
      · rcases List.mem_cons.1 ((h b).2 List.mem_cons_self) with e2 | e2
        · exact e2.symm
        · have := hl'.1 b e2; have := hm'.1 a e; omega
    subst e
    refine congrArg (a :: ·) (rise_eq hl'.2 hm'.2 fun z => ⟨fun hz => ?_,fun hz => ?_⟩)
    · rcases List.mem_cons.1 ((h z).1 (List.mem_cons_of_mem _ hz)) with e | e
      · have := hl'.1 z hz; omega
      · exact e
    · rcases List.mem_cons.1 ((h z).2 (List.mem_cons_of_mem _ hz)) with e | e
      · have := hm'.1 z hz; omega
      · exact e
theorem range_rise (n : Nat) : (List.range n).Pairwise (· < ·) := List.pairwise_lt_range
theorem nl_rise {l : List Nat} (h : l.Pairwise (· < ·)) : (nl l).Pairwise (· < ·) := by
  unfold nl
  rw [List.pairwise_map]
  exact h.imp fun {a b} z => by omega
theorem nd_rise (ts : List TK) (i : Nat) : (nd ts i).Pairwise (· < ·) := (range_rise _).filter _
theorem nd_lt {ts : List TK} {i k : Nat} (h : k ∈ nd ts i) : k < ts.length := List.mem_range.1 (List.mem_filter.1 h).1
theorem nd_mem {ts : List TK} {i k : Nat} : k ∈ nd ts i ↔ k < ts.length ∧ need ts i k = true := by
  unfold nd; rw [List.mem_filter,List.mem_range]
theorem nd_len (ts : List TK) (i : Nat) : (nd ts i).length ≤ ts.length := by
  unfold nd; exact Nat.le_trans (List.length_filter_le _ _) (by simp)
def catL (ts : List TK) (i q : Nat) : List Int := ((insAt ts i).take q).flatMap fun p => mkL ts p ts.length
theorem catL_zero (ts : List TK) (i : Nat) : catL ts i 0 = [] := rfl
theorem catL_next {ts : List TK} {i q : Nat} {s : ByteArray} (h : (insAt ts i)[q]? = some s) : catL ts i (q + 1) = catL ts i q ++ mkL ts s ts.length := by
  unfold catL
  rw [List.take_add_one,h,List.flatMap_append]
  simp
theorem catL_len (ts : List TK) (i q : Nat) : (catL ts i q).length ≤ q * ts.length := by
  unfold catL
  rw [List.length_flatMap]
  have : ∀ l : List ByteArray,(l.map fun p => (mkL ts p ts.length).length).sum ≤ l.length * ts.length := by
    intro l
    induction l with
    | nil => simp
    | cons a l ih =>
      have := mkL_len ts a ts.length
      simp only [List.map_cons,List.sum_cons,List.length_cons,Nat.add_mul,Nat.one_mul]
      omega
  exact Nat.le_trans (this _) (Nat.mul_le_mul_right _ (by simp; omega))
theorem catL_mem {ts : List TK} {i : Nat} {z : Int} : z ∈ catL ts i (insAt ts i).length ↔ z ∈ ndL ts i := by
  unfold catL ndL
  rw [List.take_length,List.mem_flatMap]
  constructor
  · rintro ⟨p,hp,hz⟩
    obtain ⟨k,hk,rfl⟩ := nl_mem.1 hz
    rw [List.mem_filter,List.mem_range] at hk
    exact nl_mem.2 ⟨k,nd_mem.2 ⟨hk.1,List.any_eq_true.2 ⟨p,hp,hk.2⟩⟩,rfl⟩
  · intro hz
    obtain ⟨k,hk,rfl⟩ := nl_mem.1 hz
    obtain ⟨h1,h2⟩ := nd_mem.1 hk
    obtain ⟨p,hp,hq⟩ := List.any_eq_true.1 h2
    exact ⟨p,hp,nl_mem.2 ⟨k,List.mem_filter.2 ⟨List.mem_range.2 h1,hq⟩,rfl⟩⟩
theorem dd_cat {ts : List TK} {i : Nat} {l : List Int} (hp : l.Perm (catL ts i (insAt ts i).length)) (hr : Rise l) : dd l = ndL ts i :=
  rise_eq (dd_rise l hr) (nl_rise (nd_rise ts i)) fun z => by rw [dd_mem,hp.mem_iff,catL_mem]
theorem ll_ld {h : H} {b n cap : Nat} {vs : List Value} {op : Bool} {sp : Option Nat} (hg : h.get b = some (.cells vs 27 0 op)) {i : Nat} {v : Value} (hi : i < n) (hv : vs[i]? = some v) :
    xindexAddr Try.prog 33 (.slice (some ⟨b,0,sp⟩) n cap) (.int .i64 (i : Nat)) h = .ok (.pointer (some ⟨b,0 + i * 1,none⟩)) h ∧ xload Try.prog 27 (.pointer (some ⟨b,0 + i * 1,none⟩)) h = .ok v h := by
  refine ⟨ia33 _ _ _ _ _ _ _ _ hi,?_⟩
  rw [ld27,H.cell_eq hg,Nat.zero_add,Nat.mul_one,hv,ofO_some]
theorem ll_st {h : H} {b n cap : Nat} {vs : List Value} {op : Bool} {sp : Option Nat} (hg : h.get b = some (.cells vs 27 0 op)) {i : Nat} {v : Value} (hi : i < n) (hn : n ≤ vs.length) (hv : v.cells.size = 1 ∧ v.cells.toList = [v] ∧ v.oneCell' = true) :
    xindexAddr Try.prog 33 (.slice (some ⟨b,0,sp⟩) n cap) (.int .i64 (i : Nat)) h = .ok (.pointer (some ⟨b,0 + i * 1,none⟩)) h ∧ xstore Try.prog 27 (.pointer (some ⟨b,0 + i * 1,none⟩)) v h = .ok undef (h.put b (.cells (vs.set i v) 27 0 op)) := by
  refine ⟨ia33 _ _ _ _ _ _ _ _ hi,?_⟩
  rw [st27 _ _ _ hv.1,hv.2.1,Nat.zero_add,Nat.mul_one,write_cell' hg (by omega) hv.2.2,ofU_some]
theorem PL.one {h : H} {v : Value} {br : Option Nat} {l : List Int} (q : PL h v br l) : v.cells.size = 1 ∧ v.cells.toList = [v] ∧ v.oneCell' = true := q.nl.1.one
structure RowS (h0 h1 h : H) (bo i : Nat) (vs : List Value) (v : Value) (br : Option Nat) (l : List Int) : Prop where
  u : Upd (fun x => x = bo ∨ h1.next ≤ x) h1 h
  g : h.get bo = some (.cells (vs.set i v) 27 0 false)
  ol : OL h v br l
  fr : ∀ b,br = some b → h1.next ≤ b
  ne : br ≠ none → l ≠ []
theorem nf_inner {h0 h1 : H} {vt vi : Value} {ts : List TK} {mp bo i : Nat} {vs : List Value} {ms : List MkE} (S : StrSl h0 vi (insAt ts i)) (F : Few ts) (hi : i < ts.length) (hv : vs.length = ts.length) (hbo : h0.next ≤ bo)
    (g1 : Grow h0 h1) (M : MkR h0 h1 mp (fun p => mkL ts p ts.length) ms) (hb1 : h1.get bo = some (.cells vs 27 0 false)) :
    ∀ (m q : Nat) {h : H} {v : Value} {br : Option Nat},(insAt ts i).length - q = m → q ≤ (insAt ts i).length → RowS h0 h1 h bo i vs v br (catL ts i q) →
      ∃ h' v' br',RowS h0 h1 h' bo i vs v' br' (catL ts i (insAt ts i).length) ∧
        F41.l18 Try.prog CLM nu0 nu0 (.map (some mp)) (.slice (some ⟨bo,0,none⟩) ts.length ts.length) (.int .i64 (i : Nat)) vt (.int .i64 (ts.length : Nat)) (.int .i64 (i : Nat)) vi (.int .i64 ((insAt ts i).length : Nat)) (.int .i64 (q : Nat)) h =
          F41.j22 Try.prog CLM nu0 nu0 (.map (some mp)) (.slice (some ⟨bo,0,none⟩) ts.length ts.length) (.int .i64 (i : Nat)) vt (.int .i64 (ts.length : Nat)) (.int .i64 (i : Nat)) h' := by
  intro m
  have hn := F.n
  have hins := F.insAt i
  obtain ⟨es,clock,mg,me⟩ := M.g
  have hmb : mp ≠ bo := fun z => by rw [z,hb1] at mg; cases mg
  induction m with
  | zero =>
    intro q h v br hm hq R
    have : q = (insAt ts i).length := by omega
    refine ⟨h,v,br,this ▸ R,?_⟩
    rw [F41.l18_eq,xlss,go_ok,F41.j19_eq,ifV_dec,if_neg (by omega)]
  | succ m ih =>
    intro q h v br hm hq R
    have hql : q < (insAt ts i).length := by omega
    have hs : (insAt ts i)[q]? = some (insAt ts i)[q] := List.getElem?_eq_getElem hql
    obtain ⟨s,hsd⟩ : ∃ s,s = (insAt ts i)[q] := ⟨_,rfl⟩
    rw [← hsd] at hs
    have G : Grow h0 h := grow_then g1 R.u fun b hb => hb.elim (fun z => z ▸ hbo) (fun z => Nat.le_trans g1.next z)
    obtain ⟨a,a1,a2⟩ := (S.grow G).at_ hs
    have MB : MkR h0 h mp (fun p => mkL ts p ts.length) ms := M.upd R.u (fun z => z.elim hmb fun z => by have := H.get_lt mg; omega) fun x hx b hb z => by
      obtain ⟨c,el,ff,op,hc⟩ := (M.ol x hx).1.cells hb
      rcases z with z | z
      · rcases (M.ol x hx).1 with ⟨w,_⟩ | ⟨b',sp,cap,w,_,hg,_⟩
        · rw [w] at hb; cases hb
        · rw [w] at hb; cases hb; rw [z,hb1] at hg
          simp only [Option.some.injEq,Blk.cells.injEq] at hg
          exact absurd hg.2.1 (by decide)
      · have := H.get_lt hc; omega
    obtain ⟨w,bw,look,-,olw,-⟩ := MB.get s
    have hlen := catL_len ts i q
    have hq12 : q * ts.length ≤ 12 * 3000 := Nat.mul_le_mul (by omega) hn
    have hml := mkL_len ts s ts.length
    have happ : ∃ v' br' h',xbuiltin Try.prog .append [27,27] [v,w] h = .ok v' h' ∧ Upd (fun x => some x = br) h h' ∧ OL h' v' br' (catL ts i (q + 1)) ∧ NewBr h br br' ∧ (br' ≠ none → catL ts i (q + 1) ≠ []) := by
      rw [catL_next hs]
      by_cases hz : mkL ts s ts.length = []
      · refine ⟨v,br,h,?_,Upd.refl _ _,by rw [hz,List.append_nil]; exact R.ol,.inl rfl,by rw [hz,List.append_nil]; exact R.ne⟩
        have := olw.il
        simp only [hz] at this
        exact R.ol.app0 this
      · obtain ⟨v',br',h',e,u,o,n⟩ := R.ol.app (by omega) olw.il
        exact ⟨v',br',h',e,u,o,n,fun _ z => hz (List.append_eq_nil_iff.1 z).2⟩
    obtain ⟨v',br',h2,ea,u2,o2,n2,ne2⟩ := happ
    have hset : (vs.set i v)[i]? = some v := by rw [List.getElem?_set_self (by omega)]
    obtain ⟨l1,l2⟩ := ll_ld (sp := none) (n := ts.length) (cap := ts.length) R.g hi hset
    have hbn : ¬ some bo = br := fun z => by
      rcases R.ol with ⟨w,_⟩ | ⟨b',sp,cap,w,_,hg,_⟩
      · rw [w] at z; cases z
      · rw [w] at z; cases z; rw [R.g] at hg
        simp only [Option.some.injEq,Blk.cells.injEq] at hg
        exact absurd hg.2.1 (by decide)
    have g2 := u2.old _ _ hbn R.g
    obtain ⟨s1,s2⟩ := ll_st (sp := none) (n := ts.length) (cap := ts.length) (i := i) g2 hi (by rw [List.length_set]; omega) o2.one
    rw [List.set_set] at s2
    obtain ⟨h3,hh3⟩ : ∃ h3,h3 = h2.put bo (.cells (vs.set i v') 27 0 false) := ⟨_,rfl⟩
    have u3 : Upd (fun x => x = bo) h2 h3 := by rw [hh3]; exact (Upd.refl (fun x => x = bo) h2).put (.inl rfl) (H.get_lt g2) _
    have hbn' : ∀ b,br' = some b → ¬ b = bo := fun b hb z => by
      rcases o2 with ⟨w,_⟩ | ⟨b',sp,cap,w,_,hg,_⟩
      · rw [w] at hb; cases hb
      · rw [w] at hb; cases hb; rw [z,g2] at hg
        simp only [Option.some.injEq,Blk.cells.injEq] at hg
        exact absurd hg.2.1 (by decide)
    have R3 : RowS h0 h1 h3 bo i vs v' br' (catL ts i (q + 1)) := by
      refine ⟨?_,by rw [hh3]; exact H.put_self g2,o2.upd u3 hbn',fun b hb => ?_,ne2⟩
      · refine (R.u.trans (u2.mono fun x _ z => .inr (R.fr x z.symm))).trans (u3.mono fun x _ z => .inl z)
      · rcases n2 with z | ⟨b2,z,z2⟩
        · exact R.fr b (z ▸ hb)
        · rw [z] at hb; cases hb
          exact Nat.le_trans R.u.next z2
    obtain ⟨h',v'',br'',R',e⟩ := ih (q + 1) (by omega) (by omega) R3
    refine ⟨h',v'',br'',R',?_⟩
    rw [F41.l18_eq,xlss,go_ok,F41.j19_eq,ifV_dec,if_pos (by omega),F41.j19_1_eq,a1,go_ok,a2,go_ok,l1,Res.ok1_ok,l2,Res.ok1_ok,look,go_ok,l2,R.ol.rc,Bool.and_true,cond_true,ea,go_ok,s1,Res.ok1_ok,s2,go_ok,← hh3,xadd,go_ok,wadd1 (by omega)]
    exact e
def DoneR (h0 h : H) (ts : List TK) (vs : List Value) (i : Nat) : Prop :=
  ∀ k,k < i → ∃ v br,vs[k]? = some v ∧ PL h v br (ndL ts k) ∧ ∀ b,br = some b → h0.next ≤ b
theorem nf_outer {h0 : H} {vt : Value} {ts : List TK} {mp bo : Nat} {ms : List MkE} (T : Tasks h0 vt ts) (F : Few ts) (hbo : h0.next ≤ bo) :
    ∀ (m i : Nat) {h : H} {vs : List Value},ts.length - i = m → i ≤ ts.length → Grow h0 h → MkR h0 h mp (fun p => mkL ts p ts.length) ms → h.get bo = some (.cells vs 27 0 false) → vs.length = ts.length →
      DoneR h0 h ts vs i → (∀ k,i ≤ k → k < ts.length → vs[k]? = some (.slice none 0 0)) →
      ∃ h' vs',Grow h0 h' ∧ h'.get bo = some (.cells vs' 27 0 false) ∧ vs'.length = ts.length ∧ DoneR h0 h' ts vs' ts.length ∧
        F41.l15 Try.prog CLM nu0 nu0 (.map (some mp)) (.slice (some ⟨bo,0,none⟩) ts.length ts.length) vt (.int .i64 (ts.length : Nat)) (.int .i64 (i : Nat)) h = .ok (.slice (some ⟨bo,0,none⟩) ts.length ts.length) h' := by
  intro m
  have hn := F.n
  induction m with
  | zero =>
    intro i h vs hm hi g M hb hl D N
    have : i = ts.length := by omega
    refine ⟨h,vs,g,hb,hl,this ▸ D,?_⟩
    rw [F41.l15_eq,xlss,go_ok,F41.j16_eq,ifV_dec,if_neg (by omega),F41.j25_eq]
  | succ m ih =>
    intro i h vs hm hi g M hb hl D N
    have hil : i < ts.length := by omega
    have ht : ts[i]? = some ts[i] := List.getElem?_eq_getElem hil
    obtain ⟨b,o,vi,vo,a1,row,S,O,hones⟩ := T.at_ ht
    have hrow := (row.grow g).row (n := 4) rfl
    rw [← insAt_eq ht] at S
    obtain ⟨hA,eA⟩ : ∃ hA,hA = h.alloc (.cells zc55 55 0 false) := ⟨_,rfl⟩
    have gA : hA.get h.next = some (.cells zc55 55 0 false) := by rw [eA]; exact H.alloc_self _ _
    obtain ⟨hB,eB⟩ : ∃ hB,hB = hA.put h.next (.cells [.string ts[i].name,.int .i64 ts[i].bud,vi,vo] 55 0 false) := ⟨_,rfl⟩
    have gB : hB.get h.next = some (.cells [.string ts[i].name,.int .i64 ts[i].bud,vi,vo] 55 0 false) := by rw [eB]; exact H.put_self gA
    have wB : hA.write ⟨h.next,0,none⟩ [.string ts[i].name,.int .i64 ts[i].bud,vi,vo] = some hB := by rw [eB]; exact H.write_all gA (by simp [zc55_len]) hones
    have GA : Grow h hA := by rw [eA]; exact (Grow.refl h).alloc _
    have GB : Grow h hB := by rw [eB]; exact GA.put (Nat.le_refl _) (H.get_lt gA) _
    have hsz : (Value.agg ⟨[.string ts[i].name,.int .i64 ts[i].bud,vi,vo]⟩).cells.size = 4 := rfl
    have hc : hB.cell ⟨h.next,0 + 2,none⟩ = some vi := by rw [H.cell_eq gB]; rfl
    have hb2 := GB.old _ _ hb
    have hvi : vs[i]? = some (.slice none 0 0) := N i (Nat.le_refl _) hil
    have hset0 : vs.set i (.slice none 0 0) = vs := by
      apply List.ext_getElem?
      intro j
      rw [List.getElem?_set]
      by_cases hj : i = j
      · subst hj; rw [if_pos rfl,if_pos (by omega)]; exact hvi.symm
      · rw [if_neg hj]
    have MB := M.grow GB
    obtain ⟨h1,v1,br1,R1,e1⟩ := nf_inner (vt := vt) (bo := bo) (i := i) (vs := vs) S F hil hl hbo (g.trans GB) MB hb2 _ 0 rfl (Nat.zero_le _) (h := hB) (v := .slice none 0 0) (br := none)
      ⟨Upd.refl _ _,by rw [hset0]; exact hb2,by rw [catL_zero]; exact OL.nil,(fun b z => by cases z),fun z => absurd rfl z⟩
    have hins := F.insAt i
    have hclen := catL_len ts i (insAt ts i).length
    have hq12 : (insAt ts i).length * ts.length ≤ 12 * 3000 := Nat.mul_le_mul hins hn
    obtain ⟨h2,l2,u2,o2,p2,r2,e2⟩ := eSortInts R1.ol (by omega)
    have hl2 := p2.length_eq
    have hbn : ¬ some bo = br1 := fun z => by
      rcases R1.ol with ⟨w,_⟩ | ⟨b',sp,cap,w,_,hg,_⟩
      · rw [w] at z; cases z
      · rw [w] at z; cases z; rw [R1.g] at hg
        simp only [Option.some.injEq,Blk.cells.injEq] at hg
        exact absurd hg.2.1 (by decide)
    have b2 := u2.old _ _ hbn R1.g
    obtain ⟨h3,v3,u3,o3,ne3,e3⟩ := eCompact o2 (by omega)
    have b3 := u3.old _ _ hbn b2
    rw [dd_cat p2 r2] at o3
    have ddl := dd_len l2
    rw [dd_cat p2 r2] at ddl
    obtain ⟨v4,P4,e4⟩ := eClip o3 (by omega) (fun z => by
      intro w
      have h1 := R1.ne z
      have h2 : l2 ≠ [] := fun y => h1 (by rw [y] at p2; exact p2.symm.eq_nil)
      have h3 : dd l2 = [] := by rw [dd_cat p2 r2]; exact w
      cases l2 with
      | nil => exact h2 rfl
      | cons a l => exact absurd ((dd_mem (a :: l) a).2 List.mem_cons_self) (by rw [h3]; exact List.not_mem_nil))
    have hset : (vs.set i v1)[i]? = some v1 := by rw [List.getElem?_set_self (by omega)]
    obtain ⟨l1,l1'⟩ := ll_ld (sp := none) (n := ts.length) (cap := ts.length) R1.g hil hset
    obtain ⟨m1,m1'⟩ := ll_ld (sp := none) (n := ts.length) (cap := ts.length) b2 hil hset
    obtain ⟨s1,s2⟩ := ll_st (sp := none) (n := ts.length) (cap := ts.length) (i := i) b3 hil (by rw [List.length_set]; omega) P4.one
    rw [List.set_set] at s2
    obtain ⟨h5,hh5⟩ : ∃ h5,h5 = h3.put bo (.cells (vs.set i v4) 27 0 false) := ⟨_,rfl⟩
    have u5 : Upd (fun x => x = bo) h3 h5 := by rw [hh5]; exact (Upd.refl (fun x => x = bo) h3).put (.inl rfl) (H.get_lt b3) _
    have U : Upd (fun x => x = bo ∨ hB.next ≤ x) hB h5 :=
      ((R1.u.trans (u2.mono fun x _ z => .inr (R1.fr x z.symm))).trans (u3.mono fun x _ z => .inr (R1.fr x z.symm))).trans (u5.mono fun x _ z => .inl z)
    have G5 : Grow h0 h5 := grow_then (g.trans GB) U fun b hb => hb.elim (fun z => z ▸ hbo) (fun z => Nat.le_trans (g.trans GB).next z)
    obtain ⟨es,clock,mg,me⟩ := MB.g
    have hmb : mp ≠ bo := fun z => by rw [z,hb2] at mg; cases mg
    have M5 : MkR h0 h5 mp (fun p => mkL ts p ts.length) ms := MB.upd U (fun z => z.elim hmb fun z => by have := H.get_lt mg; omega) fun x hx b hb z => by
      obtain ⟨c,el,ff,op,hc⟩ := (MB.ol x hx).1.cells hb
      rcases z with z | z
      · rcases (MB.ol x hx).1 with ⟨w,_⟩ | ⟨b',sp,cap,w,_,hg,_⟩
        · rw [w] at hb; cases hb
        · rw [w] at hb; cases hb; rw [z,hb2] at hg
          simp only [Option.some.injEq,Blk.cells.injEq] at hg
          exact absurd hg.2.1 (by decide)
      · have := H.get_lt hc; omega
    have g5 : h5.get bo = some (.cells (vs.set i v4) 27 0 false) := by rw [hh5]; exact H.put_self b3
    have D5 : DoneR h0 h5 ts (vs.set i v4) (i + 1) := by
      intro k hk
      by_cases hki : k = i
      · subst hki
        refine ⟨v4,br1,List.getElem?_set_self (by omega),P4.updT u5 (fun b c hb hg z => ?_),fun b hb => Nat.le_trans (g.trans GB).next (R1.fr b hb)⟩
        rw [z,b3] at hg
        simp only [Option.some.injEq,Blk.cells.injEq] at hg
        exact absurd hg.2.1 (by decide)
      · obtain ⟨v,br,hv,P,fr⟩ := D k (by omega)
        refine ⟨v,br,by rw [List.getElem?_set_ne (by omega)]; exact hv,(P.grow GB).updT U (fun b c hb hg z => ?_),fr⟩
        rcases z with z | z
        · rw [z,hb2] at hg
          simp only [Option.some.injEq,Blk.cells.injEq] at hg
          exact absurd hg.2.1 (by decide)
        · have := H.get_lt hg; omega
    obtain ⟨h',vs',r1,r2',r3,r4,r5⟩ := ih (i + 1) (by omega) (by omega) G5 M5 g5 (by rw [List.length_set]; exact hl) D5 (fun k hk hk2 => by rw [List.getElem?_set_ne (by omega)]; exact N k (by omega) hk2)
    refine ⟨h',vs',r1,r2',r3,r4,?_⟩
    rw [F41.l15_eq,xlss,go_ok,F41.j16_eq,ifV_dec,if_pos (by omega),F41.j16_1_eq,a1,go_ok,ld55,hrow,ofA_some,go_ok,al55,go_ok,← eA,st55 _ _ _ hsz,cells_agg,wB,ofU_some,go_ok,fa55_2,go_ok,ld52,hc,ofO_some,go_ok,S.len,go_ok,
      show (Value.int .i64 0) = .int .i64 ((0 : Nat) : Int) from rfl,e1,F41.j22_eq,l1,go_ok,l1',go_ok,e2,go_ok,m1,go_ok,m1',go_ok,e3,go_ok,e4,go_ok,s1,go_ok,s2,go_ok,← hh5,F41.j24_eq,xadd,go_ok,wadd1 (by omega)]
    exact r5
theorem eNeedsOf {h0 : H} {vt : Value} {ts : List TK} (T : Tasks h0 vt ts) (F : Few ts) :
    ∃ h' bo vs,Grow h0 h' ∧ h0.next ≤ bo ∧ h'.get bo = some (.cells vs 27 0 false) ∧ vs.length = ts.length ∧ DoneR h0 h' ts vs ts.length ∧
      CLM (.f 41) [vt] h0 = .ok (.slice (some ⟨bo,0,none⟩) ts.length ts.length) h' := by
  have hn := F.n
  have em : xmakeMap h0 = .ok (.map (some h0.next)) (h0.alloc (.map [] 0)) := rfl
  obtain ⟨h1,hh1⟩ : ∃ h1,h1 = h0.alloc (.map [] 0) := ⟨_,rfl⟩
  have G1 : Grow h0 h1 := by rw [hh1]; exact (Grow.refl h0).alloc _
  have M1 : MkR h0 h1 h0.next (fun p => mkL ts p 0) [] := ⟨⟨[],0,by rw [hh1]; exact H.alloc_self _ _,rfl⟩,Nat.le_refl _,List.Pairwise.nil,(fun x hx => by cases hx),fun s _ => rfl,List.Pairwise.nil⟩
  obtain ⟨h2,ms,G2,M2,e2⟩ := mk_outer (mp := h0.next) T F _ 0 rfl (Nat.zero_le _) G1 M1
  obtain ⟨h3,hh3⟩ : ∃ h3,h3 = h2.alloc (.cells (List.replicate ts.length (.slice none 0 0)) 27 0 false) := ⟨_,rfl⟩
  have G3 : Grow h2 h3 := by rw [hh3]; exact (Grow.refl h2).alloc _
  obtain ⟨h',vs,g',b',l',D',e'⟩ := nf_outer (mp := h0.next) (bo := h2.next) (ms := ms) T F G2.next _ 0 rfl (Nat.zero_le _) (G2.trans G3) (M2.grow G3) (by rw [hh3]; exact H.alloc_self _ _) (by simp) (fun k hk => absurd hk (Nat.not_lt_zero k))
    (fun k _ hk => by rw [List.getElem?_replicate,if_pos hk])
  refine ⟨h',h2.next,vs,g',G2.next,b',l',D',?_⟩
  rw [cM41,F41.eq,em,go_ok,← hh1,T.len,go_ok,show (Value.int .i64 0) = .int .i64 ((0 : Nat) : Int) from rfl,e2,F41.j13_eq,T.len,go_ok,mkLL (by omega),go_ok,← hh3,T.len,go_ok,show (Value.int .i64 0) = .int .i64 ((0 : Nat) : Int) from rfl,e']
end Go.Proofs.Ytdadiidfhnojcaa.K
namespace Go.Proofs.Ytdadiidfhnojcaa.K
open Go Go.Kx
set_option linter.unusedVariables false
set_option linter.unusedSimpArgs false
set_option maxRecDepth 20000
def LLv (h : H) (v : Value) (n : Nat) (f : Nat → List Int) : Prop := ∃ b op vs,v = .slice (some ⟨b,0,none⟩) n n ∧ h.get b = some (.cells vs 27 0 op) ∧ vs.length = n ∧ ∀ k,k < n → ∃ u,vs[k]? = some u ∧ NL h u (f k)
theorem LLv.grow {h h' : H} (g : Grow h h') {v : Value} {n : Nat} {f : Nat → List Int} (q : LLv h v n f) : LLv h' v n f := by
  obtain ⟨b,op,vs,e,hg,hl,hk⟩ := q
  exact ⟨b,op,vs,e,g.old _ _ hg,hl,fun k hn => by obtain ⟨u,e1,e2⟩ := hk k hn; exact ⟨u,e1,e2.grow g⟩⟩
theorem LLv.len {h : H} {v : Value} {n : Nat} {f : Nat → List Int} (q : LLv h v n f) (h' : H) : xbuiltin Try.prog .len [33] [v] h' = .ok (.int .i64 (n : Nat)) h' := by
  obtain ⟨b,op,vs,rfl,hg,hl,hk⟩ := q
  exact ln33 _ _ _ _
theorem LLv.at_ {h : H} {v : Value} {n : Nat} {f : Nat → List Int} (q : LLv h v n f) {k : Nat} (hk : k < n) :
    ∃ a u,(∀ h',xindexAddr Try.prog 33 v (.int .i64 (k : Nat)) h' = .ok (.pointer (some a)) h') ∧ (∀ h',Grow h h' → xload Try.prog 27 (.pointer (some a)) h' = .ok u h') ∧ NL h u (f k) := by
  obtain ⟨b,op,vs,rfl,hg,hl,hf⟩ := q
  obtain ⟨u,e1,e2⟩ := hf k hk
  refine ⟨⟨b,0 + k * 1,none⟩,u,fun h' => ia33 _ _ _ _ _ _ _ h' hk,fun h' g => ?_,e2⟩
  rw [ld27,H.cell_eq (g.old _ _ hg),Nat.zero_add,Nat.mul_one,e1,ofO_some]
def wv (n : Nat) (w : Nat → Value × Option Nat) : List Value := (List.range n).map fun k => (w k).1
theorem wv_len (n : Nat) (w : Nat → Value × Option Nat) : (wv n w).length = n := by simp [wv]
theorem wv_at {n k : Nat} (w : Nat → Value × Option Nat) (hk : k < n) : (wv n w)[k]? = some (w k).1 := by simp [wv,hk]
def updN {α : Type} (f : Nat → α) (k : Nat) (x : α) : Nat → α := fun j => if j = k then x else f j
theorem updN_eq {α : Type} {f : Nat → α} {k : Nat} {x : α} : updN f k x k = x := if_pos rfl
theorem updN_ne {α : Type} {f : Nat → α} {k j : Nat} {x : α} (h : j ≠ k) : updN f k x j = f j := if_neg h
theorem wv_set {n k : Nat} (w : Nat → Value × Option Nat) (hk : k < n) (x : Value × Option Nat) : (wv n w).set k x.1 = wv n (updN w k x) := by
  apply List.ext_getElem?
  intro j
  rw [List.getElem?_set]
  by_cases hj : j < n
  · rw [wv_at _ hj,wv_at _ hj]
    by_cases e : k = j
    · subst e; rw [if_pos rfl,if_pos (by rw [wv_len]; exact hk),updN_eq]
    · rw [if_neg e,updN_ne (fun z => e z.symm)]
  · rw [List.getElem?_eq_none (by rw [wv_len]; omega),List.getElem?_eq_none (by rw [wv_len]; omega)]
    split <;> simp_all [wv_len]
structure LLo (h0 h : H) (bo n : Nat) (op : Bool) (w : Nat → Value × Option Nat) (f : Nat → List Int) : Prop where
  g : h.get bo = some (.cells (wv n w) 27 0 op)
  ol : ∀ k,k < n → OL h (w k).1 (w k).2 (f k) ∧ (∀ b,(w k).2 = some b → h0.next ≤ b) ∧ ((w k).2 ≠ none → f k ≠ [])
  ap : ∀ k k' b,k < n → k' < n → k ≠ k' → (w k).2 = some b → (w k').2 ≠ some b
theorem OL.ne {h : H} {v : Value} {br : Option Nat} {l : List Int} (q : OL h v br l) {bo : Nat} {vs : List Value} {op : Bool} (hg : h.get bo = some (.cells vs 27 0 op)) : br ≠ some bo := by
  intro z
  rcases q with ⟨w,_⟩ | ⟨b',sp,cap,w,_,hg',_⟩
  · rw [w] at z; cases z
  · rw [w] at z; cases z; rw [hg] at hg'
    simp only [Option.some.injEq,Blk.cells.injEq] at hg'
    exact absurd hg'.2.1 (by decide)
theorem LLo.grow {h0 h h' : H} (g : Grow h h') {bo n : Nat} {op : Bool} {w : Nat → Value × Option Nat} {f : Nat → List Int} (q : LLo h0 h bo n op w f) : LLo h0 h' bo n op w f :=
  ⟨g.old _ _ q.g,fun k hk => ⟨(q.ol k hk).1.grow g,(q.ol k hk).2⟩,q.ap⟩
theorem LLo.congr {h0 h : H} {bo n : Nat} {op : Bool} {w : Nat → Value × Option Nat} {f f' : Nat → List Int} (q : LLo h0 h bo n op w f) (e : ∀ k,k < n → f k = f' k) : LLo h0 h bo n op w f' :=
  ⟨q.g,fun k hk => by rw [← e k hk]; exact q.ol k hk,q.ap⟩
theorem LLo.set {h0 h h' : H} {bo n k : Nat} {op : Bool} {w : Nat → Value × Option Nat} {f : Nat → List Int} (q : LLo h0 h bo n op w f) (hn : h0.next ≤ h.next) (hk : k < n) {v' : Value} {br' : Option Nat} {l' : List Int}
    (u : Upd (fun x => some x = (w k).2) h h') (o : OL h' v' br' l') (nb : NewBr h (w k).2 br') (ne : br' ≠ none → l' ≠ []) :
    LLo h0 (h'.put bo (.cells (wv n (updN w k (v',br'))) 27 0 op)) bo n op (updN w k (v',br')) (updN f k l') ∧ Upd (fun x => x = bo ∨ some x = (w k).2) h (h'.put bo (.cells (wv n (updN w k (v',br'))) 27 0 op)) ∧
      h'.get bo = some (.cells (wv n w) 27 0 op) := by
  have g' : h'.get bo = some (.cells (wv n w) 27 0 op) := u.old _ _ (fun z => (q.ol k hk).1.ne q.g z.symm) q.g
  have U : Upd (fun x => x = bo) h' (h'.put bo (.cells (wv n (updN w k (v',br'))) 27 0 op)) := (Upd.refl (fun x => x = bo) h').put (.inl rfl) (H.get_lt g') _
  have keep : ∀ {v br l},OL h' v br l → OL (h'.put bo (.cells (wv n (updN w k (v',br'))) 27 0 op)) v br l := fun o => o.upd U fun b e z => o.ne g' (by rw [e,z])
  refine ⟨⟨H.put_self g',fun j hj => ?_,fun a b c ha hb hab e => ?_⟩,(u.mono fun x _ z => .inr z).trans (U.mono fun x _ z => .inl z),g'⟩
  · by_cases e : j = k
    · subst e
      rw [updN_eq,updN_eq]
      refine ⟨keep o,fun b hb => ?_,ne⟩
      rcases nb with z | ⟨b2,z,z2⟩
      · exact (q.ol j hj).2.1 b (z ▸ hb)
      · simp only at hb; rw [z] at hb; cases hb; omega
    · rw [updN_ne e,updN_ne e]
      exact ⟨keep ((q.ol j hj).1.upd u fun b hb z => q.ap k j b hk hj (fun z => e z.symm) z.symm hb),(q.ol j hj).2⟩
  · have fresh : ∀ j,j < n → j ≠ k → br' = some c → (w j).2 ≠ some c := fun j hj hjk z z2 => by
      rcases nb with y | ⟨b2,y,y2⟩
      · exact q.ap k j c hk hj (fun z => hjk z.symm) (y ▸ z) z2
      · rw [y] at z; cases z
        have := (q.ol j hj).1.lt z2
        omega
    by_cases e1 : a = k
    · subst e1
      rw [updN_eq] at e
      rw [updN_ne (fun z => hab z.symm)]
      exact fresh b hb (fun z => hab z.symm) e
    · rw [updN_ne e1] at e
      by_cases e2 : b = k
      · subst e2
        rw [updN_eq]
        exact fun z => fresh a ha hab z e
      · rw [updN_ne e2]
        exact q.ap a b c ha hb hab e
theorem LLo.llv {h0 h : H} {bo n : Nat} {op : Bool} {w : Nat → Value × Option Nat} {f : Nat → List Int} (q : LLo h0 h bo n op w f) : LLv h (.slice (some ⟨bo,0,none⟩) n n) n f :=
  ⟨bo,op,wv n w,rfl,q.g,wv_len _ _,fun k hk => ⟨(w k).1,wv_at w hk,(q.ol k hk).1.il,fun e => by
    rcases (q.ol k hk).1 with ⟨_,z,_⟩ | ⟨b,_,_,z,_⟩
    · exact z
    · exact absurd e ((q.ol k hk).2.2 (by rw [z]; simp))⟩⟩
theorem LLo.new {h0 h : H} {n : Nat} (hn : h0.next ≤ h.next) : LLo h0 (h.alloc (.cells (List.replicate n (.slice none 0 0)) 27 0 false)) h.next n false (fun _ => (.slice none 0 0,none)) (fun _ => []) :=
  ⟨by rw [H.alloc_self]; congr 2; simp only [wv,List.map_const',List.length_range],fun k hk => ⟨OL.nil,(fun b z => by cases z),fun z => absurd rfl z⟩,fun k k' b _ _ _ z => by cases z⟩
def us (ts : List TK) (j : Nat) : List Nat := (List.range ts.length).filter fun i => need ts i j
def usL (ts : List TK) (j : Nat) : List Int := nl (us ts j)
theorem us_mem {ts : List TK} {i j : Nat} : i ∈ us ts j ↔ i < ts.length ∧ need ts i j = true := by unfold us; rw [List.mem_filter,List.mem_range]
theorem us_rise (ts : List TK) (j : Nat) : (us ts j).Pairwise (· < ·) := (range_rise _).filter _
theorem us_len (ts : List TK) (i : Nat) : (us ts i).length ≤ ts.length := by
  unfold us; exact Nat.le_trans (List.length_filter_le _ _) (by simp)
def uQ (ts : List TK) (i q : Nat) : Nat → List Int := fun j => nl ((List.range i).filter fun a => need ts a j) ++ if j ∈ (nd ts i).take q then [(i : Int)] else []
theorem uQ_len (ts : List TK) (i q j : Nat) : (uQ ts i q j).length ≤ i + 1 := by
  unfold uQ
  have : ((List.range i).filter fun a => need ts a j).length ≤ i := Nat.le_trans (List.length_filter_le _ _) (by simp)
  rw [List.length_append,nl_len]
  split <;> simp <;> omega
theorem uQ_new {ts : List TK} {i q j : Nat} (hj : (nd ts i)[q]? = some j) : updN (uQ ts i q) j (uQ ts i q j ++ [(i : Int)]) = uQ ts i (q + 1) := by
  have hnot : j ∉ (nd ts i).take q := fun z => by
    obtain ⟨a,e⟩ := List.mem_iff_getElem?.1 z
    have ha := (List.getElem?_eq_some_iff.1 e).1
    rw [List.length_take] at ha
    rw [List.getElem?_take_of_lt (by omega)] at e
    have := List.pairwise_iff_getElem.1 (nd_rise ts i) a q (List.getElem?_eq_some_iff.1 e).1 (List.getElem?_eq_some_iff.1 hj).1 (by omega)
    rw [(List.getElem?_eq_some_iff.1 e).2,(List.getElem?_eq_some_iff.1 hj).2] at this
    omega
  funext p
  unfold updN uQ
  rw [List.take_add_one,hj]
  by_cases e : p = j
  · subst e
    simp [hnot]
  · have : p ∈ (nd ts i).take q ++ (some j).toList ↔ p ∈ (nd ts i).take q := by
      simp only [Option.toList_some,List.mem_append,List.mem_singleton]
      exact ⟨fun h => h.elim id fun z => absurd z e,.inl⟩
    rw [if_neg e]
    simp only [this]
theorem uQ_end {ts : List TK} {i j : Nat} (hj : j < ts.length) : uQ ts i (nd ts i).length j = uQ ts (i + 1) 0 j := by
  unfold uQ
  rw [List.take_length,List.range_succ,List.filter_append,nl_append]
  simp only [List.take_zero,List.not_mem_nil,if_false,List.append_nil]
  congr 1
  by_cases h : need ts i j = true
  · rw [if_pos (nd_mem.2 ⟨hj,h⟩)]; simp [h,nl]
  · rw [if_neg (fun z => h (nd_mem.1 z).2)]; simp [h,nl]
theorem uQ_all (ts : List TK) (j : Nat) : uQ ts ts.length 0 j = usL ts j := by unfold uQ usL us; simp
def Net (h : H) (g : Nat) (ts : List TK) (vt : Value) : Prop := ∃ vn vu,NetR h g vt vn vu ∧ Tasks h vt ts ∧ LLv h vn ts.length (ndL ts) ∧ LLv h vu ts.length (usL ts)
theorem Net.grow {h h' : H} (w : Grow h h') {g : Nat} {ts : List TK} {vt : Value} (q : Net h g ts vt) : Net h' g ts vt := by
  obtain ⟨vn,vu,a,b,c,d⟩ := q
  exact ⟨vn,vu,a.grow w,b.grow w,c.grow w,d.grow w⟩
structure BuS (h0 hb h : H) (ts : List TK) (g bo : Nat) (vt vn : Value) (w : Nat → Value × Option Nat) (f : Nat → List Int) : Prop where
  gr : Grow h0 h
  n : NetR h g vt vn (.slice (some ⟨bo,0,none⟩) ts.length ts.length)
  l : LLv h vn ts.length (ndL ts)
  o : LLo hb h bo ts.length false w f
  fr : h0.next ≤ bo
  hh : h0.next ≤ hb.next
  hn : hb.next ≤ h.next
  gb : g < hb.next
  go : g ≠ bo
theorem bu_step {h0 hb h : H} {ts : List TK} {g bo : Nat} {vt vn : Value} {w : Nat → Value × Option Nat} {f : Nat → List Int} (s : BuS h0 hb h ts g bo vt vn w f) (hl0 : LLv h0 vn ts.length (ndL ts))
    {k i : Nat} (hk : k < ts.length) (few : (f k).length < 1000000) :
    ∃ h' w',BuS h0 hb h' ts g bo vt vn w' (updN f k (f k ++ [(i : Int)])) ∧ ∃ h1 h2 v',
      xbuildSlice Try.prog 27 1 [(0,.int .i64 (i : Nat))] h = .ok (.slice (some ⟨h.next,0,none⟩) 1 1) h1 ∧ NetR h1 g vt vn (.slice (some ⟨bo,0,none⟩) ts.length ts.length) ∧ h1.get bo = some (.cells (wv ts.length w) 27 0 false) ∧
      xbuiltin Try.prog .append [27,27] [(w k).1,.slice (some ⟨h.next,0,none⟩) 1 1] h1 = .ok v' h2 ∧ NetR h2 g vt vn (.slice (some ⟨bo,0,none⟩) ts.length ts.length) ∧
      xstore Try.prog 27 (.pointer (some ⟨bo,0 + k * 1,none⟩)) v' h2 = .ok undef h' := by
  obtain ⟨v',br',h2,u,o,nb,eb,ea⟩ := (s.o.ol k hk).1.push2 few (i : Int)
  obtain ⟨L,U,g2⟩ := s.o.set (v' := v') (br' := br') s.hn hk u o nb (by simp)
  have G1 : Grow h (h.alloc (.cells [.int .i64 (i : Int)] 3 0 false)) := (Grow.refl h).alloc _
  have hgne : ∀ b,(w k).2 = some b → g ≠ b := fun b e z => by have := (s.o.ol k hk).2.1 b e; have := s.gb; omega
  have hgbo := s.go
  have GF : Grow h0 (h2.put bo (.cells (wv ts.length (updN w k (v',br'))) 27 0 false)) := grow_then s.gr U fun b hb => hb.elim (fun z => z ▸ s.fr) (fun z => Nat.le_trans s.hh ((s.o.ol k hk).2.1 b z.symm))
  refine ⟨_,_,⟨GF,s.n.upd U (fun z => z.elim hgbo (fun z => hgne g z.symm rfl)),hl0.grow GF,L,s.fr,s.hh,Nat.le_trans s.hn U.next,s.gb,s.go⟩,h.alloc (.cells [.int .i64 (i : Int)] 3 0 false),h2,v',eb,s.n.grow G1,G1.old _ _ s.o.g,ea,s.n.upd u (fun z => hgne g z.symm rfl),?_⟩
  obtain ⟨_,e⟩ := ll_st (sp := none) (n := ts.length) (cap := ts.length) g2 hk (by rw [wv_len]; exact Nat.le_refl _) o.one
  rw [e,wv_set w hk (v',br')]
theorem rc_slc (b n c : Nat) (h : H) : rc (.ok (.slice (some ⟨b,0,none⟩) n c) h) (some (.slice (some ⟨b,0,none⟩) n c)) = true := by simp [rc,veq]
theorem bu_inner {h0 hb : H} {ts : List TK} {g bo i : Nat} {vt vn vi : Value} (F : Few ts) (hl0 : LLv h0 vn ts.length (ndL ts)) (hi : i < ts.length) (I0 : NL h0 vi (ndL ts i)) :
    ∀ (m q : Nat) {h : H} {w : Nat → Value × Option Nat},(nd ts i).length - q = m → q ≤ (nd ts i).length → BuS h0 hb h ts g bo vt vn w (uQ ts i q) →
      ∃ h' w',BuS h0 hb h' ts g bo vt vn w' (uQ ts i (nd ts i).length) ∧
        F32.l6 Try.prog CLM nu0 nu0 (.pointer (some ⟨g,0,none⟩)) (.int .i64 (i : Nat)) vn (.int .i64 (ts.length : Nat)) (.int .i64 (i : Nat)) vi (.int .i64 ((nd ts i).length : Nat)) (.int .i64 (q : Nat)) h =
          F32.j10 Try.prog CLM nu0 nu0 (.pointer (some ⟨g,0,none⟩)) vn (.int .i64 (ts.length : Nat)) (.int .i64 (i : Nat)) h' := by
  intro m
  have hn := F.n
  have hnd := nd_len ts i
  induction m with
  | zero =>
    intro q h w hm hq s
    have : q = (nd ts i).length := by omega
    refine ⟨h,w,this ▸ s,?_⟩
    rw [F32.l6_eq,xlss,go_ok,F32.j7_eq,ifV_dec,if_neg (by omega)]
  | succ m ih =>
    intro q h w hm hq s
    have hql : q < (nd ts i).length := by omega
    have hj : (nd ts i)[q]? = some (nd ts i)[q] := List.getElem?_eq_getElem hql
    obtain ⟨j,hjd⟩ : ∃ j,j = (nd ts i)[q] := ⟨_,rfl⟩
    rw [← hjd] at hj
    have hjn : j < ts.length := nd_lt (List.mem_of_getElem? hj)
    have hz : (ndL ts i)[q]? = some (j : Int) := by unfold ndL nl; rw [List.getElem?_map,hj]; rfl
    obtain ⟨a,a1,a2⟩ := (I0.1.grow s.gr).at_ hz
    obtain ⟨h',w',S',h1,h2,v',eb,n1,b1,ea,n2,est⟩ := bu_step (i := i) s hl0 hjn (by have := uQ_len ts i q j; omega)
    rw [uQ_new hj] at S'
    obtain ⟨h3,w3,S3,e3⟩ := ih (q + 1) (by omega) (by omega) S'
    refine ⟨h3,w3,S3,?_⟩
    obtain ⟨l1,l2⟩ := ll_ld (sp := none) (n := ts.length) (cap := ts.length) s.o.g hjn (wv_at w hjn)
    obtain ⟨l3,l4⟩ := ll_ld (sp := none) (n := ts.length) (cap := ts.length) b1 hjn (wv_at w hjn)
    have k1 : ∀ hh : H,xindexAddr Try.prog 33 (.slice (some ⟨bo,0,none⟩) ts.length ts.length) (.int .i64 (j : Nat)) hh = .ok (.pointer (some ⟨bo,0 + j * 1,none⟩)) hh := fun hh => ia33 _ _ _ _ _ _ _ _ hjn
    have f1 : ∀ {hh : H},NetR hh g vt vn (.slice (some ⟨bo,0,none⟩) ts.length ts.length) → xload Try.prog 33 (.pointer (some ⟨g,0 + 2,none⟩)) hh = .ok (.slice (some ⟨bo,0,none⟩) ts.length ts.length) hh := fun nn => by rw [ld33,nn.u,ofO_some]
    rw [F32.l6_eq,xlss,go_ok,F32.j7_eq,ifV_dec,if_pos (by omega),F32.j7_1_eq,a1,go_ok,a2,go_ok,xnil_ptr,Res.ok1_ok,fa79_2,Res.ok1_ok,f1 s.n,Res.ok1_ok,xnil_ptr,Res.ok1_ok,fa79_2,Res.ok1_ok,f1 s.n,Res.ok1_ok,k1,Res.ok1_ok,l2,Res.ok1_ok,eb,go_ok,
      f1 n1,rc_slc,l4,(s.o.ol j hjn).1.rc,Bool.and_self,Bool.and_self,Bool.and_self,cond_true,ea,go_ok,f1 n2,rc_slc,Bool.and_self,cond_true,k1,Res.ok1_ok,est,go_ok,xadd,go_ok,wadd1 (by omega)]
    exact e3
theorem bu_outer {h0 hb : H} {ts : List TK} {g bo : Nat} {vt vn : Value} (F : Few ts) (hl0 : LLv h0 vn ts.length (ndL ts)) :
    ∀ (m i : Nat) {h : H} {w : Nat → Value × Option Nat},ts.length - i = m → i ≤ ts.length → BuS h0 hb h ts g bo vt vn w (uQ ts i 0) →
      ∃ h' w',BuS h0 hb h' ts g bo vt vn w' (usL ts) ∧
        F32.l3 Try.prog CLM nu0 nu0 (.pointer (some ⟨g,0,none⟩)) vn (.int .i64 (ts.length : Nat)) (.int .i64 (i : Nat)) h = .ok (.pointer (some ⟨g,0,none⟩)) h' := by
  intro m
  have hn := F.n
  induction m with
  | zero =>
    intro i h w hm hi s
    have : i = ts.length := by omega
    subst this
    refine ⟨h,w,⟨s.gr,s.n,s.l,s.o.congr fun k _ => uQ_all ts k,s.fr,s.hh,s.hn,s.gb,s.go⟩,?_⟩
    rw [F32.l3_eq,xlss,go_ok,F32.j4_eq,ifV_dec,if_neg (by omega),F32.j11_eq]
  | succ m ih =>
    intro i h w hm hi s
    have hil : i < ts.length := by omega
    obtain ⟨a,u,a1,a2,I0⟩ := hl0.at_ hil
    obtain ⟨h1,w1,S1,e1⟩ := bu_inner F hl0 hil I0 _ 0 rfl (Nat.zero_le _) s
    obtain ⟨h2,w2,S2,e2⟩ := ih (i + 1) (by omega) (by omega) ⟨S1.gr,S1.n,S1.l,S1.o.congr fun k hk => uQ_end hk,S1.fr,S1.hh,S1.hn,S1.gb,S1.go⟩
    refine ⟨h2,w2,S2,?_⟩
    rw [F32.l3_eq,xlss,go_ok,F32.j4_eq,ifV_dec,if_pos (by omega),F32.j4_1_eq,a1,go_ok,a2 _ s.gr,go_ok,I0.1.len,go_ok,show (ndL ts i).length = (nd ts i).length by simp [ndL,nl],
      show (Value.int .i64 0) = .int .i64 ((0 : Nat) : Int) from rfl,e1,F32.j10_eq,xadd,go_ok,wadd1 (by omega)]
    exact e2
theorem eBuild {h0 : H} {vt : Value} {ts : List TK} (T : Tasks h0 vt ts) (F : Few ts) :
    ∃ h' g,Grow h0 h' ∧ h0.next ≤ g ∧ Net h' g ts vt ∧ CLM (.f 32) [vt] h0 = .ok (.pointer (some ⟨g,0,none⟩)) h' := by
  have hn := F.n
  obtain ⟨h1,bo,vs,G1,fr,gbo,hvl,D,e1⟩ := eNeedsOf T F
  have L1 : LLv h1 (.slice (some ⟨bo,0,none⟩) ts.length ts.length) ts.length (ndL ts) := ⟨bo,false,vs,rfl,gbo,hvl,fun k hk => by
    obtain ⟨v,br,a,b,c⟩ := D k hk
    exact ⟨v,a,b.nl⟩⟩
  obtain ⟨h2,hh2⟩ : ∃ h2,h2 = h1.alloc (.cells (List.replicate ts.length (.slice none 0 0)) 27 0 false) := ⟨_,rfl⟩
  have G2 : Grow h1 h2 := by rw [hh2]; exact (Grow.refl h1).alloc _
  obtain ⟨x,hx⟩ : ∃ x,x = Value.agg ⟨[vt,.slice (some ⟨bo,0,none⟩) ts.length ts.length,.slice (some ⟨h1.next,0,none⟩) ts.length ts.length]⟩ := ⟨_,rfl⟩
  obtain ⟨h3,hh3⟩ : ∃ h3,h3 = h2.alloc (.cells x.cells.toList 79 0 false) := ⟨_,rfl⟩
  have G3 : Grow h2 h3 := by rw [hh3]; exact (Grow.refl h2).alloc _
  have g3 : NetR h3 h2.next vt (.slice (some ⟨bo,0,none⟩) ts.length ts.length) (.slice (some ⟨h1.next,0,none⟩) ts.length ts.length) := ⟨false,by rw [hh3,hx]; exact H.alloc_self _ _⟩
  obtain ⟨a,cap,hvt⟩ := T.val
  have bd : xbuild Try.prog 79 [(0,vt),(1,.slice (some ⟨bo,0,none⟩) ts.length ts.length),(2,.slice (some ⟨h1.next,0,none⟩) ts.length ts.length)] h2 = .ok x h2 := by rw [hx,hvt]; kernel_rfl
  have lay : (layMake Try.prog 33 (.int .i64 (ts.length : Nat)) (.int .i64 (ts.length : Nat))).isSome = true := by
    have hz : zeroOf Try.prog 27 = some (.slice none 0 0) := by kernel_rfl
    have hb : bytesOf Try.prog 27 = 24 := by kernel_rfl
    have hc : Try.prog.cellsOf 27 = 1 := by kernel_rfl
    have he : elemOf? Try.prog 33 = some 27 := by kernel_rfl
    have hm : Nat.ble (24 * ts.length) 140737488355328 = true := Nat.ble_eq_true_of_le (by omega)
    have hm2 : Nat.ble ts.length 9223372036854775807 = true := Nat.ble_eq_true_of_le (by omega)
    unfold layMake
    simp only [he,hz,Int.ofNat_eq_natCast]
    show (Option.isSome (bif Nat.ble ts.length ts.length && Nat.ble (bytesOf Try.prog 27 * ts.length) 140737488355328 && Nat.ble ts.length 9223372036854775807 && Nat.beq (Value.slice none 0 0).cells.size (Try.prog.cellsOf 27) then _ else _)) = true
    rw [hb,hc,Nat.ble_eq_true_of_le (Nat.le_refl ts.length),hm,hm2,show Nat.beq (Value.slice none 0 0).cells.size 1 = true from rfl]
    rfl
  have O2 : LLo h3 h2 h1.next ts.length false (fun _ => (.slice none 0 0,none)) (fun _ => []) := by
    have := LLo.new (h0 := h1) (n := ts.length) (Nat.le_refl h1.next)
    rw [← hh2] at this
    exact ⟨this.g,fun k hk => ⟨OL.nil,(fun b z => by cases z),fun z => absurd rfl z⟩,fun k k' b _ _ _ z => by cases z⟩
  have n2 : h2.next = h1.next + 1 := by rw [hh2]; rfl
  have n3 : h3.next = h2.next + 1 := by rw [hh3]; rfl
  obtain ⟨h4,w4,S4,e4⟩ := bu_outer (h0 := h1) (hb := h3) (g := h2.next) (bo := h1.next) F L1 _ 0 rfl (Nat.zero_le _) (h := h3) (w := fun _ => (.slice none 0 0,none))
    ⟨G2.trans G3,g3,L1.grow (G2.trans G3),(O2.grow G3).congr (fun k _ => by unfold uQ; simp [nl]),Nat.le_refl _,by omega,Nat.le_refl _,by omega,by omega⟩
  have G4 := G1.trans S4.gr
  refine ⟨h4,h2.next,G4,by have := G1.next; omega,⟨_,_,S4.n,T.grow G4,S4.l,S4.o.llv⟩,?_⟩
  have hb : xbox 79 x h2 = .ok (.pointer (some ⟨h2.next,0,none⟩)) h3 := by rw [xbox_eq,hh3]
  have l3 : xload Try.prog 33 (.pointer (some ⟨h2.next,0 + 1,none⟩)) h3 = .ok (.slice (some ⟨bo,0,none⟩) ts.length ts.length) h3 := by rw [ld33,g3.n,ofO_some]
  have lv : (lenV vt).isSome = true := by rw [hvt]; rfl
  rw [cM32,F32.eq,lv,cond_true,T.len,Res.ok1_ok,lay,Bool.and_self,cond_true,e1,go_ok,mkLL (by omega),go_ok,← hh2,bd,Res.ok1_ok,hb,go_ok,xnil_ptr,go_ok,fa79_1,go_ok,l3,go_ok,L1.len,go_ok,show (Value.int .i64 0) = .int .i64 ((0 : Nat) : Int) from rfl,e4]
end Go.Proofs.Ytdadiidfhnojcaa.K
namespace Go.Proofs.Ytdadiidfhnojcaa.K
set_option linter.unusedVariables false
set_option linter.unusedSimpArgs false
inductive Path (g : Nat → List Nat) : Nat → Nat → Prop
  | one {a b : Nat} : b ∈ g a → Path g a b
  | cons {a b c : Nat} : b ∈ g a → Path g b c → Path g a c
theorem Path.trans {g : Nat → List Nat} {a b c : Nat} (p : Path g a b) (q : Path g b c) : Path g a c := by
  induction p with
  | one h => exact .cons h q
  | cons h _ ih => exact .cons h (ih q)
theorem Path.snoc {g : Nat → List Nat} {a b c : Nat} (p : Path g a b) (h : c ∈ g b) : Path g a c := p.trans (.one h)
theorem Path.rev {g r : Nat → List Nat} (h : ∀ a b,b ∈ g a → a ∈ r b) {a b : Nat} (p : Path g a b) : Path r b a := by
  induction p with
  | one e => exact .one (h _ _ e)
  | cons e _ ih => exact ih.snoc (h _ _ e)
def OnC (g : Nat → List Nat) (i : Nat) : Prop := Path g i i
theorem OnC.next {g : Nat → List Nat} {i : Nat} (h : OnC g i) : ∃ b,b ∈ g i ∧ OnC g b := by
  cases h with
  | one e => exact ⟨i,e,.one e⟩
  | cons e p => exact ⟨_,e,p.snoc e⟩
structure Dfs (g : Nat → List Nat) (i : Nat) (seen : Nat → Bool) (todo : List Nat) : Prop where
  p : ∀ k ∈ todo,Path g i k
  s : ∀ k ∈ g i,k ∈ todo ∨ seen k = true
  c : ∀ k,seen k = true → k ≠ i ∧ ∀ j ∈ g k,j ∈ todo ∨ seen j = true
theorem Dfs.init (g : Nat → List Nat) (i : Nat) : Dfs g i (fun _ => false) (g i) := ⟨fun k h => .one h,fun k h => .inl h,fun k h => by cases h⟩
theorem Dfs.yes {g : Nat → List Nat} {i : Nat} {seen : Nat → Bool} {todo : List Nat} (d : Dfs g i seen (todo ++ [i])) : OnC g i := d.p i (by simp)
theorem Dfs.no {g : Nat → List Nat} {i : Nat} {seen : Nat → Bool} (d : Dfs g i seen []) : ¬ OnC g i := by
  intro h
  have all : ∀ {a b},Path g a b → (a = i ∨ seen a = true) → seen b = true := by
    intro a b p
    induction p with
    | one e =>
      rintro (rfl | h)
      · exact (d.s _ e).elim (fun z => by cases z) id
      · exact ((d.c _ h).2 _ e).elim (fun z => by cases z) id
    | cons e _ ih =>
      rintro (rfl | h)
      · exact ih (.inr ((d.s _ e).elim (fun z => by cases z) id))
      · exact ih (.inr (((d.c _ h).2 _ e).elim (fun z => by cases z) id))
  exact (d.c i (all h (.inl rfl))).1 rfl
theorem Dfs.skip {g : Nat → List Nat} {i j : Nat} {seen : Nat → Bool} {todo : List Nat} (d : Dfs g i seen (todo ++ [j])) (h : seen j = true) : Dfs g i seen todo := by
  have aux : ∀ k,k ∈ todo ++ [j] ∨ seen k = true → k ∈ todo ∨ seen k = true := by
    rintro k (z | z)
    · rcases List.mem_append.1 z with z | z
      · exact .inl z
      · rw [List.mem_singleton] at z; subst z; exact .inr h
    · exact .inr z
  exact ⟨fun k hk => d.p k (by simp [hk]),fun k hk => aux k (d.s k hk),fun k hk => ⟨(d.c k hk).1,fun j' hj => aux j' ((d.c k hk).2 j' hj)⟩⟩
theorem Dfs.mark {g : Nat → List Nat} {i j : Nat} {seen seen' : Nat → Bool} {todo : List Nat} (d : Dfs g i seen (todo ++ [j])) (hne : j ≠ i) (hs : ∀ k,seen' k = true ↔ k = j ∨ seen k = true) : Dfs g i seen' (todo ++ g j) := by
  have aux : ∀ k,k ∈ todo ++ [j] ∨ seen k = true → k ∈ todo ++ g j ∨ seen' k = true := by
    rintro k (z | z)
    · rcases List.mem_append.1 z with z | z
      · exact .inl (by simp [z])
      · rw [List.mem_singleton] at z; exact .inr ((hs k).2 (.inl z))
    · exact .inr ((hs k).2 (.inr z))
  refine ⟨fun k hk => ?_,fun k hk => aux k (d.s k hk),fun k hk => ?_⟩
  · rcases List.mem_append.1 hk with z | z
    · exact d.p k (by simp [z])
    · exact (d.p j (by simp)).snoc z
  · rcases (hs k).1 hk with z | z
    · subst z; exact ⟨hne,fun b hb => .inl (by simp [hb])⟩
    · exact ⟨(d.c k z).1,fun b hb => aux b ((d.c k z).2 b hb)⟩
def cntN (f : Nat → List Nat) (R : List Nat) (j : Nat) : Nat := ((f j).filter fun k => decide (k ∉ R)).length
theorem cntN_nil (f : Nat → List Nat) (j : Nat) : cntN f [] j = (f j).length := by
  unfold cntN
  rw [List.filter_eq_self.2 fun a _ => by simp]
theorem cntN_zero {f : Nat → List Nat} {R : List Nat} {j : Nat} : cntN f R j = 0 ↔ ∀ k ∈ f j,k ∈ R := by
  unfold cntN
  rw [List.length_eq_zero_iff,List.filter_eq_nil_iff]
  exact ⟨fun h k hk => by have := h k hk; simpa using this,fun h k hk => by have := h k hk; simpa using this⟩
theorem cntN_other {f : Nat → List Nat} {R : List Nat} {i j : Nat} (h : i ∉ f j) : cntN f (R ++ [i]) j = cntN f R j := by
  unfold cntN
  congr 1
  refine List.filter_congr fun k hk => ?_
  have : k ≠ i := fun z => h (z ▸ hk)
  simp [this]
theorem filter_one : ∀ (l : List Nat) (R : List Nat) (i : Nat),l.Nodup → i ∈ l → i ∉ R → (l.filter fun k => decide (k ∉ R)).length = (l.filter fun k => decide (k ∉ R ++ [i])).length + 1
  | [],R,i,_,h,_ => by cases h
  | a :: l,R,i,hn,h,hR => by
    obtain ⟨h1,h2⟩ := List.nodup_cons.1 hn
    rcases List.mem_cons.1 h with e | e
    · subst e
      have : (l.filter fun k => decide (k ∉ R ++ [i])) = l.filter fun k => decide (k ∉ R) := List.filter_congr fun k hk => by
        have : k ≠ i := fun z => h1 (z ▸ hk)
        simp [this]
      rw [List.filter_cons_of_pos (by simp [hR]),List.filter_cons_of_neg (by simp),this,List.length_cons]
    · have ih := filter_one l R i h2 e hR
      have hai : a ≠ i := fun z => h1 (z ▸ e)
      by_cases ha : a ∈ R
      · rw [List.filter_cons_of_neg (by simp [ha]),List.filter_cons_of_neg (by simp [ha]),ih]
      · rw [List.filter_cons_of_pos (by simp [ha]),List.filter_cons_of_pos (by simp [ha,hai]),List.length_cons,List.length_cons,ih]
theorem cntN_mem {f : Nat → List Nat} {R : List Nat} {i j : Nat} (hn : (f j).Nodup) (h : i ∈ f j) (hR : i ∉ R) : cntN f R j = cntN f (R ++ [i]) j + 1 := filter_one _ _ _ hn h hR
structure Gr (n : Nat) (f t : Nat → List Nat) : Prop where
  ft : ∀ i j,i < n → j < n → (j ∈ t i ↔ i ∈ f j)
  fn : ∀ j,j < n → (f j).Nodup
  tn : ∀ j,j < n → (t j).Nodup
  fl : ∀ i j,i < n → j ∈ f i → j < n
  tl : ∀ i j,i < n → j ∈ t i → j < n
structure Kahn (n : Nat) (f : Nat → List Nat) (R F : List Nat) : Prop where
  nod : (R ++ F).Nodup
  lt : ∀ j ∈ R ++ F,j < n
  z : ∀ j,j < n → (cntN f R j = 0 ↔ j ∈ R ++ F)
theorem Kahn.len {n : Nat} {f : Nat → List Nat} {R F : List Nat} (k : Kahn n f R F) : (R ++ F).length ≤ n := by
  have h := List.Nodup.length_le_of_subset k.nod (l₂ := List.range n) fun j hj => List.mem_range.2 (k.lt j hj)
  simpa using h
theorem Kahn.perm {n : Nat} {f : Nat → List Nat} {R F F' : List Nat} (k : Kahn n f R F) (p : F'.Perm F) : Kahn n f R F' :=
  ⟨((List.Perm.append_left R p).nodup_iff).2 k.nod,fun j hj => k.lt j (((List.Perm.append_left R p).mem_iff).1 hj),fun j hj => (k.z j hj).trans ((List.Perm.append_left R p).mem_iff).symm⟩
theorem Kahn.init {n : Nat} {f : Nat → List Nat} : Kahn n f [] ((List.range n).filter fun j => decide ((f j).length = 0)) := by
  refine ⟨(List.nodup_range).filter _,fun j hj => List.mem_range.1 (List.mem_filter.1 hj).1,fun j hj => ?_⟩
  rw [cntN_nil,List.nil_append,List.mem_filter,List.mem_range]
  simp [hj]
def newZ (f t : Nat → List Nat) (R : List Nat) (i q : Nat) : List Nat := ((t i).take q).filter fun j => decide (cntN f (R ++ [i]) j = 0)
theorem Kahn.step {n : Nat} {f t : Nat → List Nat} (g : Gr n f t) {R F : List Nat} {i : Nat} (k : Kahn n f R (F ++ [i])) : Kahn n f (R ++ [i]) (F ++ newZ f t R i (t i).length) := by
  have hi : i < n := k.lt i (by simp)
  have nd := k.nod
  have hiR : i ∉ R := fun z => by
    rw [List.nodup_append] at nd
    exact nd.2.2 i z i (by simp) rfl
  have hz : ∀ j,j ∈ newZ f t R i (t i).length ↔ j ∈ t i ∧ cntN f (R ++ [i]) j = 0 := fun j => by
    unfold newZ; rw [List.take_length,List.mem_filter,decide_eq_true_iff]
  have pos : ∀ j,j ∈ t i → j ∉ R ++ (F ++ [i]) := fun j hj z => by
    have hjn := g.tl i j hi hj
    have h1 := (k.z j hjn).2 z
    have h2 := (g.ft i j hi hjn).1 hj
    exact hiR (cntN_zero.1 h1 i h2)
  refine ⟨?_,fun j hj => ?_,fun j hj => ?_⟩
  · rw [show R ++ [i] ++ (F ++ newZ f t R i (t i).length) = (R ++ ([i] ++ F)) ++ newZ f t R i (t i).length by simp,List.nodup_append]
    have hp : (R ++ ([i] ++ F)).Perm (R ++ (F ++ [i])) := List.Perm.append_left R List.perm_append_comm
    refine ⟨hp.nodup_iff.2 nd,?_,fun a ha b hb e => ?_⟩
    · unfold newZ; rw [List.take_length]; exact (g.tn i hi).filter _
    · subst e
      exact pos a ((hz a).1 hb).1 (hp.mem_iff.1 ha)
  · simp only [List.mem_append,List.mem_singleton] at hj
    rcases hj with (hj | hj) | hj | hj
    · exact k.lt j (by simp [hj])
    · subst hj; exact hi
    · exact k.lt j (by simp [hj])
    · exact g.tl i j hi ((hz j).1 hj).1
  · have hk := k.z j hj
    by_cases hji : i ∈ f j
    · have h1 := (g.ft i j hi hj).2 hji
      constructor
      · intro h
        have := (hz j).2 ⟨h1,h⟩
        simp [this]
      · intro h
        simp only [List.mem_append,List.mem_singleton] at h
        rcases h with (h | h) | h | h
        · exact absurd (by simp [h]) (pos j h1)
        · exact absurd (by simp [h]) (pos j h1)
        · exact absurd (by simp [h]) (pos j h1)
        · exact ((hz j).1 h).2
    · rw [cntN_other hji,hk]
      simp only [List.mem_append,List.mem_singleton]
      constructor
      · rintro (h | h | h)
        · exact .inl (.inl h)
        · exact .inr (.inl h)
        · exact .inl (.inr h)
      · rintro ((h | h) | h | h)
        · exact .inl h
        · exact .inr (.inr h)
        · exact .inr (.inl h)
        · exact absurd ((g.ft i j hi hj).1 ((hz j).1 h).1) hji
def lefQ (f t : Nat → List Nat) (R : List Nat) (i q : Nat) : Nat → Nat := fun j => if j ∈ (t i).take q then cntN f (R ++ [i]) j else cntN f R j
theorem lefQ_zero (f t : Nat → List Nat) (R : List Nat) (i : Nat) : lefQ f t R i 0 = cntN f R := by funext j; unfold lefQ; simp
theorem lefQ_end {n : Nat} {f t : Nat → List Nat} (g : Gr n f t) {R : List Nat} {i : Nat} (hi : i < n) {j : Nat} (hj : j < n) : lefQ f t R i (t i).length j = cntN f (R ++ [i]) j := by
  unfold lefQ
  rw [List.take_length]
  split
  · rfl
  · rename_i h
    rw [cntN_other fun z => h ((g.ft i j hi hj).2 z)]
theorem lefQ_step {n : Nat} {f t : Nat → List Nat} (g : Gr n f t) {R : List Nat} {i q j : Nat} (hi : i < n) (hiR : i ∉ R) (hj : (t i)[q]? = some j) :
    lefQ f t R i q j = cntN f (R ++ [i]) j + 1 ∧ (∀ x,lefQ f t R i (q + 1) x = if x = j then cntN f (R ++ [i]) j else lefQ f t R i q x) ∧
      newZ f t R i (q + 1) = newZ f t R i q ++ (if cntN f (R ++ [i]) j = 0 then [j] else []) := by
  have hjm := List.mem_of_getElem? hj
  have hjn := g.tl i j hi hjm
  have hnot : j ∉ (t i).take q := fun z => by
    obtain ⟨a,e⟩ := List.mem_iff_getElem?.1 z
    have ha := (List.getElem?_eq_some_iff.1 e).1
    rw [List.length_take] at ha
    rw [List.getElem?_take_of_lt (by omega)] at e
    have := (List.pairwise_iff_getElem.1 (g.tn i hi)) a q (List.getElem?_eq_some_iff.1 e).1 (List.getElem?_eq_some_iff.1 hj).1 (by omega)
    rw [(List.getElem?_eq_some_iff.1 e).2,(List.getElem?_eq_some_iff.1 hj).2] at this
    exact this rfl
  refine ⟨?_,fun x => ?_,?_⟩
  · unfold lefQ
    rw [if_neg hnot]
    exact cntN_mem (g.fn j hjn) ((g.ft i j hi hjn).1 hjm) hiR
  · unfold lefQ
    rw [List.take_add_one,hj]
    by_cases e : x = j
    · subst e; simp
    · have : x ∈ (t i).take q ++ (some j).toList ↔ x ∈ (t i).take q := by
        simp only [Option.toList_some,List.mem_append,List.mem_singleton]
        exact ⟨fun h => h.elim id fun z => absurd z e,.inl⟩
      rw [if_neg e]
      simp only [this]
  · unfold newZ
    rw [List.take_add_one,hj,List.filter_append]
    congr 1
    by_cases h : cntN f (R ++ [i]) j = 0 <;> simp [h]
theorem Kahn.stay {n : Nat} {f : Nat → List Nat} {R F : List Nat} (k : Kahn n f R F) (fl : ∀ i j,i < n → j ∈ f i → j < n) (hR : ∀ j ∈ R,¬ OnC f j) : ∀ j ∈ R ++ F,¬ OnC f j := by
  intro j hj h
  obtain ⟨b,hb,hc⟩ := h.next
  exact hR b (cntN_zero.1 ((k.z j (k.lt j hj)).2 hj) b hb) hc
end Go.Proofs.Ytdadiidfhnojcaa.K
namespace Go.Proofs.Ytdadiidfhnojcaa.K
open Go Go.Kx
set_option linter.unusedVariables false
set_option linter.unusedSimpArgs false
set_option maxRecDepth 20000
theorem nil_sortC (cv : Value) (h : H) : CLM (.f 39) [.slice none 0 0,cv] h = .ok (.tuple ⟨[]⟩) h := by
  obtain ⟨c,c1,c2,c3,c4,c5⟩ := len_j10 (x := 0) (k := 0) (by omega) (by omega) h
  rw [show len8[0]? = some 0 from rfl] at c1
  cases c1
  have e1 : CLM (.f 50) [.int .u64 ((0 : Nat) : Int)] h = .ok (.int .i64 ((0 : Nat) : Int)) h := by
    rw [cM50,F50.eq,cM70,F70.eq,xgeq,go_ok,ifV_dec,if_neg (by omega),F70.j4_eq,xgeq,go_ok,ifV_dec,if_neg (by omega),F70.j7_eq,xgeq,go_ok,ifV_dec,if_neg (by omega)]
    rw [show (Value.int .i64 0) = .int .i64 ((0 : Nat) : Int) from rfl,c2,go_ok]
    rfl
  have w0 : IntKind.i64.wrap (((0 : Nat) : Int) - 0) = 0 := by rw [wrap64 (by omega)]; rfl
  have w1 : IntKind.i64.wrap (0 + 1) = 1 := by rw [wrap64 (by omega)]; rfl
  rw [cM39,F39.eq,ln27,go_ok,cv3_95,go_ok,wun (by omega),e1,go_ok,cM49,F49.eq,F49.l2_eq,xsub,go_ok,w0,xleq,go_ok,ifV_dec,if_pos (by omega),cM61,F61.eq,xadd,go_ok,w1,F61.l1_eq,xlss,go_ok,ifV_dec,if_neg (by omega),go_ok,go_ok]
def aheadV (g : Nat) : Value := .func (.func 40) ⟨[.pointer (some ⟨g,0,none⟩)]⟩ ⟨[]⟩
theorem callA {h : H} {g : Nat} {vt : Value} {ts : List TK} (N : Net h g ts vt) {i j : Nat} (hi : i < ts.length) (hj : j < ts.length) :
    ∃ h',Grow h h' ∧ xcallV CLM (aheadV g) [.int .i64 (i : Nat),.int .i64 (j : Nat)] h = .ok (.int .i64 (if aLt ts i j then -1 else if aLt ts j i then 1 else 0)) h' := by
  obtain ⟨vn,vu,n,T,_,_⟩ := N
  obtain ⟨h',g',e⟩ := eAhead n T hi hj
  refine ⟨h',g',?_⟩
  unfold aheadV
  rw [xcallV_func]
  exact e
theorem lessA {hN h : H} {g b : Nat} {vt : Value} {ts : List TK} (N : Net hN g ts vt) (hb : hN.next ≤ b) (hh : hN.next ≤ h.next) :
    SrtC.LessOk b (fun x => Grow hN x) (aheadV g) (aLt ts) (fun z => ∃ k : Nat,z = k ∧ k < ts.length) h := by
  refine ⟨fun h1 x y J ⟨i,ex,hi⟩ ⟨j,ey,hj⟩ => ?_,fun h1 h2 J u => grow_then J u fun c hc => hc.elim (fun z => z ▸ hb) fun z => Nat.le_trans hh z⟩
  subst ex ey
  obtain ⟨h',g',e⟩ := callA (N.grow J) hi hj
  refine ⟨h',g',J.trans g',fun K => ?_⟩
  rw [e,go_ok,plain2_int,cond_true,xlss,Res.ok1_ok]
  refine congrArg (fun z => K (Value.bool z) h') ?_
  cases q : aLt ts i j with
  | true => rw [if_pos rfl]; rfl
  | false =>
    rw [if_neg (by simp)]
    split <;> rfl
theorem nl_of : ∀ {l : List Int},(∀ z ∈ l,∃ k : Nat,z = k) → ∃ m : List Nat,l = nl m
  | [],_ => ⟨[],rfl⟩
  | z :: l,h => by
    obtain ⟨k,e⟩ := h z List.mem_cons_self
    obtain ⟨m,em⟩ := nl_of (l := l) fun y hy => h y (List.mem_cons_of_mem _ hy)
    exact ⟨k :: m,by rw [e,em]; rfl⟩
theorem nl_toNat : ∀ l : List Nat,(nl l).map Int.toNat = l
  | [] => rfl
  | a :: l => by
    show Int.toNat (a : Int) :: (nl l).map Int.toNat = _
    rw [nl_toNat l,Int.toNat_natCast]
theorem nl_perm {a b : List Nat} (h : (nl a).Perm (nl b)) : a.Perm b := by
  have := h.map Int.toNat
  rwa [nl_toNat,nl_toNat] at this
theorem eSortA {hN h : H} {g : Nat} {vt : Value} {ts : List TK} (N : Net hN g ts vt) (J : Grow hN h) {v : Value} {br : Option Nat} {l : List Nat} (q : OL h v br (nl l)) (hb : ∀ b,br = some b → hN.next ≤ b) (hl : ∀ k ∈ l,k < ts.length) (few : l.length < 65536) :
    ∃ h' l',Upd (fun x => some x = br) h h' ∧ OL h' v br (nl l') ∧ l'.Perm l ∧ l'.Pairwise (fun i j : Nat => aLt ts (j : Int) (i : Int) = false) ∧ CLM (.f 39) [v,aheadV g] h = .ok (.tuple ⟨[]⟩) h' := by
  rcases q with ⟨rfl,rfl,e⟩ | ⟨b,sp,cap,rfl,rfl,hg,e3,e4⟩
  · have : l = [] := by cases l with
      | nil => rfl
      | cons a l => cases e
    subst this
    exact ⟨h,[],Upd.refl _ _,OL.nil,List.Perm.refl _,List.Pairwise.nil,nil_sortC _ _⟩
  · have hd : SrtC.ar (nl l).toArray = iv (nl l) := rfl
    obtain ⟨h',d',u,g',sz,p,s,_,e⟩ := SrtC.eTop (cap := cap) (sp := sp) (n := (nl l).length) (aLt_swo ts) (lessA N (hb b rfl) J.next) (by rw [nl_len]; exact few) (d := (nl l).toArray) (by rw [hd]; exact hg) (by simp)
      (fun i hi => by
        rw [getElem!_pos _ i (by simpa using hi),List.getElem_toArray]
        obtain ⟨k,hk,e⟩ := nl_mem.1 (List.getElem_mem hi)
        exact ⟨k,e.symm,hl k hk⟩) J
    have hsz : d'.toList.length = (nl l).length := by simpa using sz
    have hperm : d'.toList.Perm (nl l) := by
      have hp := p.2.2
      have ee : d'.toList.take (nl l).length = d'.toList := by rw [← hsz,List.take_length]
      simpa [ee] using hp
    obtain ⟨l',el⟩ := nl_of (l := d'.toList) fun z hz => by
      obtain ⟨k,hk,e⟩ := nl_mem.1 (hperm.mem_iff.1 hz)
      exact ⟨k,e.symm⟩
    have hd' : SrtC.ar d' = iv (nl l') := by rw [← el]; rfl
    have hll : l'.length = l.length := by have := congrArg List.length el; rw [hsz,nl_len,nl_len] at this; exact this.symm
    refine ⟨h',l',u.mono fun x _ q => by rw [q],.inr ⟨b,sp,cap,rfl,by simp only [nl_len,hll],by rw [← hd']; exact g',by rw [nl_len,hll,← nl_len l]; exact e3,e4⟩,nl_perm (el ▸ hperm),?_,e⟩
    refine List.pairwise_iff_getElem.2 fun i j hi hj hij => ?_
    have hj' : j < d'.size := by rw [← Array.length_toList,hsz,nl_len,← hll]; exact hj
    have hi' : i < d'.size := by omega
    have h1 := s i j (Nat.zero_le _) hij (by rw [← hsz,Array.length_toList]; exact hj')
    rw [getElem!_pos d' j hj',getElem!_pos d' i hi'] at h1
    have at_ : ∀ (k : Nat) (hk : k < d'.size) (hk2 : k < l'.length),d'[k] = (l'[k] : Int) := fun k hk hk2 => by
      have : d'.toList[k]? = (nl l')[k]? := by rw [el]
      unfold nl at this
      rw [List.getElem?_map,List.getElem?_eq_getElem hk2,List.getElem?_eq_getElem (by simpa using hk)] at this
      simpa using this
    rw [at_ j hj' hj,at_ i hi' hi] at h1
    exact h1
def tb {α : Type} (n : Nat) (f : Nat → α) : List α := (List.range n).map f
theorem tb_len {α : Type} (n : Nat) (f : Nat → α) : (tb n f).length = n := by simp [tb]
theorem tb_at {α : Type} {n k : Nat} (f : Nat → α) (hk : k < n) : (tb n f)[k]? = some (f k) := by simp [tb,hk]
theorem tb_set {α : Type} {n k : Nat} (f : Nat → α) (hk : k < n) (x : α) : (tb n f).set k x = tb n (updN f k x) := by
  apply List.ext_getElem?
  intro j
  rw [List.getElem?_set]
  by_cases hj : j < n
  · rw [tb_at _ hj,tb_at _ hj]
    by_cases e : k = j
    · subst e; rw [if_pos rfl,if_pos (by rw [tb_len]; exact hk),updN_eq]
    · rw [if_neg e,updN_ne (fun z => e z.symm)]
  · rw [List.getElem?_eq_none (by rw [tb_len]; omega),List.getElem?_eq_none (by rw [tb_len]; omega)]
    split <;> simp_all [tb_len]
theorem tb_congr {α : Type} {n : Nat} {f g : Nat → α} (h : ∀ k,k < n → f k = g k) : tb n f = tb n g := List.map_congr_left fun k hk => h k (List.mem_range.1 hk)
def AL (h : H) (b n : Nat) (op : Bool) (L : Nat → Nat) : Prop := h.get b = some (.cells (tb n fun j => .int .i64 (L j : Nat)) 3 0 op)
def BL (h : H) (b n : Nat) (op : Bool) (B : Nat → Bool) : Prop := h.get b = some (.cells (tb n fun j => .bool (B j)) 4 0 op)
theorem AL.ld {h : H} {b n : Nat} {op : Bool} {L : Nat → Nat} (q : AL h b n op L) {j m cap : Nat} (hj : j < n) (hm : j < m) :
    (∀ h',xindexAddr Try.prog 27 (.slice (some ⟨b,0,none⟩) m cap) (.int .i64 (j : Nat)) h' = .ok (.pointer (some ⟨b,0 + j * 1,none⟩)) h') ∧ xload Try.prog 3 (.pointer (some ⟨b,0 + j * 1,none⟩)) h = .ok (.int .i64 (L j : Nat)) h := by
  refine ⟨fun h' => ia27 _ _ _ _ _ _ _ h' hm,?_⟩
  rw [ld3,H.cell_eq q,Nat.zero_add,Nat.mul_one,tb_at _ hj,ofO_some]
theorem AL.st {h : H} {b n : Nat} {op : Bool} {L : Nat → Nat} (q : AL h b n op L) {j : Nat} (hj : j < n) (x : Nat) :
    ∃ h',xstore Try.prog 3 (.pointer (some ⟨b,0 + j * 1,none⟩)) (.int .i64 (x : Nat)) h = .ok undef h' ∧ Upd (fun y => y = b) h h' ∧ AL h' b n op (updN L j x) := by
  have hs : (Value.int .i64 (x : Nat)).cells.size = 1 := rfl
  refine ⟨h.put b (.cells (tb n fun i => .int .i64 (updN L j x i : Nat)) 3 0 op),?_,(Upd.refl (fun y => y = b) h).put (.inl rfl) (H.get_lt q) _,H.put_self q⟩
  rw [st3 _ _ _ hs,cells_int,Nat.zero_add,Nat.mul_one,write_cell' q (by rw [tb_len]; exact hj) rfl,tb_set _ hj,ofU_some]
  congr 3
  refine tb_congr fun k _ => ?_
  unfold updN
  split <;> rfl
theorem BL.ld {h : H} {b n : Nat} {op : Bool} {B : Nat → Bool} (q : BL h b n op B) {j m cap : Nat} (hj : j < n) (hm : j < m) :
    (∀ h',xindexAddr Try.prog 83 (.slice (some ⟨b,0,none⟩) m cap) (.int .i64 (j : Nat)) h' = .ok (.pointer (some ⟨b,0 + j * 1,none⟩)) h') ∧ xload Try.prog 4 (.pointer (some ⟨b,0 + j * 1,none⟩)) h = .ok (.bool (B j)) h := by
  refine ⟨fun h' => ia83 _ _ _ _ _ _ _ h' hm,?_⟩
  rw [ld4,H.cell_eq q,Nat.zero_add,Nat.mul_one,tb_at _ hj,ofO_some]
theorem BL.st {h : H} {b n : Nat} {op : Bool} {B : Nat → Bool} (q : BL h b n op B) {j : Nat} (hj : j < n) (x : Bool) :
    ∃ h',xstore Try.prog 4 (.pointer (some ⟨b,0 + j * 1,none⟩)) (.bool x) h = .ok undef h' ∧ Upd (fun y => y = b) h h' ∧ BL h' b n op (updN B j x) := by
  have hs : (Value.bool x).cells.size = 1 := rfl
  refine ⟨h.put b (.cells (tb n fun i => .bool (updN B j x i)) 4 0 op),?_,(Upd.refl (fun y => y = b) h).put (.inl rfl) (H.get_lt q) _,H.put_self q⟩
  rw [st4 _ _ _ hs,cells_bool,Nat.zero_add,Nat.mul_one,write_cell' q (by rw [tb_len]; exact hj) rfl,tb_set _ hj,ofU_some]
  congr 3
  refine tb_congr fun k _ => ?_
  unfold updN
  split <;> rfl
theorem AL.upd {S : Nat → Prop} {h h' : H} {b n : Nat} {op : Bool} {L : Nat → Nat} (q : AL h b n op L) (u : Upd S h h') (hS : ¬ S b) : AL h' b n op L := u.old _ _ hS q
theorem BL.upd {S : Nat → Prop} {h h' : H} {b n : Nat} {op : Bool} {B : Nat → Bool} (q : BL h b n op B) (u : Upd S h h') (hS : ¬ S b) : BL h' b n op B := u.old _ _ hS q
theorem AL.congr {h : H} {b n : Nat} {op : Bool} {L L' : Nat → Nat} (q : AL h b n op L) (e : ∀ k,k < n → L k = L' k) : AL h b n op L' := by
  unfold AL at *
  rw [q]
  congr 2
  exact tb_congr fun k hk => by rw [e k hk]
theorem BL.congr {h : H} {b n : Nat} {op : Bool} {B B' : Nat → Bool} (q : BL h b n op B) (e : ∀ k,k < n → B k = B' k) : BL h b n op B' := by
  unfold BL at *
  rw [q]
  congr 2
  exact tb_congr fun k hk => by rw [e k hk]
theorem AL.new {n : Nat} (hn : n ≤ 65536) (h : H) : ∃ h',xmakeSlice Try.prog 27 (.int .i64 (n : Nat)) (.int .i64 (n : Nat)) h = .ok (.slice (some ⟨h.next,0,none⟩) n n) h' ∧ Grow h h' ∧ AL h' h.next n false (fun _ => 0) ∧ h'.next = h.next + 1 := by
  refine ⟨_,mkI hn h,(Grow.refl h).alloc _,?_,rfl⟩
  unfold AL
  rw [H.alloc_self]
  congr 2
  unfold iv tb
  rw [List.map_const',List.length_range,List.map_replicate]
  rfl
theorem BL.new {n : Nat} (hn : n ≤ 65536) (h : H) : ∃ h',xmakeSlice Try.prog 83 (.int .i64 (n : Nat)) (.int .i64 (n : Nat)) h = .ok (.slice (some ⟨h.next,0,none⟩) n n) h' ∧ Grow h h' ∧ BL h' h.next n false (fun _ => false) ∧ h'.next = h.next + 1 := by
  refine ⟨_,mkB hn h,(Grow.refl h).alloc _,?_,rfl⟩
  unfold BL
  rw [H.alloc_self]
  congr 2
  unfold tb
  rw [List.map_const',List.length_range]
theorem OL.pop {h : H} {v : Value} {br : Option Nat} {l : List Nat} {x : Nat} (q : OL h v br (nl (l ++ [x]))) :
    (∀ h',xbuiltin Try.prog .len [27] [v] h' = .ok (.int .i64 ((l.length + 1 : Nat) : Int)) h') ∧
    (∃ a,xindexAddr Try.prog 27 v (.int .i64 (l.length : Nat)) h = .ok (.pointer (some a)) h ∧ xload Try.prog 3 (.pointer (some a)) h = .ok (.int .i64 (x : Nat)) h) ∧
    ∃ v',xslice Try.prog 27 v none (some (.int .i64 (l.length : Nat))) none h = .ok v' h ∧ OL h v' br (nl l) := by
  have hl : (nl (l ++ [x])).length = l.length + 1 := by rw [nl_len]; simp
  refine ⟨fun h' => by rw [q.il.len,hl],q.il.at_ (by rw [nl_append,List.getElem?_append_right (by rw [nl_len]; exact Nat.le_refl _),nl_len,Nat.sub_self]; rfl),?_⟩
  rcases q with ⟨_,_,e⟩ | ⟨b,sp,cap,e1,rfl,hg,e3,e4⟩
  · exact absurd (congrArg List.length e) (by rw [hl]; simp)
  · rw [hl] at e3
    have T := xslice_o (P := Try.prog) (t := 27) (lo := none) (hi := some (.int .i64 (l.length : Nat))) (o := 0) (n := (nl (l ++ [x])).length) (cap := cap) un27 sz3 hg rfl (l := 0) (u := l.length) rfl rfl (by omega) (by omega) (by omega)
    rw [Nat.zero_mul,Nat.zero_add,Nat.sub_zero,Nat.sub_zero] at T
    refine ⟨_,T,.inr ⟨b,.int .i64 (x : Nat) :: sp,cap,e1,by rw [nl_len],?_,by rw [nl_len,List.length_cons]; omega,by show (true && ones sp) = true; rw [e4]; rfl⟩⟩
    rw [hg,nl_append,iv_append,List.append_assoc]
    rfl
theorem OL.ne2 {h : H} {v : Value} {br : Option Nat} {l : List Int} (q : OL h v br l) {b n : Nat} {op : Bool} {B : Nat → Bool} (hg : BL h b n op B) : br ≠ some b := by
  intro z
  rcases q with ⟨w,_⟩ | ⟨b',sp,cap,w,_,hg',_⟩
  · rw [w] at z; cases z
  · rw [w] at z; cases z; unfold BL at hg; rw [hg] at hg'
    simp only [Option.some.injEq,Blk.cells.injEq] at hg'
    exact absurd hg'.2.1 (by decide)
end Go.Proofs.Ytdadiidfhnojcaa.K
