/- Proved here: GraphAsks: for every input the call tells true, and what it was handed reads as it did. Conditions: none beyond those of the given row. -/
import Derived.Test.YtdadiidfhnojcaaChecked
import Derived.Test.YtdadiidfhnojcaaRows
import Derived.Test.YtdadiidfhnojcaaWa38
namespace Go.Proofs.Ytdadiidfhnojcaa.K
open Go Go.Kx
set_option linter.unusedVariables false
set_option linter.unusedSimpArgs false
set_option maxRecDepth 20000
theorem room_eq : room = ⟨#[114,111,111,109]⟩ := rfl
theorem room3 {l : List ByteArray} {k : Nat} (h1 : l.length ≤ k) (h2 : k < l.length + 3) : (l ++ [room,room,room])[k]? = some room := by
  rw [List.getElem?_append_right h1]
  have : k - l.length = 0 ∨ k - l.length = 1 ∨ k - l.length = 2 := by omega
  rcases this with z | z | z <;> rw [z] <;> rfl
theorem w3' {n : Nat} (h : n ≤ 60000) : IntKind.i64.wrap ((n : Int) + 3) = ((n + 3 : Nat) : Int) := by rw [wrap64 (by omega)]; omega
section
variable {h : H} {x0 x1 : Value} {ts : List TK} (T : Tasks h x1 ts) {i : Nat} {t : TK} (ht : ts[i]? = some t) (hi : t.ins.length ≤ 60000) (ho : t.outs.length ≤ 60000) {bi bo p : Nat} {r : List Value} (L : LT h t bi bo r) (gp : h.get p = some (.cells r 55 0 false))
include T ht hi ho L gp
theorem kp_in : ∀ (d k : Nat),t.ins.length + 3 - k = d → k ≤ t.ins.length + 3 →
    F31.l11 Try.prog CLM nu0 nu0 x0 x1 (.int .i64 (i : Nat)) (.pointer (some ⟨p,0,none⟩)) (.int .i64 (k : Nat)) h = F31.j16 Try.prog CLM nu0 nu0 x0 x1 (.int .i64 (i : Nat)) (.pointer (some ⟨p,0,none⟩)) h := by
  have _ := ho
  obtain ⟨rfl,Li,_⟩ := L
  obtain ⟨bb,o,vi,vo,a1,row,S,O,_⟩ := T.at_ ht
  have c2 : xload Try.prog 52 (.pointer (some ⟨p,0 + 2,none⟩)) h = .ok (.slice (some ⟨bi,0,none⟩) t.ins.length (t.ins.length + 3)) h := by rw [ld52,H.cell_eq gp]; rfl
  have d2 : xload Try.prog 52 (.pointer (some ⟨bb,o + 2,none⟩)) h = .ok vi h := by rw [ld52,row.cell (j := 2) rfl,ofO_some]
  have ex := xslice_c (P := Try.prog) (t := 52) (e := 9) (lo := none) (hi := some (.int .i64 ((t.ins.length + 3 : Nat) : Int))) (o := 0) (n := t.ins.length) (cap := t.ins.length + 3) un52 (by kernel_rfl) Li.2 (l := 0) (u := t.ins.length + 3) rfl rfl (by omega) (by omega) (by omega)
  rw [Nat.zero_mul,Nat.zero_add,Nat.sub_zero] at ex
  intro d
  induction d with
  | zero =>
    intro k hd hk
    rw [F31.l11_eq,fa55_2,go_ok,c2,go_ok,ln52,go_ok,xadd,go_ok,w3' hi,xlss,go_ok,ifV_dec,if_neg (by omega)]
  | succ d ih =>
    intro k hd hk
    have ia := ia52 bi 0 (t.ins.length + 3) (t.ins.length + 3) k none .i64 h (by omega)
    have step : ∀ s : ByteArray,(t.ins ++ [room,room,room])[k]? = some s → xload Try.prog 9 (.pointer (some ⟨bi,0 + k * 1,none⟩)) h = .ok (.string s) h := fun s hs => by
      have := (Li.row (i := k) (r := [.string s]) (by unfold sr; rw [List.getElem?_map,hs]; rfl)).cell (j := 0) rfl
      rw [Nat.add_zero] at this
      rw [ld9,Nat.zero_add,this,ofO_some]
    rw [F31.l11_eq,fa55_2,go_ok,c2,go_ok,ln52,go_ok,xadd,go_ok,w3' hi,xlss,go_ok,ifV_dec,if_pos (by omega),F31.j13_eq,fa55_2,go_ok,c2,go_ok,fa55_2,go_ok,c2,go_ok,ln52,go_ok,xadd,go_ok,w3' hi,ex,go_ok,ia,go_ok]
    by_cases hlt : k < t.ins.length
    · have hs := List.getElem?_eq_getElem hlt
      obtain ⟨a,y1,y2⟩ := S.at_ hs
      rw [step t.ins[k] (by rw [List.getElem?_append_left hlt]; exact hs),go_ok,fa55_2,go_ok,c2,go_ok,ln52,go_ok,xlss,go_ok,ifV_dec,if_pos (by omega),a1,go_ok,fa55_2,go_ok,d2,go_ok,y1,go_ok,y2,go_ok,xsneq,go_ok,ifV_not,if_pos rfl,fa55_2,go_ok,c2,go_ok,ln52,go_ok,xgeq,go_ok,ifV_dec,if_neg (by omega),xadd,go_ok,wadd1 (by omega)]
      exact ih (k + 1) (by omega) (by omega)
    · rw [step room (room3 (by omega) (by omega)),go_ok,fa55_2,go_ok,c2,go_ok,ln52,go_ok,xlss,go_ok,ifV_dec,if_neg (by omega),fa55_2,go_ok,c2,go_ok,ln52,go_ok,xgeq,go_ok,ifV_dec,if_pos (by omega),xsneq,go_ok,ifV_not,if_pos room_eq,xadd,go_ok,wadd1 (by omega)]
      exact ih (k + 1) (by omega) (by omega)
theorem kp_out : ∀ (d k : Nat),t.outs.length + 3 - k = d → k ≤ t.outs.length + 3 →
    F31.l17 Try.prog CLM nu0 nu0 x0 x1 (.int .i64 (i : Nat)) (.pointer (some ⟨p,0,none⟩)) (.int .i64 (k : Nat)) h = F31.j3 Try.prog CLM nu0 nu0 x0 x1 (.int .i64 (i : Nat)) h := by
  have _ := hi
  obtain ⟨rfl,_,orows,Lo,hd⟩ := L
  obtain ⟨bb,o,vi,vo,a1,row,S,O,_⟩ := T.at_ ht
  have c3 : xload Try.prog 53 (.pointer (some ⟨p,0 + 3,none⟩)) h = .ok (.slice (some ⟨bo,0,none⟩) t.outs.length (t.outs.length + 3)) h := by rw [ld53,H.cell_eq gp]; rfl
  have d3 : xload Try.prog 53 (.pointer (some ⟨bb,o + 3,none⟩)) h = .ok vo h := by rw [ld53,row.cell (j := 3) rfl,ofO_some]
  have ex := xslice_c (P := Try.prog) (t := 53) (e := 63) (lo := none) (hi := some (.int .i64 ((t.outs.length + 3 : Nat) : Int))) (o := 0) (n := t.outs.length) (cap := t.outs.length + 3) (by kernel_rfl) (by kernel_rfl) Lo.2 (l := 0) (u := t.outs.length + 3) rfl rfl (by omega) (by omega) (by omega)
  rw [Nat.zero_mul,Nat.zero_add,Nat.sub_zero] at ex
  intro d
  induction d with
  | zero =>
    intro k hd' hk
    rw [F31.l17_eq,fa55_3,go_ok,c3,go_ok,ln53,go_ok,xadd,go_ok,w3' ho,xlss,go_ok,ifV_dec,if_neg (by omega)]
  | succ d ih =>
    intro k hd' hk
    have ia := ia53 bo 0 (t.outs.length + 3) (t.outs.length + 3) k none .i64 h (by omega)
    have step : ∀ s : ByteArray,(t.outs ++ [room,room,room])[k]? = some s → xload Try.prog 9 (.pointer (some ⟨bo,0 + k * 6,none⟩)) h = .ok (.string s) h := fun s hs => by
      have h1 := congrArg (fun x => x[k]?) hd
      simp only [List.getElem?_map,hs,Option.map_some] at h1
      cases hr : orows[k]? with
      | none => rw [hr] at h1; cases h1
      | some r =>
        rw [hr] at h1
        cases r with
        | nil => simp at h1
        | cons x r =>
          simp only [Option.map_some,List.head?_cons,Option.some.injEq] at h1
          subst h1
          have := (Lo.row hr).cell (j := 0) rfl
          rw [Nat.add_zero] at this
          rw [ld9,Nat.zero_add,this,ofO_some]
    rw [F31.l17_eq,fa55_3,go_ok,c3,go_ok,ln53,go_ok,xadd,go_ok,w3' ho,xlss,go_ok,ifV_dec,if_pos (by omega),F31.j19_eq,fa55_3,go_ok,c3,go_ok,fa55_3,go_ok,c3,go_ok,ln53,go_ok,xadd,go_ok,w3' ho,ex,go_ok,ia,go_ok,fa63_0,go_ok]
    by_cases hlt : k < t.outs.length
    · have hs := List.getElem?_eq_getElem hlt
      obtain ⟨b2,o2,r2,y1,row2,_,_⟩ := O.at_ hs
      have cy := row2.cell (j := 0) rfl
      rw [Nat.add_zero] at cy
      have y2 : xload Try.prog 9 (.pointer (some ⟨b2,o2,none⟩)) h = .ok (.string t.outs[k]) h := by rw [ld9,cy,ofO_some]
      rw [step t.outs[k] (by rw [List.getElem?_append_left hlt]; exact hs),go_ok,fa55_3,go_ok,c3,go_ok,ln53,go_ok,xlss,go_ok,ifV_dec,if_pos (by omega),a1,go_ok,fa55_3,go_ok,d3,go_ok,y1,go_ok,fa63_0,go_ok,y2,go_ok,xsneq,go_ok,ifV_not,if_pos rfl,fa55_3,go_ok,c3,go_ok,ln53,go_ok,xgeq,go_ok,ifV_dec,if_neg (by omega),xadd,go_ok,wadd1 (by omega)]
      exact ih (k + 1) (by omega) (by omega)
    · rw [step room (room3 (by omega) (by omega)),go_ok,fa55_3,go_ok,c3,go_ok,ln53,go_ok,xlss,go_ok,ifV_dec,if_neg (by omega),fa55_3,go_ok,c3,go_ok,ln53,go_ok,xgeq,go_ok,ifV_dec,if_pos (by omega),xsneq,go_ok,ifV_not,if_pos room_eq,xadd,go_ok,wadd1 (by omega)]
      exact ih (k + 1) (by omega) (by omega)
theorem kp_task : F31.j8 Try.prog CLM nu0 nu0 x0 x1 (.int .i64 (i : Nat)) (.pointer (some ⟨p,0,none⟩)) h = F31.j3 Try.prog CLM nu0 nu0 x0 x1 (.int .i64 (i : Nat)) h := by
  have k1 := kp_in (x0 := x0) T ht hi ho L gp _ 0 rfl (Nat.zero_le _)
  have k2 := kp_out (x0 := x0) T ht hi ho L gp _ 0 rfl (Nat.zero_le _)
  obtain ⟨rfl,Li,_⟩ := L
  obtain ⟨bb,o,vi,vo,a1,row,S,O,_⟩ := T.at_ ht
  have c0 : xload Try.prog 9 (.pointer (some ⟨p,0,none⟩)) h = .ok (.string t.name) h := by rw [ld9,H.cell_eq gp]; rfl
  have c1 : xload Try.prog 3 (.pointer (some ⟨p,0 + 1,none⟩)) h = .ok (.int .i64 t.bud) h := by rw [ld3,H.cell_eq gp]; rfl
  have c2 : xload Try.prog 52 (.pointer (some ⟨p,0 + 2,none⟩)) h = .ok (.slice (some ⟨bi,0,none⟩) t.ins.length (t.ins.length + 3)) h := by rw [ld52,H.cell_eq gp]; rfl
  have c3 : xload Try.prog 53 (.pointer (some ⟨p,0 + 3,none⟩)) h = .ok (.slice (some ⟨bo,0,none⟩) t.outs.length (t.outs.length + 3)) h := by rw [ld53,H.cell_eq gp]; rfl
  have r0 := row.cell (j := 0) rfl
  rw [Nat.add_zero] at r0
  have d0 : xload Try.prog 9 (.pointer (some ⟨bb,o,none⟩)) h = .ok (.string t.name) h := by rw [ld9,r0,ofO_some]
  have d1 : xload Try.prog 3 (.pointer (some ⟨bb,o + 1,none⟩)) h = .ok (.int .i64 t.bud) h := by rw [ld3,row.cell (j := 1) rfl,ofO_some]
  have d2 : xload Try.prog 52 (.pointer (some ⟨bb,o + 2,none⟩)) h = .ok vi h := by rw [ld52,row.cell (j := 2) rfl,ofO_some]
  have d3 : xload Try.prog 53 (.pointer (some ⟨bb,o + 3,none⟩)) h = .ok vo h := by rw [ld53,row.cell (j := 3) rfl,ofO_some]
  have lv2 : (lenV vi).isSome = true := by obtain ⟨a,c,rfl⟩ := S.val; rfl
  have lv3 : (lenV vo).isSome = true := by obtain ⟨a,c,rfl⟩ := O.val; rfl
  have l1 : ∀ (x : Option Addr) (n c : Nat),(lenV (.slice x n c)).isSome = true := fun _ _ _ => rfl
  rw [F31.j8_eq,fa55_0,Res.ok1_ok,c0,Res.ok1_ok,a1,Res.ok1_ok,fa55_0,Res.ok1_ok,d0,Res.ok1_ok,plain2_str,cond_true,xsneq,Res.ok1_ok,ifV_not,if_pos rfl,fa55_1,Res.ok1_ok,c1,Res.ok1_ok,a1,Res.ok1_ok,fa55_1,Res.ok1_ok,d1,Res.ok1_ok,plain2_int,cond_true,xneq,Res.ok1_ok,ifV_not,if_pos rfl,
    fa55_2,Res.ok1_ok,c2,Res.ok1_ok,l1,cond_true,ln52,Res.ok1_ok,a1,Res.ok1_ok,fa55_2,Res.ok1_ok,d2,Res.ok1_ok,lv2,cond_true,S.len,Res.ok1_ok,plain2_int,cond_true,xneq,Res.ok1_ok,ifV_not,if_pos rfl,
    fa55_3,Res.ok1_ok,c3,Res.ok1_ok,l1,cond_true,ln53,Res.ok1_ok,a1,Res.ok1_ok,fa55_3,Res.ok1_ok,d3,Res.ok1_ok,lv3,cond_true,O.len,Res.ok1_ok,plain2_int,cond_true,xneq,Res.ok1_ok,ifV_not,if_pos rfl,
    F31.j10_eq,show (Value.int .i64 0) = .int .i64 ((0 : Nat) : Int) from rfl,k1,F31.j16_eq,show (Value.int .i64 0) = .int .i64 ((0 : Nat) : Int) from rfl,k2]
end
theorem kp_loop {h0 : H} {v x1 : Value} {ts : List TK} {bm : Nat} {rows : List (List Value)} {bs : List (Nat × Nat)} (T : Tasks h0 x1 ts) (F : Few ts) (Q : Lent h0 v bm rows bs ts) : ∀ (d i : Nat) {h : H},ts.length + 3 - i = d → i ≤ ts.length + 3 → Grow h0 h →
    ∃ h',Grow h0 h' ∧ F31.l2 Try.prog CLM nu0 nu0 v x1 (.int .i64 (i : Nat)) h = .ok (.bool true) h' := by
  intro d
  have hn := F.n
  obtain ⟨rfl,M,hl,hbl,hT,hr,_,_⟩ := Q
  induction d with
  | zero =>
    intro i h hd hi g
    refine ⟨h,g,?_⟩
    rw [F31.l2_eq,T.len,go_ok,xadd,go_ok,w3' (by omega),xlss,go_ok,ifV_dec,if_neg (by omega),F31.j22_eq]
  | succ d ih =>
    intro i h hd hi g
    have ex := xslice_c (P := Try.prog) (t := 22) (e := 55) (lo := none) (hi := some (.int .i64 ((ts.length + 3 : Nat) : Int))) (o := 0) (n := ts.length) (cap := ts.length + 3) (by kernel_rfl) (by kernel_rfl) (M.grow g).2 (l := 0) (u := ts.length + 3) rfl rfl (by omega) (by omega) (by omega)
    rw [Nat.zero_mul,Nat.zero_add,Nat.sub_zero] at ex
    have hri : rows[i]? = some rows[i] := List.getElem?_eq_getElem (by omega)
    obtain ⟨r,hrd⟩ : ∃ r,r = rows[i] := ⟨_,rfl⟩
    rw [← hrd] at hri
    have gr := M.1 r (List.mem_of_getElem? hri)
    have hrow := ((M.grow g).row hri).row gr.1
    have ia := ia22 bm 0 (ts.length + 3) (ts.length + 3) i none .i64 h (by omega)
    obtain ⟨hA,eA⟩ : ∃ hA,hA = h.alloc (.cells zc55 55 0 false) := ⟨_,rfl⟩
    have gA : hA.get h.next = some (.cells zc55 55 0 false) := by rw [eA]; exact H.alloc_self _ _
    obtain ⟨hB,eB⟩ : ∃ hB,hB = hA.put h.next (.cells r 55 0 false) := ⟨_,rfl⟩
    have gB : hB.get h.next = some (.cells r 55 0 false) := by rw [eB]; exact H.put_self gA
    have wB : hA.write ⟨h.next,0,none⟩ r = some hB := by rw [eB]; exact H.write_all gA (by rw [gr.1,zc55_len]) gr.2
    have GA : Grow h hA := by rw [eA]; exact (Grow.refl h).alloc _
    have GB : Grow h hB := by rw [eB]; exact GA.put (Nat.le_refl _) (H.get_lt gA) _
    have hsz : (Value.agg ⟨r⟩).cells.size = 4 := by rw [asz]; exact gr.1
    obtain ⟨h',g',e'⟩ := ih (i + 1) (by omega) (by omega) (g.trans GB)
    refine ⟨h',g',?_⟩
    rw [F31.l2_eq,T.len,go_ok,xadd,go_ok,w3' (by omega),xlss,go_ok,ifV_dec,if_pos (by omega),F31.j4_eq,T.len,go_ok,xadd,go_ok,w3' (by omega),ex,go_ok,ia,go_ok,ld55,Nat.zero_add,hrow,ofA_some,go_ok,al55,go_ok,← eA,st55 _ _ _ hsz,cells_agg,wB,ofU_some,go_ok,T.len,go_ok,xgeq,go_ok,ifV_dec]
    by_cases hin : i < ts.length
    · have ht : ts[i]? = some ts[i] := List.getElem?_eq_getElem hin
      obtain ⟨p,r',a,b,c⟩ := hT i _ ht
      rw [hri] at b; cases b
      have hti := F.i _ (List.mem_of_getElem? ht)
      have hto := F.o _ (List.mem_of_getElem? ht)
      rw [if_neg (by omega),kp_task (T.grow (g.trans GB)) ht (by omega) (by omega) (c.grow (g.trans GB)) gB,F31.j3_eq,xadd,go_ok,wadd1 (by omega)]
      exact e'
    · have := hr i (by omega) (by omega)
      rw [hri] at this
      cases this
      have c0 : xload Try.prog 9 (.pointer (some ⟨h.next,0,none⟩)) hB = .ok (.string room) hB := by rw [ld9,H.cell_eq gB]; rfl
      have c2 : xload Try.prog 52 (.pointer (some ⟨h.next,0 + 2,none⟩)) hB = .ok (.slice none 0 0) hB := by rw [ld52,H.cell_eq gB]; rfl
      have c3 : xload Try.prog 53 (.pointer (some ⟨h.next,0 + 3,none⟩)) hB = .ok (.slice none 0 0) hB := by rw [ld53,H.cell_eq gB]; rfl
      have w0 : IntKind.i64.wrap (((0 : Nat) : Int) + ((0 : Nat) : Int)) = 0 := by rw [wrap64 (by omega)]; rfl
      rw [if_pos (by omega),fa55_0,go_ok,c0,go_ok,xsneq,go_ok,ifV_not,if_pos room_eq,fa55_2,go_ok,c2,go_ok,ln52,go_ok,fa55_3,go_ok,c3,go_ok,ln53,go_ok,xadd,go_ok,w0,xneq,go_ok,ifV_not,if_pos rfl,F31.j3_eq,xadd,go_ok,wadd1 (by omega)]
      exact e'
theorem eKept {h : H} {v x1 : Value} {ts : List TK} {bm : Nat} {rows : List (List Value)} {bs : List (Nat × Nat)} (T : Tasks h x1 ts) (F : Few ts) (Q : Lent h v bm rows bs ts) : ∃ h',Grow h h' ∧ CLM (.f 31) [v,x1] h = .ok (.bool true) h' := by
  obtain ⟨h',g,e⟩ := kp_loop T F Q _ 0 rfl (Nat.zero_le _) (Grow.refl h)
  refine ⟨h',g,?_⟩
  rw [cM31,F31.eq,show (Value.int .i64 0) = .int .i64 ((0 : Nat) : Int) from rfl,e]
end Go.Proofs.Ytdadiidfhnojcaa.K
namespace Go.Proofs.Ytdadiidfhnojcaa.K
open Go Go.Kx
set_option linter.unusedVariables false
set_option linter.unusedSimpArgs false
set_option maxRecDepth 20000
def bsX : ByteArray := ⟨#[120]⟩
def bsY : ByteArray := ⟨#[121]⟩
def bsA : ByteArray := ⟨#[97]⟩
def bsB : ByteArray := ⟨#[98]⟩
def bsC : ByteArray := ⟨#[99]⟩
def bsP : ByteArray := ⟨#[112]⟩
def bsT : ByteArray := ⟨#[116]⟩
def bsA2 : ByteArray := ⟨#[97,50]⟩
def bsSrc : ByteArray := ⟨#[115,114,99]⟩
def ts4 : List TK := [⟨bsB,0,[],[bsX]⟩,⟨bsA,0,[bsX],[bsY]⟩,⟨bsC,0,[bsY,bsX,bsSrc],[]⟩,⟨bsA2,0,[],[]⟩]
def ts1 : List TK := [⟨bsT,0,[bsP],[bsP]⟩]
theorem nd4 : nd ts4 0 = [] ∧ nd ts4 1 = [0] ∧ nd ts4 2 = [0,1] ∧ nd ts4 3 = [] := by decide +kernel
theorem nd1 : nd ts1 0 = [0] := by decide +kernel
theorem nd_out {ts : List TK} {i : Nat} (h : ts.length ≤ i) : nd ts i = [] := by
  cases e : nd ts i with
  | nil => rfl
  | cons a l =>
    have := need_out (nd_mem.1 (show a ∈ nd ts i by rw [e]; simp)).2
    omega
theorem few4 : Few ts4 := ⟨by decide,by decide +kernel,by decide +kernel,by decide +kernel⟩
theorem few1 : Few ts1 := ⟨by decide,by decide +kernel,by decide +kernel,by decide +kernel⟩
theorem noC_of {ts : List TK} (h : ∀ i j,j ∈ nd ts i → j < i) : NoC ts := by
  have all : ∀ {a b},Path (nd ts) a b → b < a := by
    intro a b p
    induction p with
    | one e => exact h _ _ e
    | cons e _ ih => have := h _ _ e; omega
  intro k hk
  exact Nat.lt_irrefl _ (all hk)
theorem noC4 : NoC ts4 := noC_of fun i j hj => by
  obtain ⟨n0,n1,n2,n3⟩ := nd4
  match i with
  | 0 => rw [n0] at hj; cases hj
  | 1 => rw [n1] at hj; simp at hj; omega
  | 2 => rw [n2] at hj; simp at hj; omega
  | 3 => rw [n3] at hj; cases hj
  | i + 4 => rw [nd_out (by show 4 ≤ i + 4; omega)] at hj; cases hj
theorem cyc1 : CycMin ts1 0 := ⟨by decide,.one (by show (0 : Nat) ∈ nd ts1 0; rw [nd1]; simp),fun j hj => by
  have := OnC_lt hj
  have hj0 : j = 0 := by have h1 : ts1.length = 1 := rfl; omega
  subst hj0; exact aLt_irrefl _ _⟩
def readyB (ts : List TK) (R : List Nat) (j : Nat) : Bool := decide (j < ts.length) && (decide (j ∉ R) && (nd ts j).all fun k => decide (k ∈ R))
theorem readyB_iff {ts : List TK} {R : List Nat} {j : Nat} : readyB ts R j = true ↔ Ready ts R j := by
  unfold readyB Ready
  rw [Bool.and_eq_true,Bool.and_eq_true,decide_eq_true_iff,decide_eq_true_iff,ready_all]
def pickB (ts : List TK) (R : List Nat) (x : Nat) : Bool := readyB ts R x && (List.range ts.length).all fun j => !readyB ts R j || (decide (j = x) || aLt ts (x : Int) (j : Int))
theorem pickB_ok {ts : List TK} {R : List Nat} {x : Nat} (h : pickB ts R x = true) : Pick ts R x := by
  unfold pickB at h
  rw [Bool.and_eq_true,List.all_eq_true] at h
  refine ⟨readyB_iff.1 h.1,fun j hj => ?_⟩
  have := h.2 j (List.mem_range.2 hj.1)
  rw [readyB_iff.2 hj] at this
  simp only [Bool.not_true,Bool.false_or,Bool.or_eq_true,decide_eq_true_eq] at this
  exact this
theorem pk4 : pickB ts4 [] 3 = true ∧ pickB ts4 [3] 0 = true ∧ pickB ts4 [3,0] 1 = true ∧ pickB ts4 [3,0,1] 2 = true := by decide +kernel
theorem ord4 : IsOrd ts4 [3,0,1,2] := fun k x h => by
  obtain ⟨p0,p1,p2,p3⟩ := pk4
  match k with
  | 0 => cases h; exact pickB_ok p0
  | 1 => cases h; exact pickB_ok p1
  | 2 => cases h; exact pickB_ok p2
  | 3 => cases h; exact pickB_ok p3
  | k + 4 => simp at h
theorem bOut (s : ByteArray) (h : H) : xbuild Try.prog 63 [(0,.string s)] h = .ok (.agg ⟨.string s :: zc63.drop 1⟩) h := by kernel_rfl
theorem bOuts (s : ByteArray) (h : H) : xbuildSlice Try.prog 53 1 [(0,.agg ⟨.string s :: zc63.drop 1⟩)] h = .ok (.slice (some ⟨h.next,0,none⟩) 1 1) (h.alloc (.cells (.string s :: zc63.drop 1) 63 0 false)) := by kernel_rfl
theorem oneOut {h : H} {b : Nat} {s : ByteArray} (g : h.get b = some (.cells (.string s :: zc63.drop 1) 63 0 false)) : OutSl h (.slice (some ⟨b,0,none⟩) 1 1) [s] := by
  have hl : (Value.string s :: zc63.drop 1).length = 6 := by simp [zc63_len]
  have ho : ones (Value.string s :: zc63.drop 1) = true := by
    show (true && ones (zc63.drop 1)) = true
    rw [ones_drop zc63_ones]; rfl
  refine ⟨[.string s :: zc63.drop 1],⟨GoodR.one hl ho,.inr ⟨b,0,none,1,rfl,_,_,_,_,g,by simp,by simp only [List.drop_zero,List.flatten_cons,List.flatten_nil,List.append_nil]; exact List.take_length⟩⟩,rfl⟩
theorem someStr {h : H} {b : Nat} {l : List ByteArray} (g : h.get b = some (.cells (l.map fun s => .string s) 9 0 false)) : StrSl h (.slice (some ⟨b,0,none⟩) l.length l.length) l := by
  have e : (l.map fun s => [Value.string s]).flatten = l.map fun s => .string s := by
    clear g
    induction l with
    | nil => rfl
    | cons a l ih => simp only [List.map_cons,List.flatten_cons,ih]; rfl
  refine ⟨sr_good l,.inr ⟨b,0,none,l.length,by rw [List.length_map],_,_,_,_,g,?_,?_⟩⟩
  · rw [e]; omega
  · rw [e,List.drop_zero,List.take_length]
theorem nilStr (h : H) : StrSl h (.slice none 0 0) [] := ⟨GoodR.nil,.inl ⟨Nul.nil,rfl⟩⟩
theorem nilOut (h : H) : OutSl h (.slice none 0 0) [] := ⟨[],⟨GoodR.nil,.inl ⟨Nul.nil,rfl⟩⟩,rfl⟩
theorem bT (n : ByteArray) (h : H) : xbuild Try.prog 55 [(0,.string n)] h = .ok (.agg ⟨[.string n,.int .i64 0,.slice none 0 0,.slice none 0 0]⟩) h := by kernel_rfl
theorem bTo (n : ByteArray) (b c d : Nat) (h : H) : xbuild Try.prog 55 [(0,.string n),(3,.slice (some ⟨b,0,none⟩) c d)] h = .ok (.agg ⟨[.string n,.int .i64 0,.slice none 0 0,.slice (some ⟨b,0,none⟩) c d]⟩) h := by kernel_rfl
theorem bTi (n : ByteArray) (b c d : Nat) (h : H) : xbuild Try.prog 55 [(0,.string n),(2,.slice (some ⟨b,0,none⟩) c d)] h = .ok (.agg ⟨[.string n,.int .i64 0,.slice (some ⟨b,0,none⟩) c d,.slice none 0 0]⟩) h := by kernel_rfl
theorem bTio (n : ByteArray) (b c d b' c' d' : Nat) (h : H) : xbuild Try.prog 55 [(0,.string n),(2,.slice (some ⟨b,0,none⟩) c d),(3,.slice (some ⟨b',0,none⟩) c' d')] h = .ok (.agg ⟨[.string n,.int .i64 0,.slice (some ⟨b,0,none⟩) c d,.slice (some ⟨b',0,none⟩) c' d']⟩) h := by kernel_rfl
theorem bS1 (s : ByteArray) (h : H) : xbuildSlice Try.prog 52 1 [(0,.string s)] h = .ok (.slice (some ⟨h.next,0,none⟩) 1 1) (h.alloc (.cells [.string s] 9 0 false)) := by kernel_rfl
theorem bS3 (s t u : ByteArray) (h : H) : xbuildSlice Try.prog 52 3 [(0,.string s),(1,.string t),(2,.string u)] h = .ok (.slice (some ⟨h.next,0,none⟩) 3 3) (h.alloc (.cells [.string s,.string t,.string u] 9 0 false)) := by kernel_rfl
def tr (n : ByteArray) (i o : Value) : List Value := [.string n,.int .i64 0,i,o]
def sv (b n : Nat) : Value := .slice (some ⟨b,0,none⟩) n n
theorem tr_good {n : ByteArray} {i o : Value} (hi : i.oneCell' = true) (ho : o.oneCell' = true) : (tr n i o).length = 4 ∧ ones (tr n i o) = true := ⟨rfl,by
  show (true && (true && (i.oneCell' && (o.oneCell' && true)))) = true
  rw [hi,ho]; rfl⟩
theorem lay4 (h : H) : ∃ h' v,Grow h h' ∧ Tasks h' v ts4 ∧ ∀ K : Value → H → Res Value,
    ((xbuild Try.prog 63 [(0,.string bsX)] h).go .pan fun t1 h2 => (xbuildSlice Try.prog 53 1 [(0,t1)] h2).go .pan fun t3 h4 => (xbuild Try.prog 55 [(0,.string bsB),(3,t3)] h4).go .pan fun t5 h6 => (xbuildSlice Try.prog 52 1 [(0,.string bsX)] h6).go .pan fun t7 h8 => (xbuild Try.prog 63 [(0,.string bsY)] h8).go .pan fun t9 h10 => (xbuildSlice Try.prog 53 1 [(0,t9)] h10).go .pan fun t11 h12 =>
      (xbuild Try.prog 55 [(0,.string bsA),(2,t7),(3,t11)] h12).go .pan fun t13 h14 => (xbuildSlice Try.prog 52 3 [(0,.string bsY),(1,.string bsX),(2,.string bsSrc)] h14).go .pan fun t15 h16 => (xbuild Try.prog 55 [(0,.string bsC),(2,t15)] h16).go .pan fun t17 h18 => (xbuild Try.prog 55 [(0,.string bsA2)] h18).go .pan fun t19 h20 => (xbuildSlice Try.prog 22 4 [(0,t5),(1,t13),(2,t17),(3,t19)] h20).go .pan K) = K v h' := by
  obtain ⟨h1,e1⟩ : ∃ h1,h1 = h.alloc (.cells (.string bsX :: zc63.drop 1) 63 0 false) := ⟨_,rfl⟩
  obtain ⟨h2,e2⟩ : ∃ h2,h2 = h1.alloc (.cells [.string bsX] 9 0 false) := ⟨_,rfl⟩
  obtain ⟨h3,e3⟩ : ∃ h3,h3 = h2.alloc (.cells (.string bsY :: zc63.drop 1) 63 0 false) := ⟨_,rfl⟩
  obtain ⟨h4,e4⟩ : ∃ h4,h4 = h3.alloc (.cells [.string bsY,.string bsX,.string bsSrc] 9 0 false) := ⟨_,rfl⟩
  obtain ⟨h5,e5⟩ : ∃ h5,h5 = h4.alloc (.cells (tr bsB (.slice none 0 0) (sv h.next 1) ++ (tr bsA (sv h1.next 1) (sv h2.next 1) ++ (tr bsC (sv h3.next 3) (.slice none 0 0) ++ tr bsA2 (.slice none 0 0) (.slice none 0 0)))) 55 0 false) := ⟨_,rfl⟩
  have g1 : Grow h h1 := by rw [e1]; exact (Grow.refl h).alloc _
  have g2 : Grow h1 h2 := by rw [e2]; exact (Grow.refl h1).alloc _
  have g3 : Grow h2 h3 := by rw [e3]; exact (Grow.refl h2).alloc _
  have g4 : Grow h3 h4 := by rw [e4]; exact (Grow.refl h3).alloc _
  have g5 : Grow h4 h5 := by rw [e5]; exact (Grow.refl h4).alloc _
  have b1 : h5.get h.next = some (.cells (.string bsX :: zc63.drop 1) 63 0 false) := g5.old _ _ (g4.old _ _ (g3.old _ _ (g2.old _ _ (by rw [e1]; exact H.alloc_self _ _))))
  have b2 : h5.get h1.next = some (.cells [.string bsX] 9 0 false) := g5.old _ _ (g4.old _ _ (g3.old _ _ (by rw [e2]; exact H.alloc_self _ _)))
  have b3 : h5.get h2.next = some (.cells (.string bsY :: zc63.drop 1) 63 0 false) := g5.old _ _ (g4.old _ _ (by rw [e3]; exact H.alloc_self _ _))
  have b4 : h5.get h3.next = some (.cells [.string bsY,.string bsX,.string bsSrc] 9 0 false) := g5.old _ _ (by rw [e4]; exact H.alloc_self _ _)
  have b5 : h5.get h4.next = some (.cells (tr bsB (.slice none 0 0) (sv h.next 1) ++ (tr bsA (sv h1.next 1) (sv h2.next 1) ++ (tr bsC (sv h3.next 3) (.slice none 0 0) ++ tr bsA2 (.slice none 0 0) (.slice none 0 0)))) 55 0 false) := by rw [e5]; exact H.alloc_self _ _
  refine ⟨h5,sv h4.next 4,(((g1.trans g2).trans g3).trans g4).trans g5,⟨[tr bsB (.slice none 0 0) (sv h.next 1),tr bsA (sv h1.next 1) (sv h2.next 1),tr bsC (sv h3.next 3) (.slice none 0 0),tr bsA2 (.slice none 0 0) (.slice none 0 0)],⟨fun r hr => ?_,.inr ⟨h4.next,0,none,4,rfl,_,_,_,_,b5,by simp,by simp [tr]⟩⟩,rfl,fun i t ht => ?_⟩,fun K => ?_⟩
  · simp only [List.mem_cons,List.not_mem_nil,or_false] at hr
    rcases hr with rfl | rfl | rfl | rfl <;> exact tr_good rfl rfl
  · match i with
    | 0 => cases ht; exact ⟨_,rfl,_,_,rfl,nilStr _,oneOut b1⟩
    | 1 => cases ht; exact ⟨_,rfl,_,_,rfl,someStr (l := [bsX]) b2,oneOut b3⟩
    | 2 => cases ht; exact ⟨_,rfl,_,_,rfl,someStr (l := [bsY,bsX,bsSrc]) b4,nilOut _⟩
    | 3 => cases ht; exact ⟨_,rfl,_,_,rfl,nilStr _,nilOut _⟩
    | i + 4 => simp [ts4] at ht
  · have eb : xbuildSlice Try.prog 22 4 [(0,.agg ⟨tr bsB (.slice none 0 0) (sv h.next 1)⟩),(1,.agg ⟨tr bsA (sv h1.next 1) (sv h2.next 1)⟩),(2,.agg ⟨tr bsC (sv h3.next 3) (.slice none 0 0)⟩),(3,.agg ⟨tr bsA2 (.slice none 0 0) (.slice none 0 0)⟩)] h4 = .ok (sv h4.next 4) h5 := by
      rw [e5]; kernel_rfl
    rw [bOut,go_ok,bOuts,go_ok,← e1,bTo,go_ok,bS1,go_ok,← e2,bOut,go_ok,bOuts,go_ok,← e3,bTio,go_ok,bS3,go_ok,← e4,bTi,go_ok,bT,go_ok]
    exact (congrArg (fun z => z.go .pan K) eb).trans (go_ok _ _ _ _)
theorem lay1 (h : H) : ∃ h' v,Grow h h' ∧ Tasks h' v ts1 ∧ ∀ K : Value → H → Res Value,
    ((xbuildSlice Try.prog 52 1 [(0,.string bsP)] h).go .pan fun t31 h32 => (xbuild Try.prog 63 [(0,.string bsP)] h32).go .pan fun t33 h34 => (xbuildSlice Try.prog 53 1 [(0,t33)] h34).go .pan fun t35 h36 => (xbuild Try.prog 55 [(0,.string bsT),(2,t31),(3,t35)] h36).go .pan fun t37 h38 => (xbuildSlice Try.prog 22 1 [(0,t37)] h38).go .pan K) = K v h' := by
  obtain ⟨h1,e1⟩ : ∃ h1,h1 = h.alloc (.cells [.string bsP] 9 0 false) := ⟨_,rfl⟩
  obtain ⟨h2,e2⟩ : ∃ h2,h2 = h1.alloc (.cells (.string bsP :: zc63.drop 1) 63 0 false) := ⟨_,rfl⟩
  obtain ⟨h3,e3⟩ : ∃ h3,h3 = h2.alloc (.cells (tr bsT (sv h.next 1) (sv h1.next 1)) 55 0 false) := ⟨_,rfl⟩
  have g1 : Grow h h1 := by rw [e1]; exact (Grow.refl h).alloc _
  have g2 : Grow h1 h2 := by rw [e2]; exact (Grow.refl h1).alloc _
  have g3 : Grow h2 h3 := by rw [e3]; exact (Grow.refl h2).alloc _
  have b1 : h3.get h.next = some (.cells [.string bsP] 9 0 false) := g3.old _ _ (g2.old _ _ (by rw [e1]; exact H.alloc_self _ _))
  have b2 : h3.get h1.next = some (.cells (.string bsP :: zc63.drop 1) 63 0 false) := g3.old _ _ (by rw [e2]; exact H.alloc_self _ _)
  have b3 : h3.get h2.next = some (.cells (tr bsT (sv h.next 1) (sv h1.next 1)) 55 0 false) := by rw [e3]; exact H.alloc_self _ _
  refine ⟨h3,sv h2.next 1,(g1.trans g2).trans g3,⟨[tr bsT (sv h.next 1) (sv h1.next 1)],⟨fun r hr => ?_,.inr ⟨h2.next,0,none,1,rfl,_,_,_,_,b3,by simp,by simp [tr]⟩⟩,rfl,fun i t ht => ?_⟩,fun K => ?_⟩
  · simp only [List.mem_cons,List.not_mem_nil,or_false] at hr
    subst hr; exact tr_good rfl rfl
  · match i with
    | 0 => cases ht; exact ⟨_,rfl,_,_,rfl,someStr (l := [bsP]) b1,oneOut b2⟩
    | i + 1 => simp [ts1] at ht
  · have eb : xbuildSlice Try.prog 22 1 [(0,.agg ⟨tr bsT (sv h.next 1) (sv h1.next 1)⟩)] h2 = .ok (sv h2.next 1) h3 := by
      rw [e3]; kernel_rfl
    rw [bS1,go_ok,← e1,bOut,go_ok,bOuts,go_ok,← e2,bTio,go_ok]
    exact (congrArg (fun z => z.go .pan K) eb).trans (go_ok _ _ _ _)
end Go.Proofs.Ytdadiidfhnojcaa.K
namespace Go.Proofs.Ytdadiidfhnojcaa.K
open Go Go.Kx
set_option linter.unusedVariables false
set_option linter.unusedSimpArgs false
set_option maxRecDepth 20000
theorem Out.il {h : H} {b : Nat} {R : List Nat} {n : Nat} (o : Out h b n R) (hn : R.length = n) : IL h (.slice (some ⟨b,0,none⟩) n n) (nl R) := by
  obtain ⟨sp,hg,_⟩ := o
  exact .inr ⟨b,none,n,sp,false,by rw [nl_len,hn],hg⟩
theorem eStarted (h : H) : ∃ h',Grow h h' ∧ CLM (.f 11) [] h = .ok (.bool true) h' := by
  obtain ⟨h1,v1,g1,T1,e1⟩ := lay4 h
  obtain ⟨h2,a,ca,na,g2,ra,e2⟩ := eOrder T1 few4
  obtain ⟨h3,v3,g3,T3,e3⟩ := lay1 h2
  obtain ⟨h4,b,cb,nb,g4,rb,e4⟩ := eOrder T3 few1
  rcases ra with ⟨c,hc,_⟩ | ⟨_,R,ba,io,hl,_,oa,rfl,rfl,rfl⟩
  · exact absurd hc.2.1 (noC4 c)
  rcases rb with ⟨c,hc,rfl,rfl,rfl⟩ | ⟨nc,_⟩
  rotate_left
  · exact absurd cyc1.2.1 (nc 0)
  have hR : R = [3,0,1,2] := io.uniq ord4 hl
  have hc0 : c = 0 := hc.uniq cyc1
  subst hR hc0
  have T1' := T1.grow ((g2.trans g3).trans g4)
  obtain ⟨h5,hh5⟩ : ∃ h5,h5 = h4.alloc (.cells [.int .i64 3,.int .i64 0,.int .i64 1,.int .i64 2] 3 0 false) := ⟨_,rfl⟩
  have g5 : Grow h4 h5 := by rw [hh5]; exact (Grow.refl h4).alloc _
  have eb : xbuildSlice Try.prog 27 4 [(0,.int .i64 3),(1,.int .i64 0),(2,.int .i64 1),(3,.int .i64 2)] h4 = .ok (.slice (some ⟨h4.next,0,none⟩) 4 4) h5 := by rw [hh5]; kernel_rfl
  have I1 : IL h5 (.slice (some ⟨ba,0,none⟩) ts4.length ts4.length) (nl [3,0,1,2]) := (Out.il oa rfl).grow ((g3.trans g4).trans g5)
  have I2 : IL h5 (.slice (some ⟨h4.next,0,none⟩) 4 4) (nl [3,0,1,2]) := .inr ⟨h4.next,none,4,[],false,rfl,by rw [hh5]; exact H.alloc_self _ _⟩
  have e5 := eSameI I1 I2 (by simp [nl])
  rw [decide_eq_true rfl] at e5
  obtain ⟨h6,v6,b6,g6,P6,_,e6⟩ := eNeeds (T1'.grow g5) few4 4
  obtain ⟨h7,v7,b7,g7,P7,_,e7⟩ := eNeeds (T1'.grow (g5.trans g6)) few4 (-1)
  have n4 : ndI ts4 4 = [] := if_neg (by decide)
  have n5 : ndI ts4 (-1) = [] := if_neg (by decide)
  rw [n4] at P6
  rw [n5] at P7
  have l6 := P6.nl.1.len h6
  have hz : ((0 : Nat) : Int) = 0 := rfl
  have hlz : ((([] : List Int).length : Nat) : Int) = 0 := rfl
  have hnm : nm ts1 ((0 : Nat) : Int) = ⟨#[116]⟩ := rfl
  have l7 := P7.nl.1.len h7
  refine ⟨h7,(((((g1.trans g2).trans g3).trans g4).trans g5).trans g6).trans g7,?_⟩
  rw [cM11,F11.eq]
  refine (e1 _).trans ?_
  show ((CLM (.f 13) [v1] h1).go .pan _) = _
  rw [e2,go_ok,xextract_0,go_ok,xextract_1,go_ok,xextract_2,go_ok]
  refine (e3 _).trans ?_
  show ((CLM (.f 13) [v3] h3).go .pan _) = _
  rw [e4,go_ok,xextract_0,go_ok,xextract_1,go_ok,xextract_2,go_ok,eb,go_ok,e5,go_ok,ifV_t,eNum,go_ok,xeql,go_ok,ifV_dec,if_pos rfl,xseql,go_ok,ifV_dec,if_pos rfl,ln27,go_ok,xeql,go_ok,ifV_dec,if_pos hz,eNum,go_ok,xeql,go_ok,ifV_dec,if_pos rfl,xseql,go_ok,ifV_dec,if_pos hnm,e6,go_ok,l6,go_ok,xeql,go_ok,ifV_dec,if_pos hlz,e7,go_ok,l7,go_ok,xeql,go_ok]
  rfl
theorem ord_same {h0 h1 h2 h3 : H} {ts : List TK} {v w : Value} {c d : Int} {m n : ByteArray} (p : OrdR h0 h1 ts v c m) (q : ROrdR h2 h3 ts w d n) (hn : ts.length ≤ 3000) :
    c = d ∧ m = n ∧ ∃ l,IL h1 v l ∧ IL h3 w l ∧ l.length ≤ 3000 := by
  rcases p with ⟨x,hx,rfl,rfl,rfl⟩ | ⟨nc,R,b,io,hl,_,o,rfl,rfl,rfl⟩
  · rcases q with ⟨y,hy,rfl,rfl,rfl⟩ | ⟨nc,_⟩
    · have := hx.uniq hy
      subst this
      exact ⟨rfl,rfl,[],.inl ⟨rfl,rfl⟩,.inl ⟨rfl,rfl⟩,by simp⟩
    · exact absurd hx.2.1 (nc x)
  · rcases q with ⟨y,hy,_⟩ | ⟨_,R',br,io',hl',o',_,rfl,rfl⟩
    · exact absurd hy.2.1 (nc y)
    · have := io.uniq io' (by rw [hl,hl'])
      subst this
      exact ⟨rfl,rfl,nl R,o.il hl,o'.il,by rw [nl_len]; omega⟩
theorem levs_len {ts : List TK} {L : Nat → Nat} {ls : List (List Nat)} (lv : IsLevs ts L ls) : ls.length ≤ ts.length ∧ ∀ l ∈ ls,l.length ≤ ts.length := by
  classical
  refine ⟨?_,fun l hl => ?_⟩
  · have hsub : List.range ls.length ⊆ (List.range ts.length).map L := fun k hk => by
      have hk' := List.mem_range.1 hk
      obtain ⟨i,hi⟩ := List.exists_mem_of_ne_nil _ (lv.ne _ (List.getElem_mem hk'))
      obtain ⟨h1,h2⟩ := (lv.m k _ (List.getElem?_eq_getElem hk') i).1 hi
      exact List.mem_map.2 ⟨i,List.mem_range.2 h1,h2⟩
    have := List.Nodup.length_le_of_subset List.nodup_range hsub
    simpa using this
  · obtain ⟨k,hk⟩ := List.mem_iff_getElem?.1 hl
    have hn : l.Nodup := (lv.s l hl).imp fun {a b} z e => by
      subst e; rw [aLt_irrefl] at z; cases z
    have := List.Nodup.length_le_of_subset hn (l₂ := List.range ts.length) fun j hj => List.mem_range.2 ((lv.m k l hk j).1 hj).1
    simpa using this
theorem lev_same {h0 h1 h2 h3 : H} {ts : List TK} {v w : Value} {c d : Int} {m n : ByteArray} (p : LevR h0 h1 ts v c m) (q : LevR h2 h3 ts w d n) :
    c = d ∧ m = n ∧ ∃ ls,LvV h1 v ls ∧ LvV h3 w ls ∧ ls.length ≤ ts.length ∧ ∀ l ∈ ls,l.length ≤ ts.length := by
  rcases p with ⟨x,hx,rfl,rfl,rfl⟩ | ⟨nc,L,ls,bo,wv,lv,o,rfl,rfl⟩
  · rcases q with ⟨y,hy,rfl,rfl,rfl⟩ | ⟨nc,_⟩
    · have := hx.uniq hy
      subst this
      exact ⟨rfl,rfl,[],LvV.nil _,LvV.nil _,by simp,fun l hl => by cases hl⟩
    · exact absurd hx.2.1 (nc x)
  · rcases q with ⟨y,hy,_⟩ | ⟨_,L',ls',bo',wv',lv',o',rfl,rfl⟩
    · exact absurd hy.2.1 (nc y)
    · have := lv.uniq lv'
      subst this
      exact ⟨rfl,rfl,ls,⟨_,_,_,o⟩,⟨_,_,_,o'⟩,levs_len lv⟩
theorem LevR.known {h0 h1 : H} {ts : List TK} {v : Value} {c : Int} {m : ByteArray} (p : LevR h0 h1 ts v c m) : NoC ts → ∃ L ls,IsLevs ts L ls := fun nc => by
  rcases p with ⟨x,hx,_⟩ | ⟨_,L,ls,_,_,lv,_⟩
  · exact absurd hx.2.1 (nc x)
  · exact ⟨L,ls,lv⟩
theorem ak_loop {h0 : H} {x0 v : Value} {ts : List TK} {i : Int} (T : Tasks h0 x0 ts) (TL : Tasks h0 v ts) (F : Few ts) : ∀ (d k : Nat) {h : H},ts.length - k = d → k ≤ ts.length → Grow h0 h →
    ∃ h',Grow h0 h' ∧ F9.l11 Try.prog CLM nu0 nu0 x0 (.int .i64 i) v (.int .i64 (k : Nat)) h = F9.j15 Try.prog CLM nu0 nu0 x0 (.int .i64 i) v h' := by
  intro d
  have hn := F.n
  induction d with
  | zero =>
    intro k h hd hk g
    refine ⟨h,g,?_⟩
    rw [F9.l11_eq,T.len,go_ok,xlss,go_ok,ifV_dec,if_neg (by omega)]
  | succ d ih =>
    intro k h hd hk g
    obtain ⟨h1,v1,b1,g1,P1,_,e1⟩ := eNeeds (TL.grow g) F (k : Int)
    obtain ⟨h2,v2,b2,g2,P2,_,e2⟩ := eRNeeds (T.grow (g.trans g1)) F (k : Int)
    have hlen : (ndI ts (k : Int)).length ≤ 3000 := by
      unfold ndI
      split
      · exact Nat.le_trans (by rw [show (ndL ts (k : Int).toNat).length = (nd ts (k : Int).toNat).length from nl_len _]; exact nd_len _ _) hn
      · simp
    have e3 := eSameI (P1.nl.1.grow g2) P2.il (by omega)
    rw [decide_eq_true rfl] at e3
    obtain ⟨h',g',e'⟩ := ih (k + 1) (by omega) (by omega) ((g.trans g1).trans g2)
    refine ⟨h',g',?_⟩
    rw [F9.l11_eq,T.len,go_ok,xlss,go_ok,ifV_dec,if_pos (by omega),F9.j13_eq,e1,go_ok,e2,go_ok,e3,go_ok,xun_not,go_ok,show (!true) = false from rfl,ifV_f,xadd,go_ok,wadd1 (by omega)]
    exact e'
theorem eAsked {h0 : H} {x0 : Value} {ts : List TK} (T : Tasks h0 x0 ts) (F : Few ts) (i : Int) : ∃ h',Grow h0 h' ∧ CLM (.f 9) [x0,.int .i64 i] h0 = .ok (.bool true) h' := by
  have hn := F.n
  obtain ⟨h1,v,bm,rows,bs,g1,Q,_,e1⟩ := eLent T F
  have T1 := T.grow g1
  have TL := Q.tasks
  obtain ⟨h2,a,ca,na,g2,ra,e2⟩ := eOrder TL F
  obtain ⟨h3,b,cb,nb,g3,rb,e3⟩ := eROrder (T1.grow g2) F
  obtain ⟨rfl,rfl,l,Ia,Ib,hl⟩ := ord_same ra rb hn
  have e4 := eSameI (Ia.grow g3) Ib (by omega)
  rw [decide_eq_true rfl] at e4
  have G3 := g2.trans g3
  obtain ⟨h5,c,cc,nc,g5,rc',e5⟩ := eLevels (TL.grow G3) F
  obtain ⟨h6,d,cd,nd',g6,rd,e6⟩ := eRLevels (T1.grow (G3.trans g5)) F rc'.known
  obtain ⟨rfl,rfl,ls,La,Lb,hls,hls2⟩ := lev_same rc' rd
  have e7 := eSameL (La.grow g6) Lb (by omega) (fun l hl => by have := hls2 l hl; omega)
  have G6 := (G3.trans g5).trans g6
  obtain ⟨h7,g7,e8⟩ := ak_loop (i := i) (T1.grow G6) (TL.grow G6) F _ 0 rfl (Nat.zero_le _) (Grow.refl h6)
  have G7 := G6.trans g7
  obtain ⟨h8,v8,b8,g8,P8,_,e9⟩ := eNeeds (TL.grow G7) F i
  obtain ⟨h9,v9,b9,g9,P9,_,eA⟩ := eRNeeds (T1.grow (G7.trans g8)) F i
  have hlen : (ndI ts i).length ≤ 3000 := by
    unfold ndI
    split
    · exact Nat.le_trans (by rw [show (ndL ts i.toNat).length = (nd ts i.toNat).length from nl_len _]; exact nd_len _ _) hn
    · simp
  have eB := eSameI (P8.nl.1.grow g9) P9.il (by omega)
  rw [decide_eq_true rfl] at eB
  have G9 := (G7.trans g8).trans g9
  obtain ⟨hX,gX,eX⟩ := eKept (T1.grow G9) F (Q.grow G9)
  refine ⟨hX,(g1.trans G9).trans gX,?_⟩
  rw [cM9,F9.eq,e1,go_ok,e2,go_ok,xextract_0,go_ok,xextract_1,go_ok,xextract_2,go_ok,e3,go_ok,xextract_0,go_ok,xextract_1,go_ok,xextract_2,go_ok,e4,go_ok,xun_not,go_ok,show (!true) = false from rfl,ifV_f,eNum,go_ok,xneq,go_ok,ifV_not,if_pos rfl,xsneq,go_ok,ifV_not,if_pos rfl,
    F9.j6_eq,e5,go_ok,xextract_0,go_ok,xextract_1,go_ok,xextract_2,go_ok,e6,go_ok,xextract_0,go_ok,xextract_1,go_ok,xextract_2,go_ok,e7,go_ok,xun_not,go_ok,show (!true) = false from rfl,ifV_f,eNum,go_ok,xneq,go_ok,ifV_not,if_pos rfl,xsneq,go_ok,ifV_not,if_pos rfl,
    F9.j10_eq,show (Value.int .i64 0) = .int .i64 ((0 : Nat) : Int) from rfl,e8,F9.j15_eq,e9,go_ok,eA,go_ok,eB,go_ok,ifV_t,eX,go_ok]
theorem asks {h0 : H} {x0 : Value} {ts : List TK} (T : TasksA h0 x0 ts) (i : Int) : ∃ h',CLM (.f 3) [x0,.int .i64 i] h0 = .ok (.bool true) h' ∧ Grow h0 h' := by
  obtain ⟨h1,v,g1,T1,e1⟩ := eFew T
  obtain ⟨h2,g2,e2⟩ := eAsked T1 few_few i
  obtain ⟨h3,g3,e3⟩ := eStarted h2
  refine ⟨h3,?_,(g1.trans g2).trans g3⟩
  rw [cM3,F3.eq,e1,go_ok,e2,go_ok,ifV_t,e3,go_ok]
end Go.Proofs.Ytdadiidfhnojcaa.K
namespace Go.Proofs.Ytdadiidfhnojcaa.K
open Go Go.Kx
set_option maxRecDepth 100000
set_option linter.unusedVariables false
theorem mixed : Try.prog.follows .mixedOrders = true := by kernel_rfl
noncomputable def primO : Pr := fun f args h => match f with
  | 59 => ovP args h
  | _ => .bad
noncomputable def CLO : Cl := clS Try.prog tab primO
theorem ovO (args args' : List Value) (ι : Io) (h : H) (w : World) (s : Sim Try.prog ι h w) (ha : RL ι args args') : SN Try.prog ι w (ovP args h) (callFunc 59 ⟨args'⟩) :=
  ovP_ok (sl := 27) (tR := 4) (e := 3) Try.func59 (by kernel_rfl) (by kernel_rfl) (by kernel_rfl) (by kernel_rfl) (by kernel_rfl) (rSizeOf (by kernel_rfl)) args args' ι h w s ha
theorem primO_ok : PrOk Try.prog 0 primO := by
  intro f args args' ι h w hg s ha
  unfold primO
  split
  · exact ovO args args' ι h w s ha
  · trivial
theorem CLO_ok : ClOk Try.prog 0 CLO := clS_ok mixed tab_ok primO_ok
theorem TI : InsT Try.prog 27 3 3 := ⟨by kernel_rfl,by kernel_rfl,by kernel_rfl,by kernel_rfl,by kernel_rfl,Nat.lt_of_lt_of_le (Nat.zero_lt_succ 0) (Nat.le_of_eq (by kernel_rfl : 1 = Try.prog.cellsOf 3))⟩
theorem bodyI (x0 x1 x2 : Value) (h : H) : CLO (.f 47) [x0,x1,x2] h = insB Try.prog 27 3 59 (F47.j18 Try.prog CLO nu0 nu0) CLO x0 x1 x2 h := by
  have e : CLO (.f 47) [x0,x1,x2] h = runX Try.prog CLO nu0 an47 Try.f47 [x0,x1,x2] h := clS_eq (by kernel_rfl) _ _
  rw [e,F47.eq]
  simp only [F47.j5_eq,F47.j8_eq,F47.j13_eq]
  rfl
theorem insI_ok (args args' : List Value) (ι : Io) (h : H) (w : World) (s : Sim Try.prog ι h w) (ha : RL ι args args') : SN Try.prog ι w (insP Try.prog 27 args h) (callFunc 47 ⟨args'⟩) :=
  insP_ok TI (G := 0) CLO_ok bodyI (fun args h => clS_prim (by kernel_rfl) args h) args args' ι h w s ha
theorem primM_ok : PrOk Try.prog 0 primM := by
  intro f args args' ι h w hg s ha
  unfold primM
  split
  · exact insI_ok args args' ι h w s ha
  · trivial
theorem tabM_ok : ∀ f fn an,tabM f = some (fn,an) → fnOk Try.prog 0 an f fn := by
  intro f fn an h
  unfold tabM at h
  split at h
  · cases h
  · exact tab_ok _ _ _ h
theorem CLM_ok : ClOk Try.prog 0 CLM := clS_ok mixed tabM_ok primM_ok
end Go.Proofs.Ytdadiidfhnojcaa.K
namespace Go.Proofs.Ytdadiidfhnojcaa.K
open Go Go.Kx Go.ChangeShapes Go.WideShapes Go.ChangeAt Go.RowKit
set_option maxRecDepth 100000
set_option linter.unusedVariables false
theorem row_of_cellsC {W : World} {base : Nat} {a : Addr} {n : Nat} {cs : List Value} (hn : 0 < n) (h : W.cells? base a n = some cs) :
    a.spot = none ∧ lv W a.block = true ∧ ∃ c el f,(hOf W).get a.block = some (.cells c el f false) ∧ a.off + n ≤ c.length ∧ (c.drop a.off).take n = cs.map (cvC (lv W)) := by
  obtain ⟨_,hlen,hc⟩ := World.cells?_some h
  have h0 := hc 0 hn
  have a0 : a.add 0 = a := by unfold Addr.add; rw [if_pos rfl]
  rw [a0,List.getElem?_eq_getElem (by omega : 0 < cs.length)] at h0
  unfold World.cell? at h0
  split at h0
  · rename_i c el lh hb
    have hs : a.spot = none := by
      cases q : a.spot with
      | none => rfl
      | some k => rw [q] at h0; simp at h0
    obtain ⟨l⟩ := c
    have hl : lv W a.block = true := by unfold lv lvO; rw [hb]
    refine ⟨hs,hl,l.map (cvC (lv W)),el,_,by rw [hOf_get,hb]; rfl,?_⟩
    have hat : ∀ i,i < n → l[a.off + i]? = cs[i]? := by
      intro i hi
      rw [← hc i hi]
      unfold World.cell?
      have : (a.add i).block = a.block ∧ (a.add i).off = a.off + i ∧ (a.add i).spot = none := by
        unfold Addr.add
        split
        · rename_i h0; subst h0; exact ⟨rfl,rfl,hs⟩
        · exact ⟨rfl,rfl,rfl⟩
      rw [this.1,hb,this.2.1,this.2.2]
      simp
    have hle : a.off + n ≤ l.length := by
      have := hat (n - 1) (by omega)
      rw [List.getElem?_eq_getElem (by omega : n - 1 < cs.length)] at this
      have := (List.getElem?_eq_some_iff.1 this).1
      omega
    refine ⟨by rw [List.length_map]; exact hle,?_⟩
    rw [← List.map_drop,← List.map_take]
    congr 1
    apply List.ext_getElem?
    intro i
    rw [List.getElem?_take]
    split
    · rename_i hi; rw [List.getElem?_drop]; exact hat i hi
    · rename_i hi; rw [List.getElem?_eq_none (by omega)]
  · cases h0
theorem flat_rows (c : List Value) (o E : Nat) : ∀ n,((List.range n).map fun i => (c.drop (o + i * E)).take E).flatten = (c.drop o).take (n * E)
  | 0 => by simp
  | n + 1 => by
    rw [List.range_succ,List.map_append,List.flatten_append,flat_rows c o E n,Nat.add_mul,Nat.one_mul,List.take_add,List.drop_drop]
    simp
theorem list_choose {α β : Type} {p : α → β → Prop} : ∀ (l : List α),(∀ x ∈ l,∃ y,p x y) → ∃ m : List β,m.length = l.length ∧ ∀ (i : Nat) (y : β),m[i]? = some y → ∃ x,l[i]? = some x ∧ p x y
  | [],_ => ⟨[],rfl,fun i y h => by simp at h⟩
  | x :: l,h => by
    obtain ⟨y,hy⟩ := h x (by simp)
    obtain ⟨m,hm,hp⟩ := list_choose l (fun x hx => h x (by simp [hx]))
    refine ⟨y :: m,by simp [hm],fun i z hz => ?_⟩
    cases i with
    | zero => simp only [List.getElem?_cons_zero,Option.some.injEq] at hz; subst hz; exact ⟨x,rfl,hy⟩
    | succ i => rw [List.getElem?_cons_succ] at hz; rw [List.getElem?_cons_succ]; exact hp i z hz
section
variable {HH : Type} {enc : TypeId × Value → HH} {W : World}
theorem read_sl {t e E fuel : Nat} (hu : Try.prog.underlying t = some (.slice e)) (hE : Try.prog.cellsOf e = E) (hpos : 0 < E) {cs : List Value} {x : DataW HH × List MemPlace} (h : DataW.trod enc Try.prog W 0 (fun _ => true) true fuel t cs = some x)
    (one : ∀ {n cs' x'},DataW.trod enc Try.prog W 0 (fun _ => true) true n e cs' = some x' → ones (cs'.map (cvC (lv W))) = true) :
    ∃ v u rows,cs = [v] ∧ (∃ a n c,v = .slice a n c) ∧ cv (lv W) v = some u ∧ Sl E (hOf W) u rows ∧ Zs u ∧ ∀ r ∈ rows,∃ n cs' x',r = cs'.map (cvC (lv W)) ∧ DataW.trod enc Try.prog W 0 (fun _ => true) true n e cs' = some x' := by
  rcases Go.Deep.open_slice hu h with ⟨rfl,hx⟩ | ⟨a,len,cap,m,n,D,Pl,rfl,hb,hl,hm,hmm,hx,hall⟩
  · exact ⟨_,.slice none 0 0,[],rfl,⟨_,_,_,rfl⟩,rfl,⟨GoodR.nil,.inl ⟨Nul.nil,rfl⟩⟩,.inl Nul.nil,fun r hr => by cases hr⟩
  · simp only [if_true] at hmm
    rw [hmm,hE] at hall
    by_cases hc : cap = 0
    · have hl0 : len = 0 := by omega
      subst hc hl0
      obtain ⟨b,o,sp⟩ := a
      cases sp with
      | none => exact ⟨_,.slice (some ⟨b,o,some 2⟩) 0 0,[],rfl,⟨_,_,_,rfl⟩,rfl,⟨GoodR.nil,.inl ⟨.inr ⟨b,o,0,rfl⟩,rfl⟩⟩,.inl (.inr ⟨b,o,0,rfl⟩),fun r hr => by cases hr⟩
      | some k => exact ⟨_,.slice (some ⟨b,o,some (k + 3)⟩) 0 0,[],rfl,⟨_,_,_,rfl⟩,rfl,⟨GoodR.nil,.inl ⟨.inr ⟨b,o,k + 1,rfl⟩,rfl⟩⟩,.inl (.inr ⟨b,o,k + 1,rfl⟩),fun r hr => by cases hr⟩
    · have hrow : ∀ i,i < cap → ∃ cs',W.cells? 0 (a.add (i * E)) E = some cs' ∧ DataW.trod enc Try.prog W 0 (fun _ => true) true n e cs' = some (D i,Pl i) := hall
      obtain ⟨cs0,z1,z2⟩ := hrow 0 (by omega)
      rw [Nat.zero_mul,show a.add 0 = a by unfold Addr.add; rw [if_pos rfl]] at z1
      obtain ⟨hs,hlv,c,el,f,hg,_⟩ := row_of_cellsC hpos z1
      obtain ⟨b,o,sp⟩ := a
      simp only at hs hlv hg
      subst hs
      have at_ : ∀ i,i < cap → o + i * E + E ≤ c.length ∧ ∃ cs',(c.drop (o + i * E)).take E = cs'.map (cvC (lv W)) ∧ DataW.trod enc Try.prog W 0 (fun _ => true) true n e cs' = some (D i,Pl i) := by
        intro i hi
        obtain ⟨cs',y1,y2⟩ := hrow i hi
        have hadd : (Addr.add ⟨b,o,none⟩ (i * E)) = ⟨b,o + i * E,none⟩ := by
          unfold Addr.add
          split
          · rename_i h0; rw [h0]; rfl
          · rfl
        rw [hadd] at y1
        obtain ⟨_,_,c',el',f',g1,g2,g3⟩ := row_of_cellsC hpos y1
        simp only at g1 g2 g3
        rw [hg] at g1
        cases g1
        exact ⟨g2,cs',g3,y2⟩
      have hcap := at_ (cap - 1) (by omega)
      have hle : o + cap * E ≤ c.length := by
        have h1 := hcap.1
        have : cap * E = (cap - 1) * E + E := by rw [← Nat.succ_mul]; congr 1; omega
        omega
      have hz : (len == 0 && cap == 0) = false := by
        rw [Bool.and_eq_false_iff]; right; simpa using hc
      refine ⟨_,.slice (some ⟨b,o,some 0⟩) len cap,(List.range len).map fun i => (c.drop (o + i * E)).take E,rfl,⟨_,_,_,rfl⟩,?_,⟨?_,.inr ⟨b,o,some 0,cap,by simp,c,el,f,false,hg,?_⟩⟩,.inr ⟨b,o,len,cap,rfl,hl⟩,?_⟩
      · simp only [cv,hz,hlv,cond_false,cond_true]
      · intro r hr
        obtain ⟨i,hi,rfl⟩ := List.mem_map.1 hr
        have hi := List.mem_range.1 hi
        obtain ⟨q1,cs',q2,q3⟩ := at_ i (by omega)
        refine ⟨by rw [List.length_take,List.length_drop]; omega,?_⟩
        rw [q2]
        exact one q3
      · rw [flat_rows]
        have : len * E ≤ cap * E := Nat.mul_le_mul_right _ hl
        have hlen : ((c.drop o).take (len * E)).length = len * E := by rw [List.length_take,List.length_drop]; omega
        rw [hlen]
        exact ⟨by omega,rfl⟩
      · intro r hr
        obtain ⟨i,hi,rfl⟩ := List.mem_map.1 hr
        have hi := List.mem_range.1 hi
        obtain ⟨q1,cs',q2,q3⟩ := at_ i (by omega)
        exact ⟨n,cs',_,q2,q3⟩
theorem cvC_one {v : Value} (h : v.oneCell' = true) : (cvC (lv W) v).oneCell' = true := by
  unfold cvC
  split
  · rename_i u hu
    cases v <;> first | (cases h; done) | skip
    all_goals (first | (simp only [cv,Option.some.injEq] at hu; subst hu; rfl) | skip)
    · rename_i a; rcases a with _ | ⟨b,o,_ | s⟩ <;> simp only [cv] at hu
      · cases hu; rfl
      · cases hb : lv W b <;> rw [hb] at hu <;> cases hu; rfl
      · cases hu
    · rename_i a n c; rcases a with _ | ⟨b,o,_ | s⟩ <;> simp only [cv] at hu
      · cases hu; rfl
      · rcases cv_none hu with ⟨_,_,rfl⟩ | hu
        · rfl
        · cases hb : lv W b <;> rw [hb] at hu <;> cases hu; rfl
      · rcases cv_none hu with ⟨_,_,rfl⟩ | hu
        · rfl
        · cases hu
    · rename_i a; cases a <;> simp only [cv] at hu <;> cases hu; rfl
    · simp only [cv] at hu; cases hu
    · rename_i g f c
      obtain ⟨f⟩ := f
      obtain ⟨c⟩ := c
      cases g <;> simp only [cv] at hu <;> first | (cases hu; done) | skip
      split at hu <;> cases hu; rfl
    · simp only [cv] at hu; split at hu <;> cases hu; rfl
  · cases v <;> first | (cases h; done) | rfl
theorem ones_cvC {l : List Value} (h : ones l = true) : ones (l.map (cvC (lv W))) = true := by
  rw [ones_iff] at *
  intro x hx
  obtain ⟨v,hv,rfl⟩ := List.mem_map.1 hx
  exact cvC_one (h v hv)
variable {n : Nat} {cs : List Value} {x : DataW HH × List MemPlace}
theorem read_string (h : DataW.trod enc Try.prog W 0 (fun _ => true) true n 9 cs = some x) : ∃ s,cs = [.string s] := by
  obtain ⟨s,e,_⟩ := DataW.trod_string Try.underlying9 h
  exact ⟨s,e⟩
theorem read_int (h : DataW.trod enc Try.prog W 0 (fun _ => true) true n 3 cs = some x) : ∃ z,cs = [.int .i64 z] ∧ (Lit.int .i64 z).wf = true := by
  obtain ⟨z,e,_,w⟩ := DataW.trod_int Try.underlying3 h
  exact ⟨z,e,w⟩
theorem read_one {t e : Nat} (hu : Try.prog.underlying t = some (.slice e)) (h : DataW.trod enc Try.prog W 0 (fun _ => true) true n t cs = some x) : ∃ v,cs = [v] ∧ v.oneCell' = true := by
  rcases Go.Deep.open_slice hu h with ⟨rfl,hx⟩ | ⟨a,len,cap,m,n,D,Pl,rfl,_⟩
  · exact ⟨_,rfl,rfl⟩
  · exact ⟨_,rfl,rfl⟩
theorem strs_one (h : DataW.trod enc Try.prog W 0 (fun _ => true) true n 9 cs = some x) : ones (cs.map (cvC (lv W))) = true := by
  obtain ⟨s,rfl⟩ := read_string h
  rfl
theorem read_strs (h : DataW.trod enc Try.prog W 0 (fun _ => true) true n 52 cs = some x) : ∃ v u l,cs = [v] ∧ v.oneCell' = true ∧ cvC (lv W) v = u ∧ StrSl (hOf W) u l ∧ Zs u := by
  obtain ⟨v,u,rows,rfl,⟨a,m,c,rfl⟩,e,q,z,f⟩ := read_sl (E := 1) Try.underlying52 (by kernel_rfl) (by omega) h (fun q => strs_one q)
  obtain ⟨l,hl,hp⟩ := list_choose (p := fun r (s : ByteArray) => r = [.string s]) rows (fun r hr => by
    obtain ⟨n',cs',x',rfl,h'⟩ := f r hr
    obtain ⟨s,rfl⟩ := read_string h'
    exact ⟨s,rfl⟩)
  refine ⟨_,u,l,rfl,rfl,by unfold cvC; rw [e],?_,z⟩
  have : rows = l.map fun s => [.string s] := by
    apply List.ext_getElem?
    intro i
    rw [List.getElem?_map]
    cases hq : l[i]? with
    | none => rw [List.getElem?_eq_none_iff] at hq; rw [List.getElem?_eq_none (by omega : rows.length ≤ i)]; rfl
    | some s => obtain ⟨r,e1,rfl⟩ := hp i s hq; exact e1
  unfold StrSl
  rw [← this]
  exact q
theorem trod_struct5' {H : Type} {enc : TypeId × Value → H} {P : Program} {w : World} {base : Nat} {spare : Nat → Bool} {held : Bool} {t : TypeId} {f0 f1 f2 f3 f4 : Field} {fuel : Nat} {cs : List Value} {x : DataW H × List MemPlace} (ht : P.underlying t = some (.struct #[f0,f1,f2,f3,f4]))
    (h : DataW.trod enc P w base spare held fuel t cs = some x) :
    ∃ y0 y1 y2 y3 y4 n,cs.length = P.cellsOf t ∧ DataW.trod enc P w base spare held n f0.type ((cs.drop f0.offset).take (P.cellsOf f0.type)) = some y0 ∧
      DataW.trod enc P w base spare held n f1.type ((cs.drop f1.offset).take (P.cellsOf f1.type)) = some y1 ∧ DataW.trod enc P w base spare held n f2.type ((cs.drop f2.offset).take (P.cellsOf f2.type)) = some y2 ∧
      DataW.trod enc P w base spare held n f3.type ((cs.drop f3.offset).take (P.cellsOf f3.type)) = some y3 ∧ DataW.trod enc P w base spare held n f4.type ((cs.drop f4.offset).take (P.cellsOf f4.type)) = some y4 := by
  obtain ⟨xs,n,_,_,hl,hlen,hf⟩ := DataW.trod_struct ht h
  match xs,hlen with
  | [y0,y1,y2,y3,y4],_ => exact ⟨y0,y1,y2,y3,y4,n,hl,by simpa using hf 0 f0 rfl,by simpa using hf 1 f1 rfl,by simpa using hf 2 f2 rfl,by simpa using hf 3 f3 rfl,by simpa using hf 4 f4 rfl⟩
theorem read_node (h : DataW.trod enc Try.prog W 0 (fun _ => true) true n 61 cs = some x) : cs.length = 5 ∧ ones cs = true := by
  obtain ⟨y0,y1,y2,y3,y4,m,hl,h0,h1,h2,h3,h4⟩ := trod_struct5' Try.underlying61 h
  rw [show Try.prog.cellsOf 61 = 5 by kernel_rfl] at hl
  simp only [show Try.prog.cellsOf 3 = 1 by kernel_rfl,show Try.prog.cellsOf 9 = 1 by kernel_rfl,show Try.prog.cellsOf 59 = 1 by kernel_rfl] at h0 h1 h2 h3 h4
  obtain ⟨z0,e0,_⟩ := read_int h0
  obtain ⟨z1,e1⟩ := read_string h1
  obtain ⟨z2,e2,_⟩ := read_int h2
  obtain ⟨z3,e3,_⟩ := read_int h3
  obtain ⟨z4,e4,o4⟩ := read_one Try.underlying59 h4
  match cs,hl with
  | [c0,c1,c2,c3,c4],_ =>
    simp at e0 e1 e2 e3 e4
    subst e0 e1 e2 e3 e4
    refine ⟨rfl,?_⟩
    show (true && (true && (true && (true && (c4.oneCell' && true))))) = true
    rw [o4]; rfl
theorem read_out (h : DataW.trod enc Try.prog W 0 (fun _ => true) true n 63 cs = some x) : ∃ s r,cs = .string s :: r ∧ ones cs = true := by
  obtain ⟨y0,y1,m,_,hl,h0,h1⟩ := trod_struct2 Try.underlying63 h
  rw [show Try.prog.cellsOf 63 = 6 by kernel_rfl] at hl
  simp only [show Try.prog.cellsOf 9 = 1 by kernel_rfl,show Try.prog.cellsOf 61 = 5 by kernel_rfl] at h0 h1
  obtain ⟨s,e0⟩ := read_string h0
  obtain ⟨_,o1⟩ := read_node h1
  match cs,hl with
  | c :: r,hl =>
    have hr : r.length = 5 := by simpa using hl
    simp at e0
    subst e0
    refine ⟨s,r,rfl,?_⟩
    rw [show ((Value.string s :: r).drop 1).take 5 = r by rw [List.drop_succ_cons,List.drop_zero]; exact List.take_of_length_le (by omega)] at o1
    show (true && ones r) = true
    rw [o1]; rfl
theorem read_outs (h : DataW.trod enc Try.prog W 0 (fun _ => true) true n 53 cs = some x) : ∃ v u l,cs = [v] ∧ v.oneCell' = true ∧ cvC (lv W) v = u ∧ OutSl (hOf W) u l ∧ Zs u := by
  obtain ⟨v,u,rows,rfl,⟨a,m,c,rfl⟩,e,q,z,f⟩ := read_sl (E := 6) Try.underlying53 (by kernel_rfl) (by omega) h (fun q => by
    obtain ⟨s,r,_,o⟩ := read_out q
    exact ones_cvC o)
  obtain ⟨l,hl,hp⟩ := list_choose (p := fun r (s : ByteArray) => ∃ r',r = .string s :: r') rows (fun r hr => by
    obtain ⟨n',cs',x',rfl,h'⟩ := f r hr
    obtain ⟨s,r,rfl,_⟩ := read_out h'
    exact ⟨s,_,rfl⟩)
  refine ⟨_,u,l,rfl,rfl,by unfold cvC; rw [e],⟨rows,q,?_⟩,z⟩
  apply List.ext_getElem?
  intro i
  rw [List.getElem?_map,List.getElem?_map]
  cases hq : l[i]? with
  | none => rw [List.getElem?_eq_none_iff] at hq; rw [List.getElem?_eq_none (by omega : rows.length ≤ i)]; rfl
  | some s => obtain ⟨r,e1,r',rfl⟩ := hp i s hq; rw [e1]; rfl
theorem trod_struct4' {H : Type} {enc : TypeId × Value → H} {P : Program} {w : World} {base : Nat} {spare : Nat → Bool} {held : Bool} {t : TypeId} {f0 f1 f2 f3 : Field} {fuel : Nat} {cs : List Value} {x : DataW H × List MemPlace} (ht : P.underlying t = some (.struct #[f0,f1,f2,f3]))
    (h : DataW.trod enc P w base spare held fuel t cs = some x) :
    ∃ y0 y1 y2 y3 n,cs.length = P.cellsOf t ∧ DataW.trod enc P w base spare held n f0.type ((cs.drop f0.offset).take (P.cellsOf f0.type)) = some y0 ∧
      DataW.trod enc P w base spare held n f1.type ((cs.drop f1.offset).take (P.cellsOf f1.type)) = some y1 ∧ DataW.trod enc P w base spare held n f2.type ((cs.drop f2.offset).take (P.cellsOf f2.type)) = some y2 ∧
      DataW.trod enc P w base spare held n f3.type ((cs.drop f3.offset).take (P.cellsOf f3.type)) = some y3 := by
  obtain ⟨xs,n,_,_,hl,hlen,hf⟩ := DataW.trod_struct ht h
  match xs,hlen with
  | [y0,y1,y2,y3],_ => exact ⟨y0,y1,y2,y3,n,hl,by simpa using hf 0 f0 rfl,by simpa using hf 1 f1 rfl,by simpa using hf 2 f2 rfl,by simpa using hf 3 f3 rfl⟩
theorem read_task (h : DataW.trod enc Try.prog W 0 (fun _ => true) true n 55 cs = some x) : ones cs = true ∧ ∃ t vi vo,cs.map (cvC (lv W)) = [.string (TK.name t),.int .i64 t.bud,vi,vo] ∧ StrSl (hOf W) vi t.ins ∧ OutSl (hOf W) vo t.outs ∧ Zs vi ∧ Zs vo := by
  obtain ⟨y0,y1,y2,y3,m,hl,h0,h1,h2,h3⟩ := trod_struct4' Try.underlying55 h
  rw [show Try.prog.cellsOf 55 = 4 by kernel_rfl] at hl
  simp only [show Try.prog.cellsOf 3 = 1 by kernel_rfl,show Try.prog.cellsOf 9 = 1 by kernel_rfl,show Try.prog.cellsOf 52 = 1 by kernel_rfl,show Try.prog.cellsOf 53 = 1 by kernel_rfl] at h0 h1 h2 h3
  obtain ⟨s,e0⟩ := read_string h0
  obtain ⟨z,e1,_⟩ := read_int h1
  obtain ⟨v2,u2,l2,e2,o2,c2,q2,z2⟩ := read_strs h2
  obtain ⟨v3,u3,l3,e3,o3,c3,q3,z3⟩ := read_outs h3
  match cs,hl with
  | [c0,c1,c2',c3'],_ =>
    simp at e0 e1 e2 e3
    subst e0 e1 e2 e3
    refine ⟨by show (true && (true && (c2'.oneCell' && (c3'.oneCell' && true)))) = true; rw [o2,o3]; rfl,⟨s,z,l2,l3⟩,u2,u3,?_,q2,q3,z2,z3⟩
    simp only [List.map_cons,List.map_nil,c2,c3]
    rfl
theorem read_tasks {v : Value} {d : DataW HH} {p : List MemPlace} {base : Nat} (hval : Value.okWide Try.prog W .any base 22 v) (h : DataW.Trod enc Try.prog W 0 (fun _ => true) true 22 v d p) :
    ∃ u ts,R (io W) u v ∧ TasksA (hOf W) u ts ∧ Zs u := by
  obtain ⟨fuel,h⟩ := h
  have hsl : ∃ o l c,v = .slice o l c := by
    have hv := hval
    unfold Value.okWide at hv
    rw [Try.underlying22] at hv
    cases v <;> first | exact ⟨_,_,_,rfl⟩ | (simp [Cell.okWide,Try.underlying22,Cell.ok] at hv)
  obtain ⟨o,l,c,rfl⟩ := hsl
  obtain ⟨v',u,rows,e1,_,e,q,z,f⟩ := read_sl (E := 4) Try.underlying22 (by kernel_rfl) (by omega) h (fun q => ones_cvC (read_task q).1)
  have hv : v' = .slice o l c := by
    have : [Value.slice o l c] = [v'] := by simpa [Value.cells] using e1
    simpa using this.symm
  subst hv
  obtain ⟨ts,hl,hp⟩ := list_choose (p := fun r (t : TK) => ∃ vi vo,r = [.string t.name,.int .i64 t.bud,vi,vo] ∧ StrSl (hOf W) vi t.ins ∧ OutSl (hOf W) vo t.outs ∧ Zs vi ∧ Zs vo) rows (fun r hr => by
    obtain ⟨n',cs',x',rfl,h'⟩ := f r hr
    exact (read_task h').2)
  refine ⟨u,ts,cv_R _ e,⟨rows,q,hl.symm,fun i t ht => ?_⟩,z⟩
  obtain ⟨r,e1,vi,vo,rest⟩ := hp i t ht
  exact ⟨r,vi,vo,e1,rest⟩
end
end Go.Proofs.Ytdadiidfhnojcaa.K
namespace Go.Proofs.Ytdadiidfhnojcaa.K
open Go Go.Kx Go.ChangeShapes Go.WideShapes Go.ChangeAt Go.RowKit
set_option maxRecDepth 100000
set_option linter.unusedVariables false
theorem laidOut' : laidOutB Try.prog = true := by kernel_rfl
theorem own' : ownKnob Try.prog.godebug = none := by kernel_rfl
theorem trodAll_two' {H : Type} {enc : TypeId × Value → H} {P : Program} {w : World} {base : Nat} {spare : Nat → Bool} {held : Bool} {t0 t1 : TypeId} {args : Array Value} {ds : List (DataW H)} {ps : List MemPlace} (h : DataW.TrodAll enc P w base spare held [t0,t1] args.toList ds ps) :
    ∃ v0 v1 d0 d1 p0 p1,args = #[v0,v1] ∧ ds = [d0,d1] ∧ DataW.Trod enc P w base spare held t0 v0 d0 p0 ∧ DataW.Trod enc P w base spare held t1 v1 d1 p1 := by
  obtain ⟨v0,vs,d0,ds',p0,q,hargs,rfl,rfl,hd,hrest⟩ := trodAll_cons h
  obtain ⟨v1,vs1,d1,ds1,p1,q1,rfl,rfl,rfl,hd1,hrest1⟩ := trodAll_cons hrest
  obtain ⟨rfl,rfl,rfl⟩ := trodAll_nil hrest1
  exact ⟨v0,v1,d0,d1,p0,p1,by cases args; simp_all,rfl,hd,hd1⟩
theorem read_intA {HH : Type} {enc : TypeId × Value → HH} {W : World} {v : Value} {d : DataW HH} {p : List MemPlace} {base : Nat} (hval : Value.okWide Try.prog W .any base 3 v) (h : DataW.Trod enc Try.prog W 0 (fun _ => true) true 3 v d p) : ∃ z : Int,v = .int .i64 z ∧ -9223372036854775808 ≤ z ∧ z ≤ 9223372036854775807 := by
  have hsl : ∃ k z,v = .int k z := by
    have hv := hval
    unfold Value.okWide at hv
    rw [Try.underlying3] at hv
    cases v <;> first | exact ⟨_,_,rfl⟩ | (simp [Cell.okWide,Try.underlying3,Cell.ok] at hv)
  obtain ⟨k,z,rfl⟩ := hsl
  obtain ⟨fuel,h⟩ := h
  obtain ⟨z',e,w⟩ := read_int h
  have : [Value.int k z] = [.int .i64 z'] := by simpa [Value.cells] using e
  simp only [List.cons.injEq,Value.int.injEq,and_true] at this
  obtain ⟨rfl,rfl⟩ := this
  refine ⟨_,rfl,?_⟩
  simp only [Lit.wf,IntKind.min,IntKind.max,IntKind.bits,IntKind.signed] at w
  simp at w
  omega
theorem contract3 (H : Type) (enc : TypeId × Value → H) (W : World) (base : Nat) (args : Array Value) (ds gs : List (DataW H)) (before : List MemPlace)
    (hval : ∀ (j : Nat) t v,Try.f3.params[j]? = some t → args[j]? = some v → Value.okWide Try.prog W .any base t v)
    (hW : DataW.Whole enc Try.prog Try.f3.params.toList Rows.graphAsksSpec.vars false W args.toList ds gs before) :
    Calls Try.prog 3 args W fun e W' => ∃ v,e = .returned v ∧ Rows.graphAsksSpec.post enc Try.prog Try.f3 false true false false W args v W' := by
  have hW' := hW
  obtain ⟨p,q,hA0,hV,rfl,hfz,hnd⟩ := hW
  have hA : DataW.TrodAll enc Try.prog W 0 (fun _ => true) true Try.f3.params.toList args.toList ds p := hA0
  rw [Try.params3] at hA hval
  obtain ⟨v0,v1,d0,d1,p0,p1,rfl,rfl,h0,h1⟩ := trodAll_two' hA
  obtain ⟨u,ts,rx0,T,_⟩ := read_tasks (hval 0 _ v0 rfl rfl) h0
  obtain ⟨z,rfl,_⟩ := read_intA (hval 1 _ v1 rfl rfl) h1
  obtain ⟨h',hr,hg⟩ := asks T z
  refine bare_true laidOut' ?_ rfl Try.func3 (by kernel_rfl) (by kernel_rfl) (tb := 4) (by kernel_rfl) Try.underlying4 rfl hW' CLM_ok ?_ hr hg
  · rw [Try.params3]
    intro t ht
    simp only [List.mem_cons,List.not_mem_nil,or_false] at ht
    rcases ht with rfl | rfl <;> exact ⟨by kernel_rfl,of_decide_eq_true (by kernel_rfl)⟩
  · exact .cons rx0 (.cons (.int _ _) .nil)
theorem lifted3 (os : Os) (started : os.Started) (H : Type) (enc : TypeId × Value → H) :
    ReturnsInHanded {} Try.checked os 3 .any (Rows.graphAsksSpec.pre6 enc Try.prog Try.f3 Rows.graphAsksRow.domain false) (Rows.graphAsksSpec.post enc Try.prog Try.f3 false true false false) := by
  refine returnsInHanded_of_change (C := Try.checked) own' started (by kernel_rfl) Try.func3
    (ChangeSpec.witness6 (enc := enc) (C := Try.checked) false ⟨#[],#[.slice none 0 0,.int .i64 0],[]⟩ 8 (by kernel_rfl) (by kernel_rfl) (by kernel_rfl) (by kernel_rfl)) ?_
  intro W base args ds gs before hval hW _ _
  exact contract3 H enc W base args ds gs before hval hW
end Go.Proofs.Ytdadiidfhnojcaa.K
namespace Go.Proofs.Ytdadiidfhnojcaa
open Go
set_option maxRecDepth 100000
theorem graphAsks_holds : Rows.GraphAsksSaid :=
  OpenClaim.holds_of_wide 3 Try.f3 rfl rfl rfl rfl rfl rfl rfl ⟨rfl,rfl,rfl,rfl,rfl⟩ rfl rfl rfl rfl rfl (by kernel_rfl) Try.func3 (by kernel_rfl)
    (of_decide_eq_true (by kernel_rfl)) (by unfold Func.isWrapper; first | (rw [if_pos (by decide +kernel)]; kernel_rfl) | (rw [if_neg (by decide +kernel)]; exact ⟨rfl,rfl⟩))
    (fun os started H enc _ => K.lifted3 os started H enc)
end Go.Proofs.Ytdadiidfhnojcaa
#print axioms Go.Proofs.Ytdadiidfhnojcaa.graphAsks_holds
