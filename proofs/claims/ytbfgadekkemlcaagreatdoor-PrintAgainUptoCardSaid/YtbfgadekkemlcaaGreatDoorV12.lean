/- My texts for this claim, in one file: part 12. -/
import Derived.Test.YtbfgadekkemlcaaGreatDoorV11
set_option linter.unusedVariables false
set_option linter.unusedSimpArgs false
namespace Go.Kx
open Go
theorem rLenOf {P:Program} {ι:Io} {w:World} {x x':Value} (hx:R ι x x') {n:Nat} (h:lenV x=some n):(Builtin.lenOf x').run P w = .ok n w:=by
 unfold lenV at h
 split at h
 ·cases h; cases hx<;>rfl
 ·cases h; cases hx; rfl
 ·cases h
theorem firstC_ok {P:Program} {ι:Io} {h:H} {w:World} (s:Sim P ι h w) {size n k:Nat} {x x':Value} (hx:R ι x x') (hk:lenV x=some k) (hn:n≤k) {l:List Value} (hf:firstC h size n x=some l) :
  l.length=n*size∧∃ l',RL ι l l'∧∀ m,(Builtin.firstCells size n x').run P { w with drawn:=m } = .ok ⟨l'⟩ { w with drawn:=m }:=by
 unfold firstC at hf
 split at hf
 ·cases hx with
  |slcO he hc=>
   obtain⟨hl,l',g1,g2⟩:=s.row he hf
   exact⟨hl,l',g1,fun m=>rLoadCells (w:={ w with drawn:=m }) _ _ _ _ (by rw[← g1.length,hl]) g2⟩
  |slcX he=>
   obtain⟨hl,l',g1,g2⟩:=s.row he hf
   exact⟨hl,l',g1,fun m=>rLoadCells (w:={ w with drawn:=m }) _ _ _ _ (by rw[← g1.length,hl]) g2⟩
  |slcE he h'=>
   obtain⟨hl,_⟩:=s.row he hf
   have hn0:n=0:=by
    simp only[lenV,Option.some.injEq] at hk
    omega
   subst hn0
   rw[Nat.zero_mul] at hl
   have:l=[]:=List.length_eq_zero_iff.1 hl
   subst this
   refine⟨by simp,[],.nil,fun m=>?_⟩
   simp only[Builtin.firstCells,Nat.zero_mul]
   rfl
  |slcN=>
   have hn0:n=0:=by
    simp only[lenV,Option.some.injEq] at hk
    omega
   subst hn0
   rw[Nat.zero_mul] at hf
   have:l=[]:=List.length_eq_zero_iff.1 (H.row_len0 hf)
   subst this
   refine⟨by simp,[],.nil,fun m=>?_⟩
   simp only[Builtin.firstCells,Nat.zero_mul]
   rfl
  |slcM=>
   have hn0:n=0:=by
    simp only[lenV,Option.some.injEq] at hk
    omega
   subst hn0
   rw[Nat.zero_mul] at hf
   have:l=[]:=List.length_eq_zero_iff.1 (H.row_len0 hf)
   subst this
   refine⟨by simp,[],.nil,fun m=>?_⟩
   simp only[Builtin.firstCells,Nat.zero_mul]
   rfl
 ·cases hx
  cases hb:Nat.beq n 0 with
  |false=>rw[hb] at hf; cases hf
  |true=>
   rw[hb] at hf
   simp only[cond_true,Option.some.injEq] at hf
   subst hf
   have:=Nat.eq_of_beq_eq_true hb
   subst this
   exact⟨by simp,[],.nil,fun _=>rfl⟩
 ·rename_i st
  cases hx
  cases hb:Nat.beq size 1 with
  |false=>rw[hb] at hf; cases hf
  |true=>
   rw[hb] at hf
   simp only[cond_true,Option.some.injEq] at hf
   subst hf
   have:=Nat.eq_of_beq_eq_true hb
   subst this
   have hkk:st.size=k:=by simpa [lenV] using hk
   refine⟨?_,_,RL.ofFlat ι _ (bytes_flat _),?_⟩
   ·simp[byteVals]; omega
   ·intro m
    simp only[Builtin.firstCells,Sem.run_pure]
    congr 1
    apply Array.ext'
    simp[byteVals,ByteArray.data_extract,List.extract_eq_take_drop]
 ·cases hf
theorem grow_le (n:Nat):∀ (r c:Nat),Builtin.growBy n r c≤max c (n+(n+768) / 4)
 |0,c=>by simp only[Builtin.growBy]; omega
 |r+1,c=>by
  simp only[Builtin.growBy]
  split
  ·omega
  ·have:=grow_le n r (c+(c+768) / 4)
   omega
theorem next_le (need cap:Nat) (h:cap<need):Builtin.nextslicecap need cap≤2*need+192:=by
 unfold Builtin.nextslicecap
 split
 ·omega
 ·split
  ·omega
  ·have:=grow_le need 4 cap
   omega
theorem Sim.leave {P:Program} {ι:Io} {h:H} {w:World} (s:Sim P ι h w) (base:Option Addr):Sim P ι (h.leave base) w:=by
 unfold H.leave
 split
 ·split
  ·rename_i hg _; exact s.kill (H.get_lt hg)
  ·rename_i hg _; exact s.kill (H.get_lt hg)
  ·exact s
 ·exact s
theorem leave_next (h:H) (base:Option Addr):(h.leave base).next=h.next:=by
 unfold H.leave
 split
 ·split<;>rfl
 ·rfl
theorem zeros_cells {z:Value} (k:Nat):Builtin.zeroCells z.cells k=⟨repeatL z.cells.toList k⟩:=by
 unfold Builtin.zeroCells
 exact zero_cells z.cells k
def appTail (argTypes:Array TypeId) (elem:TypeId) (base:Option Addr) (sLen sCap size n:Nat) (zeros:Bool) (s x:Value) (appended:Sem (Array Value)):Sem Value:=do
 let need:=sLen+n
 if need≤sCap then
  let new ← appended
  if let some a:=base then storeCells (a.add (sLen*size)) new.toList
  pure (.slice base need sCap)
 else
  if (need:Int) > IntKind.i64.max∧(zeros∨(← typeInfo elem).bytes=0) then runtimePanic (.error "growslice: len out of range")
  if Builtin.nextslicecap need sCap*(← typeInfo elem).bytes > 2 ^ 48 then (if zeros then runtimePanic (.error "growslice: len out of range") else do
   if !(← Builtin.mayShare size sLen n base x) then mark .noRoom
   unsupported (.resourceLimit "append: a slice or a string whose bytes no memory bears"))
  let newCap ← choose (.appendCap need sCap elem)
  askRoom (newCap*(← typeInfo elem).bytes)
  let old ← Builtin.firstCells size sLen s
  let new ← appended
  let rest:=Builtin.zeroCells (← zeroValue elem).cells (newCap - need)
  pure (.slice (some (← newRow elem (old++new++rest))) need newCap)
theorem appOk_spec {elem:TypeId} {h:H} {b o:Nat} {sp:Option Nat} (hb:appOk elem h (some ⟨b,o,sp⟩)=true) :
  (∃ c,h.get b=some (.cells c elem 0 true))∨(∃ c el f,h.get b=some (.cells c el f false)∧sp≠some 1):=by
 unfold appOk at hb
 simp only at hb
 cases hg:h.get b with
 |none=>rw[hg] at hb; cases hb
 |some y=>
  rw[hg] at hb
  cases y with
  |dead=>cases hb
  |map es cl=>cases hb
  |siter st ps=>cases hb
  |loop x=>cases hb
  |cells c el f op=>
   cases op with
   |true=>
    simp only[Bool.and_eq_true] at hb
    have h1:=Nat.eq_of_beq_eq_true hb.1
    have h2:=Nat.eq_of_beq_eq_true hb.2
    subst h1; subst h2
    exact .inl ⟨c,rfl⟩
   |false=>
    refine .inr ⟨c,el,f,rfl,fun q=>?_⟩
    subst q
    cases hb
theorem opn_of {P:Program} {ι:Io} {h:H} {w:World} (s:Sim P ι h w) {b:Nat} {e:Ent} (he:ι b=some e) {c:List Value} {el:TypeId} {f:Nat} {op:Bool} (hg:h.get b=some (.cells c el f op)):e.opn=op∧(op=false→e.slack=0):=by
 obtain⟨e',he',hbr⟩:=s.blk b _ hg rfl
 rw[he] at he'; cases he'
 obtain⟨_,_,_,_,_,_,_,h5,_,_,h8⟩:=hbr
 exact⟨h8.1,fun q=>(h5 q).1⟩
theorem appendC_ok {P:Program} {ι:Io} {h:H} {w:World} (s:Sim P ι h w) (ats:Array TypeId) (elem:TypeId) {base:Option Addr} {n cap k:Nat} {sv:Value} (hs:R ι (.slice base n cap) sv)
  (hsz:szOk P elem=true) {new new':List Value} (hnew:RL ι new new') (hlen:new.length=k*P.cellsOf elem) (zeros:Bool) (x:Value) (appended:Sem (Array Value)) (happ:appended.run P w = .ok ⟨new'⟩ w)
  (happ':∀ m,appended.run P { w with drawn:=m } = .ok ⟨new'⟩ { w with drawn:=m }) :
  ∀ base' cap',sv = .slice base' n cap'→SV P ι w (appendC P elem base n cap k new h) (appTail ats elem base' n cap' (P.cellsOf elem) k zeros sv x appended):=by
 intro base' cap' hsv
 subst hsv
 unfold appendC
 cases hfit:Nat.ble (n+k) cap with
 |true=>
  have hfit':n+k≤cap:=Nat.le_of_ble_eq_true hfit
  simp only[cond_true]
  split
  ·cases hs
   cases hk:Nat.beq k 0 with
   |false=>trivial
   |true=>
    have:=Nat.eq_of_beq_eq_true hk
    subst this
    refine SV.same s (v':=.slice none (n+0) cap) ?_ (.slc0 _ _)
    simp only[appTail]
    rw[if_pos hfit']
    simp only[Sem.run_bind,happ,Result.andThen_ok,Sem.run_pure]
  ·rename_i a
   have hroom:n+k≤cap':=by cases hs<;>omega
   cases hk:Nat.beq k 0 with
   |true=>
    have:=Nat.eq_of_beq_eq_true hk
    subst this
    rw[Nat.zero_mul] at hlen
    have hn0:new=[]:=List.length_eq_zero_iff.1 hlen
    subst hn0
    cases hnew
    simp only[cond_true,Nat.add_zero]
    refine SV.same s (v':=.slice base' n cap') ?_ hs
    simp only[appTail]
    rw[if_pos hroom]
    simp only[Sem.run_bind,happ,Result.andThen_ok,Nat.add_zero]
    cases base' with
    |none=>rfl
    |some a'=>rfl
   |false=>
    simp only[cond_false]
    cases hw:h.write { a with off:=a.off+n*P.cellsOf elem,spot:=none } new with
    |none=>trivial
    |some h'=>
     have fin:∀ (b o:Nat) (e:Ent),ι b=some e→a=⟨b,o,a.spot⟩→base'=some ⟨e.c,o+e.sh,none⟩→R ι (.slice (some a) (n+k) cap) (.slice base' (n+k) cap') →
       SV P ι w (.ok (.slice (some a) (n+k) cap) h') (appTail ats elem base' n cap' (P.cellsOf elem) k zeros (.slice base' n cap') x appended):=by
      intro b o e he ha hb' hv
      subst hb'
      have hw':h.write ⟨b,o+n*P.cellsOf elem,none⟩ new=some h':=by rw[ha] at hw; exact hw
      obtain⟨w',g1,g2,g3⟩:=s.write he hnew hw'
      refine⟨_,w',?_,ι,g2,g3,hv⟩
      simp only[appTail]
      rw[if_pos hroom]
      simp only[Sem.run_bind,happ,Result.andThen_ok,add_of]
      rw[show o+e.sh+n*P.cellsOf elem=o+n*P.cellsOf elem+e.sh by omega,g1]
      rfl
     cases hs with
     |slcO he hc=>exact fin _ _ _ he rfl rfl (.slcO he hc)
     |slcX he=>exact fin _ _ _ he rfl rfl (.slcX he)
     |slcE he h'=>
      have:k=0:=by omega
      rw[beqT this] at hk; cases hk
     |slcN=>
      have:k=0:=by omega
      rw[beqT this] at hk; cases hk
     |slcM=>
      have:k=0:=by omega
      rw[beqT this] at hk; cases hk
 |false=>
  have hfit':¬ n+k≤cap:=fun q=>by
   have:Nat.ble (n+k) cap=true:=Nat.ble_eq_true_of_le q
   rw[this] at hfit; cases hfit
  simp only[cond_false]
  cases hb:(Nat.ble ((n+k)*bytesOf P elem) 35184372088832&&Nat.ble (n+k) 35184372088832&&Nat.ble (bytesOf P elem) 1048576&&zeroFits P elem&&ones new&&appOk elem h base) with
  |false=>trivial
  |true=>
   simp only[Bool.and_eq_true] at hb
   obtain⟨⟨⟨⟨⟨hb1,hb2⟩,hb3⟩,hb4⟩,hb5⟩,hb6⟩:=hb
   have hb1:=Nat.le_of_ble_eq_true hb1
   have hb2:=Nat.le_of_ble_eq_true hb2
   have hb3:=Nat.le_of_ble_eq_true hb3
   obtain⟨z,hz,hzs,hzo⟩ : ∃ z,zeroOf P elem=some z∧z.cells.size=P.cellsOf elem∧ones z.cells.toList=true:=by
    unfold zeroFits at hb4
    split at hb4
    ·rename_i z hz
     simp only[Bool.and_eq_true] at hb4
     exact⟨z,hz,Nat.eq_of_beq_eq_true hb4.1,hb4.2⟩
    ·cases hb4
   simp only[cond_true]
   cases hold:firstC h (P.cellsOf elem) n (.slice base n cap) with
   |none=>trivial
   |some old=>
    simp only
    obtain⟨hol,-⟩:=firstC_ok s hs (k:=n) rfl (Nat.le_refl _) hold
    have hnextn:=leave_next h base
    have hk0:0<k∨cap<n:=by omega
    by_cases hin:n+k≤cap'
    ·
     have main:∀ (b o o':Nat) (sp:Option Nat) (e:Ent),ι b=some e→base=some ⟨b,o,sp⟩→base'=some ⟨e.c,o',none⟩→(sp=none∧o'=o+e.sh∨sp=some 1∧n=0)→o'+cap'*e.esz=e.tot→e.tot≤o'+(n+k)*e.esz+e.slack*e.esz→e.opn=true →
       SV P ι w (.ok (.slice (some ⟨h.next,0,none⟩) (n+k) (n+k)) ((h.leave base).alloc (.cells (old++new) elem 0 true))) (appTail ats elem base' n cap' (P.cellsOf elem) k zeros (.slice base' n cap') x appended):=by
      intro b o o' sp e he hbase hbase' hsp htot hsl hopn
      subst hbase; subst hbase'
      obtain⟨c,hg⟩ : ∃ c,h.get b=some (.cells c elem 0 true):=by
       rcases appOk_spec hb6 with q|⟨c,el,f,q,_⟩
       ·exact q
       ·have:=(opn_of s he q).1
        rw[hopn] at this; cases this
      obtain⟨e',he',hbr⟩:=s.blk b _ hg rfl
      rw[he] at he'; cases he'
      obtain⟨arr,lo,hi,h1,h2,h3,h4,h5,h6,h7,h8⟩:=hbr
      have hes:=h6 rfl
      have hfz:=h7.1 rfl
      have hll:=hnew.length
      rw[hes] at htot
      have hcap:(n+k)*P.cellsOf elem≤cap'*P.cellsOf elem:=Nat.mul_le_mul_right _ hin
      have hnk:(n+k)*P.cellsOf elem=n*P.cellsOf elem+k*P.cellsOf elem:=Nat.add_mul _ _ _
      obtain⟨w',k1,k2,k3,k4,k5⟩:=rStoreCells (P:=P) e.c (o'+n*P.cellsOf elem) elem lo hi new' 0 arr w h1 (by omega) (.inl hfz) (by rw[hnew.ones]; exact hb5)
      have hleave:h.leave (some ⟨b,o,sp⟩)=h.put b .dead:=by
       unfold H.leave
       rcases hsp with ⟨rfl,_⟩|⟨rfl,_⟩<;>simp only[hg]
      have s2:Sim P ι (h.put b .dead) w:=s.kill (H.get_lt hg)
      have hold':RL ι old ((arr.drop o').take (n*P.cellsOf elem)):=by
       rcases hsp with ⟨rfl,ho⟩|⟨rfl,hn0⟩
       ·have hrow:h.row ⟨b,o,none⟩ (n*P.cellsOf elem)=some old:=hold
        unfold H.row at hrow
        simp only[hg] at hrow
        cases hbb:Nat.ble (o+n*P.cellsOf elem) c.length with
        |false=>rw[hbb] at hrow; cases hrow
        |true=>
         rw[hbb] at hrow
         simp only[cond_true,Option.some.injEq] at hrow
         have hle:=Nat.le_of_ble_eq_true hbb
         subst hrow
         have e1:(((arr.drop e.sh).take c.length).drop o).take (n*P.cellsOf elem)=(arr.drop o').take (n*P.cellsOf elem):=by
          rw[ho,List.drop_take,List.take_take,List.drop_drop,Nat.min_eq_left (by omega),Nat.add_comm e.sh o]
         rw[← e1]
         exact (h4.drop o).take _
       ·subst hn0
        have:old=[]:=List.length_eq_zero_iff.1 (by rw[hol,Nat.zero_mul])
        subst this
        simp only[Nat.zero_mul,List.take_zero]
        exact .nil
      obtain⟨q1,q2⟩:=s2.adopt (.cells (old++new) elem 0 true) _ ⟨e.c,o',cap' - (n+k),e.tot,e.esz,true⟩ he rfl (fun _=>hopn) (by
        intro b' y e' hy hl he' hce
        rw[H.get_put _ _ _ _ (H.get_lt hg)] at hy
        split at hy
        ·cases hy; cases hl
        ·rename_i hbe
         exact hbe (s.inj _ _ _ _ _ _ hy hg hl rfl he' he hce)) k2 k3 k4 k5 (by
        intro ι' hx hat
        refine⟨_,lo,hi,hat,?_,?_,?_,fun q=>(by cases q),fun _=>hes,⟨fun _=>hfz,fun q=>(by cases q)⟩,rfl,fun _=>?_⟩
        ·simp; omega
        ·simp only[List.length_append,hol,hlen,hes]
         rw[← htot,Nat.sub_mul]
         omega
        ·have hlol:(old++new).length=(n+k)*P.cellsOf elem:=by rw[List.length_append,hol,hlen,hnk]
         have e1:((arr.take (o'+n*P.cellsOf elem+0)++(new'++arr.drop (o'+n*P.cellsOf elem+0+new'.length))).drop o').take ((old++new).length)=(arr.drop o').take (n*P.cellsOf elem)++new':=by
          rw[hlol]
          apply List.ext_getElem?
          intro j
          simp only[List.getElem?_take,List.getElem?_drop,List.getElem?_append,List.length_take,List.length_drop]
          repeat' split
          all_goals first
           |rfl
           |(exfalso; omega)
           |(congr 1; omega)
           |(symm; apply List.getElem?_eq_none; omega)
           |(apply List.getElem?_eq_none; omega)
         rw[e1]
         exact (hold'.mono hx).append (hnew.mono hx)
        ·have hlol:(old++new).length=(n+k)*P.cellsOf elem:=by rw[List.length_append,hol,hlen,hnk]
         show ones ((arr.take (o'+n*P.cellsOf elem+0)++(new'++arr.drop (o'+n*P.cellsOf elem+0+new'.length))).drop (o'+(old++new).length))=true
         rw[hes] at hsl h3
         rw[hlol,drop_written (by omega) (by omega)]
         have hge:e.sh+c.length≤o'+(n+k)*P.cellsOf elem:=by omega
         rw[show o'+(n+k)*P.cellsOf elem=e.sh+c.length+(o'+(n+k)*P.cellsOf elem - (e.sh+c.length)) by omega,← List.drop_drop]
         exact ones_drop (h8.2 rfl) _) (by
        rw[h1]
        simp only[Kx.shp,Option.bind_some,List.size_toArray,Option.some.injEq,Prod.mk.injEq,and_true]
        simp; omega)
      rw[hleave]
      have hnx:(h.put b .dead).next=h.next:=rfl
      rw[hnx] at q1 q2
      have hval:R (ι.add h.next ⟨e.c,o',cap' - (n+k),e.tot,e.esz,true⟩) (.slice (some ⟨h.next,0,none⟩) (n+k) (n+k)) (.slice (some ⟨e.c,0+o',none⟩) (n+k) (n+k+(cap' - (n+k)))):=
       .slcO (Io.add_self _ _ _) (fun _=>by
        simp only
        rw[hes,← htot]
        have:n+k+(cap' - (n+k))=cap':=by omega
        rw[this]
        omega)
      refine⟨_,w',?_,_,q2,q1,hval⟩
      simp only[appTail]
      rw[if_pos hin]
      simp only[Sem.run_bind,happ,Result.andThen_ok,add_of,k1]
      rw[show n+k+(cap' - (n+k))=cap' by omega,Nat.zero_add]
      rfl
     cases hs with
     |slc0=>omega
     |slcX he=>omega
     |@slcO b o _ _ e he hc=>
      have hop:e.opn=true:=by
       rcases appOk_spec hb6 with ⟨c,q⟩|⟨c,el,f,q,_⟩
       ·exact (opn_of s he q).1
       ·have:=(opn_of s he q).2 rfl
        omega
      exact main b o (o+e.sh) none e he rfl rfl (.inl ⟨rfl,rfl⟩) (hc hop) (by rw[← hc hop,Nat.add_mul]; have:=Nat.mul_le_mul_right e.esz (show cap≤n+k by omega); omega) hop
     |@slcE b o o' _ e he h'=>
      rcases h' with h'|h'
      ·have hop:e.opn=true:=by
        rcases appOk_spec hb6 with ⟨c,q⟩|⟨c,el,f,q,q'⟩
        ·exact (opn_of s he q).1
        ·exact absurd rfl q'
       exact main b o o' (some 1) e he rfl rfl (.inr ⟨rfl,rfl⟩) h'.1 (by have:=h'.2; omega) hop
      ·omega
     |slcN=>omega
     |slcM=>omega
    ·
     obtain⟨newCap,hcap,hrun⟩ : ∃ c,n+k≤c∧(choose (.appendCap (n+k) cap' elem)).run P w = .ok c { w with drawn:=w.drawn+1 }:=by
      refine⟨_,?_,by rw[run_choose]; rfl⟩
      simp only[Question.cut]
      omega
     have s1:=(s.leave base).drawn (w.drawn+1)
     obtain⟨hol',old',ho1,ho2⟩:=firstC_ok s hs (k:=n) rfl (Nat.le_refl _) hold
     have hrl:(repeatL z.cells.toList (newCap - (n+k))).length=(newCap - (n+k))*P.cellsOf elem:=by
      have:=repeat_range z.cells.toList (newCap - (n+k))
      rw[← this]
      simp[hzs]
     have hnk:(n+k)*P.cellsOf elem=n*P.cellsOf elem+k*P.cellsOf elem:=Nat.add_mul _ _ _
     have hl1:=ho1.length
     have hl2:=hnew.length
     obtain⟨q1,q2⟩:=s1.alloc (.cells (old++new) elem 0 true) (.cells ⟨old'++new'++repeatL z.cells.toList (newCap - (n+k))⟩ elem (0,0)) ⟨w.heap.size,0,newCap - (n+k),(old'++new'++repeatL z.cells.toList (newCap - (n+k))).length,P.cellsOf elem,true⟩ rfl (by
       intro ι' w' hx _ hat
       refine⟨_,0,0,hat,rfl,?_,?_,fun q=>(by cases q),fun _=>rfl,⟨fun _=>Nat.le_refl _,fun q=>(by cases q)⟩,rfl,fun _=>?_⟩
       ·simp only[List.length_append,hrl]; omega
       ·have:((old'++new'++repeatL z.cells.toList (newCap - (n+k))).drop 0).take (old++new).length=old'++new':=by
         rw[List.drop_zero,List.take_left' (by simp; omega)]
        rw[this]
        exact (ho1.mono hx).append (hnew.mono hx)
       ·have:(old'++new'++repeatL z.cells.toList (newCap - (n+k))).drop (0+(old++new).length)=repeatL z.cells.toList (newCap - (n+k)):=by
         rw[List.drop_left' (by simp; omega)]
        rw[this]
        exact ones_repeat hzo _)
     rw[hnextn] at q1 q2
     have hval:R (ι.add h.next ⟨w.heap.size,0,newCap - (n+k),(old'++new'++repeatL z.cells.toList (newCap - (n+k))).length,P.cellsOf elem,true⟩) (.slice (some ⟨h.next,0,none⟩) (n+k) (n+k)) (.slice (some ⟨w.heap.size,0+0,none⟩) (n+k) (n+k+(newCap - (n+k)))):=
      .slcO (Io.add_self _ _ _) (fun _=>by
       simp only[List.length_append,hrl]
       rw[Nat.add_mul,hnk]
       omega)
     refine⟨_,_,?_,_,(Step.drawn ι w (w.drawn+1)).trans q2,q1,hval⟩
     obtain⟨i,hi,hz',_⟩:=zeroOf_spec hz
     have hby:bytesOf P elem=i.bytes:=by unfold bytesOf; rw[hi]; rfl
     rw[hby] at hb1 hb3
     simp only[appTail]
     rw[if_neg hin]
     have c1:¬ ((n+k:Nat):Int) > IntKind.i64.max:=by
      have:IntKind.i64.max=9223372036854775807:=by decide +kernel
      rw[this]; omega
     have c2:¬ Builtin.nextslicecap (n+k) cap'*i.bytes > 2 ^ 48:=by
      have h1:=Nat.mul_le_mul_right i.bytes (next_le (n+k) cap' (by omega))
      have h2:(2*(n+k)+192)*i.bytes=2*((n+k)*i.bytes)+192*i.bytes:=by rw[Nat.add_mul,Nat.mul_assoc]
      have h3:(2:Nat) ^ 48=281474976710656:=by decide +kernel
      rw[h3]
      omega
     simp only[Sem.run_bind,rTypeInfo hi,Result.andThen_ok,c1,false_and,if_false,Sem.run_pure,c2,hrun,run_askRoom,ho2,happ',rZero hz,zeros_cells,newRow,run_newObj]
     rw[show n+k+(newCap - (n+k))=newCap by omega]
     simp
theorem firstD_ok {P:Program} {ι:Io} {h:H} {w:World} (s:Sim P ι h w) {size n k:Nat} {x x':Value} (hx:R ι x x') (hk:lenV x=some k) (hn:n≤k) {l:List Value} (hf:firstD h size n x=some l) :
  l.length=n*size∧∃ l',RL ι l l'∧∀ m,(Builtin.firstCells size n x').run P { w with drawn:=m } = .ok ⟨l'⟩ { w with drawn:=m }:=by
 unfold firstD at hf
 cases hb:Nat.beq n 0 with
 |false=>rw[hb] at hf; exact firstC_ok s hx hk hn hf
 |true=>
  have:=Nat.eq_of_beq_eq_true hb
  subst this
  rw[hb,hk] at hf
  simp only[cond_true,Option.some.injEq] at hf
  subst hf
  refine⟨by simp,[],.nil,fun m=>?_⟩
  cases hx<;>first
   |(simp[lenV] at hk; done)
   |(simp only[Builtin.firstCells,Nat.zero_mul]; rfl)
   |(simp[Builtin.firstCells]; done)
   |(cases hk; done)
theorem xappend_ok {P:Program} {ι:Io} {h:H} {w:World} (s:Sim P ι h w) (t xt ty:TypeId) {sv sv' x x':Value} (hs:R ι sv sv') (hx:R ι x x') :
  SV P ι w (xappend P t xt sv x h) (Builtin.append_ ⟨[t,xt]⟩ ty ⟨[sv',x']⟩):=by
 unfold xappend
 split
 ·rename_i e base n cap he
  cases hsz:szOk P e with
  |false=>trivial
  |true=>
   simp only[cond_true]
   have hu:=elemOf_under he
   obtain⟨base',cap',rfl⟩ : ∃ base' cap',sv' = .slice base' n cap':=by cases hs<;>exact⟨_,_,rfl⟩
   have h0:(⟨[t,xt]⟩ : Array TypeId)[0]? = some t:=rfl
   have h0':(⟨[t,xt]⟩ : Array TypeId)[1]? = some xt:=rfl
   have h1:(⟨[.slice base' n cap',x']⟩ : Array Value)[0]? = some (.slice base' n cap'):=rfl
   have h2:(⟨[.slice base' n cap',x']⟩ : Array Value)[1]? = some x':=rfl
   split
   ·rename_i hi
    have hxt:∃ k,P.underlying xt=some (.int k):=by
     unfold isIntT at hi
     split at hi
     ·rename_i k q; exact⟨k,q⟩
     ·cases hi
     ·cases hi
    obtain⟨ik,hxt⟩:=hxt
    split
    ·rename_i k z hz
     cases hx
     cases hb:(Nat.ble k 9223372036854775807&&Nat.beq z.cells.size (P.cellsOf e)&&Nat.ble (k*bytesOf P e) 140737488355328) with
     |false=>trivial
     |true=>
      simp only[Bool.and_eq_true] at hb
      have b1:=Nat.le_of_ble_eq_true hb.1.1
      have b2:=Nat.eq_of_beq_eq_true hb.1.2
      have b3:=Nat.le_of_ble_eq_true hb.2
      simp only[cond_true]
      have hlen:(repeatL z.cells.toList k).length=k*P.cellsOf e:=by
       rw[← repeat_range z.cells.toList k]
       simp[b2]
      obtain⟨i,hi',hz',_⟩:=zeroOf_spec hz
      have hby:bytesOf P e=i.bytes:=by unfold bytesOf; rw[hi']; rfl
      rw[hby] at b3
      have happ:∀ m,(if k*P.cellsOf e=0 then pure #[] else do pure (Builtin.zeroCells (← zeroValue e).cells k):Sem (Array Value)).run P { w with drawn:=m } = .ok ⟨repeatL z.cells.toList k⟩ { w with drawn:=m }:=by
       intro m
       split
       ·rename_i hk0
        rw[hk0] at hlen
        rw[List.length_eq_zero_iff.1 hlen]
        rfl
       ·simp only[Sem.run_bind,rZero hz,Result.andThen_ok,zeros_cells,Sem.run_pure]
      have:=appendC_ok s ⟨[t,xt]⟩ e hs hsz ((zero_R hz ι).cells.repeatL k) hlen true (.int .i64 (k:Int)) _ (happ w.drawn) happ base' cap' rfl
      have wk:IntKind.i64.wrap (k:Int)=k:=IntWalk.i64_in _ (by omega)
      have e48:(2:Int) ^ 48=281474976710656:=by decide +kernel
      have c2:¬ ((k:Int)*(i.bytes:Int) > 2 ^ 48):=by
       rw[e48,← Int.natCast_mul]
       generalize k*i.bytes=q at b3 ⊢
       omega
      have eq:(Builtin.append_ ⟨[t,xt]⟩ ty ⟨[.slice base' n cap',.int .i64 (k:Int)]⟩).run P w=(appTail ⟨[t,xt]⟩ e base' n cap' (P.cellsOf e) k true (.slice base' n cap') (.int .i64 (k:Int)) (if k*P.cellsOf e=0 then pure #[] else do pure (Builtin.zeroCells (← zeroValue e).cells k))).run P w:=by
       unfold Builtin.append_ appTail
       simp only[List.getElem?_toArray,List.getElem?_cons_zero,List.getElem?_cons_succ,Sem.run_bind,rUnder hu,rUnder hxt,Result.andThen_ok,rSizeOf hsz,if_true,asInt,rAsIntOf,Sem.run_pure,wk]
       rw[if_neg (by omega)]
       simp only[Sem.run_bind,rTypeInfo hi',Result.andThen_ok,Sem.run_pure,c2,if_false,Int.toNat_natCast,Bool.not_true,Bool.false_eq_true]
       rfl
      show SV P ι w _ (Builtin.append_ ⟨[t,xt]⟩ ty ⟨[.slice base' n cap',.int .i64 (k:Int)]⟩)
      unfold SV at this ⊢
      rw[eq]
      exact this
    ·trivial
   ·rename_i hi
    have hxt:∃ d,P.underlying xt=some d∧∀ k,d ≠ .int k:=by
     unfold isIntT at hi
     split at hi
     ·cases hi
     ·rename_i d hn q; exact⟨d,q,hn⟩
     ·cases hi
    obtain⟨d,hxt,hnd⟩:=hxt
    split
    ·rename_i k hk
     cases hf:firstD h (P.cellsOf e) k x with
     |none=>trivial
     |some new=>
      simp only
      obtain⟨hlen,new',hn1,hn2⟩:=firstD_ok s hx hk (Nat.le_refl _) hf
      have:=appendC_ok s ⟨[t,xt]⟩ e hs hsz hn1 hlen false x' _ (hn2 w.drawn) hn2 base' cap' rfl
      have hm:(match d with|.int _=>true|_=>false)=false:=by
       cases d<;>first|rfl|(rename_i k; exact absurd rfl (hnd k))
      have eq:(Builtin.append_ ⟨[t,xt]⟩ ty ⟨[.slice base' n cap',x']⟩).run P w=(appTail ⟨[t,xt]⟩ e base' n cap' (P.cellsOf e) k false (.slice base' n cap') x' (Builtin.firstCells (P.cellsOf e) k x')).run P w:=by
       unfold Builtin.append_ appTail
       simp only[List.getElem?_toArray,List.getElem?_cons_zero,List.getElem?_cons_succ,Sem.run_bind,rUnder hu,rUnder hxt,Result.andThen_ok,rSizeOf hsz,Sem.run_pure,hm,Bool.false_eq_true,if_false,rLenOf hx hk,Bool.not_false,if_true]
       rfl
      unfold SV at this ⊢
      rw[eq]
      exact this
    ·trivial
   ·trivial
 ·trivial
theorem xcopy_ok {P:Program} {ι:Io} {h:H} {w:World} (s:Sim P ι h w) (t:TypeId) (ts:List TypeId) (ty:TypeId) {dv dv' x x':Value} (hd:R ι dv dv') (hx:R ι x x') :
  SV P ι w (xcopy P t dv x h) (Builtin.copy_ ⟨t::ts⟩ ty ⟨[dv',x']⟩):=by
 unfold xcopy
 split
 ·rename_i e base n cap k he hk
  have hu:=elemOf_under he
  cases hsz:szOk P e with
  |false=>trivial
  |true=>
   simp only[cond_true]
   cases hf:firstD h (P.cellsOf e) (Nat.min k n) x with
   |none=>trivial
   |some l=>
    simp only
    obtain⟨hlen,l',hl1,hl2⟩:=firstD_ok s hx hk (Nat.min_le_left _ _) hf
    have hl2:=hl2 w.drawn
    obtain⟨base',cap',rfl⟩ : ∃ base' cap',dv' = .slice base' n cap':=by cases hd<;>exact⟨_,_,rfl⟩
    have pre:∀ (r:Result Value),(Sem.run P (do
       if let some a:=base' then storeCells a l'
       pure (goInt (Nat.min k n))) w)=r→(Builtin.copy_ ⟨t::ts⟩ ty ⟨[.slice base' n cap',x']⟩).run P w=r:=by
     intro r hr
     rw[← hr]
     unfold Builtin.copy_
     simp only[List.getElem?_toArray,List.getElem?_cons_zero,List.getElem?_cons_succ,Sem.run_bind,rUnder hu,Result.andThen_ok,rLenOf hx hk,rSizeOf hsz]
     rw[hl2]
     rfl
    split
    ·cases hd
     refine SV.flat s (pre _ ?_) rfl
     rfl
    ·rename_i a
     cases hz:Nat.beq (Nat.min k n) 0 with
     |true=>
      have hz':min k n=0:=Nat.eq_of_beq_eq_true hz
      rw[hz',Nat.zero_mul] at hlen
      have:l=[]:=List.length_eq_zero_iff.1 hlen
      subst this
      cases hl1
      refine SV.flat s (pre _ ?_) rfl
      cases base'<;>rfl
     |false=>
      simp only[cond_false]
      have hnz:Nat.min k n≠0:=fun q=>by rw[beqT q] at hz; cases hz
      cases hw:h.write { a with spot:=none } l with
      |none=>trivial
      |some h'=>
       have fin:∀ (b o:Nat) (e':Ent),ι b=some e'→a=⟨b,o,a.spot⟩→base'=some ⟨e'.c,o+e'.sh,none⟩→SV P ι w (.ok (goInt (Nat.min k n)) h') (Builtin.copy_ ⟨t::ts⟩ ty ⟨[.slice base' n cap',x']⟩):=by
        intro b o e' he' ha hb'
        subst hb'
        have hw':h.write ⟨b,o,none⟩ l=some h':=by rw[ha] at hw; exact hw
        obtain⟨w',g1,g2,g3⟩:=s.write he' hl1 hw'
        refine⟨_,w',pre _ ?_,ι,g2,g3,.int _ _⟩
        simp only[Sem.run_bind,g1,Result.andThen_ok]
        rfl
       cases hd with
       |slcO he' hc=>exact fin _ _ _ he' rfl rfl
       |slcX he'=>exact fin _ _ _ he' rfl rfl
       |slcE he' h'=>exact absurd (Nat.min_zero _) hnz
       |slcN=>exact absurd (Nat.min_zero _) hnz
       |slcM=>exact absurd (Nat.min_zero _) hnz
 ·trivial
theorem xclear_ok {P:Program} {ι:Io} {h:H} {w:World} (s:Sim P ι h w) (t:TypeId) (ts:List TypeId) (ty:TypeId) {x x':Value} (xs:List Value) (hx:R ι x x') :
  SV P ι w (xclear P t x h) (Builtin.clear_ ⟨t::ts⟩ ty ⟨x'::xs⟩):=by
 have pre:∀ (d:TypeDesc),P.underlying t=some d→(x' = .map none∨(∃ n c,x' = .slice none n c)∨(∃ b c,x' = .slice b 0 c))→(Builtin.clear_ ⟨t::ts⟩ ty ⟨x'::xs⟩).run P w = .ok undef w:=by
  intro d hd hr
  unfold Builtin.clear_
  rcases hr with rfl|⟨n,c,rfl⟩|⟨b,c,rfl⟩
  ·simp only[List.getElem?_toArray,List.getElem?_cons_zero,Sem.run_bind,rUnder hd,Result.andThen_ok]
   rfl
  ·simp only[List.getElem?_toArray,List.getElem?_cons_zero,Sem.run_bind,rUnder hd,Result.andThen_ok]
   rfl
  ·simp only[List.getElem?_toArray,List.getElem?_cons_zero,Sem.run_bind,rUnder hd,Result.andThen_ok]
   cases b<;>rfl
 unfold xclear
 split
 ·rename_i d hd
  cases hx
  exact SV.same s (pre _ hd (.inl rfl)) (.tuple .nil)
 ·rename_i d n c hd
  cases hx
  exact SV.same s (pre _ hd (.inr (.inl ⟨_,_,rfl⟩))) (.tuple .nil)
 ·rename_i d b c hd
  cases hx<;>exact SV.same s (pre _ hd (.inr (.inr ⟨_,_,rfl⟩))) (.tuple .nil)
 ·rename_i e a n c hne hd
  split
  ·rename_i z hz
   split
   ·rename_i h' hw
    obtain⟨zz,hzz⟩ : ∃ zz,zeroOf P e=some zz:=⟨_,hz⟩
    have fin:∀ (b o:Nat) (en:Ent) (c':Nat),ι b=some en→a=⟨b,o,a.spot⟩→x' = .slice (some ⟨en.c,o+en.sh,none⟩) n c'→SV P ι w (.ok undef h') (Builtin.clear_ ⟨t::ts⟩ ty ⟨x'::xs⟩):=by
     intro b o en c' he ha hx'
     subst hx'
     have hw':h.write ⟨b,o,none⟩ (repeatL z.cells.toList n)=some h':=by rw[ha] at hw; exact hw
     obtain⟨w',g1,g2,g3⟩:=s.write he (RL.repeatL (zero_R hz ι).cells n) hw'
     refine⟨_,w',?_,ι,g2,g3,.tuple .nil⟩
     unfold Builtin.clear_
     obtain⟨m,rfl⟩ : ∃ m,n=m+1:=⟨n - 1,by have:n≠0:=hne; omega⟩
     simp only[List.getElem?_toArray,List.getElem?_cons_zero,Sem.run_bind,rUnder hd,Result.andThen_ok,rZero hz,zeros_cells,g1]
     rfl
    cases hx with
    |slcO he hc=>exact fin _ _ _ _ he rfl rfl
    |slcX he=>exact fin _ _ _ _ he rfl rfl
    |slcE he h''=>exact (hne rfl).elim
    |slcN=>exact (hne rfl).elim
    |slcM=>exact (hne rfl).elim
   ·trivial
  ·trivial
 ·trivial
end Go.Kx
