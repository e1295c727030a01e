/- My texts for this claim, in one file: part 4. -/
import Derived.Test.YtbfgadekkemlcaaGreatDoorV3
set_option linter.unusedVariables false
set_option linter.unusedSimpArgs false
namespace Go.Kx
open Go
def Post (P:Program) (ι:Io) (w:World) (v:Value) (h':H) (v':Value) (w':World):Prop:=∃ ι',Step ι w ι' w'∧Sim P ι' h' w'∧R ι' v v'
def SV (P:Program) (ι:Io) (w:World) (r:Res Value) (s:Sem Value):Prop:=
 match r with
 |.ok v h'=>∃ v' w',s.run P w = .ok v' w'∧Post P ι w v h' v' w'
 |.pan v h'=>∃ v' w',s.run P w = .halt (.panic v') w'∧Post P ι w v h' v' w'
 |.bad=>True
def SU (P:Program) (ι:Io) (w:World) (r:Res Value) (s:Sem Unit):Prop:=
 match r with
 |.ok v h'=>v=undef∧∃ w',s.run P w = .ok () w'∧∃ ι',Step ι w ι' w'∧Sim P ι' h' w'
 |.pan _ _=>False
 |.bad=>True
theorem SV.same {P:Program} {ι:Io} {h:H} {w:World} {v v':Value} {s:Sem Value} (hs:Sim P ι h w) (hr:s.run P w = .ok v' w) (hv:R ι v v'):SV P ι w (.ok v h) s:=
 ⟨v',w,hr,ι,Step.refl _ _,hs,hv⟩
def SVU (P:Program) (ι:Io) (h:H) (r:Res Value) (s:Sem Value):Prop:=
 match r with
 |.ok v h'=>h'=h∧∃ v',R ι v v'∧∀ w,s.run P w = .ok v' w
 |.pan _ _=>False
 |.bad=>True
theorem SVU.same {P:Program} {ι:Io} {h:H} {v v':Value} {s:Sem Value} (hr:∀ w,s.run P w = .ok v' w) (hv:R ι v v'):SVU P ι h (.ok v h) s:=⟨rfl,v',hv,hr⟩
theorem SVU.flat {P:Program} {ι:Io} {h:H} {v:Value} {s:Sem Value} (hr:∀ w,s.run P w = .ok v w) (f:Kx.flat v=true):SVU P ι h (.ok v h) s:=⟨rfl,v,R.ofFlat ι v f,hr⟩
theorem SVU.sv {P:Program} {ι:Io} {h:H} {w:World} {r:Res Value} {s:Sem Value} (hs:Sim P ι h w) (q:SVU P ι h r s):SV P ι w r s:=by
 unfold SVU at q
 split at q
 ·obtain⟨rfl,v',h1,h2⟩:=q; exact SV.same hs (h2 w) h1
 ·exact q.elim
 ·trivial
theorem SV.flat {P:Program} {ι:Io} {h:H} {w:World} {s:Sem Value} {v:Value} (hs:Sim P ι h w) (hr:s.run P w = .ok v w) (f:flat v=true):SV P ι w (.ok v h) s:=
 SV.same hs hr (R.ofFlat ι v f)
theorem rTypeInfo {P:Program} {t:TypeId} {i:TypeInfo} (h:P.info? t=some i) (w:World):(typeInfo t).run P w = .ok i w:=by
 simp[typeInfo,h]
theorem szOk_info {P:Program} {t:TypeId} (h:szOk P t=true):∃ i,P.info? t=some i:=Option.isSome_iff_exists.1 h
theorem cellsOf_info {P:Program} {t:TypeId} {i:TypeInfo} (h:P.info? t=some i):P.cellsOf t=i.size:=by
 unfold Program.cellsOf; rw[h]; rfl
theorem rSizeOf {P:Program} {t:TypeId} (h:szOk P t=true) (w:World):(sizeOf t).run P w = .ok (P.cellsOf t) w:=by
 obtain⟨i,hi⟩:=szOk_info h
 unfold sizeOf
 rw[Sem.run_bind,rTypeInfo hi]
 simp[cellsOf_info hi]
theorem rUnder {P:Program} {t:TypeId} {d:TypeDesc} (h:P.underlying t=some d) (w:World):(underlying t).run P w = .ok d w:=by
 simp[underlying,h]
theorem info_under {P:Program} {t:TypeId} {d:TypeDesc} (h:P.underlying t=some d):szOk P t=true:=by
 unfold szOk
 unfold Program.underlying at h
 cases hi:P.info? t with
 |some i=>rfl
 |none=>rw[hi] at h; cases h
theorem rIsAgg {P:Program} {t:TypeId} {b:Bool} (h:aggT P t=some b) (w:World):(isAgg t).run P w = .ok b w:=by
 unfold aggT at h
 unfold isAgg
 cases hu:P.underlying t with
 |none=>rw[hu] at h; cases h
 |some d=>
  rw[hu] at h
  rw[Sem.run_bind,rUnder hu]
  cases d<;>simp at h<;>subst h<;>rfl
theorem agg_sz {P:Program} {t:TypeId} {b:Bool} (h:aggT P t=some b):szOk P t=true:=by
 unfold aggT at h
 cases hu:P.underlying t with
 |none=>rw[hu] at h; cases h
 |some d=>exact info_under hu
theorem zeroOf_spec {P:Program} {t:TypeId} {z:Value} (h:zeroOf P t=some z):∃ i,P.info? t=some i∧i.zero=some z∧flat z=true:=by
 unfold zeroOf at h
 cases hi:P.info? t with
 |none=>rw[hi] at h; cases h
 |some i=>
  rw[hi] at h
  simp only[Option.bind_some] at h
  cases hz:i.zero with
  |none=>rw[hz] at h; cases h
  |some z'=>
   rw[hz] at h
   simp only at h
   cases hf:flat z' with
   |false=>rw[hf] at h; cases h
   |true=>rw[hf] at h; simp only[cond_true,Option.some.injEq] at h; subst h; exact⟨i,rfl,hz,hf⟩
theorem rZero {P:Program} {t:TypeId} {z:Value} (h:zeroOf P t=some z) (w:World):(zeroValue t).run P w = .ok z w:=by
 obtain⟨i,h1,h2,_⟩:=zeroOf_spec h
 unfold zeroValue
 rw[Sem.run_bind,rTypeInfo h1]
 simp[h2]
theorem zero_sz {P:Program} {t:TypeId} {z:Value} (h:zeroOf P t=some z):szOk P t=true:=by
 obtain⟨i,h1,_,_⟩:=zeroOf_spec h
 unfold szOk; rw[h1]; rfl
theorem zero_R {P:Program} {t:TypeId} {z:Value} (h:zeroOf P t=some z) (ι:Io):R ι z z:=by
 obtain⟨i,_,_,h3⟩:=zeroOf_spec h
 exact R.ofFlat ι z h3
theorem add_of (b o i:Nat):(⟨b,o,none⟩ : Addr).add i=⟨b,o+i,none⟩:=by
 unfold Addr.add
 split
 ·rename_i h; subst h; rfl
 ·rfl
theorem cell_arr {w:World} {c o:Nat} {arr:List Value} {el:TypeId} {lh:Nat × Nat} (h:w.heap[c]? = some (.cells ⟨arr⟩ el lh)):w.cell? ⟨c,o,none⟩=arr[o]?:=by
 unfold World.cell?
 rw[h]
 simp
theorem rLoad {P:Program} {w:World} {a:Addr} {v:Value} (h:w.cell? a=some v):(load a).run P w = .ok v w:=by
 rw[run_load,h]
theorem rLoadCellsFrom {P:Program} {w:World} (c o:Nat):∀ (l:List Value) (i:Nat) (acc:Array Value),(∀ j v,l[j]? = some v→w.cell? ⟨c,o+i+j,none⟩=some v) →
  (loadCellsFrom ⟨c,o,none⟩ i l.length acc).run P w = .ok ⟨acc.toList++l⟩ w
 |[],i,acc,_=>by simp[loadCellsFrom]
 |v::l,i,acc,h=>by
  have h0:=h 0 v rfl
  simp only[List.length_cons,loadCellsFrom,Sem.run_bind,add_of]
  rw[rLoad (by simpa using h0)]
  simp only[Result.andThen_ok]
  rw[rLoadCellsFrom c o l (i+1) (acc.push v) (fun j u e=>by
   have:=h (j+1) u (by simpa using e)
   rw[show o+(i+1)+j=o+i+(j+1) by omega]; exact this)]
  simp
theorem rLoadCells {P:Program} {w:World} (c o:Nat) (l:List Value) (n:Nat) (hn:n=l.length) (h:∀ j v,l[j]? = some v→w.cell? ⟨c,o+j,none⟩=some v) :
  (loadCells ⟨c,o,none⟩ n).run P w = .ok ⟨l⟩ w:=by
 subst hn
 unfold loadCells
 rw[rLoadCellsFrom c o l 0 #[] (fun j v e=>by simpa using h j v e)]
 simp
theorem Sim.row {P:Program} {ι:Io} {h:H} {w:World} (s:Sim P ι h w) {b o n:Nat} {e:Ent} (he:ι b=some e) {l:List Value} (hr:h.row ⟨b,o,none⟩ n=some l) :
  l.length=n∧∃ l',RL ι l l'∧∀ j v,l'[j]? = some v→w.cell? ⟨e.c,o+e.sh+j,none⟩=some v:=by
 unfold H.row at hr
 simp only at hr
 split at hr
 ·rename_i c el f op hg _
  cases hb:Nat.ble (o+n) c.length with
  |false=>rw[hb] at hr; cases hr
  |true=>
   rw[hb] at hr
   simp only[cond_true,Option.some.injEq] at hr
   have hle:o+n≤c.length:=Nat.le_of_ble_eq_true hb
   obtain⟨e',he',hbr⟩:=s.blk b _ hg rfl
   rw[he] at he'; cases he'
   obtain⟨arr,lo,hi,h1,h2,h3,h4,_⟩:=hbr
   subst hr
   refine⟨by simp; omega,_,(h4.drop o).take n,?_⟩
   intro j v hj
   rw[cell_arr h1]
   simp only[List.getElem?_take,List.getElem?_drop] at hj
   split at hj
   ·split at hj
    ·rw[← hj]; congr 1; omega
    ·cases hj
   ·cases hj
 ·cases hr
theorem Sim.cell {P:Program} {ι:Io} {h:H} {w:World} (s:Sim P ι h w) {b o:Nat} {e:Ent} (he:ι b=some e) {v:Value} (hr:h.cell ⟨b,o,none⟩=some v) :
  ∃ v',R ι v v'∧w.cell? ⟨e.c,o+e.sh,none⟩=some v':=by
 unfold H.cell at hr
 simp only at hr
 split at hr
 ·rename_i c el f op hg _
  obtain⟨e',he',hbr⟩:=s.blk b _ hg rfl
  rw[he] at he'; cases he'
  obtain⟨arr,lo,hi,h1,h2,h3,h4,_⟩:=hbr
  obtain⟨v',h5,h6⟩:=h4.get hr
  refine⟨v',h6,?_⟩
  rw[cell_arr h1]
  simp only[List.getElem?_take,List.getElem?_drop] at h5
  split at h5
  ·rw[← h5]; congr 1; omega
  ·cases h5
 ·cases hr
theorem xload_ok {P:Program} {ι:Io} {h:H} {w:World} (s:Sim P ι h w) {t:TypeId} {x x':Value} (hx:R ι x x'):SV P ι w (xload P t x h) (Instr.loadAt t x'):=by
 unfold xload
 split
 ·rename_i a
  cases hx with
  |ptr he=>
   rename_i b o e
   split
   ·rename_i ha
    cases hr:h.row ⟨b,o,none⟩ (P.cellsOf t) with
    |none=>trivial
    |some l=>
     obtain⟨hl,l',h1,h2⟩:=s.row he hr
     refine SV.same s ?_ (.agg h1)
     simp only[Instr.loadAt,Instr.sureAddr,loadVar,Sem.run_bind,Sem.run_pure,Result.andThen_ok,rIsAgg ha,if_true,rSizeOf (agg_sz ha)]
     rw[rLoadCells e.c (o+e.sh) l' (P.cellsOf t) (by rw[← h1.length,hl]) h2]
     rfl
   ·rename_i ha
    cases hr:h.cell ⟨b,o,none⟩ with
    |none=>trivial
    |some v=>
     obtain⟨v',h1,h2⟩:=s.cell he hr
     refine SV.same s ?_ h1
     simp only[Instr.loadAt,Instr.sureAddr,loadVar,Sem.run_bind,Sem.run_pure,Result.andThen_ok,rIsAgg ha,Bool.false_eq_true,if_false]
     rw[rLoad h2]
   ·trivial
 ·trivial
theorem rStoreCells {P:Program} (c o:Nat) (el:TypeId) (lo hi:Nat):∀ (vs:List Value) (i:Nat) (arr:List Value) (w:World),w.heap[c]? = some (.cells ⟨arr⟩ el (lo,hi)) →
  o+i+vs.length≤arr.length→(hi≤lo∨o+i+vs.length≤lo)→ones vs=true →
  ∃ w',(storeCells ⟨c,o,none⟩ vs i).run P w = .ok () w'∧w'.heap=w.heap.setIfInBounds c (.cells ⟨arr.take (o+i)++(vs++arr.drop (o+i+vs.length))⟩ el (lo,hi))∧w'.os=w.os∧w'.tape=w.tape∧w'.output=w.output
 |[],i,arr,w,hw,hle,_,_=>by
  refine⟨w,by simp[storeCells],?_,rfl,rfl,rfl⟩
  simp only[List.nil_append,List.length_nil,Nat.add_zero,List.take_append_drop]
  obtain⟨hc,hg⟩:=Array.getElem?_eq_some_iff.1 hw
  rw[← hg]
  simp[Array.setIfInBounds,hc]
 |v::vs,i,arr,w,hw,hle,hf,ho=>by
  simp only[List.length_cons] at hle hf
  simp only[ones,Bool.and_eq_true] at ho
  have hcell:w.cell? ⟨c,o+i,none⟩=some (arr[o+i]'(by omega)):=by rw[cell_arr hw]; exact List.getElem?_eq_getElem _
  have hfr:w.frozen? ⟨c,o+i,none⟩=false:=by
   unfold World.frozen?
   rw[hw]
   simp
   omega
  have hst:(store ⟨c,o+i,none⟩ v).run P w = .ok () (w.setCell ⟨c,o+i,none⟩ v):=by
   rw[run_store _ _ _ _ _ ho.1,hcell]
   simp[hfr]
  have hw':(w.setCell ⟨c,o+i,none⟩ v).heap[c]? = some (.cells ⟨arr.set (o+i) v⟩ el (lo,hi)):=by
   simp only[World.setCell,Array.getElem?_modify,if_true,hw,Option.map_some]
   simp
  obtain⟨w',h1,h2,h3,h4,h5⟩:=rStoreCells c o el lo hi vs (i+1) (arr.set (o+i) v) _ hw' (by simp; omega) (by omega) ho.2
  refine⟨w',?_,?_,h3,h4,h5⟩
  ·simp only[storeCells,Sem.run_bind,add_of,hst,Result.andThen_ok]
   exact h1
  ·rw[h2]
   have hc:c<w.heap.size:=by
    rcases Nat.lt_or_ge c w.heap.size with h|h
    ·exact h
    ·rw[Array.getElem?_eq_none h] at hw; cases hw
   have hmod:(w.setCell ⟨c,o+i,none⟩ v).heap=w.heap.setIfInBounds c (.cells ⟨arr.set (o+i) v⟩ el (lo,hi)):=by
    apply Array.ext_getElem?
    intro j
    by_cases hj:j=c
    ·subst hj; rw[hw',Array.getElem?_setIfInBounds_self_of_lt hc]
    ·simp only[World.setCell,Array.getElem?_modify]
     rw[if_neg (fun h=>hj h.symm),Array.getElem?_setIfInBounds_ne (fun h=>hj h.symm)]
   rw[hmod,Array.setIfInBounds_setIfInBounds]
   congr 2
   have hlen:o+i<arr.length:=by omega
   have e1:(arr.set (o+i) v).take (o+(i+1))=arr.take (o+i)++[v]:=by
    rw[show o+(i+1)=(o+i)+1 by omega,List.take_add_one,List.take_set_of_le (by omega),List.getElem?_set_self hlen]
    rfl
   have e2:(arr.set (o+i) v).drop (o+(i+1)+vs.length)=arr.drop (o+i+(vs.length+1)):=by
    rw[List.drop_set_of_lt (by omega)]
    congr 1
    omega
   rw[e1,e2]
   simp
theorem Sim.write {P:Program} {ι:Io} {h h':H} {w:World} (s:Sim P ι h w) {b o:Nat} {e:Ent} (he:ι b=some e) {l l':List Value} (hl:RL ι l l') (hr:h.write ⟨b,o,none⟩ l=some h') :
  ∃ w',(storeCells ⟨e.c,o+e.sh,none⟩ l').run P w = .ok () w'∧Step ι w ι w'∧Sim P ι h' w':=by
 unfold H.write at hr
 simp only at hr
 split at hr
 ·rename_i c el f op hg _
  cases hb:(Nat.ble (o+l.length) c.length&&Nat.ble f 1&&ones l) with
  |false=>rw[hb] at hr; cases hr
  |true=>
   rw[hb] at hr
   simp only[cond_true,Option.some.injEq] at hr
   simp only[Bool.and_eq_true] at hb
   have hle:o+l.length≤c.length:=Nat.le_of_ble_eq_true hb.1.1
   have hf3:f≤1:=Nat.le_of_ble_eq_true hb.1.2
   obtain⟨e',he',hbr⟩:=s.blk b _ hg rfl
   rw[he] at he'; cases he'
   obtain⟨arr,lo,hi,h1,h2,h3,h4,h5,h6,h7,h8⟩:=hbr
   have hll:=hl.length
   ·have hfz:hi≤lo∨o+e.sh+0+l'.length≤lo:=by
     rcases Nat.lt_or_ge 0 f with hp|hp
     ·rcases h7.2 (by omega) with q|q
      ·exact .inl q
      ·exact .inr (by omega)
     ·exact .inl (h7.1 (by omega))
    obtain⟨w',k1,k2,k3,k4,k5⟩:=rStoreCells (P:=P) e.c (o+e.sh) el lo hi l' 0 arr w h1 (by omega) hfz (by rw[hl.ones]; exact hb.2)
    obtain⟨hs',hst⟩:=s.put (x:=.cells (c.take o++(l++c.drop (o+l.length))) el f op) hg rfl he k2 k3 k4 k5 (by
     intro hat
     have htl:(c.take o++(l++c.drop (o+l.length))).length=c.length:=by simp; omega
     refine⟨_,lo,hi,hat,?_,?_,?_,h5,h6,h7,h8.1,fun q=>by rw[htl,drop_written (by omega) (by omega)]; exact h8.2 q⟩
     ·simp; omega
     ·simp; omega
     ·have hsplit:(arr.drop e.sh).take c.length=(((arr.drop e.sh).take c.length).take o)++((((arr.drop e.sh).take c.length).drop o).take l'.length++((arr.drop e.sh).take c.length).drop (o+l'.length)):=by
       rw[← List.drop_drop,List.take_append_drop,List.take_append_drop]
      have goal:((arr.take (o+e.sh+0)++(l'++arr.drop (o+e.sh+0+l'.length))).drop e.sh).take (c.take o++(l++c.drop (o+l.length))).length =
        (((arr.drop e.sh).take c.length).take o)++(l'++((arr.drop e.sh).take c.length).drop (o+l'.length)):=by
       apply List.ext_getElem?
       intro j
       have hcl:(c.take o++(l++c.drop (o+l.length))).length=c.length:=by simp; omega
       rw[hcl]
       simp only[List.getElem?_take,List.getElem?_drop,List.getElem?_append,List.length_take,List.length_drop]
       repeat' split
       all_goals first
        |rfl
        |(exfalso; omega)
        |(congr 1; omega)
        |(symm; apply List.getElem?_eq_none; omega)
        |(apply List.getElem?_eq_none; omega)
      rw[goal]
      exact ((h4.take o).append (hl.append (by rw[← hll]; exact h4.drop _)))) (by
     rw[h1]
     simp only[Kx.shp,Option.bind_some,List.size_toArray,Option.some.injEq,Prod.mk.injEq,and_true]
     simp; omega)
    subst hr
    exact⟨w',k1,hst,hs'⟩
 ·cases hr
end Go.Kx
