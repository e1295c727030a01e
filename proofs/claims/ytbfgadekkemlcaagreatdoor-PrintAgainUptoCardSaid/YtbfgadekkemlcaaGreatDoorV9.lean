/- My texts for this claim, in one file: part 9. -/
import Derived.Test.YtbfgadekkemlcaaGreatDoorV8
set_option linter.unusedVariables false
set_option linter.unusedSimpArgs false
namespace Go.Kx
open Go
theorem rSetObj {P:Program} {w:World} {r:Nat} {es:Array MapEntry} {clock:Nat} (h:w.heap[r]? = some (.map es clock)) (o:Obj):(setObj r o).run P w = .ok () { w with heap:=w.heap.setIfInBounds r o }:=by
 simp only[setObj,Sem.run,h]
theorem sb_eq {P:Program} {t:TypeId} {key k:Value} (hk:keyOk P t k=true) (h:Instr.sameBits 10000 key k=true):key=k:=by
 rcases keyOk_spec hk with ⟨j,a,b,_,rfl⟩|⟨b,_,rfl⟩
 ·cases key with
  |int c d=>
   rw[sb_int] at h
   simp only[Bool.and_eq_true,beq_iff_eq] at h
   rw[h.1,h.2]
  |_=>simp[Instr.sameBits] at h
 ·cases key with
  |string c=>
   rw[sb_string] at h
   have h1:(c.data == b.data)=true:=h
   have h2:c.data=b.data:=by simpa using h1
   have:c=b:=by cases c; cases b; simp_all
   rw[this]
  |_=>simp[Instr.sameBits] at h
theorem RM.modify {ι:Io} {k v v':Value} (hv:R ι v v'):∀ {l l':List MapEntry},RM ι l l'→∀ (i:Nat),(∀ e,l'[i]? = some e→e.key=k) →
  RM ι (l.modify i fun e=>{ e with val:=v }) (l'.modify i fun e=>{ e with key:=k,val:=v' })
 |_,_,.nil,i,_=>by simpa using RM.nil
 |_,_,.cons (k:=key) (n:=n) h hl,0,hk=>by
  have:=hk _ rfl
  simp only at this
  subst this
  simpa using RM.cons hv hl
 |_,_,.cons h hl,i+1,hk=>by
  simpa using RM.cons h (RM.modify hv hl i (fun e he=>hk e (by simpa using he)))
theorem RM.snoc {ι:Io} {k v v':Value} (n:Nat) (hv:R ι v v'):∀ {l l':List MapEntry},RM ι l l'→RM ι (l++[⟨k,v,n⟩]) (l'++[⟨k,v',n⟩])
 |_,_,.nil=>.cons hv .nil
 |_,_,.cons h hl=>.cons h (RM.snoc n hv hl)
theorem RM.findIdx {ι:Io} (q:Nat→Bool):∀ {l l':List MapEntry},RM ι l l'→l'.findIdx? (fun e=>q e.born)=l.findIdx? (fun e=>q e.born)
 |_,_,.nil=>rfl
 |_,_,.cons h hl=>by simp only[List.findIdx?_cons,RM.findIdx q hl]
theorem RM.get {ι:Io}:∀ {l l':List MapEntry},RM ι l l'→∀ {i:Nat} {e:MapEntry},l[i]? = some e→∃ e',l'[i]? = some e'∧e'.key=e.key∧e'.born=e.born∧R ι e.val e'.val
 |_,_,.nil,i,e,h=>by simp at h
 |_,_,.cons h hl,0,e,he=>by simp at he; subst he; exact⟨_,rfl,rfl,rfl,h⟩
 |_,_,.cons h hl,i+1,e,he=>by simpa using RM.get hl (by simpa using he)
theorem RM.modify' {ι:Io} {v v':Value} (hv:R ι v v'):∀ {l l':List MapEntry},RM ι l l'→∀ (i:Nat),RM ι (l.modify i fun e=>{ e with val:=v }) (l'.modify i fun e=>{ e with val:=v' })
 |_,_,.nil,i=>by simpa using RM.nil
 |_,_,.cons (k:=key) (n:=n) h hl,0=>by simpa using RM.cons hv hl
 |_,_,.cons h hl,i+1=>by simpa using RM.cons h (RM.modify' hv hl i)
theorem RM.erase {ι:Io}:∀ {l l':List MapEntry},RM ι l l'→∀ (i:Nat),RM ι (l.eraseIdx i) (l'.eraseIdx i)
 |_,_,.nil,i=>by simpa using RM.nil
 |_,_,.cons h hl,0=>by simpa using hl
 |_,_,.cons h hl,i+1=>by simpa using RM.cons h (RM.erase hl i)
theorem Sim.putMap {P:Program} {ι:Io} {h:H} {w:World} (s:Sim P ι h w) {b clock clock':Nat} {e:Ent} {es es₁ es₁':List MapEntry} (he:ι b=some e) (hg:h.get b=some (.map es clock)) (hm:RM ι es₁ es₁') :
  Sim P ι (h.put b (.map es₁ clock')) { w with heap:=w.heap.setIfInBounds e.c (.map ⟨es₁'⟩ clock') }∧Step ι w ι { w with heap:=w.heap.setIfInBounds e.c (.map ⟨es₁'⟩ clock') }:=
 s.put hg rfl he rfl rfl rfl rfl (fun hat=>⟨es₁',hat,hm⟩) (by
  obtain⟨e',he',es',h1,_⟩:=s.blk b _ hg rfl
  rw[he] at he'; cases he'
  rw[h1]; rfl)
theorem xmapUpdate_ok {P:Program} {ι:Io} {h:H} {w:World} (s:Sim P ι h w) (t:TypeId) {x x' k k' v v':Value} (hx:R ι x x') (hk:R ι k k') (hv:R ι v v'):SU P ι w (xmapUpdate P t x k v h) (Instr.mapUpdate t x' k' v'):=by
 unfold xmapUpdate
 split
 ·rename_i kt el r hu
  cases hko:keyOk P kt k with
  |false=>trivial
  |true=>
   have:=hk.flatEq (keyOk_flat hko)
   subst this
   simp only[cond_true]
   obtain⟨d,hd⟩:=under_of_keyOk hko
   cases hx with
   |map he=>
    split
    ·rename_i es clock hg
     obtain⟨es',k1,k2⟩:=s.map he hg
     cases hf:findK k' es 0 with
     |none=>trivial
     |some r=>
      rcases find_rel hko hd k2 0 hf with ⟨rfl,h2⟩|⟨j,u,u',rfl,h2,h3,e0,he0,e1,he1,hke,hsb⟩
      ·obtain⟨q1,q2⟩:=s.putMap (clock':=clock+1) he hg (k2.snoc (k:=k') clock hv)
       refine⟨rfl,_,?_,ι,q2,q1⟩
       simp only[Instr.mapUpdate,Sem.run_bind,rUnder hu,Result.andThen_ok,rGetObj k1,rCheckKey hko,rFindKey hd h2]
       rw[rSetObj k1]
       simp
      ·have hkey:=sb_eq hko hsb
       obtain⟨q1,q2⟩:=s.putMap (clock':=clock) he hg (k2.modify (k:=k') hv j (fun e he'=>by rw[he1] at he'; cases he'; exact hkey))
       refine⟨rfl,_,?_,ι,q2,by simpa [modE] using q1⟩
       have hat:(⟨es'⟩ : Array MapEntry)[0+j]? = some e1:=by simpa using he1
       simp only[Instr.mapUpdate,Sem.run_bind,rUnder hu,Result.andThen_ok,rGetObj k1,rCheckKey hko,rFindKey hd h2,hat,Option.map_some,Option.getD_some,Instr.keyThatStays,hsb,if_true,Sem.run_pure]
       rw[rSetObj k1]
       simp
    ·trivial
 ·trivial
theorem heap_same {w:World} {c:Nat} {o:Obj} (h:w.heap[c]? = some o):({ w with heap:=w.heap.setIfInBounds c o }:World)=w:=by
 have:w.heap.setIfInBounds c o=w.heap:=by
  apply Array.ext_getElem?
  intro i
  by_cases hi:i=c
  ·subst hi
   have hlt:i<w.heap.size:=by
    rcases Nat.lt_or_ge i w.heap.size with q|q
    ·exact q
    ·rw[Array.getElem?_eq_none q] at h; cases h
   rw[Array.getElem?_setIfInBounds_self_of_lt hlt,h]
  ·rw[Array.getElem?_setIfInBounds_ne (fun q=>hi q.symm)]
 rw[this]
theorem xmapEntry_ok {P:Program} {ι:Io} {h:H} {w:World} (s:Sim P ι h w) (t:TypeId) {x x' k k':Value} (hx:R ι x x') (hk:R ι k k'):SV P ι w (xmapEntry P t x k h) (Instr.mapEntry t x' k'):=by
 unfold xmapEntry
 split
 ·rename_i kt el r hu
  cases hko:keyOk P kt k with
  |false=>trivial
  |true=>
   have:=hk.flatEq (keyOk_flat hko)
   subst this
   simp only[cond_true]
   obtain⟨d,hd⟩:=under_of_keyOk hko
   cases hx with
   |map he=>
    split
    ·rename_i es clock hg
     obtain⟨es',k1,k2⟩:=s.map he hg
     cases hf:findK k' es 0 with
     |none=>trivial
     |some r=>
      rcases find_rel hko hd k2 0 hf with ⟨rfl,h2⟩|⟨j,u,u',rfl,h2,h3,e0,he0,e1,he1,hke,hsb⟩
      ·simp only
       cases hz:zeroOf P el with
       |none=>trivial
       |some z=>
        simp only
        cases hfl:flat z with
        |false=>trivial
        |true=>
         obtain⟨q1,q2⟩:=s.putMap (clock':=clock+1) he hg (k2.snoc (k:=k') clock (R.ofFlat ι z hfl))
         refine⟨.tuple #[z,goInt clock],_,?_,ι,q2,q1,.tuple (.cons (R.ofFlat ι z hfl) (.cons (.int _ _) .nil))⟩
         simp only[Instr.mapEntry,Sem.run_bind,rUnder hu,Result.andThen_ok,rGetObj k1,rCheckKey hko,rFindKey hd h2,rZero hz]
         rw[rSetObj k1]
         simp
      ·have hkey:=sb_eq hko hsb
       have hat:(⟨es'⟩ : Array MapEntry)[0+j]? = some e1:=by simpa using he1
       have hmod:((⟨es'⟩ : Array MapEntry).modify (0+j) fun e=>{ e with key:=k' })=⟨es'⟩:=by
        apply Array.ext'
        simp only[Array.toList_modify,Nat.zero_add]
        apply List.ext_getElem?
        intro q
        rw[List.getElem?_modify]
        by_cases hqj:j=q
        ·subst hqj
         rw[he1]
         simp[← hkey]
        ·cases hq:es'[q]?<;>simp[hqj]
       obtain⟨e2,he2,_,hbo,_⟩:=k2.get he0
       rw[he1] at he2; cases he2
       refine SV.same s (v':=.tuple #[u',goInt e1.born]) ?_ ?_
       ·simp only[Instr.mapEntry,Sem.run_bind,rUnder hu,Result.andThen_ok,rGetObj k1,rCheckKey hko,rFindKey hd h2,hat,Option.map_some,Option.getD_some,Instr.keyThatStays,hsb,if_true,Sem.run_pure,hmod]
        rw[rSetObj k1,heap_same k1]
        rfl
       ·rw[Nat.zero_add,he0]
        simp only[Option.map_some,Option.getD_some,← hbo]
        exact .tuple (.cons h3 (.cons (.int _ _) .nil))
    ·trivial
 ·trivial
theorem xentryStore_ok {P:Program} {ι:Io} {h:H} {w:World} (s:Sim P ι h w) (t:TypeId) {x x' k k' v v':Value} (hx:R ι x x') (hk:R ι k k') (hv:R ι v v'):SU P ι w (xentryStore x k v h) (Instr.entryStore t x' k' v'):=by
 unfold xentryStore
 split
 ·rename_i r j n
  cases hk
  cases hx with
  |map he=>
   split
   ·rename_i es clock hg
    obtain⟨es',k1,k2⟩:=s.map he hg
    have hfi:=k2.findIdx (fun b=>(b:Int) == n)
    cases hi:es.findIdx? (fun e=>(e.born:Int) == n) with
    |none=>trivial
    |some i=>
     obtain⟨q1,q2⟩:=s.putMap (clock':=clock) he hg (k2.modify' hv i)
     refine⟨rfl,_,?_,ι,q2,q1⟩
     have hfi':(⟨es'⟩ : Array MapEntry).findIdx? (fun e=>(e.born:Int) == n)=some i:=by
      rw[List.findIdx?_toArray]
      exact hfi.trans hi
     simp only[Instr.entryStore,Sem.run_bind,rGetObj k1,Result.andThen_ok,asInt,rAsIntOf,Sem.run_pure,hfi']
     rw[rSetObj k1]
     simp
   ·trivial
 ·trivial
end Go.Kx
