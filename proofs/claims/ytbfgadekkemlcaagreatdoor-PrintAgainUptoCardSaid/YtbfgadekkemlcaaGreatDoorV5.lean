/- My texts for this claim, in one file: part 5. -/
import Derived.Test.YtbfgadekkemlcaaGreatDoorV4
set_option linter.unusedVariables false
set_option linter.unusedSimpArgs false
namespace Go.Kx
open Go
theorem xstore_ok {P:Program} {ι:Io} {h:H} {w:World} (s:Sim P ι h w) {t:TypeId} {x x' v v':Value} (hx:R ι x x') (hv:R ι v v'):SU P ι w (xstore P t x v h) (Instr.storeAt t x' v'):=by
 unfold xstore
 split
 ·rename_i a
  cases hx with
  |ptr he=>
   rename_i b o e
   cases hb:(szOk P t&&Nat.beq v.cells.size (P.cellsOf t)) with
   |false=>trivial
   |true=>
    simp only[Bool.and_eq_true] at hb
    simp only[cond_true]
    cases hr:h.write ⟨b,o,none⟩ v.cells.toList with
    |none=>trivial
    |some h'=>
     obtain⟨w',h1,h2,h3⟩:=s.write he hv.cells hr
     have hsz:v'.cells.size=P.cellsOf t:=by
      have:=hv.cells.length
      simp only[Array.length_toList] at this
      rw[← this]; exact Nat.eq_of_beq_eq_true hb.2
     refine⟨rfl,w',?_,ι,h2,h3⟩
     simp only[Instr.storeAt,Instr.sureAddr,storeVar,Sem.run_bind,Sem.run_pure,Result.andThen_ok,rSizeOf hb.1,hsz,ne_eq,not_true_eq_false,if_false]
     exact h1
 ·trivial
theorem Sim.lay {P:Program} {ι:Io} {h:H} {w:World} (s:Sim P ι h w) {c c':List Value} (hc:RL ι c c') (el:TypeId) :
  ∃ ι',Step ι w ι' { w with heap:=w.heap.push (.cells ⟨c'⟩ el) }∧Sim P ι' (h.alloc (.cells c el 0 false)) { w with heap:=w.heap.push (.cells ⟨c'⟩ el) } ∧
   ι' h.next=some ⟨w.heap.size,0,0,c.length,1,false⟩:=by
 obtain⟨h1,h2⟩:=s.alloc (.cells c el 0 false) (.cells ⟨c'⟩ el (0,0)) ⟨w.heap.size,0,0,c.length,1,false⟩ rfl (by
  intro ι' w' hx _ hat
  refine⟨c',0,0,hat,hc.length.symm,by simp,?_,fun _=>⟨rfl,fun _=>rfl⟩,fun q=>(by cases q),⟨fun _=>Nat.le_refl _,fun _=>.inl (Nat.le_refl _)⟩,rfl,fun q=>(by cases q)⟩
  have:(c'.drop 0).take c.length=c':=by rw[hc.length]; simp
  simp only[this]
  exact hc.mono hx)
 exact⟨_,h2,h1,Io.add_self _ _ _⟩
def wpush (w:World) (c:List Value) (el:TypeId):World:={ w with heap:=w.heap.push (.cells ⟨c⟩ el) }
def Laid (P:Program) (ι:Io) (cs:List Value) (el:TypeId) (val:Nat→Value) (s:Sem Value):Prop:=
 ∃ c',RL ι cs c'∧∀ w,s.run P w = .ok (val w.heap.size) (wpush w c' el)
theorem ptrAt_R {ι:Io} {b:Nat} {e:Ent} (h:ι b=some e) (hs:e.sh=0):R ι (ptrAt b) (ptrAt e.c):=by
 have:=R.ptr (ι:=ι) (o:=0) h
 rw[hs] at this
 exact this
theorem sliceAt_R {ι:Io} {b n m:Nat} {e:Ent} (h:ι b=some e) (hs:e.sh=0) (h0:e.slack=0) (ho:e.opn=false):R ι (sliceAt' n m b) (sliceAt' n m e.c):=by
 have:=R.slcO (ι:=ι) (n:=n) (c:=m) (o:=0) h (fun q=>by rw[ho] at q; cases q)
 rw[hs,h0] at this
 exact this
theorem box_laid {P:Program} {ι:Io} (t:TypeId) {v v':Value} (hv:R ι v v'):Laid P ι v.cells.toList t ptrAt (Instr.box t v'):=by
 refine⟨_,hv.cells,fun w=>?_⟩
 simp only[Instr.box,newVar,newRow,Sem.run_bind,run_newObj,Result.andThen_ok,Sem.run_pure]
 rfl
theorem alloc_laid {P:Program} {ι:Io} (t:TypeId) {z:Value} (hz:zeroOf P t=some z):Laid P ι z.cells.toList t ptrAt (Instr.alloc t true (.tuple #[])):=by
 refine⟨_,(zero_R hz ι).cells,fun w=>?_⟩
 simp only[Instr.alloc,Sem.run_bind,rZero hz,newVar,newRow,run_newObj,Result.andThen_ok,Sem.run_pure]
 rfl
theorem xbox_ok {P:Program} {ι:Io} {h:H} {w:World} (s:Sim P ι h w) (t:TypeId) {v v':Value} (hv:R ι v v'):SV P ι w (xbox t v h) (Instr.box t v'):=by
 obtain⟨ι',h1,h2,h3⟩:=s.lay hv.cells t
 refine⟨_,_,?_,ι',h1,h2,.ptr h3⟩
 simp only[Instr.box,newVar,newRow,Sem.run_bind,run_newObj,Result.andThen_ok,Sem.run_pure,Nat.zero_add]
theorem xalloc_ok {P:Program} {ι:Io} {h:H} {w:World} (s:Sim P ι h w) (t:TypeId):SV P ι w (xalloc P t h) (Instr.alloc t true (.tuple #[])):=by
 unfold xalloc
 cases hz:zeroOf P t with
 |none=>trivial
 |some z=>
  obtain⟨ι',h1,h2,h3⟩:=s.lay (zero_R hz ι).cells t
  refine⟨_,_,?_,ι',h1,h2,.ptr h3⟩
  simp only[Instr.alloc,Sem.run_bind,rZero hz,newVar,newRow,run_newObj,Result.andThen_ok,Sem.run_pure,Nat.zero_add]
inductive RP (ι:Io):List (Nat × Value)→List (Nat × Value)→Prop
 |nil:RP ι [] []
 |cons {i:Nat} {v v':Value} {l l':List (Nat × Value)} (h:R ι v v') (hl:RP ι l l'):RP ι ((i,v)::l) ((i,v')::l')
theorem fold_set (off:Nat):∀ (l:List Value) (k:Nat) (arr:Array Value),off+k+l.length≤arr.size →
  (l.zipIdx k).foldl (fun cs (p:Value × Nat)=>cs.setIfInBounds (off+p.2) p.1) arr=⟨arr.toList.take (off+k)++(l++arr.toList.drop (off+k+l.length))⟩
 |[],k,arr,_=>by simp
 |v::l,k,arr,h=>by
  simp only[List.length_cons] at h
  simp only[List.zipIdx_cons,List.foldl_cons]
  rw[fold_set off l (k+1) _ (by simp; omega)]
  congr 1
  simp only[Array.toList_setIfInBounds,List.length_cons]
  have hl:off+k<arr.toList.length:=by simp; omega
  have e1:(arr.toList.set (off+k) v).take (off+(k+1))=arr.toList.take (off+k)++[v]:=by
   rw[show off+(k+1)=(off+k)+1 by omega,List.take_add_one,List.take_set_of_le (by omega),List.getElem?_set_self hl]
   rfl
  have e2:(arr.toList.set (off+k) v).drop (off+(k+1)+l.length)=arr.toList.drop (off+k+(l.length+1)):=by
   rw[List.drop_set_of_lt (by omega)]
   congr 1
   omega
  rw[e1,e2]
  simp
theorem fill_ok {ι:Io} (place:Nat→Option (Nat × Nat)):∀ {ps ps':List (Nat × Value)},RP ι ps ps'→∀ {cells cells' r:List Value},RL ι cells cells'→fillL place cells ps=some r →
  ∃ r',Instr.fill place ⟨cells'⟩ ps'=some ⟨r'⟩∧RL ι r r'
 |_,_,.nil,cells,cells',r,hc,e=>by
  simp only[fillL,Option.some.injEq] at e
  subst e
  exact⟨cells',rfl,hc⟩
 |_,_,.cons (i:=i) (v:=v) (v':=v') (l:=l) (l':=l') hv hl,cells,cells',r,hc,e=>by
  simp only[fillL] at e
  cases hp:place i with
  |none=>rw[hp] at e; cases e
  |some q=>
   obtain⟨off,size⟩:=q
   rw[hp] at e
   simp only at e
   cases hb:(Nat.beq v.cells.size size&&Nat.ble (off+size) cells.length) with
   |false=>rw[hb] at e; cases e
   |true=>
    rw[hb] at e
    simp only[cond_true] at e
    simp only[Bool.and_eq_true] at hb
    have h1:v.cells.size=size:=Nat.eq_of_beq_eq_true hb.1
    have h2:off+size≤cells.length:=Nat.le_of_ble_eq_true hb.2
    have h3:=hv.cells.length
    simp only[Array.length_toList] at h3
    have h4:=hc.length
    have hsz:v'.cells.toList.length=size:=by simp; omega
    obtain⟨r',k1,k2⟩:=fill_ok place hl (cells:=cells.take off++(v.cells.toList++cells.drop (off+size))) (cells':=cells'.take off++(v'.cells.toList++cells'.drop (off+size)))
     ((hc.take off).append (hv.cells.append (hc.drop _))) e
    refine⟨r',?_,k2⟩
    simp only[Instr.fill,hp]
    have c1:¬ (v'.cells.size≠size||decide (off+v'.cells.size > cells'.length))=true:=by
     simp
     constructor<;>omega
    have c1':(decide (v'.cells.size≠size)||decide (off+v'.cells.size > (⟨cells'⟩ : Array Value).size))=false:=by
     simp
     constructor<;>omega
    rw[if_neg (by rw[c1']; simp)]
    have hfold:v'.cells.zipIdx.foldl (fun cs (x:Value × Nat)=>cs.setIfInBounds (off+x.2) x.1) (⟨cells'⟩ : Array Value)=⟨cells'.take off++(v'.cells.toList++cells'.drop (off+size))⟩:=by
     rw[← Array.foldl_toList,Array.toList_zipIdx]
     rw[fold_set off v'.cells.toList 0 ⟨cells'⟩ (by simp; omega)]
     simp only[Nat.add_zero,hsz]
    have:(fun (cs:Array Value) (x:Value × Nat)=>match x with|(c,j)=>cs.setIfInBounds (off+j) c)=(fun cs (x:Value × Nat)=>cs.setIfInBounds (off+x.2) x.1):=rfl
    rw[this,hfold]
    exact k1
theorem rPlaces {P:Program} (w:World):∀ (fs:List Field),fs.all (fun f=>szOk P f.type)=true →
  (fs.mapM (fun (f:Field)=>(do pure (f.offset,← sizeOf f.type):Sem (Nat × Nat)))).run P w = .ok (fs.map fun f=>(f.offset,P.cellsOf f.type)) w
 |[],_=>rfl
 |f::fs,h=>by
  simp only[List.all_cons,Bool.and_eq_true] at h
  simp only[List.mapM_cons,Sem.run_bind,rSizeOf h.1,Result.andThen_ok,Sem.run_pure,rPlaces w fs h.2,List.map_cons]
theorem xbuild_u {P:Program} {ι:Io} {h:H} (t:TypeId) {ps:List (Nat × Value)} {ps':Array (Nat × Value)} (hp:RP ι ps ps'.toList):SVU P ι h (xbuild P t ps h) (Instr.build t ps'):=by
 unfold xbuild
 split
 ·rename_i z fs hz hu
  cases hb:fs.toList.all (fun f=>szOk P f.type) with
  |false=>trivial
  |true=>
   simp only[cond_true]
   cases hf:fillL (fun i=>(fs.toList[i]?).map fun f=>(f.offset,P.cellsOf f.type)) z.cells.toList ps with
   |none=>trivial
   |some l=>
    obtain⟨l',h1,h2⟩:=fill_ok _ hp (zero_R hz ι).cells hf
    refine SVU.same (fun w=>?_) (.agg h2)
    have hpl:=rPlaces (P:=P) w fs.toList hb
    simp only[Instr.build,Sem.run_bind,rZero hz,rUnder hu,Result.andThen_ok]
    rw[show (fs.mapM (fun (f:Field)=>(do pure (f.offset,← sizeOf f.type):Sem (Nat × Nat))))=(List.toArray <$> fs.toList.mapM (fun (f:Field)=>(do pure (f.offset,← sizeOf f.type):Sem (Nat × Nat)))) from Array.mapM_eq_mapM_toList]
    simp only[Sem.run_map,hpl,Result.andThen_ok]
    have hfun:((List.map (fun (f:Field)=>(f.offset,P.cellsOf f.type)) fs.toList).toArray[·]?)=(fun (i:Nat)=>(fs.toList[i]?).map fun (f:Field)=>(f.offset,P.cellsOf f.type)):=by
     funext i; simp
    rw[hfun]
    rw[show z.cells=⟨z.cells.toList⟩ from rfl,h1]
    rfl
 ·rename_i z n e hz hu
  cases hb:szOk P e with
  |false=>trivial
  |true=>
   simp only[cond_true]
   cases hf:fillL (fun i=>some (i*P.cellsOf e,P.cellsOf e)) z.cells.toList ps with
   |none=>trivial
   |some l=>
    obtain⟨l',h1,h2⟩:=fill_ok _ hp (zero_R hz ι).cells hf
    refine SVU.same (fun w=>?_) (.agg h2)
    simp only[Instr.build,Sem.run_bind,rZero hz,rUnder hu,Result.andThen_ok,rSizeOf hb]
    rw[show z.cells=⟨z.cells.toList⟩ from rfl,h1]
    rfl
 ·trivial
theorem xbuild_ok {P:Program} {ι:Io} {h:H} {w:World} (s:Sim P ι h w) (t:TypeId) {ps:List (Nat × Value)} {ps':Array (Nat × Value)} (hp:RP ι ps ps'.toList):SV P ι w (xbuild P t ps h) (Instr.build t ps'):=(xbuild_u t hp).sv s
theorem repeat_range (z:List Value):∀ m,((List.range (m*z.length)).map fun i=>z[i % z.length]!)=repeatL z m
 |0=>by simp[repeatL]
 |m+1=>by
  rw[show (m+1)*z.length=z.length+m*z.length by rw[Nat.add_mul]; omega,List.range_add,List.map_append,List.map_map]
  unfold repeatL
  congr 1
  ·apply List.ext_getElem
   ·simp
   ·intro i h1 h2
    simp at h1
    simp[Nat.mod_eq_of_lt h1,h2]
  ·rw[← repeat_range z m]
   apply List.map_congr_left
   intro i _
   simp
theorem zero_cells (z:Array Value) (m:Nat):(Array.range (m*z.size)).map (fun i=>z[i % z.size]!)=⟨repeatL z.toList m⟩:=by
 apply Array.ext'
 rw[Array.toList_map,Array.toList_range]
 have:=repeat_range z.toList m
 simp only[Array.length_toList] at this
 rw[← this]
 apply List.map_congr_left
 intro i _
 simp only[List.getElem!_eq_getElem?_getD,Array.getElem?_toList]
 rw[getElem!_def]
 cases z[i % z.size]?<;>rfl
theorem elemOf_under {P:Program} {t e:TypeId} (h:elemOf? P t=some e):P.underlying t=some (.slice e):=by
 unfold elemOf? at h
 split at h
 ·rename_i hu; cases h; exact hu
 ·cases h
theorem xbuildSlice_ok {P:Program} {ι:Io} {h:H} {w:World} (s:Sim P ι h w) (t:TypeId) (n:Nat) {ps:List (Nat × Value)} {ps':Array (Nat × Value)} (hp:RP ι ps ps'.toList) :
  SV P ι w (xbuildSlice P t n ps h) (Instr.buildSlice t n ps'):=by
 unfold xbuildSlice
 cases he:elemOf? P t with
 |none=>trivial
 |some e=>
  simp only
  cases hz:zeroOf P e with
  |none=>trivial
  |some z=>
   simp only
   cases hb:(Nat.beq z.cells.size (P.cellsOf e)&&Nat.ble (n*P.cellsOf e) 16777216) with
   |false=>trivial
   |true=>
    simp only[Bool.and_eq_true] at hb
    have h1:z.cells.size=P.cellsOf e:=Nat.eq_of_beq_eq_true hb.1
    have h2:n*P.cellsOf e≤16777216:=Nat.le_of_ble_eq_true hb.2
    simp only[cond_true]
    cases hf:fillL (fun i=>some (i*P.cellsOf e,P.cellsOf e)) (repeatL z.cells.toList n) ps with
    |none=>trivial
    |some l=>
     obtain⟨l',k1,k2⟩:=fill_ok _ hp ((zero_R hz ι).cells.repeatL n) hf
     obtain⟨ι',q1,q2,q3⟩:=s.lay k2 e
     have hval:R ι' (.slice (some ⟨h.next,0,none⟩) n n) (.slice (some ⟨w.heap.size,0+0,none⟩) n (n+0)):=.slcO q3 (fun q=>by cases q)
     refine⟨_,_,?_,ι',q1,q2,hval⟩
     simp only[Instr.buildSlice,Sem.run_bind,rUnder (elemOf_under he),Result.andThen_ok,rSizeOf (zero_sz hz)]
     rw[if_neg (by omega)]
     by_cases h0:n*P.cellsOf e=0
     ·have hre:repeatL z.cells.toList n=[]:=by
       have:=repeat_range z.cells.toList n
       simp only[Array.length_toList,h1,h0] at this
       rw[← this]; rfl
      rw[hre] at k1
      have hm:∀ f:Nat→Value,Array.map f (Array.range 0)=(⟨[]⟩ : Array Value):=fun f=>by simp[Array.range]
      simp only[h0,if_true,Sem.run_pure,Result.andThen_ok,hm]
      simp only[Sem.run_bind,Sem.run_pure,Result.andThen_ok,k1,newRow,run_newObj,Nat.add_zero]
     ·simp only[h0,if_false,Sem.run_bind,rZero hz,Result.andThen_ok,Sem.run_pure]
      have hzc:=zero_cells z.cells n
      rw[h1] at hzc
      rw[h1,hzc,k1]
      simp only[Sem.run_bind,Sem.run_pure,Result.andThen_ok,newRow,run_newObj,Nat.add_zero]
theorem buildSlice_laid {P:Program} {ι:Io} (t:TypeId) (n:Nat) {ps:List (Nat × Value)} {ps':Array (Nat × Value)} (hp:RP ι ps ps'.toList) {e:TypeId} {z:Value} {l:List Value} (he:elemOf? P t=some e) (hz:zeroOf P e=some z)
  (hb:(Nat.beq z.cells.size (P.cellsOf e)&&Nat.ble (n*P.cellsOf e) 16777216)=true) (hf:fillL (fun i=>some (i*P.cellsOf e,P.cellsOf e)) (repeatL z.cells.toList n) ps=some l) :
  Laid P ι l e (sliceAt' n n) (Instr.buildSlice t n ps'):=by
 simp only[Bool.and_eq_true] at hb
 have h1:z.cells.size=P.cellsOf e:=Nat.eq_of_beq_eq_true hb.1
 have h2:n*P.cellsOf e≤16777216:=Nat.le_of_ble_eq_true hb.2
 obtain⟨l',k1,k2⟩:=fill_ok _ hp ((zero_R hz ι).cells.repeatL n) hf
 refine⟨l',k2,fun w=>?_⟩
 simp only[Instr.buildSlice,Sem.run_bind,rUnder (elemOf_under he),Result.andThen_ok,rSizeOf (zero_sz hz)]
 rw[if_neg (by omega)]
 by_cases h0:n*P.cellsOf e=0
 ·have hre:repeatL z.cells.toList n=[]:=by
   have:=repeat_range z.cells.toList n
   simp only[Array.length_toList,h1,h0] at this
   rw[← this]; rfl
  rw[hre] at k1
  have hm:∀ f:Nat→Value,Array.map f (Array.range 0)=(⟨[]⟩ : Array Value):=fun f=>by simp[Array.range]
  simp only[h0,if_true,Sem.run_pure,Result.andThen_ok,hm]
  simp only[Sem.run_bind,Sem.run_pure,Result.andThen_ok,k1,newRow,run_newObj]
  rfl
 ·simp only[h0,if_false,Sem.run_bind,rZero hz,Result.andThen_ok,Sem.run_pure]
  have hzc:=zero_cells z.cells n
  rw[h1] at hzc
  rw[h1,hzc,k1]
  simp only[Sem.run_bind,Sem.run_pure,Result.andThen_ok,newRow,run_newObj]
  rfl
end Go.Kx
