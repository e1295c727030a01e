/- My texts for this claim, in one file: part 6. -/
import Derived.Test.YtbfgadekkemlcaaGreatDoorV5
set_option linter.unusedVariables false
set_option linter.unusedSimpArgs false
namespace Go.Kx
open Go
theorem fieldsOf_under {P:Program} {t:TypeId} {fs:Array Field} (h:fieldsOf P t=some fs):P.underlying t=some (.struct fs):=by
 unfold fieldsOf at h
 split at h
 ·rename_i hu; cases h; exact hu
 ·cases h
theorem xfieldAddr_u {P:Program} {ι:Io} {h:H} (t:TypeId) {x x':Value} (i:Nat) (hx:R ι x x'):SVU P ι h (xfieldAddr P t x i h) (Instr.fieldAt t x' i):=by
 unfold xfieldAddr
 split
 ·rename_i fs a hf
  cases hx with
  |ptr he=>
   rename_i b o e
   cases hi:fs.toList[i]? with
   |none=>trivial
   |some f=>
    simp only
    cases hb:(szOk P f.type && !Nat.beq (P.cellsOf f.type) 0&&(none:Option Nat).isNone) with
    |false=>trivial
    |true=>
     simp only[Bool.and_eq_true] at hb
     simp only[cond_true]
     have hne:P.cellsOf f.type≠0:=fun q=>by have:=hb.1.2; rw[beqT q] at this; cases this
     have hi':fs[i]? = some f:=by simpa using hi
     have hv:R ι (.pointer (some ⟨b,o+f.offset,none⟩)) (.pointer (some ⟨e.c,o+f.offset+e.sh,none⟩)):=.ptr he
     refine SVU.same (fun w=>?_) hv
     simp only[Instr.fieldAt,Sem.run_bind,rUnder (fieldsOf_under hf),Result.andThen_ok,hi',Instr.sureAddr,Sem.run_pure,fieldPlace,rSizeOf hb.1.1,hne,if_false,add_of]
     rw[show o+e.sh+f.offset=o+f.offset+e.sh by omega]
 ·trivial
theorem xfieldAddr_ok {P:Program} {ι:Io} {h:H} {w:World} (s:Sim P ι h w) (t:TypeId) {x x':Value} (i:Nat) (hx:R ι x x'):SV P ι w (xfieldAddr P t x i h) (Instr.fieldAt t x' i):=(xfieldAddr_u t i hx).sv s
theorem rPart {P:Program} {ι:Io} {cs cs':List Value} (hc:RL ι cs cs') {t:TypeId} {off:Nat} {v:Value} (h:partL P t cs off=some v):∃ v',(∀ w,(part t ⟨cs'⟩ off).run P w = .ok v' w)∧R ι v v':=by
 unfold partL at h
 split at h
 ·rename_i ha
  cases hb:Nat.ble (off+P.cellsOf t) cs.length with
  |false=>rw[hb] at h; cases h
  |true=>
   rw[hb] at h
   simp only[cond_true,Option.some.injEq] at h
   subst h
   refine⟨_,fun w=>?_,.agg ((hc.drop off).take _)⟩
   simp only[part,Sem.run_bind,rIsAgg ha,Result.andThen_ok,if_true,rSizeOf (agg_sz ha),Sem.run_pure]
   congr 1
   simp[List.extract_eq_take_drop]
 ·rename_i ha
  obtain⟨v',h1,h2⟩:=hc.get h
  refine⟨v',fun w=>?_,h2⟩
  simp only[part,Sem.run_bind,rIsAgg ha,Result.andThen_ok,Bool.false_eq_true,if_false]
  have:(⟨cs'⟩ : Array Value)[off]? = some v':=by simpa using h1
  rw[this]
  rfl
 ·cases h
theorem xfield_u {P:Program} {ι:Io} {h:H} (t:TypeId) {x x':Value} (i:Nat) (hx:R ι x x'):SVU P ι h (xfield P t x i h) (Instr.field t x' i):=by
 unfold xfield
 split
 ·rename_i fs cs hf
  cases hx with
  |agg hc=>
   cases hi:fs.toList[i]? with
   |none=>trivial
   |some f=>
    simp only
    cases hp:partL P f.type cs f.offset with
    |none=>trivial
    |some v=>
     obtain⟨v',h1,h2⟩:=rPart hc hp
     have hi':fs[i]? = some f:=by simpa using hi
     refine SVU.same (fun w=>?_) h2
     simp only[Instr.field,Sem.run_bind,rUnder (fieldsOf_under hf),Result.andThen_ok,hi',asAgg,Sem.run_pure,h1 w]
 ·trivial
theorem xfield_ok {P:Program} {ι:Io} {h:H} {w:World} (s:Sim P ι h w) (t:TypeId) {x x':Value} (i:Nat) (hx:R ι x x'):SV P ι w (xfield P t x i h) (Instr.field t x' i):=(xfield_u t i hx).sv s
theorem rAsIntOf {P:Program} {w:World} (k:IntKind) (n:Int):(asIntOf (.int k n)).run P w = .ok (k,n) w:=rfl
theorem xindexAddr_u {P:Program} {ι:Io} {h:H} (t:TypeId) {x x' i i':Value} (hx:R ι x x') (hi:R ι i i'):SVU P ι h (xindexAddr P t x i h) (Instr.indexAt t x' i'):=by
 unfold xindexAddr
 split
 ·rename_i el a len cap k n hu
  cases hi
  simp only[Int.ofNat_eq_natCast]
  cases hb:(Nat.blt n len&&szOk P el) with
  |false=>trivial
  |true=>
   simp only[Bool.and_eq_true] at hb
   have hlt:n<len:=by simpa [Nat.blt_eq] using hb.1
   simp only[cond_true]
   have key:∀ (w:World) (a':Addr) (c':Nat),(Instr.indexAt t (.slice (some a') len c') (.int k (n:Int))).run P w = .ok (.pointer (some (a'.add (n*P.cellsOf el)))) w:=by
    intro w a' c'
    simp only[Instr.indexAt,Sem.run_bind,rAsIntOf,Result.andThen_ok,rUnder hu,Sem.run_pure]
    rw[if_pos ⟨by omega,by omega⟩]
    simp only[Sem.run_bind,rSizeOf hb.2,Result.andThen_ok,Sem.run_pure,Int.toNat_natCast]
   cases hx with
   |slcO he hc=>
    rename_i b o e
    refine SVU.same (fun w=>key w _ _) ?_
    rw[add_of,show o+e.sh+n*P.cellsOf el=o+n*P.cellsOf el+e.sh by omega]
    exact .ptr he
   |slcX he=>
    rename_i b o e
    refine SVU.same (fun w=>key w _ _) ?_
    rw[add_of,show o+e.sh+n*P.cellsOf el=o+n*P.cellsOf el+e.sh by omega]
    exact .ptr he
   |slcE he h'=>omega
   |slcN=>omega
   |slcM=>omega
 ·rename_i len e a k n hu
  cases hi
  cases hx with
  |ptr he=>
   rename_i b o e'
   cases hb:(Nat.blt n len&&szOk P e&&(none:Option Nat).isNone) with
   |false=>trivial
   |true=>
    simp only[Bool.and_eq_true] at hb
    have hlt:n<len:=by simpa [Nat.blt_eq] using hb.1.1
    simp only[cond_true]
    have hv:R ι (.pointer (some ⟨b,o+n*P.cellsOf e,none⟩)) (.pointer (some ⟨e'.c,o+n*P.cellsOf e+e'.sh,none⟩)):=.ptr he
    refine SVU.same (fun w=>?_) hv
    simp only[Instr.indexAt,Sem.run_bind,rAsIntOf,Result.andThen_ok,rUnder hu,Sem.run_pure,Instr.sureAddr]
    simp only[Int.ofNat_eq_natCast]
    rw[if_pos ⟨by omega,by omega⟩]
    simp only[Sem.run_bind,rSizeOf hb.1.2,Result.andThen_ok,Sem.run_pure,add_of,Int.toNat_natCast]
    rw[show o+e'.sh+n*P.cellsOf e=o+n*P.cellsOf e+e'.sh by omega]
 ·trivial
theorem xindexAddr_ok {P:Program} {ι:Io} {h:H} {w:World} (s:Sim P ι h w) (t:TypeId) {x x' i i':Value} (hx:R ι x x') (hi:R ι i i'):SV P ι w (xindexAddr P t x i h) (Instr.indexAt t x' i'):=(xindexAddr_u t hx hi).sv s
theorem xindex_u {P:Program} {ι:Io} {h:H} (t:TypeId) {x x' i i':Value} (hx:R ι x x') (hi:R ι i i'):SVU P ι h (xindex P t x i h) (Instr.index t x' i'):=by
 unfold xindex
 split
 ·rename_i len e cs k n hu
  cases hi
  cases hx with
  |agg hc=>
   cases hb:(Nat.blt n len&&szOk P e) with
   |false=>trivial
   |true=>
    simp only[Bool.and_eq_true] at hb
    have hlt:n<len:=by simpa [Nat.blt_eq] using hb.1
    simp only[cond_true]
    cases hp:partL P e cs (n*P.cellsOf e) with
    |none=>trivial
    |some v=>
     obtain⟨v',h1,h2⟩:=rPart hc hp
     refine SVU.same (fun w=>?_) h2
     simp only[Instr.index,Sem.run_bind,rAsIntOf,Result.andThen_ok,rUnder hu]
     simp only[Int.ofNat_eq_natCast]
     rw[if_pos ⟨by omega,by omega⟩]
     simp only[Sem.run_bind,rSizeOf hb.2,Result.andThen_ok,Int.toNat_natCast]
     exact h1 w
 ·rename_i st k n hu
  cases hi
  cases hx
  cases hg:st.data.toList[n]? with
  |none=>trivial
  |some b=>
   simp only
   have hg':st[n]? = some b:=by
    obtain⟨hn,hb⟩:=List.getElem?_eq_some_iff.1 hg
    have hn':n<st.size:=by simpa using hn
    rw[getElem?_pos st n hn']
    exact congrArg some (by rw[← hb]; rfl)
   refine SVU.flat (fun w=>?_) rfl
   simp only[Instr.index,Sem.run_bind,rAsIntOf,Result.andThen_ok,rUnder hu]
   simp only[Int.ofNat_eq_natCast]
   rw[if_pos (by omega),Int.toNat_natCast,hg']
   rfl
 ·trivial
theorem xindex_ok {P:Program} {ι:Io} {h:H} {w:World} (s:Sim P ι h w) (t:TypeId) {x x' i i':Value} (hx:R ι x x') (hi:R ι i i'):SV P ι w (xindex P t x i h) (Instr.index t x' i'):=(xindex_u t hx hi).sv s
theorem xextract_ok {P:Program} {ι:Io} {h:H} {w:World} (s:Sim P ι h w) {x x':Value} (i:Nat) (hx:R ι x x'):SV P ι w (xextract x i h) (Instr.extract x' i):=by
 unfold xextract
 split
 ·cases hx with
  |tuple hl=>
   rename_i vs l'
   cases hg:vs[i]? with
   |none=>trivial
   |some v=>
    obtain⟨v',h1,h2⟩:=hl.get hg
    refine SV.same s ?_ h2
    have:(⟨l'⟩ : Array Value)[i]? = some v':=by simpa using h1
    simp[Instr.extract,this]
 ·trivial
theorem xmakeInterface_ok {P:Program} {ι:Io} {h:H} {w:World} (s:Sim P ι h w) (t:TypeId) {x x':Value} (hx:R ι x x'):SV P ι w (xmakeInterface P t x h) (Instr.makeInterface t x'):=by
 unfold xmakeInterface
 split
 ·trivial
 ·rename_i d hn hu
  refine SV.same s ?_ (.iface hx)
  simp only[Instr.makeInterface,Sem.run_bind,rUnder hu,Result.andThen_ok]
  rfl
 ·trivial
theorem xmakeMap_ok {P:Program} {ι:Io} {h:H} {w:World} (s:Sim P ι h w) (t:TypeId):SV P ι w (xmakeMap h) (Instr.makeMap t none):=by
 obtain⟨h1,h2⟩:=s.alloc (.map [] 0) (.map #[] 0) ⟨w.heap.size,0,0,0,1,false⟩ rfl (fun ι' w' _ _ hat=>⟨[],hat,.nil⟩)
 refine⟨_,_,?_,_,h2,h1,.map (Io.add_self _ _ _)⟩
 simp only[Instr.makeMap,Sem.run_bind,run_newObj,Result.andThen_ok,Sem.run_pure]
theorem xmakeSlice_ok {P:Program} {ι:Io} {h:H} {w:World} (s:Sim P ι h w) (t:TypeId) {l l' c c':Value} (hl:R ι l l') (hc:R ι c c'):SV P ι w (xmakeSlice P t l c h) (Instr.makeSlice t l' c'):=by
 unfold xmakeSlice
 split
 ·rename_i e n m he
  cases hl
  cases hc
  cases hz:zeroOf P e with
  |none=>trivial
  |some z=>
   simp only
   cases hb:(Nat.ble n m&&Nat.ble (bytesOf P e*m) 140737488355328&&Nat.ble m 9223372036854775807&&Nat.beq z.cells.size (P.cellsOf e)) with
   |false=>trivial
   |true=>
    simp only[Bool.and_eq_true] at hb
    have h1:n≤m:=Nat.le_of_ble_eq_true hb.1.1.1
    have h2:bytesOf P e*m≤140737488355328:=Nat.le_of_ble_eq_true hb.1.1.2
    have h3:m≤9223372036854775807:=Nat.le_of_ble_eq_true hb.1.2
    have h4:z.cells.size=P.cellsOf e:=Nat.eq_of_beq_eq_true hb.2
    simp only[cond_true]
    obtain⟨ι',q1,q2,q3⟩:=s.lay ((zero_R hz ι).cells.repeatL m) e
    have hval:R ι' (.slice (some ⟨h.next,0,none⟩) n m) (.slice (some ⟨w.heap.size,0+0,none⟩) n (m+0)):=.slcO q3 (fun q=>by cases q)
    refine⟨_,_,?_,ι',q1,q2,hval⟩
    obtain⟨i,hi,hz',_⟩:=zeroOf_spec hz
    have hby:bytesOf P e=i.bytes:=by unfold bytesOf; rw[hi]; rfl
    have wn:IntKind.i64.wrap (n:Int)=n:=IntWalk.i64_in _ (by omega)
    have wm:IntKind.i64.wrap (m:Int)=m:=IntWalk.i64_in _ (by omega)
    show (Instr.makeSlice t (.int .i64 (n:Int)) (.int .i64 (m:Int))).run P w=_
    simp only[Instr.makeSlice,Sem.run_bind,rUnder (elemOf_under he),Result.andThen_ok,asInt,rAsIntOf,Sem.run_pure,rTypeInfo hi,wn,wm]
    have hmul:(i.bytes:Int)*(m:Int)≤140737488355328:=by
     rw[← hby,← Int.natCast_mul]
     generalize bytesOf P e*m=q at h2 ⊢
     omega
    have e48:(2:Int) ^ 48=281474976710656:=by decide +kernel
    have b1:decide ((m:Int)<0)=false:=decide_eq_false (by omega)
    have b2:decide ((i.bytes:Int)*(m:Int) > 2 ^ 48)=false:=decide_eq_false (by rw[e48]; omega)
    have b3:decide ((n:Int)<0)=false:=decide_eq_false (by omega)
    have b4:decide ((n:Int) > (m:Int))=false:=decide_eq_false (by omega)
    have hcond:¬ ((decide ((m:Int)<0)||decide ((i.bytes:Int)*(m:Int) > 2 ^ 48))||decide ((n:Int)<0)||decide ((n:Int) > (m:Int)))=true:=by
     rw[b1,b2,b3,b4]; decide
    rw[if_neg hcond]
    simp only[Sem.run_bind,run_askRoom,Result.andThen_ok,rSizeOf (zero_sz hz),Int.toNat_natCast]
    by_cases h0:m*P.cellsOf e=0
    ·have hre:repeatL z.cells.toList m=[]:=by
      have:=repeat_range z.cells.toList m
      simp only[Array.length_toList,h4,h0] at this
      rw[← this]; rfl
     have hm:∀ f:Nat→Value,Array.map f (Array.range 0)=(⟨[]⟩ : Array Value):=fun f=>by simp[Array.range]
     simp only[h0,if_true,Sem.run_pure,Result.andThen_ok,hm,newRow,Sem.run_bind,run_newObj,hre,Nat.add_zero]
    ·simp only[h0,if_false,Sem.run_bind,rZero hz,Result.andThen_ok,Sem.run_pure]
     have hzc:=zero_cells z.cells m
     rw[h4] at hzc
     rw[h4,hzc]
     simp only[newRow,Sem.run_bind,run_newObj,Result.andThen_ok,Sem.run_pure,Nat.add_zero]
 ·trivial
theorem makeSlice_laid {P:Program} {ι:Io} (t:TypeId) {n m:Nat} {e:TypeId} {z:Value} (he:elemOf? P t=some e) (hz:zeroOf P e=some z)
  (hb:(Nat.ble n m&&Nat.ble (bytesOf P e*m) 140737488355328&&Nat.ble m 9223372036854775807&&Nat.beq z.cells.size (P.cellsOf e))=true) :
  Laid P ι (repeatL z.cells.toList m) e (sliceAt' n m) (Instr.makeSlice t (.int .i64 (n:Int)) (.int .i64 (m:Int))):=by
    simp only[Bool.and_eq_true] at hb
    have h1:n≤m:=Nat.le_of_ble_eq_true hb.1.1.1
    have h2:bytesOf P e*m≤140737488355328:=Nat.le_of_ble_eq_true hb.1.1.2
    have h3:m≤9223372036854775807:=Nat.le_of_ble_eq_true hb.1.2
    have h4:z.cells.size=P.cellsOf e:=Nat.eq_of_beq_eq_true hb.2
    refine⟨repeatL z.cells.toList m,(zero_R hz ι).cells.repeatL m,fun w=>?_⟩
    obtain⟨i,hi,hz',_⟩:=zeroOf_spec hz
    have hby:bytesOf P e=i.bytes:=by unfold bytesOf; rw[hi]; rfl
    have wn:IntKind.i64.wrap (n:Int)=n:=IntWalk.i64_in _ (by omega)
    have wm:IntKind.i64.wrap (m:Int)=m:=IntWalk.i64_in _ (by omega)
    show (Instr.makeSlice t (.int .i64 (n:Int)) (.int .i64 (m:Int))).run P w=_
    simp only[Instr.makeSlice,Sem.run_bind,rUnder (elemOf_under he),Result.andThen_ok,asInt,rAsIntOf,Sem.run_pure,rTypeInfo hi,wn,wm]
    have hmul:(i.bytes:Int)*(m:Int)≤140737488355328:=by
     rw[← hby,← Int.natCast_mul]
     generalize bytesOf P e*m=q at h2 ⊢
     omega
    have e48:(2:Int) ^ 48=281474976710656:=by decide +kernel
    have b1:decide ((m:Int)<0)=false:=decide_eq_false (by omega)
    have b2:decide ((i.bytes:Int)*(m:Int) > 2 ^ 48)=false:=decide_eq_false (by rw[e48]; omega)
    have b3:decide ((n:Int)<0)=false:=decide_eq_false (by omega)
    have b4:decide ((n:Int) > (m:Int))=false:=decide_eq_false (by omega)
    have hcond:¬ ((decide ((m:Int)<0)||decide ((i.bytes:Int)*(m:Int) > 2 ^ 48))||decide ((n:Int)<0)||decide ((n:Int) > (m:Int)))=true:=by
     rw[b1,b2,b3,b4]; decide
    rw[if_neg hcond]
    simp only[Sem.run_bind,run_askRoom,Result.andThen_ok,rSizeOf (zero_sz hz),Int.toNat_natCast]
    by_cases h0:m*P.cellsOf e=0
    ·have hre:repeatL z.cells.toList m=[]:=by
      have:=repeat_range z.cells.toList m
      simp only[Array.length_toList,h4,h0] at this
      rw[← this]; rfl
     have hm:∀ f:Nat→Value,Array.map f (Array.range 0)=(⟨[]⟩ : Array Value):=fun f=>by simp[Array.range]
     simp only[h0,if_true,Sem.run_pure,Result.andThen_ok,hm,newRow,Sem.run_bind,run_newObj,hre]
     rfl
    ·simp only[h0,if_false,Sem.run_bind,rZero hz,Result.andThen_ok,Sem.run_pure]
     have hzc:=zero_cells z.cells m
     rw[h4] at hzc
     rw[h4,hzc]
     simp only[newRow,Sem.run_bind,run_newObj,Result.andThen_ok,Sem.run_pure]
     rfl
theorem prun_ok {α:Type} {P:Program}:∀ (s:Sem α) {a:α} (w:World),prun P s=some (.ok a)→s.run P w = .ok a w
 |.pure a,b,w,h=>by simp[prun] at h; subst h; rfl
 |.program k,b,w,h=>by simp only[prun] at h; simp only[Sem.run]; exact prun_ok (k P) w h
 |.mark m k,b,w,h=>by simp only[prun] at h; simp only[Sem.run]; exact prun_ok k w h
 |.halt x,b,w,h=>by cases x<;>simp[prun] at h
 |.load ..,b,w,h=>by simp[prun] at h
 |.store ..,b,w,h=>by simp[prun] at h
 |.new ..,b,w,h=>by simp[prun] at h
 |.shape ..,b,w,h=>by simp[prun] at h
 |.freeze ..,b,w,h=>by simp[prun] at h
 |.frozen ..,b,w,h=>by simp[prun] at h
 |.getObj ..,b,w,h=>by simp[prun] at h
 |.setObj ..,b,w,h=>by simp[prun] at h
 |.choose ..,b,w,h=>by simp[prun] at h
 |.sys ..,b,w,h=>by simp[prun] at h
theorem prun_pan {α:Type} {P:Program}:∀ (s:Sem α) {v:Value} (w:World),prun P s=some (.error v)→s.run P w = .halt (.panic v) w
 |.pure a,b,w,h=>by simp[prun] at h
 |.program k,b,w,h=>by simp only[prun] at h; simp only[Sem.run]; exact prun_pan (k P) w h
 |.mark m k,b,w,h=>by simp only[prun] at h; simp only[Sem.run]; exact prun_pan k w h
 |.halt x,b,w,h=>by cases x<;>simp[prun] at h; subst h; rfl
 |.load ..,b,w,h=>by simp[prun] at h
 |.store ..,b,w,h=>by simp[prun] at h
 |.new ..,b,w,h=>by simp[prun] at h
 |.shape ..,b,w,h=>by simp[prun] at h
 |.freeze ..,b,w,h=>by simp[prun] at h
 |.frozen ..,b,w,h=>by simp[prun] at h
 |.getObj ..,b,w,h=>by simp[prun] at h
 |.setObj ..,b,w,h=>by simp[prun] at h
 |.choose ..,b,w,h=>by simp[prun] at h
 |.sys ..,b,w,h=>by simp[prun] at h
theorem xflat_ok {P:Program} {ι:Io} {h:H} {w:World} (s:Sim P ι h w) (m:Sem Value):SV P ι w (xflat (P:=P) (prun P m) h) m:=by
 unfold xflat
 cases hp:prun P m with
 |none=>trivial
 |some r=>
  cases r with
  |ok v=>
   simp only
   cases hf:flat v with
   |false=>trivial
   |true=>exact SV.flat s (prun_ok m w hp) hf
  |error v=>
   simp only
   cases hf:flat v with
   |false=>trivial
   |true=>exact⟨v,w,prun_pan m w hp,ι,Step.refl _ _,s,R.ofFlat ι v hf⟩
theorem xun_ok {P:Program} {ι:Io} {h:H} {w:World} (s:Sim P ι h w) (op:UnOp) {x x':Value} (hx:R ι x x'):SV P ι w (xun P op x h) (Op.unary op x'):=by
 unfold xun
 cases hf:flat x with
 |false=>trivial
 |true=>rw[hx.flatEq hf]; exact xflat_ok s _
end Go.Kx
