/- My texts for this claim, in one file: part 10. -/
import Derived.Laws.BytesString
import Derived.Lib.Builder
import Derived.Test.YtbfgadekkemlcaaGreatDoorV9
set_option linter.unusedVariables false
set_option linter.unusedSimpArgs false
namespace Go.Kx
open Go
theorem H.row_len0 {h:H} {a:Addr} {l:List Value} (e:h.row a 0=some l):l.length=0:=by
 unfold H.row at e
 split at e
 ·cases hb:Nat.ble (a.off+0) _ with
  |false=>rw[hb] at e; cases e
  |true=>
   rw[hb] at e
   simp only[cond_true,Option.some.injEq] at e
   subst e
   simp
 ·cases e
theorem xdelete_ok {P:Program} {ι:Io} {h:H} {w:World} (s:Sim P ι h w) (t:TypeId) (ts:List TypeId) (ty:TypeId) {x x' k k':Value} (xs:List Value) (hx:R ι x x') (hk:R ι k k') :
  SV P ι w (xdelete P t x k h) (Builtin.delete_ ⟨t::ts⟩ ty ⟨x'::k'::xs⟩):=by
 have h0:(⟨t::ts⟩ : Array TypeId)[0]? = some t:=rfl
 have h1:(⟨x'::k'::xs⟩ : Array Value)[0]? = some x':=rfl
 have h2:(⟨x'::k'::xs⟩ : Array Value)[1]? = some k':=rfl
 unfold xdelete
 split
 ·rename_i kt el r hu
  cases hko:keyOk P kt k with
  |false=>trivial
  |true=>
   have:=hk.flatEq (keyOk_flat hko)
   subst this
   simp only[cond_true]
   obtain⟨d,hd⟩:=under_of_keyOk hko
   cases hx with
   |map he=>
    split
    ·rename_i es clock hg
     obtain⟨es',k1,k2⟩:=s.map he hg
     cases hf:findK k' es 0 with
     |none=>trivial
     |some r=>
      rcases find_rel hko hd k2 0 hf with ⟨rfl,h3⟩|⟨j,u,u',rfl,h3,_,e0,he0,e1,he1,hke,hsb⟩
      ·refine SV.same s (v':=undef) ?_ (.tuple .nil)
       simp only[Builtin.delete_,h0,h1,h2,Sem.run_bind,rUnder hu,Result.andThen_ok,rGetObj k1,rCheckKey hko,rFindKey hd h3]
       rw[rSetObj k1,heap_same k1]
       rfl
      ·obtain⟨q1,q2⟩:=s.putMap (clock':=clock) he hg (k2.erase (0+j))
       refine⟨undef,_,?_,ι,q2,q1,.tuple .nil⟩
       simp only[Builtin.delete_,h0,h1,h2,Sem.run_bind,rUnder hu,Result.andThen_ok,rGetObj k1,rCheckKey hko,rFindKey hd h3]
       rw[rSetObj k1]
       have:(⟨es'⟩ : Array MapEntry).eraseIdxIfInBounds (0+j)=⟨es'.eraseIdx (0+j)⟩:=by
        apply Array.ext'
        simp[Array.toList_eraseIdxIfInBounds]
       rw[this]
       rfl
    ·trivial
 ·trivial
theorem ofBytes_spec:∀ {l:List Value} {b:List UInt8},ofBytes? l=some b→l=byteVals b
 |[],b,h=>by simp[ofBytes?] at h; subst h; rfl
 |v::l,b,h=>by
  unfold ofBytes? at h
  split at h
  ·rename_i q; cases q
  ·rename_i n l' q
   cases q
   cases hb:Nat.blt n 256 with
   |false=>rw[hb] at h; cases h
   |true=>
    rw[hb] at h
    simp only[cond_true] at h
    cases hr:ofBytes? l with
    |none=>rw[hr] at h; cases h
    |some r=>
     rw[hr] at h
     simp only[Option.map_some,Option.some.injEq] at h
     subst h
     have hlt:n<256:=by simpa [Nat.blt_eq] using hb
     rw[ofBytes_spec hr]
     simp[byteVals,Nat.mod_eq_of_lt hlt]
  ·cases h
theorem fold_push (l:List UInt8):∀ (r:ByteArray),(l.map fun b=>(b.toNat:Int)).foldl (fun r n=>r.push (UInt8.ofNat n.toNat)) r=⟨⟨r.data.toList++l⟩⟩:=by
 induction l with
 |nil=>intro r; simp
 |cons b l ih=>
  intro r
  simp only[List.map_cons,List.foldl_cons]
  rw[ih]
  simp[ByteArray.push]
theorem R.bytes {ι:Io}:∀ {l:List UInt8} {l':List Value},RL ι (byteVals l) l'→l'=byteVals l
 |[],_,h=>by cases h; rfl
 |b::l,_,h=>by
  simp only[byteVals,List.map_cons] at h ⊢
  cases h with
  |cons hv hl=>
   cases hv
   rw[show _=_ from R.bytes (l:=l) hl]
   rfl
theorem bytes_flat:∀ (l:List UInt8),flatL (byteVals l)=true
 |[]=>rfl
 |b::l=>by
  have:=bytes_flat l
  simp only[byteVals] at this
  simp[byteVals,flatL,flat,this]
theorem bytes_vals (l:List UInt8):byteVals l=(l.map fun b=>(b.toNat:Int)).map (Value.int .u8):=by simp[byteVals]
theorem xconvert_ok {P:Program} {ι:Io} {h:H} {w:World} (s:Sim P ι h w) (src dst:TypeId) {x x':Value} (hx:R ι x x'):SV P ι w (xconvert P src dst x h) (convert src dst x'):=by
 unfold xconvert
 split
 ·rename_i ds k j n hs hd
  cases hx
  refine SV.flat s ?_ rfl
  simp only[convert,Sem.run_bind,rUnder hs,rUnder hd,Result.andThen_ok,Conv.intToInt,Sem.run_pure]
 ·rename_i ds st hs hd
  cases hx
  refine SV.flat s ?_ rfl
  simp only[convert,Sem.run_bind,rUnder hs,rUnder hd,Result.andThen_ok]
  rfl
 ·rename_i ds e st hs hd
  cases hx
  split
  ·rename_i hu
   cases hc1:Nat.beq (P.cellsOf e) 1 with
   |false=>trivial
   |true=>
    simp only[cond_true]
    have hes:P.cellsOf e=1:=Nat.eq_of_beq_eq_true hc1
    obtain⟨cap,hcap,hrun⟩ : ∃ cap,st.size≤cap∧(choose (.appendCap st.size 0 e)).run P w = .ok cap { w with drawn:=w.drawn+1 }:=by
     refine⟨_,?_,by rw[run_choose]; rfl⟩
     simp only[Question.cut]
     omega
    have s1:=s.drawn (w.drawn+1)
    have arrlen:(byteVals st.data.toList++List.replicate (cap - st.size) (Value.int .u8 0)).length=cap:=by
     simp[byteVals]; omega
    obtain⟨q1,q2⟩:=s1.alloc (.cells (byteVals st.data.toList) e 1 true) (.cells ⟨byteVals st.data.toList++List.replicate (cap - st.size) (Value.int .u8 0)⟩ e (cap,cap+1)) ⟨w.heap.size,0,cap - st.size,cap,1,true⟩ rfl (by
      intro ι' w' hx _ hat
      refine⟨_,cap,cap+1,hat,arrlen,?_,?_,fun q=>(by cases q),fun _=>hes.symm,⟨fun q=>(by cases q),fun _=>.inr (Nat.le_refl _)⟩,rfl,fun _=>?_⟩
      ·simp[byteVals]; omega
      ·have:((byteVals st.data.toList++List.replicate (cap - st.size) (Value.int .u8 0)).drop 0).take (byteVals st.data.toList).length=byteVals st.data.toList:=by simp
       simp only[this]
       exact RL.ofFlat ι' _ (bytes_flat _)
      ·refine ones_drop (ones_append (ones_iff.2 fun v hv=>?_) (ones_iff.2 fun v hv=>?_)) _
       ·simp only[byteVals,List.mem_map] at hv
        obtain⟨b,_,rfl⟩:=hv
        rfl
       ·rw[(List.mem_replicate.1 hv).2]; rfl)
    have hval:R ((ι.add h.next ⟨w.heap.size,0,cap - st.size,cap,1,true⟩)) (.slice (some ⟨h.next,0,none⟩) st.size st.size) (.slice (some ⟨w.heap.size,0+0,none⟩) st.size (st.size+(cap - st.size))):=
     .slcO (Io.add_self _ _ _) (fun _=>by simp; omega)
    refine⟨_,_,?_,_,(Step.drawn ι w (w.drawn+1)).trans q2,q1,hval⟩
    simp only[convert,Sem.run_bind,rUnder hs,rUnder hd,Result.andThen_ok,rUnder hu,Conv.stringToBytes,hrun,newRow,run_newObj,Sem.run_pure,markStringish,run_shape,run_freeze]
    have hsh:World.shape? { heap:=w.heap.push (Obj.cells (Array.map (fun b=>Value.int IntKind.u8 ↑b.toNat) st.data++Array.replicate (cap - st.size) (Value.int IntKind.u8 0)) e),tape:=w.tape,drawn:=w.drawn+1,os:=w.os,output:=w.output } w.heap.size=some (e,cap):=by
     unfold World.shape?
     simp
     try omega
    rw[hsh]
    simp only[Sem.run_bind,run_freeze,Result.andThen_ok,Sem.run_pure,Nat.add_zero]
    rw[show st.size+(cap - st.size)=cap by omega]
    congr 1
    unfold World.freeze
    rw[if_neg (by omega)]
    congr 1
    apply Array.ext_getElem?
    intro i
    rw[Array.getElem?_modify]
    by_cases hi:w.heap.size=i
    ·subst hi
     simp[byteVals]
    ·rw[if_neg hi]
     simp only[Array.getElem?_push]
     rw[if_neg (fun q=>hi q.symm),if_neg (fun q=>hi q.symm)]
  ·trivial
 ·rename_i e b n c hs hd
  split
  ·rename_i hu
   cases hx
   refine SV.flat s ?_ rfl
   simp only[convert,Sem.run_bind,rUnder hs,rUnder hd,Result.andThen_ok,rUnder hu,Conv.bytesToString,Sem.run_pure]
  ·rename_i a hu
   cases hr:(h.row { a with spot:=none } n).bind ofBytes? with
   |none=>trivial
   |some l=>
    simp only
    cases hrow:h.row { a with spot:=none } n with
    |none=>rw[hrow] at hr; cases hr
    |some vs=>
     rw[hrow] at hr
     simp only[Option.bind_some] at hr
     have hvs:=ofBytes_spec hr
     have key:∀ (a':Addr) (c':Nat),(loadCells a' n).run P w = .ok ⟨byteVals l⟩ w→SV P ι w (.ok (.string ⟨⟨l⟩⟩) h) (convert src dst (.slice (some a') n c')):=by
      intro a' c' hload
      refine SV.flat s ?_ rfl
      have:=run_bytesToString (P:=P) w a' n c' (l.map fun b=>(b.toNat:Int)) (by rw[← bytes_vals]; exact hload)
      rw[fold_push] at this
      simp only[convert,Sem.run_bind,rUnder hs,rUnder hd,Result.andThen_ok,rUnder hu,this]
      rfl
     cases hx with
     |slcO he hc=>
      obtain⟨hl,l',g1,g2⟩:=s.row he hrow
      subst hvs
      have:=R.bytes g1
      subst this
      exact key _ _ (rLoadCells _ _ _ n hl.symm g2)
     |slcX he=>
      obtain⟨hl,l',g1,g2⟩:=s.row he hrow
      subst hvs
      have:=R.bytes g1
      subst this
      exact key _ _ (rLoadCells _ _ _ n hl.symm g2)
     |slcE he h'=>
      obtain⟨hl,_⟩:=s.row he hrow
      have hl0:vs=[]:=List.length_eq_zero_iff.1 hl
      subst hl0
      have hb0:l=[]:=by
       cases l with
       |nil=>rfl
       |cons b bs=>simp[byteVals] at hvs
      subst hb0
      exact key _ _ rfl
     |slcN=>
      have hl:=H.row_len0 hrow
      have hl0:vs=[]:=List.length_eq_zero_iff.1 hl
      subst hl0
      have hb0:l=[]:=by
       cases l with
       |nil=>rfl
       |cons b bs=>simp[byteVals] at hvs
      subst hb0
      exact key _ _ rfl
     |slcM=>
      have hl:=H.row_len0 hrow
      have hl0:vs=[]:=List.length_eq_zero_iff.1 hl
      subst hl0
      have hb0:l=[]:=by
       cases l with
       |nil=>rfl
       |cons b bs=>simp[byteVals] at hvs
      subst hb0
      exact key _ _ rfl
  ·trivial
 ·rename_i t b o hs hd
  split
  ·rename_i c el f hg
   cases hb:(Nat.blt o c.length&&szPos P t) with
   |false=>trivial
   |true=>
    simp only[Bool.and_eq_true] at hb
    have hlt:o<c.length:=by have:=hb.1; simpa [Nat.blt_eq] using this
    obtain⟨j,hj,hj0⟩ : ∃ j,P.info? t=some j∧j.size≠0:=by
     have h2:=hb.2
     unfold szPos at h2
     split at h2
     ·rename_i j hj
      refine⟨j,hj,fun q=>?_⟩
      rw[q] at h2; cases h2
     ·cases h2
    cases hx with
    |ptr he=>
     rename_i e
     obtain⟨e',he',hbr⟩:=s.blk b _ hg rfl
     rw[he] at he'; cases he'
     obtain⟨arr,lo,hi,h1,h2,h3,h4,h5,h6,h7,h8⟩:=hbr
     refine SV.same s (Lib.run_to_unsafe (j:=j) (e:=el) (cells:=arr.length) w ⟨e.c,o+e.sh,none⟩ hs hd hj hj0 ?_ ?_) (.ptr he)
     ·unfold World.shape?; simp only[h1]; rfl
     ·simp only; omega
  ·trivial
 ·rename_i u b o hs hd
  split
  ·rename_i c el f hg
   cases hb:(selfy P el&&szOk P u&&liesAt P P.depth el (c.length / P.cellsOf el) o u 1) with
   |false=>trivial
   |true=>
    simp only[Bool.and_eq_true] at hb
    obtain⟨j,hj⟩ : ∃ j,P.info? u=some j:=by
     have h2:=hb.1.2
     unfold szOk at h2
     exact Option.isSome_iff_exists.1 h2
    cases hx with
    |ptr he=>
     rename_i e
     obtain⟨e',he',hbr⟩:=s.blk b _ hg rfl
     rw[he] at he'; cases he'
     obtain⟨arr,lo,hi,h1,h2,h3,h4,h5,h6,h7,h8⟩:=hbr
     obtain⟨k1,k2⟩:=h5 rfl
     have k3:=k2 hb.1.1
     have hlen:arr.length=c.length:=by rw[h2,h3,k1,k3]; omega
     refine SV.same s (Lib.run_from_unsafe (j:=j) (e:=el) (cells:=arr.length) w ⟨e.c,o+e.sh,none⟩ hs hd hj ?_ ?_) (.ptr he)
     ·unfold World.shape?; simp only[h1]; rfl
     ·rw[hlen,k3]; exact hb.2
  ·trivial
 ·trivial
end Go.Kx
