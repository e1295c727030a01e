/- My texts for this claim, in one file: part 13. -/
import Derived.Lib.UnsafeStr
import Derived.Test.YtbfgadekkemlcaaGreatDoorV12
set_option linter.unusedVariables false
set_option linter.unusedSimpArgs false
namespace Go.Kx
open Go
theorem xsdata_ok {P:Program} {ι:Io} {h:H} {w:World} (s:Sim P ι h w) (ts:Array TypeId) (ty:TypeId) {x x':Value} (hx:R ι x x'):SV P ι w (xsdata x h) (Builtin.unsafeSliceData_ ts ty ⟨[x']⟩):=by
 unfold xsdata
 split
 ·cases hx
  exact SV.same s (Lib.run_unsafeSliceData_nil w ts ty _ _) .ptr0
 ·rename_i b o n c
  cases hx with
  |slcO he hc=>
   rename_i e
   exact SV.same s (Lib.run_unsafeSliceData_row w ts ty ⟨e.c,o+e.sh,none⟩ n (c+1+e.slack) (by omega)) (.ptr he)
 ·trivial
theorem liesAt_from {P:Program} {e:TypeId} (hc:P.cellsOf e=1) (count off n:Nat) (hn:off+n≤count):liesAt P P.depth e count off e n=true:=by
 have hd:P.depth=(2*(P.types.size+Made.depth)+1)+1:=rfl
 rw[hd]
 simp only[liesAt,Bool.or_eq_true]
 left
 rw[hd]
 simp[rowAt,hc,hn,sameLayout,Nat.mod_one]
theorem xustr_ok {P:Program} {ι:Io} {h:H} {w:World} (s:Sim P ι h w) (t:TypeId) (ts:List TypeId) (ty:TypeId) {p p' n n':Value} (hp:R ι p p') (hn:R ι n n') :
  SV P ι w (xustr P t p n h) (Builtin.unsafeString_ ⟨t::ts⟩ ty ⟨[p',n']⟩):=by
 have hmax:IntKind.i64.max=9223372036854775807:=rfl
 have hdef:∀ (q:Option Addr) (m:Int),Builtin.unsafeString_ ⟨t::ts⟩ ty ⟨[.pointer q,.int .i64 m]⟩ =
   (do
    let n ← asInt (.int .i64 m)
    if n<0 then runtimePanic (.error "unsafe.String: len out of range")
    if n > IntKind.i64.max then unsupported (.unsafePointer "String: a length above the largest int")
    match q with
    |none=>
     if n=0 then pure (.string .empty)
     else runtimePanic (.error "unsafe.String: ptr is nil and len is not zero")
    |some a=>
     if n=0 then pure (.string .empty)
     else if ← variablesAt a (← elemOf t) n.toNat then do
      let s ← loadBytes a .empty n.toNat
      freeze a n.toNat
      pure (.string s)
     else unsupported (.unsafePointer "String: not so many bytes at ptr")):=fun q m=>rfl
 unfold xustr
 split
 ·cases hp; cases hn
  refine SV.flat s ?_ rfl
  rw[hdef]
  simp[asInt,asIntOf,hmax]
 ·rename_i e b o k hu
  split
  ·rename_i c el f hg
   cases hb:(Nat.beq el e&&Nat.beq (P.cellsOf e) 1&&Nat.ble k 9223372036854775807) with
   |false=>trivial
   |true=>
    simp only[Bool.and_eq_true] at hb
    have hel:=Nat.eq_of_beq_eq_true hb.1.1
    have hce:=Nat.eq_of_beq_eq_true hb.1.2
    have hk:=Nat.le_of_ble_eq_true hb.2
    subst hel
    simp only[cond_true]
    cases hr:(h.row ⟨b,o,none⟩ k).bind ofBytes? with
    |none=>trivial
    |some l=>
     simp only
     cases hn
     cases hp with
     |ptr he=>
      rename_i e
      cases hk0:Nat.beq k 0 with
      |true=>
       have:=Nat.eq_of_beq_eq_true hk0
       subst this
       simp only[cond_true]
       refine SV.flat s ?_ rfl
       rw[hdef]
       simp[asInt,asIntOf,hmax]
      |false=>
       have hk1:k≠0:=fun q=>by rw[q] at hk0; cases hk0
       simp only[cond_false]
       cases hrow:h.row ⟨b,o,none⟩ k with
       |none=>rw[hrow] at hr; cases hr
       |some vs=>
        rw[hrow] at hr
        simp only[Option.bind_some] at hr
        have hvs:=ofBytes_spec hr
        obtain⟨hl,l',g1,g2⟩:=s.row he hrow
        subst hvs
        have:=R.bytes g1
        subst this
        have hll:l.length=k:=by simpa [byteVals] using hl
        obtain⟨e',he',hbr⟩:=s.blk b _ hg rfl
        rw[he] at he'; cases he'
        obtain⟨arr,lo,hi,h1,h2,h3,h4,h5,h6,h7,h8⟩:=hbr
        have hsh:w.shape? e.c=some (el,arr.length):=by unfold World.shape?; simp only[h1]; rfl
        have hle:o+k≤c.length:=by
         unfold H.row at hrow
         simp only[hg] at hrow
         cases hbb:Nat.ble (o+k) c.length with
         |false=>rw[hbb] at hrow; cases hrow
         |true=>exact Nat.le_of_ble_eq_true hbb
        have hcell:∀ j x,l[j]? = some x→w.cell? ((⟨e.c,o+e.sh,none⟩ : Addr).add j)=some (.int .u8 x.toNat):=by
         intro j x hj
         have hjl:=(List.getElem?_eq_some_iff.1 hj).1
         rw[add_of]
         exact g2 j _ (by simp[byteVals,hj])
        have hlb:=Lib.run_loadBytes (P:=P) w l ⟨e.c,o+e.sh,none⟩ .empty hcell
        have hlies:=liesAt_from (P:=P) hce (arr.length / P.cellsOf el) (o+e.sh) k (by rw[hce]; simp; omega)
        have h63':¬ (9223372036854775807:Int)<(k:Int):=by omega
        have hneg:¬ (k:Int)<0:=by omega
        have hk1':¬ (k:Int)=0:=by omega
        have hrun:(Builtin.unsafeString_ ⟨t::ts⟩ ty ⟨[.pointer (some ⟨e.c,o+e.sh,none⟩),.int .i64 (Int.ofNat k)]⟩).run P w = .ok (.string ⟨l.toArray⟩) (w.freeze ⟨e.c,o+e.sh,none⟩ k):=by
         rw[hdef]
         rw[hll] at hlb
         simp[asInt,asIntOf,hmax,h63',hneg,hk1,hk1',variablesAt,hsh,elemOf,rUnder hu,hlies,hlb]
        have hop:e.opn=true:=h8.1
        have hfr:(w.freeze ⟨e.c,o+e.sh,none⟩ k).heap=w.heap.setIfInBounds e.c (.cells ⟨arr⟩ el (if lo == hi then (o+e.sh,o+e.sh+k) else (min lo (o+e.sh),max hi (o+e.sh+k)))):=by
         unfold World.freeze
         rw[if_neg hk1]
         apply Array.ext_getElem?
         intro i
         rw[Array.getElem?_modify,Array.getElem?_setIfInBounds]
         by_cases hi:e.c=i
         ·subst hi
          rw[if_pos rfl,if_pos rfl,if_pos (s.dom b e he).2,h1]
          rfl
         ·rw[if_neg hi,if_neg hi]
        have hfo:(w.freeze ⟨e.c,o+e.sh,none⟩ k).os=w.os∧(w.freeze ⟨e.c,o+e.sh,none⟩ k).tape=w.tape∧(w.freeze ⟨e.c,o+e.sh,none⟩ k).output=w.output:=by
         unfold World.freeze
         rw[if_neg hk1]
         exact⟨rfl,rfl,rfl⟩
        obtain⟨hs',hst⟩:=s.putG (x:=.dead) hg rfl he hfr hfo.1 hfo.2.1 hfo.2.2 (fun _=>trivial) (.inl hop)
        exact⟨_,_,hrun,ι,hst,hs',.string _⟩
     |_=>trivial
  ·trivial
 ·trivial
end Go.Kx
