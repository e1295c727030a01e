/- My texts for this claim, in one file: part 8. -/
import Derived.Test.YtbfgadekkemlcaaGreatDoorV7
set_option linter.unusedVariables false
set_option linter.unusedSimpArgs false
namespace Go.Kx
open Go
theorem rGetObj {P:Program} {w:World} {r:Nat} {es:Array MapEntry} {clock:Nat} (h:w.heap[r]? = some (.map es clock)):(getObj r).run P w = .ok (.map es clock) w:=by
 simp only[getObj,Sem.run,h]
theorem Sim.map {P:Program} {ι:Io} {h:H} {w:World} (s:Sim P ι h w) {b clock:Nat} {e:Ent} {es:List MapEntry} (he:ι b=some e) (hg:h.get b=some (.map es clock)) :
  ∃ es',w.heap[e.c]? = some (.map ⟨es'⟩ clock)∧RM ι es es':=by
 obtain⟨e',he',hbr⟩:=s.blk b _ hg rfl
 rw[he] at he'; cases he'
 exact hbr
theorem RM.length {ι:Io}:∀ {l l':List MapEntry},RM ι l l'→l.length=l'.length
 |_,_,.nil=>rfl
 |_,_,.cons _ hl=>by simp[RM.length hl]
theorem xlen_ok {P:Program} {ι:Io} {h:H} {w:World} (s:Sim P ι h w) (t:TypeId) (ts:List TypeId) (ty:TypeId) {x x':Value} (xs:List Value) (hx:R ι x x') :
  SV P ι w (xlen P t x h) (Builtin.len_ ⟨t::ts⟩ ty ⟨x'::xs⟩):=by
 have h0:(⟨t::ts⟩ : Array TypeId)[0]? = some t:=rfl
 have h1:(⟨x'::xs⟩ : Array Value)[0]? = some x':=rfl
 unfold xlen
 split
 ·rename_i hu
  cases hx
  refine SV.flat s ?_ rfl
  simp only[Builtin.len_,h0,h1,Sem.run_bind,rUnder hu,Result.andThen_ok,Sem.run_pure]
 ·rename_i n e hu
  refine SV.flat s ?_ rfl
  simp only[Builtin.len_,h0,h1,Sem.run_bind,rUnder hu,Result.andThen_ok]
  rfl
 ·rename_i e b n c hu
  refine SV.flat s ?_ rfl
  cases hx<;>simp only[Builtin.len_,h0,h1,Sem.run_bind,rUnder hu,Result.andThen_ok,Sem.run_pure]
 ·rename_i hu
  cases hx
  refine SV.flat s ?_ rfl
  simp only[Builtin.len_,h0,h1,Sem.run_bind,rUnder hu,Result.andThen_ok,Sem.run_pure]
 ·rename_i hu
  cases hx with
  |map he=>
   split
   ·rename_i es clock hg
    obtain⟨es',k1,k2⟩:=s.map he hg
    refine SV.flat s ?_ rfl
    simp only[Builtin.len_,h0,h1,Sem.run_bind,rUnder hu,Result.andThen_ok,rGetObj k1,Sem.run_pure,List.size_toArray,k2.length]
   ·trivial
 ·trivial
theorem xcap_ok {P:Program} {ι:Io} {h:H} {w:World} (s:Sim P ι h w) (t:TypeId) (ts:List TypeId) (ty:TypeId) {x x':Value} (xs:List Value) (hx:R ι x x') :
  SV P ι w (xcap P t x h) (Builtin.cap_ ⟨t::ts⟩ ty ⟨x'::xs⟩):=by
 have h0:(⟨t::ts⟩ : Array TypeId)[0]? = some t:=rfl
 have h1:(⟨x'::xs⟩ : Array Value)[0]? = some x':=rfl
 unfold xcap
 split
 ·rename_i e n c hu
  cases hx
  refine SV.flat s ?_ rfl
  simp only[Builtin.cap_,h0,h1,Sem.run_bind,rUnder hu,Result.andThen_ok,Sem.run_pure]
 ·rename_i e a n c hu
  split
  ·rename_i ha
   cases hx with
   |slcO he hc=>cases ha
   |slcE he h'=>cases ha
   |slcN=>cases ha
   |slcM=>cases ha
   |slcX he=>
    refine SV.flat s ?_ rfl
    simp only[Builtin.cap_,h0,h1,Sem.run_bind,rUnder hu,Result.andThen_ok,Sem.run_pure]
  ·rename_i ha
   cases hx with
   |slcX he=>cases ha
   |slcE he h'=>cases ha
   |slcN=>cases ha
   |slcM=>cases ha
   |slcO he hc=>
    split
    ·rename_i hg
     obtain⟨hsl,_⟩:=opnSz_none s he hg
     refine SV.flat s ?_ rfl
     simp only[Builtin.cap_,h0,h1,Sem.run_bind,rUnder hu,Result.andThen_ok,Sem.run_pure]
     rw[hsl]
     rfl
    ·trivial
  ·trivial
 ·rename_i n e hu
  refine SV.flat s ?_ rfl
  simp only[Builtin.cap_,h0,h1,Sem.run_bind,rUnder hu,Result.andThen_ok]
  rfl
 ·trivial
theorem xtypeAssert_ok {P:Program} {ι:Io} {h:H} {w:World} (s:Sim P ι h w) {x x':Value} (xt a:TypeId) (ok:Bool) (hx:R ι x x'):SV P ι w (xtypeAssert P x a ok h) (Instr.typeAssert x' xt a ok):=by
 have holds:∀ {v v':Value},R ι v v'→R ι (bif ok then .tuple #[v,.bool true] else v) (if ok then .tuple #[v',.bool true] else v'):=by
  intro v v' hv
  cases ok
  ·exact hv
  ·exact .tuple (.cons hv (.cons (.bool true) .nil))
 have fails:∀ (m:Sem Value),(ok=true→∀ z,zeroOf P a=some z→m.run P w = .ok (.tuple #[z,.bool false]) w) →
   SV P ι w (bif ok then (match zeroOf P a with|some z=>bif flat z then .ok (.tuple #[z,.bool false]) h else .bad|none=>.bad) else .bad) m:=by
  intro m hm
  cases hok:ok with
  |false=>trivial
  |true=>
   simp only[cond_true]
   cases hz:zeroOf P a with
   |none=>trivial
   |some z=>
    simp only
    cases hf:flat z with
    |false=>trivial
    |true=>exact SV.same s (hm hok z hz) (.tuple (.cons (zero_R hz ι) (.cons (.bool false) .nil)))
 unfold xtypeAssert
 simp only
 split
 ·rename_i ms hu
  cases hx
  refine fails _ fun hok z hz=>?_
  subst hok
  simp only[Instr.typeAssert,Sem.run_bind,rUnder hu,Result.andThen_ok,if_true,rZero hz,Sem.run_pure]
 ·rename_i want t v hu
  cases hx with
  |iface hv=>
   split
   ·rename_i i hi
    split
    ·rename_i hm
     refine SV.same s ?_ (holds (.iface hv))
     simp only[Instr.typeAssert,Sem.run_bind,rUnder hu,Result.andThen_ok,rTypeInfo hi,hm,Sem.run_pure]
    ·rename_i m hm
     refine fails _ fun hok z hz=>?_
     subst hok
     simp only[Instr.typeAssert,Sem.run_bind,rUnder hu,Result.andThen_ok,rTypeInfo hi,hm,if_true,rZero hz,Sem.run_pure]
   ·trivial
 ·rename_i d hn hu
  cases hx
  refine fails _ fun hok z hz=>?_
  subst hok
  simp only[Instr.typeAssert,Sem.run_bind,rUnder hu,Result.andThen_ok]
  split<;>simp_all [rZero hz]
 ·rename_i d t v hn hu
  cases hx with
  |iface hv=>
   cases ht:Nat.beq t a with
   |true=>
    have hta:t=a:=Nat.eq_of_beq_eq_true ht
    refine SV.same s ?_ (holds hv)
    simp only[Instr.typeAssert,Sem.run_bind,rUnder hu,Result.andThen_ok]
    split<;>simp_all
   |false=>
    have hta:¬ t=a:=fun q=>by rw[beqT q] at ht; cases ht
    refine fails _ fun hok z hz=>?_
    subst hok
    simp only[Instr.typeAssert,Sem.run_bind,rUnder hu,Result.andThen_ok]
    split<;>simp_all [rZero hz]
 ·trivial
 ·trivial
theorem keyOk_spec {P:Program} {t:TypeId} {k:Value} (h:keyOk P t k=true) :
  (∃ j a b,P.underlying t=some (.int j)∧k = .int a b)∨(∃ b,P.underlying t=some .string∧k = .string b):=by
 unfold keyOk at h
 split at h
 ·rename_i j a b hu; exact .inl ⟨_,_,_,hu,rfl⟩
 ·rename_i b hu; exact .inr ⟨_,hu,rfl⟩
 ·cases h
theorem keyOk_flat {P:Program} {t:TypeId} {k:Value} (h:keyOk P t k=true):flat k=true:=by
 rcases keyOk_spec h with ⟨j,a,b,_,rfl⟩|⟨b,_,rfl⟩<;>rfl
theorem rCheckKey' {P:Program} {w:World} {t:TypeId} {k:Value} (h:keyOk P t k=true) (e:Bool) (n:Nat):(Instr.checkKey e (n+1) t k).run P w = .ok () w:=by
 rcases keyOk_spec h with ⟨j,a,b,hu,rfl⟩|⟨b,hu,rfl⟩
 ·simp only[Instr.checkKey,Sem.run_bind,rUnder hu,Result.andThen_ok,Sem.run_pure]
 ·simp only[Instr.checkKey,Sem.run_bind,rUnder hu,Result.andThen_ok,Sem.run_pure]
theorem rCheckKey {P:Program} {w:World} {t:TypeId} {k:Value} (h:keyOk P t k=true) (e:Bool):(Instr.checkKey e 10000 t k).run P w = .ok () w:=rCheckKey' h e 9999
theorem sb_int (n:Nat) (j k:IntKind) (a b:Int):Instr.sameBits n (.int j a) (.int k b)=(j == k&&a == b):=by cases n<;>rfl
theorem sb_string (n:Nat) (a b:ByteArray):Instr.sameBits n (.string a) (.string b)=(a == b):=by cases n<;>rfl
theorem find_rel {P:Program} {ι:Io} {t:TypeId} {k:Value} (hk:keyOk P t k=true) {d:TypeDesc} (hd:P.underlying t=some d) :
  ∀ {es es':List MapEntry},RM ι es es'→∀ (i:Nat) {r:Option (Nat × Value)},findK k es i=some r →
   (r=none∧Instr.findNow d k es' i=some none)∨(∃ j v v',r=some (i+j,v)∧Instr.findNow d k es' i=some (some (i+j,v'))∧R ι v v'∧∃ e,es[j]? = some e∧∃ e',es'[j]? = some e'∧e.key=e'.key∧Instr.sameBits 10000 e'.key k=true)
 |_,_,.nil,i,r,h=>by
  simp only[findK,Option.some.injEq] at h
  exact .inl ⟨h.symm,rfl⟩
 |_,_,.cons (k:=key) (v:=v) (v':=v') (n:=n) (l:=l) (l':=l') hv hl,i,r,h=>by
  have step:(findK k l (i+1)=some r→Instr.findNow d k (⟨key,v',n⟩::l') i=Instr.findNow d k l' (i+1)→((r=none∧Instr.findNow d k (⟨key,v',n⟩::l') i=some none) ∨
    (∃ j u u',r=some (i+j,u)∧Instr.findNow d k (⟨key,v',n⟩::l') i=some (some (i+j,u'))∧R ι u u'∧∃ e,(⟨key,v,n⟩::l:List MapEntry)[j]? = some e∧∃ e',(⟨key,v',n⟩::l':List MapEntry)[j]? = some e'∧e.key=e'.key∧Instr.sameBits 10000 e'.key k=true))):=by
   intro h1 h2
   rcases find_rel hk hd hl (i+1) h1 with ⟨a,b⟩|⟨j,u,u',a,b,c,e,he,e',he',hke,hsb⟩
   ·exact .inl ⟨a,h2.trans b⟩
   ·exact .inr ⟨j+1,u,u',by rw[a,show i+1+j=i+(j+1) by omega],by rw[h2,b,show i+1+j=i+(j+1) by omega],c,e,by simpa using he,e',by simpa using he',hke,hsb⟩
  rcases keyOk_spec hk with ⟨j0,a,b,hu,rfl⟩|⟨b,hu,rfl⟩
  ·rw[hd] at hu; cases hu
   cases key with
   |int b' y=>
    have h':(bif decide (a=b') then (bif b == y then some (some (i,v)) else findK (.int a b) l (i+1)) else none)=some r:=h
    cases hdec:decide (a=b') with
    |false=>rw[hdec] at h'; cases h'
    |true=>
     have hab:a=b':=of_decide_eq_true hdec
     subst hab
     rw[hdec] at h'
     simp only[cond_true] at h'
     cases hxy:(b == y) with
     |true=>
      rw[hxy] at h'
      simp only[cond_true,Option.some.injEq] at h'
      have hby:b=y:=by simpa using hxy
      subst hby
      refine .inr ⟨0,v,v',by rw[← h']; rfl,?_,hv,_,rfl,_,rfl,rfl,?_⟩
      ·simp[Instr.findNow,Instr.sameNow]
      ·simp[sb_int]
     |false=>
      rw[hxy] at h'
      simp only[cond_false] at h'
      refine step h' ?_
      simp[Instr.findNow,Instr.sameNow,hxy]
   |_=>simp[findK] at h
  ·rw[hd] at hu; cases hu
   cases key with
   |string y=>
    have h':(bif b == y then some (some (i,v)) else findK (.string b) l (i+1))=some r:=h
    cases hxy:(b == y) with
    |true=>
     rw[hxy] at h'
     simp only[cond_true,Option.some.injEq] at h'
     refine .inr ⟨0,v,v',by rw[← h']; rfl,?_,hv,_,rfl,_,rfl,rfl,?_⟩
     ·simp[Instr.findNow,Instr.sameNow,hxy]
     ·have h1:(b.data == y.data)=true:=hxy
      have h2:b.data=y.data:=by simpa using h1
      rw[sb_string]
      show (y.data == b.data)=true
      simp[h2]
    |false=>
     rw[hxy] at h'
     simp only[cond_false] at h'
     refine step h' ?_
     simp[Instr.findNow,Instr.sameNow,hxy]
   |_=>simp[findK] at h
theorem under_of_keyOk {P:Program} {t:TypeId} {k:Value} (h:keyOk P t k=true):∃ d,P.underlying t=some d:=by
 rcases keyOk_spec h with ⟨j,a,b,hu,rfl⟩|⟨b,hu,rfl⟩<;>exact⟨_,hu⟩
theorem rFindKey {P:Program} {w:World} {t:TypeId} {k:Value} {d:TypeDesc} (hd:P.underlying t=some d) {es:List MapEntry} {r:Option (Nat × Value)} (h:Instr.findNow d k es 0=some r) :
  (Instr.findKey t k es).run P w = .ok r w:=by
 simp only[Instr.findKey,Sem.run_bind,rUnder hd,Result.andThen_ok,h,Sem.run_pure]
theorem xlookup_ok {P:Program} {ι:Io} {h:H} {w:World} (s:Sim P ι h w) (t:TypeId) {x x' k k':Value} (ok:Bool) (hx:R ι x x') (hk:R ι k k'):SV P ι w (xlookup P t x k ok h) (Instr.lookup t x' k' ok):=by
 unfold xlookup
 split
 ·rename_i kt el hu
  cases hko:keyOk P kt k with
  |false=>trivial
  |true=>
   have:=hk.flatEq (keyOk_flat hko)
   subst this
   simp only[cond_true]
   obtain⟨d,hd⟩:=under_of_keyOk hko
   have main:∀ (es es':List MapEntry) (x':Value),RM ι es es'→(Instr.lookup t x' k' ok).run P w=(Sem.run P (do
      Instr.checkKey (⟨es'⟩ : Array MapEntry).isEmpty 10000 kt k'
      match ← Instr.findKey kt k' es' with
       |some (_,v)=>do
        let __x ← (pure (v,true):Sem (Value × Bool))
        pure (if ok then Value.tuple #[__x.1,.bool __x.2] else __x.1)
       |none=>do
        let z ← zeroValue el
        let __x ← (pure (z,false):Sem (Value × Bool))
        pure (if ok then Value.tuple #[__x.1,.bool __x.2] else __x.1)) w) →
     SV P ι w (match findK k' es 0 with
      |some (some (_,v))=>.ok (bif ok then .tuple #[v,.bool true] else v) h
      |some none=>(match zeroOf P el with|some z=>bif flat z then .ok (bif ok then .tuple #[z,.bool false] else z) h else .bad|none=>.bad)
      |none=>.bad) (Instr.lookup t x' k' ok):=by
    intro es es' x' hm hl
    cases hf:findK k' es 0 with
    |none=>trivial
    |some r=>
     rcases find_rel hko hd hm 0 hf with ⟨rfl,h2⟩|⟨j,v,v',rfl,h2,h3,_⟩
     ·simp only
      cases hz:zeroOf P el with
      |none=>trivial
      |some z=>
       simp only
       cases hfl:flat z with
       |false=>trivial
       |true=>
        simp only[cond_true]
        refine SV.same s (v':=if ok then .tuple #[z,.bool false] else z) ?_ ?_
        ·rw[hl]
         simp only[Sem.run_bind,rCheckKey hko,Result.andThen_ok,rFindKey hd h2,rZero hz,Sem.run_pure]
        ·cases ok
         ·exact R.ofFlat ι z hfl
         ·exact .tuple (.cons (R.ofFlat ι z hfl) (.cons (.bool false) .nil))
     ·simp only
      refine SV.same s (v':=if ok then .tuple #[v',.bool true] else v') ?_ ?_
      ·rw[hl]
       simp only[Sem.run_bind,rCheckKey hko,Result.andThen_ok,rFindKey hd h2,Sem.run_pure]
      ·cases ok
       ·exact h3
       ·exact .tuple (.cons h3 (.cons (.bool true) .nil))
   cases hx<;>try trivial
   ·exact main [] [] _ .nil (by
     unfold Instr.lookup
     simp only[Sem.run_bind,rUnder hu,Result.andThen_ok,Sem.run_pure]
     rfl)
   ·rename_i b e he
    simp only
    split
    ·rename_i es hes
     split at hes
     ·rename_i es₀ clock hg
      cases hes
      obtain⟨es',k1,k2⟩:=s.map he hg
      exact main _ es' _ k2 (by
       unfold Instr.lookup
       simp only[Sem.run_bind,rUnder hu,Result.andThen_ok,rGetObj k1,Sem.run_pure]
       rfl)
     ·cases hes
    ·trivial
 ·trivial
end Go.Kx
