/- My texts for this claim, in one file: part 19. -/
import Derived.Test.YtbfgadekkemlcaaGreatDoorV18
set_option linter.unusedVariables false
namespace Go.Kx
open Go
def Le (r r':Res Value):Prop:=r ≠ .bad→r'=r
theorem Le.rfl {r:Res Value}:Le r r:=fun _=>Eq.refl r
theorem Le.trans {a b c:Res Value} (h:Le a b) (k:Le b c):Le a c:=fun q=>by
 have:=h q
 rw[this] at k
 exact k q
structure IsLim (F:Nat→Res Value) (r:Res Value):Prop where
 mono:∀ m,Le (F m) (F (m+1))
 le:∀ m,Le (F m) r
 ex:r ≠ .bad→∃ m,F m=r
theorem mono_le {F:Nat→Res Value} (h:∀ m,Le (F m) (F (m+1))) {m n:Nat} (hmn:m≤n):Le (F m) (F n):=by
 induction hmn with
 |refl=>exact Le.rfl
 |step _ ih=>exact ih.trans (h _)
open Classical in
noncomputable def lim (F:Nat→Res Value):Res Value:=if h:∃ m,F m ≠ .bad then F (Classical.choose h) else .bad
theorem lim_is {F:Nat→Res Value} (h:∀ m,Le (F m) (F (m+1))):IsLim F (lim F):=by
 by_cases q:∃ m,F m ≠ .bad
 ·have hc:=Classical.choose_spec q
  have e:lim F=F (Classical.choose q):=by unfold lim; rw[dif_pos q]
  refine⟨h,fun m hm=>?_,fun _=>⟨_,e.symm⟩⟩
  rw[e]
  rcases Nat.le_total m (Classical.choose q) with hle|hle
  ·exact mono_le h hle hm
  ·have:=mono_le h hle hc
   exact this.symm
 ·have e:lim F = .bad:=by unfold lim; rw[dif_neg q]
  refine⟨h,fun m hm=>absurd ⟨m,hm⟩ q,fun hb=>absurd e hb⟩
theorem IsLim.const (r:Res Value):IsLim (fun _=>r) r:=⟨fun _=>Le.rfl,fun _=>Le.rfl,fun _=>⟨0,rfl⟩⟩
theorem IsLim.uniq {F:Nat→Res Value} {r r':Res Value} (h:IsLim F r) (k:IsLim F r'):r=r':=by
 by_cases q:r = .bad
 ·by_cases q':r' = .bad
  ·rw[q,q']
  ·obtain⟨m,hm⟩:=k.ex q'
   have:=h.le m (by rw[hm]; exact q')
   rw[hm] at this
   exact this
 ·obtain⟨m,hm⟩:=h.ex q
  have:=k.le m (by rw[hm]; exact q)
  rw[hm] at this
  exact this.symm
theorem IsLim.from {F:Nat→Res Value} {r:Res Value} (h:IsLim F r) (hr:r ≠ .bad):∃ m₀,∀ m,m₀≤m→F m=r:=by
 obtain⟨m₀,h0⟩:=h.ex hr
 exact⟨m₀,fun m hm=>by have:=mono_le h.mono hm (by rw[h0]; exact hr); rw[this,h0]⟩
theorem IsLim.bad {F:Nat→Res Value} (h:IsLim F .bad) (m:Nat):F m = .bad:=by
 apply Classical.byContradiction
 intro q
 exact q (h.le m q).symm
theorem IsLim.go {R:Nat→Res Value} {r:Res Value} (hR:IsLim R r) {p:Nat→Value→H→Res Value} {p':Value→H→Res Value} {k:Nat→Value→H→Res Value} {k':Value→H→Res Value}
  (hp:∀ v h,IsLim (fun m=>p m v h) (p' v h)) (hk:∀ v h,IsLim (fun m=>k m v h) (k' v h)):IsLim (fun m=>(R m).go (p m) (k m)) (r.go p' k'):=by
 have main:∀ (f:Nat→Res Value) (f':Res Value),IsLim f f'→r ≠ .bad→(∀ m,R m=r→(R m).go (p m) (k m)=f m)→r.go p' k'=f'→IsLim (fun m=>(R m).go (p m) (k m)) (r.go p' k'):=by
  intro f f' hf hr hm he
  have two:∀ m,R m=r∨R m = .bad:=fun m=>by
   by_cases q:R m = .bad
   ·exact .inr q
   ·exact .inl (hR.le m q).symm
  refine⟨fun m=>?_,fun m=>?_,fun hb=>?_⟩
  ·intro hne
   rcases two m with q|q
   ·have q1:R (m+1)=r:=by have:=hR.mono m (by rw[q]; exact hr); rw[this,q]
    show (R (m+1)).go (p (m+1)) (k (m+1))=(R m).go (p m) (k m)
    rw[hm m q,hm (m+1) q1]
    exact hf.mono m (by rw[← hm m q]; exact hne)
   ·exact absurd (by show (R m).go (p m) (k m) = .bad; rw[q]; rfl) hne
  ·intro hne
   rcases two m with q|q
   ·show r.go p' k'=(R m).go (p m) (k m)
    rw[hm m q,he]
    exact hf.le m (by rw[← hm m q]; exact hne)
   ·exact absurd (by show (R m).go (p m) (k m) = .bad; rw[q]; rfl) hne
  ·rw[he] at hb ⊢
   obtain⟨m1,h1⟩:=hR.from hr
   obtain⟨m2,h2⟩:=hf.from hb
   exact⟨max m1 m2,by rw[hm _ (h1 _ (Nat.le_max_left _ _)),h2 _ (Nat.le_max_right _ _)]⟩
 cases r with
 |ok v h=>exact main _ _ (hk v h) (by simp) (fun m q=>by rw[q]; rfl) rfl
 |pan v h=>exact main _ _ (hp v h) (by simp) (fun m q=>by rw[q]; rfl) rfl
 |bad=>
  have e:(fun m=>(R m).go (p m) (k m))=fun _=>.bad:=by funext m; rw[hR.bad m]; rfl
  rw[e]
  exact .const _
def LimC (c:Nat→Cl) (c':Cl):Prop:=∀ f a h,IsLim (fun m=>c m f a h) (c' f a h)
def LimK (K:Nat→Ko) (K':Ko):Prop:=∀ e fr h,IsLim (fun m=>K m e fr h) (K' e fr h)
theorem IsLim.w1 {o:Option Value} {f:Nat→Value→Res Value} {f':Value→Res Value} (h:∀ v,IsLim (fun m=>f m v) (f' v)):IsLim (fun m=>Kx.w1 o (f m)) (Kx.w1 o f'):=by
 cases o with
 |none=>exact .const _
 |some v=>exact h v
theorem IsLim.ifV {v:Value} {a b:Nat→Res Value} {a' b':Res Value} (ha:IsLim a a') (hb:IsLim b b'):IsLim (fun m=>Kx.ifV v (a m) (b m)) (Kx.ifV v a' b'):=by
 cases v with
 |bool t=>cases t<;>assumption
 |_=>exact .const _
theorem IsLim.grd {b:Option Bool} {x y:Nat→Res Value} {x' y':Res Value} (hx:IsLim x x') (hy:IsLim y y'):IsLim (fun m=>Kx.grd b (x m) (y m)) (Kx.grd b x' y'):=by
 cases b with
 |none=>exact .const _
 |some t=>cases t<;>assumption
theorem IsLim.bif {b:Bool} {x y:Nat→Res Value} {x' y':Res Value} (hx:IsLim x x') (hy:IsLim y y'):IsLim (fun m=>bif b then x m else y m) (bif b then x' else y'):=by
 cases b<;>assumption
theorem xop_lim {P:Program} {c:Nat→Cl} {c':Cl} (hc:LimC c c') (fr:Fr) (o:Oper) (h:H):IsLim (fun m=>xop P (c m) fr o h) (xop P c' fr o h):=by
 unfold xop
 cases o.op with
 |call cc=>
  simp only
  cases evAll fr cc.args.toList with
  |none=>exact .const _
  |some args=>
   simp only
   cases cc.callee with
   |builtin b=>exact .const _
   |value f=>
    refine IsLim.w1 fun v=>?_
    unfold xcallV
    split
    ·exact hc _ _ _
    ·exact hc _ _ _
    ·exact .const _
   |invoke r mm=>
    refine IsLim.w1 fun v=>?_
    unfold xinvoke
    split
    ·split
     ·split
      ·split
       ·exact hc _ _ _
       ·exact .const _
      ·split
       ·exact .const _
       ·exact hc _ _ _
       ·exact .const _
      ·exact .const _
     ·exact .const _
    ·exact .const _
 |makeMap t r=>cases r<;>exact .const _
 |_=>exact .const _
theorem ev1_lim {P:Program} {c:Nat→Cl} {c':Cl} (hc:LimC c c') (ops:List Oper) (i:Nat) (o:Oper) {K:Nat→Ko} {K':Ko} (hK:LimK K K') (fr:Fr) (h:H) {k:Nat→Fr→H→Res Value} {k':Fr→H→Res Value}
  (hk:∀ fr h,IsLim (fun m=>k m fr h) (k' fr h)):IsLim (fun m=>ev1 P (c m) ops i o (K m) fr h (k m)) (ev1 P c' ops i o K' fr h k'):=by
 unfold ev1
 exact .grd (.go (xop_lim hc fr o h) (fun v h=>hK _ _ _) (fun v h=>.bif (.ifV (hk _ _) (hk _ _)) (hk _ _))) (hk _ _)
theorem IsLim.ok1 {R:Nat→Res Value} {r:Res Value} (hR:IsLim R r) {k:Nat→Value→H→Res Value} {k':Value→H→Res Value}
  (hk:∀ v h,IsLim (fun m=>k m v h) (k' v h)):IsLim (fun m=>(R m).ok1 (k m)) (r.ok1 k'):=by
 have:=hR.go (p:=fun _ _ _=>.bad) (p':=fun _ _=>.bad) (fun _ _=>.const _) hk
 have e:∀ (r:Res Value) (k:Value→H→Res Value),r.go (fun _ _=>.bad) k=r.ok1 k:=fun r k=>by cases r<;>rfl
 simpa only[e] using this
theorem ev1E_lim {P:Program} {c:Nat→Cl} {c':Cl} (hc:LimC c c') (ops:List Oper) (i:Nat) (o:Oper) (fr:Fr) (h:H) {k:Nat→Fr→H→Res Value} {k':Fr→H→Res Value}
  (hk:∀ fr h,IsLim (fun m=>k m fr h) (k' fr h)):IsLim (fun m=>ev1E P (c m) ops i o fr h (k m)) (ev1E P c' ops i o fr h k'):=by
 unfold ev1E
 exact .grd (.bif (.ok1 (xop_lim hc fr o h) (fun v h=>.bif (.ifV (hk _ _) (hk _ _)) (hk _ _))) (.const _)) (hk _ _)
theorem evL_lim {P:Program} {c:Nat→Cl} {c':Cl} (hc:LimC c c') (ops:List Oper) {K:Nat→Ko} {K':Ko} (hK:LimK K K'):∀ (l:List Oper) (i:Nat) (fr:Fr) (h:H),
  IsLim (fun m=>evL P (c m) ops (K m) i l fr h) (evL P c' ops K' i l fr h)
 |[],i,fr,h=>hK _ _ _
 |o::l,i,fr,h=>ev1_lim hc ops i o hK fr h fun fr h=>evL_lim hc ops hK l (i+1) fr h
theorem evD_lim {P:Program} {c:Nat→Cl} {c':Cl} (hc:LimC c c') (ops:List Oper) {K:Nat→Ko} {K':Ko} (hK:LimK K K'):∀ (l:Plan) (fr:Fr) (h:H),
  IsLim (fun m=>evD P (c m) ops (K m) l fr h) (evD P c' ops K' l fr h)
 |[],fr,h=>hK _ _ _
 |(i,chk,lt)::l,fr,h=>by
  unfold evD
  cases ops[i]? with
  |none=>exact .const _
  |some o=>
   simp only
   refine .bif (ev1E_lim hc ops i o fr h fun fr h=>evD_lim hc ops hK l fr h) (.bif (ev1_lim hc ops i o hK fr h fun fr h=>?_) (.const _))
   cases chk with
   |nil=>exact evD_lim hc ops hK l fr h
   |cons j js=>exact .bif (evD_lim hc ops hK l fr h) (.const _)
theorem kthen_lim {K:Nat→Ko} {K':Ko} (hK:LimK K K') {k:Nat→Fr→H→Res Value} {k':Fr→H→Res Value} (hk:∀ fr h,IsLim (fun m=>k m fr h) (k' fr h)):LimK (fun m=>kthen (K m) (k m)) (kthen K' k'):=by
 intro e fr h
 cases e with
 |normal=>exact hk fr h
 |exit j=>exact hK _ _ _
 |ret=>exact hK _ _ _
 |pan v=>exact hK _ _ _
theorem kblk_lim {K:Nat→Ko} {K':Ko} (hK:LimK K K') (id:Nat):LimK (fun m=>kblk id (K m)) (kblk id K'):=by
 intro e fr h
 cases e with
 |normal=>exact hK _ _ _
 |exit j=>exact .bif (hK _ _ _) (hK _ _ _)
 |ret=>exact hK _ _ _
 |pan v=>exact hK _ _ _
theorem kloop_lim {K:Nat→Ex→H→Res Value} {K':Ex→H→Res Value} (hK:∀ e h,IsLim (fun m=>K m e h) (K' e h)) (b:Nat) (h:H):IsLim (fun m=>kloop b (K m) h) (kloop b K' h):=by
 unfold kloop
 split
 ·split
  ·exact .const _
  ·exact hK _ _
  ·exact hK _ _
  ·exact hK _ _
  ·exact .const _
 ·exact .const _
theorem rngK_lim {c:Nat→Cl} {c':Cl} (hc:LimC c c') {K:Nat→Ko} {K':Ko} (hK:LimK K K') (an:Ann) (g:Operand) (ps:Array Tmp) (x y:Code) (fr:Fr) (h:H):IsLim (fun m=>rngK (c m) an g ps x y (K m) fr h) (rngK c' an g ps x y K' fr h):=by
 unfold rngK
 refine .w1 fun gv=>?_
 unfold rngV
 split
 ·exact .bif (.go (hc _ _ _) (fun _ _=>hK _ _ _) (fun _ _=>kloop_lim (fun e h=>hK e _ h) _ _)) (.const _)
 ·exact .const _
theorem kassign_lim {k:Nat→Fr→H→Res Value} {k':Fr→H→Res Value} (hk:∀ fr h,IsLim (fun m=>k m fr h) (k' fr h)):LimK (fun m=>kassign (k m)) (kassign k'):=by
 intro e fr h
 cases e with
 |normal=>exact hk fr h
 |_=>exact .const _
theorem begK_lim (b:Nat) {k:Nat→Fr→H→Res Value} {k':Fr→H→Res Value} (hk:∀ fr h,IsLim (fun m=>k m fr h) (k' fr h)) (fr:Fr) (h:H):IsLim (fun m=>begK b (k m) fr h) (begK b k' fr h):=by
 unfold begK begV
 split
 ·split
  ·exact hk _ _
  ·exact .const _
 ·exact .const _
abbrev Bd:=Ko→Fr→H→Res Value
def LimB (b:Nat→Bd) (b':Bd):Prop:=∀ (K:Nat→Ko) (K':Ko),LimK K K'→∀ fr h,IsLim (fun m=>b m (K m) fr h) (b' K' fr h)
noncomputable def lpS (kp:List Nat) (body:Bd) (K:Ko) (fr:Fr) (h:H):Res Value:=lim fun n=>lpK kp body K n fr h
theorem LimK.const (K:Ko):LimK (fun _=>K) K:=fun _ _ _=>.const _
theorem lpK_step {kp:List Nat} {body:Bd} (hb:LimB (fun _=>body) body) (K:Ko):∀ (n:Nat) (fr:Fr) (h:H),Le (lpK kp body K n fr h) (lpK kp body K (n+1) fr h)
 |0,_,_=>fun q=>absurd rfl q
 |n+1,fr,h=>by
  let Ks:Nat→Ko:=fun m=>match m with
   |0=>kthen K fun fr' h'=>lpK kp body K n (erase kp fr') h'
   |_=>kthen K fun fr' h'=>lpK kp body K (n+1) (erase kp fr') h'
  have hl:LimK Ks (kthen K fun fr' h'=>lpK kp body K (n+1) (erase kp fr') h'):=by
   intro e fr' h'
   cases e with
   |normal=>
    refine⟨fun m=>?_,fun m=>?_,fun _=>⟨1,rfl⟩⟩
    ·cases m with
     |zero=>exact lpK_step hb K n _ _
     |succ m=>exact Le.rfl
    ·cases m with
     |zero=>exact lpK_step hb K n _ _
     |succ m=>exact Le.rfl
   |exit j=>exact⟨fun m=>by cases m<;>exact Le.rfl,fun m=>by cases m<;>exact Le.rfl,fun _=>⟨0,rfl⟩⟩
   |ret=>exact⟨fun m=>by cases m<;>exact Le.rfl,fun m=>by cases m<;>exact Le.rfl,fun _=>⟨0,rfl⟩⟩
   |pan v=>exact⟨fun m=>by cases m<;>exact Le.rfl,fun m=>by cases m<;>exact Le.rfl,fun _=>⟨0,rfl⟩⟩
  exact (hb Ks _ hl fr h).le 0
theorem lpS_is {kp:List Nat} {body:Bd} (hb:LimB (fun _=>body) body) (K:Ko) (fr:Fr) (h:H):IsLim (fun n=>lpK kp body K n fr h) (lpS kp body K fr h):=lim_is fun n=>lpK_step hb K n fr h
theorem lpS_eq {kp:List Nat} {body:Bd} (hb:LimB (fun _=>body) body) (K:Ko) (fr:Fr) (h:H) :
  lpS kp body K fr h=body (kthen K fun fr' h'=>lpS kp body K (erase kp fr') h') fr h:=by
 have h1:IsLim (fun n=>lpK kp body K (n+1) fr h) (lpS kp body K fr h):=by
  have:=lpS_is hb K fr h (kp:=kp)
  refine⟨fun m=>this.mono (m+1),fun m=>this.le (m+1),fun hr=>?_⟩
  obtain⟨m,hm⟩:=this.from hr
  exact⟨m,hm (m+1) (Nat.le_succ _)⟩
 have h2:=hb (fun n=>kthen K fun fr' h'=>lpK kp body K n (erase kp fr') h') (kthen K fun fr' h'=>lpS kp body K (erase kp fr') h') (kthen_lim (LimK.const K) fun fr' h'=>lpS_is hb K _ _) fr h
 exact h1.uniq h2
theorem lpK_lim {kp:List Nat} {b:Nat→Bd} {b':Bd} (hb:LimB b b') {K:Nat→Ko} {K':Ko} (hK:LimK K K'):∀ (n:Nat) (fr:Fr) (h:H),IsLim (fun m=>lpK kp (b m) (K m) n fr h) (lpK kp b' K' n fr h)
 |0,_,_=>.const _
 |n+1,fr,h=>hb _ _ (kthen_lim hK fun fr' h'=>lpK_lim hb hK n (erase kp fr') h') fr h
theorem lim_lim {F:Nat→Nat→Res Value} {g:Nat→Res Value} {f:Nat→Res Value} {r:Res Value} (h1:∀ m,IsLim (fun n=>F m n) (f m)) (h2:∀ n,IsLim (fun m=>F m n) (g n)) (h3:IsLim g r):IsLim f r:=by
 refine⟨fun m hm=>?_,fun m hm=>?_,fun hr=>?_⟩
 ·obtain⟨n,hn⟩:=(h1 m).ex hm
  have:=(h2 n).mono m (by rw[hn]; exact hm)
  have q:=(h1 (m+1)).le n (by rw[this,hn]; exact hm)
  rw[q,this,hn]
 ·obtain⟨n,hn⟩:=(h1 m).ex hm
  have:=(h2 n).le m (by rw[hn]; exact hm)
  have q:=h3.le n (by rw[this,hn]; exact hm)
  rw[q,this,hn]
 ·obtain⟨n,hn⟩:=h3.ex hr
  obtain⟨m,hm⟩:=(h2 n).ex (by rw[hn]; exact hr)
  have:=(h1 m).le n (by rw[hm,hn]; exact hr)
  exact⟨m,by rw[this,hm,hn]⟩
theorem lpS_lim {kp:List Nat} {b:Nat→Bd} {b':Bd} (hb:LimB b b') (hm:∀ m,LimB (fun _=>b m) (b m)) (hb':LimB (fun _=>b') b') {K:Nat→Ko} {K':Ko} (hK:LimK K K') (fr:Fr) (h:H) :
  IsLim (fun m=>lpS kp (b m) (K m) fr h) (lpS kp b' K' fr h):=
 lim_lim (F:=fun m n=>lpK kp (b m) (K m) n fr h) (fun m=>lpS_is (hm m) (K m) fr h) (fun n=>lpK_lim hb hK n fr h) (lpS_is hb' K' fr h)
end Go.Kx
