/- My texts for this claim, in one file: part 16. -/
import Derived.OrdersIn
import Derived.TacticsIn
import Derived.Test.YtbfgadekkemlcaaGreatDoorV15
set_option linter.unusedVariables false
set_option linter.unusedSimpArgs false
namespace Go.Kx
open Go
abbrev FW (ro:Option Nat):Fence:={ Fence.wide with round:=ro }
def mark (D:Nat):Deferred:={ target:=.collected D,args:=#[] }
structure Marks (w₀:World) (ι:Io) (w:World) (Ds:List Nat):Prop where
 nodup:Ds.Nodup
 is:∀ D∈Ds,w.heap[D]? = some (.deferred (some []))
 new:∀ D∈Ds,w₀.heap.size≤D
 own:∀ D∈Ds,∀ b e,ι b=some e→e.c≠D
theorem Marks.nil {w₀:World} {ι:Io} {w:World}:Marks w₀ ι w []:=⟨.nil,fun _ h=>(by cases h),fun _ h=>(by cases h),fun _ h=>(by cases h)⟩
theorem Marks.step {w₀:World} {ι ι':Io} {w w':World} {Ds:List Nat} (m:Marks w₀ ι w Ds) (s:Step ι w ι' w'):Marks w₀ ι' w' Ds:=by
 have hlt:∀ D∈Ds,D<w.heap.size:=fun D h=>by
  rcases Nat.lt_or_ge D w.heap.size with q|q
  ·exact q
  ·have:=m.is D h; rw[Array.getElem?_eq_none q] at this; cases this
 refine⟨m.nodup,fun D h=>(s.keep D (hlt D h) (m.own D h)).trans (m.is D h),m.new,fun D h b e hb he=>?_⟩
 cases h0:ι b with
 |some e'=>
  have:=s.ext _ _ h0
  rw[hb] at this; cases this
  exact m.own D h b e h0 he
 |none=>
  rcases s.new b e hb h0 with q|⟨b₀,e₀,h1,h2,_⟩
  ·have:=hlt D h; omega
  ·exact m.own D h b₀ e₀ h1 (h2.trans he)
structure St (P:Program) (G n:Nat) (ι₀:Io) (w₀:World) (ι:Io) (fr:Fr) (h:H) (a:Act) (w:World):Prop where
 step:Step ι₀ w₀ ι w
 sim:Sim P ι h w
 fr:FR ι fr a.tmps
 dfs:∃ Ds,a.defers=Ds.map mark∧Marks w₀ ι w Ds
 size:n≤a.tmps.size
 gl:GL G ι
theorem opOk_n {G n:Nat} {o:Oper} (h:opOk G n o=true) (c:Call):o.op ≠ .defer c:=by
 intro q
 unfold opOk at h
 rw[q] at h
 cases h
theorem opOk_g {G n:Nat} {o:Oper} (h:opOk G n o=true) {ι:Io} (hg:GL G ι):GOk ι o:=by
 intro g hm
 unfold opOk at h
 simp only[Bool.and_eq_true] at h
 have:=List.all_eq_true.1 h.2 _ (by simpa using hm)
 exact hg g (by simpa [Nat.blt_eq] using this)
theorem opOk_d {G n:Nat} {o:Oper} (h:opOk G n o=true) {d:Nat} (hd:o.dst=some d):d<n:=by
 unfold opOk at h
 simp only[Bool.and_eq_true,hd] at h
 simpa [Nat.blt_eq] using h.1.2
theorem St.put {P:Program} {G n:Nat} {ι₀ ι ι':Io} {w₀ w w':World} {fr:Fr} {h h':H} {a:Act} (s:St P G n ι₀ w₀ ι fr h a w) {o:Oper} (ho:opOk G n o=true) {v v':Value} (hs:Step ι w ι' w') (hsim:Sim P ι' h' w') (hv:R ι' v v') :
  St P G n ι₀ w₀ ι' (Fr.put fr o.dst v) h' (a.put o.dst v') w':=by
 refine⟨s.step.trans hs,hsim,?_,?_,?_,s.gl.mono hs.ext⟩
 ·have h1:=s.fr.mono hs.ext
  cases hd:o.dst with
  |none=>exact h1
  |some d=>exact h1.put (Nat.lt_of_lt_of_le (opOk_d ho hd) s.size) hv
 ·obtain⟨Ds,q1,q2⟩:=s.dfs
  exact⟨Ds,by cases hd:o.dst<;>exact q1,q2.step hs⟩
 ·cases hd:o.dst with
  |none=>exact s.size
  |some d=>simp only[Act.put,Array.size_setIfInBounds]; exact s.size
theorem undef_R (ι:Io):R ι undef undef:=.tuple .nil
def ExR (ι:Io):Ex→Exit→Prop
 |.normal,.normal=>True
 |.exit i,.exit j=>i=j
 |.ret,.ret=>True
 |.pan v,.panic ch=>∃ v',ch=[{ v:=v',recovered:=false }]∧R ι v v'
 |_,_=>False
def KQ (P:Program) (G n:Nat) (ι₀:Io) (w₀:World) (r:Res Value) (K:Ko) (Q:Exit→Act→World→Prop):Prop:=
 ∀ e fr h ι a w e',St P G n ι₀ w₀ ι fr h a w→ExR ι e e'→K e fr h=r→Q e' a w
def PanOk (Q:Exit→Act→World→Prop):Prop:=∀ c a a' w,a.defers=a'.defers→Q (.panic c) a w→Q (.panic c) a' w
theorem wantV_ok {ι:Io} {v v':Value} (h:R ι v v') {want b:Bool} (hw:wantV want v=some b):((match (some v':Option Value) with|some (.bool t)=>some t|_=>none) == some want)=b:=by
 unfold wantV at hw
 split at hw
 ·cases h
  simp only[Option.some.injEq] at hw
  subst hw
  rename_i t
  cases t<;>cases want<;>rfl
 ·cases hw
 ·rename_i hn hn'
  simp only[Option.some.injEq] at hw
  subst hw
  cases h<;>first|rfl|exact absurd rfl (hn _)|exact absurd rfl (hn' _ _ _)
theorem wanted_ok {ι:Io} {fr:Fr} {a:Act} (hf:FR ι fr a.tmps) {o:Oper} {ops:Array Oper} {b:Bool} (h:wantedX o ops.toList fr=some b):Region.wanted o (yielded ops a.tmps)=b:=by
 unfold wantedX at h
 unfold Region.wanted
 cases hg:o.guard with
 |none=>rw[hg] at h; simp only[Option.some.injEq] at h; exact h
 |some jw=>
  obtain⟨j,want⟩:=jw
  rw[hg] at h
  simp only at h ⊢
  have:ops.toList[j]? = ops[j]?:=by simp
  rw[this] at h
  cases hd:(ops[j]?).bind (·.dst) with
  |none=>rw[hd] at h; cases h
  |some d=>
   rw[hd] at h
   simp only at h
   cases hv:Fr.at fr d with
   |none=>rw[hv] at h; cases h
   |some v=>
    rw[hv] at h
    simp only at h
    obtain⟨v',h1,h2⟩:=hf d v hv
    have:=wantV_ok h2 h
    unfold yielded
    rw[hd]
    simp only[Option.bind_some,h1]
    exact this
def wpO (P:Program) (ops:Array Oper) (Q:Exit→Act→World→Prop) (o:Oper) (K:Act→World→Prop) (a:Act) (w:World):Prop:=
 if Region.wanted o (yielded ops a.tmps)=true then Upon P (fun v w'=>K (a.put o.dst v) w') (fun v w'=>Q (.panic [{ v,recovered:=false }]) a w') ((execOp a.eval o).run P w)
 else K (a.put o.dst undef) w
def wpI (P:Program) (ops:Array Oper) (Q:Exit→Act→World→Prop) (i:Nat) (K:Act→World→Prop) (a:Act) (w:World):Prop:=
 match ops[i]? with
 |none=>K a w
 |some o=>wpO P ops Q o K a w
theorem wpO_mono {P:Program} {ops:Array Oper} {Q:Exit→Act→World→Prop} {o:Oper} {K K':Act→World→Prop} {a:Act} {w:World} (h:∀ a w,K a w→K' a w) (hh:wpO P ops Q o K a w):wpO P ops Q o K' a w:=by
 unfold wpO at *
 split
 ·rename_i hw; rw[if_pos hw] at hh; exact hh.mono (fun _ _ q=>h _ _ q) (fun _ _ q=>q)
 ·rename_i hw; rw[if_neg hw] at hh; exact h _ _ hh
theorem wpI_mono {P:Program} {ops:Array Oper} {Q:Exit→Act→World→Prop} {i:Nat} {K K':Act→World→Prop} {a:Act} {w:World} (h:∀ a w,K a w→K' a w) (hh:wpI P ops Q i K a w):wpI P ops Q i K' a w:=by
 unfold wpI at *
 split
 ·rename_i ho; rw[ho] at hh; exact h _ _ hh
 ·rename_i o ho; rw[ho] at hh; exact wpO_mono h hh
theorem rowsW {ro:Option Nat} {n:Nat} {P:Program} {row:String} {args:Array Value} {w:World} {R:Value→World→Prop} (h:Rows P row args w R):RowsIn (FW ro) n P row args w R:=
 fun c cs _=>let ⟨v,w',r,s⟩:=h c cs; ⟨v,w',r,stepsIn_wide.2 s⟩
theorem callsW {ro:Option Nat} {n:Nat} {P:Program} {f:FuncId} {args:Array Value} {w:World} {R:Ending→World→Prop} (h:Calls P f args w R):CallsIn (FW ro) n P f args w R:=
 (callsIn_wide.2 h:CallsIn Fence.wide n P f args w R)
theorem wpO_in {ro:Option Nat} {P:Program} {ops:Array Oper} {Q:Exit→Act→World→Prop} {o:Oper} {K:Act→World→Prop} {a:Act} {w:World} (hd:∀ c,o.op ≠ .defer c) (h:wpO P ops Q o K a w) :
  if Region.wanted o (yielded ops a.tmps)=true then o.wpIn (FW ro) 0 P a w K Q else (∀ f,o.about P w a.eval=some f→(FW ro).fn f)∧K (a.put o.dst undef) w:=by
 unfold wpO at h
 split
 ·rename_i hw
  rw[if_pos hw] at h
  refine⟨fun _ _=>trivial,?_⟩
  rw[Oper.semAt_eq _ _ _ hd]
  have nd:∀ {p:Prop},(FW ro).depth.isSome=true→p:=fun q=>by cases q
  generalize (execOp a.eval o).run P w=r at h ⊢
  unfold Upon at h
  split at h
  ·exact h
  ·exact h
  ·exact⟨nd,(callsW h).mono fun e w' he=>by
    cases e with
    |returned v=>exact he
    |panicked c=>obtain⟨v,hv,hp⟩:=he; subst hv; exact hp
    |outgrown=>exact he.elim⟩
  ·exact⟨nd,rowsW h⟩
  ·refine⟨nd,?_⟩
   have h':RoundIn (FW ro) 0 P _ _ _ _ _ _ _:=h
   exact h'.mono fun e w' he=>by
    cases e with
    |returned v=>exact he
    |panicked c=>obtain⟨v,hv,hp⟩:=he; subst hv; exact hp
    |outgrown=>exact he.elim
  ·exact h
  ·exact h.elim
 ·rename_i hw
  rw[if_neg hw] at h
  exact⟨fun _ _=>trivial,h⟩
def wpL (P:Program) (ops:Array Oper) (Q:Exit→Act→World→Prop):List Oper→Act→World→Prop
 |[],a,w=>Q .normal a w
 |o::l,a,w=>wpO P ops Q o (wpL P ops Q l) a w
theorem wpL_in {ro:Option Nat} {P:Program} {ops:Array Oper} {Q:Exit→Act→World→Prop}:∀ (l:List Oper) {a:Act} {w:World},(∀ o∈l,∀ c,o.op ≠ .defer c)→wpL P ops Q l a w→wpListIn (FW ro) 0 P ops Q l a w
 |[],_,_,_,h=>h
 |o::l,a,w,hd,h=>by
  have h1:wpO P ops Q o (wpListIn (FW ro) 0 P ops Q l) a w:=wpO_mono (fun a w q=>wpL_in l (fun o' ho'=>hd o' (by simp[ho'])) q) h
  exact wpO_in (hd o (by simp)) h1
theorem upon_next {P:Program} {G n:Nat} {ι₀ ι:Io} {w₀ w:World} {fr:Fr} {h:H} {a:Act} {cl:Cl} {ops:List Oper} {i:Nat} {K:Ko} {Q:Exit→Act→World→Prop} {r:Res Value} (hr:r ≠ .bad) {o:Oper} (ho:opOk G n o=true)
  (hcl:ClOk P G cl) (s:St P G n ι₀ w₀ ι fr h a w) (hK:KQ P G n ι₀ w₀ r K Q) {k:Fr→H→Res Value} {Next:Act→World→Prop}
  (hk:∀ v h' ι' v' w',St P G n ι₀ w₀ ι' (Fr.put fr o.dst v) h' (a.put o.dst v') w'→Step ι w ι' w'→k (Fr.put fr o.dst v) h'=r→Next (a.put o.dst v') w')
  (he:(xop P cl fr o h).go (fun v h'=>K (.pan v) fr h') (fun v h'=>bif guards ops i then ifV v (k (Fr.put fr o.dst (.bool true)) h') (k (Fr.put fr o.dst (.bool false)) h') else k (Fr.put fr o.dst v) h')=r) :
  Upon P (fun v w'=>Next (a.put o.dst v) w') (fun v w'=>Q (.panic [{ v,recovered:=false }]) a w') ((execOp a.eval o).run P w):=by
 have hx:=xop_ok (cl:=cl) s.sim hcl s.gl s.fr o (opOk_g ho s.gl)
 cases hxo:xop P cl fr o h with
 |bad=>rw[hxo] at he; exact absurd he.symm hr
 |pan v h'=>
  rw[hxo] at hx he
  refine Upon.mono (fun _ _ q=>q.elim) (fun v' w' q=>?_) hx
  obtain⟨ι',h1,h2,h3⟩:=q
  exact hK _ _ _ ι' a w' _ ⟨s.step.trans h1,h2,s.fr.mono h1.ext,s.dfs.imp fun _ q=>⟨q.1,q.2.step h1⟩,s.size,s.gl.mono h1.ext⟩ (show ExR ι' (.pan v) (.panic [{ v:=v',recovered:=false }]) from ⟨v',rfl,h3⟩) he
 |ok v h'=>
  rw[hxo] at hx he
  refine Upon.mono (fun v' w' q=>?_) (fun _ _ q=>q.elim) hx
  obtain⟨ι',h1,h2,h3⟩:=q
  simp only[Res.go_ok] at he
  cases hgd:guards ops i with
  |false=>
   rw[hgd] at he
   exact hk _ _ _ _ _ (s.put ho h1 h2 h3) h1 he
  |true=>
   rw[hgd] at he
   simp only[cond_true] at he
   unfold ifV at he
   split at he
   ·rename_i t
    cases h3
    cases t
    ·exact hk _ _ _ _ _ (s.put ho h1 h2 (.bool false)) h1 he
    ·exact hk _ _ _ _ _ (s.put ho h1 h2 (.bool true)) h1 he
   ·exact absurd he.symm hr
theorem grd_cases {b:Option Bool} {y z r:Res Value} (h:grd b y z=r) (hr:r ≠ .bad):(b=some true∧y=r)∨(b=some false∧z=r):=by
 unfold grd at h
 split at h
 ·exact .inl ⟨rfl,h⟩
 ·exact .inr ⟨rfl,h⟩
 ·exact absurd h.symm hr
theorem evL_ok {P:Program} {G n:Nat} {ι₀:Io} {w₀:World} {cl:Cl} {ops:Array Oper} {K:Ko} {Q:Exit→Act→World→Prop} {r:Res Value} (hr:r ≠ .bad) (hcl:ClOk P G cl) (hK:KQ P G n ι₀ w₀ r K Q) :
  ∀ (l:List Oper) (i:Nat) {ι:Io} {fr:Fr} {h:H} {a:Act} {w:World},l.all (opOk G n)=true→St P G n ι₀ w₀ ι fr h a w→evL P cl ops.toList K i l fr h=r→wpL P ops Q l a w
 |[],i,ι,fr,h,a,w,_,s,he=>hK .normal fr h ι a w .normal s trivial he
 |o::l,i,ι,fr,h,a,w,hl,s,he=>by
  simp only[List.all_cons,Bool.and_eq_true] at hl
  simp only[evL,ev1] at he
  simp only[wpL,wpO]
  rcases grd_cases he hr with ⟨hw,he⟩|⟨hw,he⟩
  ·rw[if_pos (wanted_ok s.fr hw)]
   exact (upon_next hr hl.1 hcl s hK (fun fr' h' ι' v' w' s' _ hk=>evL_ok hr hcl hK l (i+1) hl.2 s' hk) he)
  ·rw[if_neg (by rw[wanted_ok s.fr hw]; simp)]
   exact evL_ok hr hcl hK l (i+1) hl.2 (s.put hl.1 (Step.refl _ _) s.sim (undef_R _)) he
inductive Anc (ops:Array Oper):Nat→Nat→Prop
 |one {j:Nat} {o:Oper} {e:Edge} (ho:ops[j]? = some o) (he:e∈o.after) (hb:Region.binds .any e=true):Anc ops j e.on
 |more {j l:Nat} {o:Oper} {e:Edge} (ho:ops[j]? = some o) (he:e∈o.after) (hb:Region.binds .any e=true) (h:Anc ops e.on l):Anc ops j l
def Down (ops:Array Oper) (listed:Array Bool):Prop:=
 ∀ j o,ops[j]? = some o→listed.getD j false=true→∀ e∈o.after,Region.binds .any e=true→listed.getD e.on false=true
theorem Down.anc {ops:Array Oper} {listed:Array Bool} (hd:Down ops listed) {j l:Nat} (h:Anc ops j l):listed.getD j false=true→listed.getD l false=true:=by
 induction h with
 |one ho he hb=>intro hj; exact hd _ _ ho hj _ he hb
 |more ho he hb _ ih=>intro hj; exact ih (hd _ _ ho hj _ he hb)
theorem Down.ready {ops:Array Oper} {listed:Array Bool} (hd:Down ops listed) {j l:Nat} (hj:j∈Region.ready .any ops listed) (h:Anc ops j l):listed.getD l false=true:=by
 obtain⟨_,o,ho,hall⟩:=mem_ready.1 hj
 cases h with
 |one ho' he hb=>rw[ho] at ho'; cases ho'; exact hall _ he hb
 |more ho' he hb h'=>rw[ho] at ho'; cases ho'; exact hd.anc h' (hall _ he hb)
theorem Down.set {ops:Array Oper} {listed:Array Bool} (hd:Down ops listed) {j:Nat} (hj:j∈Region.ready .any ops listed):Down ops (listed.setIfInBounds j true):=by
 intro i o ho hi e he hb
 by_cases hij:j=i
 ·subst hij
  obtain⟨_,o',ho',hall⟩:=mem_ready.1 hj
  rw[ho] at ho'; cases ho'
  exact getD_set_true (hall e he hb)
 ·rw[getD_set_ne false hij] at hi
  exact getD_set_true (hd i o ho hi e he hb)
section
variable {P:Program} {ops:Array Oper} {Q:Exit→Act→World→Prop}
abbrev Kept:=Nat × (World→Prop)
def pres (ops:Array Oper) (i:Nat) (ks:List Kept) (w w':World):Prop:=∀ k∈ks,Anc ops i k.1∨(k.2 w→k.2 w')
theorem pres_refl (i:Nat) (ks:List Kept) (w:World):pres ops i ks w w:=fun _ _=>.inr id
def wpT (P:Program) (ops:Array Oper) (Q:Exit→Act→World→Prop):Nat→List Kept→Array Bool→Act→World→Prop
 |0,_,listed,a,w=>Region.ready .any ops listed=[]∧Q .normal a w
 |fuel+1,ks,listed,a,w=>
  (Region.ready .any ops listed=[]→Q .normal a w) ∧
  ∀ i∈Region.ready .any ops listed,wpI P ops Q i (fun a' w'=>pres ops i ks w w'∧wpT P ops Q fuel ks (listed.setIfInBounds i true) a' w') a w
theorem wpT_any {ro:Option Nat} (hd:∀ o∈ops.toList,∀ c,o.op ≠ .defer c):∀ (fuel:Nat) (ks:List Kept) (listed:Array Bool) (a:Act) (w:World),wpT P ops Q fuel ks listed a w→wpAnyIn (FW ro) 0 P .any ops Q fuel listed a w
 |0,_,_,_,_,h=>h
 |fuel+1,ks,listed,a,w,h=>by
  refine⟨h.1,fun i hi=>?_⟩
  have h1:wpI P ops Q i (wpAnyIn (FW ro) 0 P .any ops Q fuel (listed.setIfInBounds i true)) a w:=wpI_mono (fun a' w' h'=>wpT_any hd fuel _ _ a' w' h'.2) (h.2 i hi)
  unfold wpI at h1
  unfold wpOpIn
  cases ho:ops[i]? with
  |none=>rw[ho] at h1; exact h1
  |some o=>rw[ho] at h1; exact wpO_in (hd o (by have:=Array.mem_of_getElem? ho; simpa using this)) h1
theorem wpT_drop {k:Kept}:∀ (fuel:Nat) (ks:List Kept) (listed:Array Bool) (a:Act) (w:World),wpT P ops Q fuel (k::ks) listed a w→wpT P ops Q fuel ks listed a w
 |0,_,_,_,_,h=>h
 |fuel+1,ks,_,_,_,h=>⟨h.1,fun i hi=>wpI_mono (fun a' w' h'=>⟨fun q hq=>h'.1 q (by simp[hq]),wpT_drop fuel _ _ a' w' h'.2⟩) (h.2 i hi)⟩
theorem wpT_done {ks:List Kept} {listed:Array Bool} {a:Act} {w:World} (hr:Region.ready .any ops listed=[]) (h:Q .normal a w):∀ fuel,wpT P ops Q fuel ks listed a w
 |0=>⟨hr,h⟩
 |_+1=>⟨fun _=>h,by rw[hr]; simp⟩
theorem yieldsIf_I {S:World→Prop} {i:Nat} {o:Oper} {v:Value} {a:Act} (hi:ops[i]? = some o) (hy:YieldsIf P ops S o v a) {K:Act→World→Prop} {w:World} (hS:S w) (h:K (a.put o.dst v) w):wpI P ops Q i K a w:=by
 unfold wpI wpO
 rw[hi]
 rcases hy with ⟨hw,hv⟩|⟨hw,rfl⟩
 ·simp only[hw,if_true,hv w hS,Upon]; exact h
 ·simp only[hw,Bool.false_eq_true,if_false]; exact h
theorem wpI_putIf {S:World→Prop} {j:Nat} {oi oj:Oper} {v:Value} (hj:ops[j]? = some oj) (hap:oi.apart ops oj=true) (hsi:∀ cs b,oi.op ≠ .select cs b) (hsj:∀ cs b,oj.op ≠ .select cs b)
  (hQ:∀ c a w,Q (.panic c) (a.put oi.dst v) w→Q (.panic c) a w) {K:Act→World→Prop} {a:Act} {w:World} (hy:YieldsIf P ops S oi v a) (h:wpI P ops Q j K (a.put oi.dst v) w) :
  wpI P ops Q j (fun a' w'=>YieldsIf P ops S oi v a'∧K (a'.put oi.dst v) w') a w:=by
 obtain⟨h1,h2,h3⟩:=Oper.apart_spec hap
 have on:∀ u,YieldsIf P ops S oi v (a.put oj.dst u):=fun u=>hy.of_same (execOp_put oi hsi a oj.dst u h3) (wanted_put oi a oj.dst u h3)
 unfold wpI wpO at *
 rw[hj] at *
 simp only at *
 rw[wanted_put oj a oi.dst v h1,execOp_put oj hsj a oi.dst v h1] at h
 split
 ·rename_i hw
  rw[if_pos hw] at h
  exact h.mono (fun u w' q=>⟨on u,by rw[← Act.put_comm a v u h2]; exact q⟩) (fun u w' q=>hQ _ _ _ q)
 ·rename_i hw
  rw[if_neg hw] at h
  exact⟨on _,by rw[← Act.put_comm a v undef h2]; exact h⟩
theorem wpT_first {i:Nat} {oi:Oper} {v:Value} {S:World→Prop} (hi:ops[i]? = some oi) (hsel:∀ (j:Nat) (o:Oper) cs b,ops[j]? = some o→o.op ≠ .select cs b)
  (hQ:∀ c a w,Q (.panic c) (a.put oi.dst v) w→Q (.panic c) a w) :
  ∀ (fuel:Nat) (ks:List Kept) (listed:Array Bool) (a:Act) (w:World),Down ops listed →
   (∀ j oj,ops[j]? = some oj→j≠i→listed.getD j true=false→(∀ e∈oj.after,Region.binds .any e=true→e.on≠i)→oi.apart ops oj=true) →
   i∈Region.ready .any ops listed→YieldsIf P ops S oi v a→S w →
   wpT P ops Q fuel ((i,S)::ks) (listed.setIfInBounds i true) (a.put oi.dst v) w→wpT P ops Q (fuel+1) ks listed a w:=by
 intro fuel
 induction fuel with
 |zero=>
  intro ks listed a w hdn _ hr hy hS Hh
  refine⟨fun h=>(by rw[h] at hr; cases hr),fun j hj=>?_⟩
  by_cases hji:j=i
  ·subst hji; exact yieldsIf_I hi hy hS ⟨pres_refl _ _ _,Hh⟩
  ·have:=ready_mono hj hji
   rw[Hh.1] at this
   cases this
 |succ fuel ih=>
  intro ks listed a w hdn hfree hr hy hS Hh
  refine⟨fun h=>(by rw[h] at hr; cases hr),fun j hj=>?_⟩
  by_cases hji:j=i
  ·subst hji; exact yieldsIf_I hi hy hS ⟨pres_refl _ _ _,wpT_drop _ _ _ _ _ Hh⟩
  ·have h1:=Hh.2 j (ready_mono hj hji)
   obtain⟨hjun,oj,hoj,hall⟩:=mem_ready.1 hj
   have hi0:¬ listed.getD i false=true:=fun h1=>by
    have h0:=(mem_ready.1 hr).1
    rcases Nat.lt_or_ge i listed.size with h'|h'
    ·simp[h'] at h0 h1; rw[h0] at h1; cases h1
    ·simp[Array.getElem?_eq_none h'] at h1
   have hnot:∀ e∈oj.after,Region.binds .any e=true→e.on≠i:=fun e he hb heq=>hi0 (heq ▸ hall e he hb)
   have hnanc:¬ Anc ops j i:=fun h=>hi0 (hdn.ready hj h)
   have h2:=wpI_putIf hoj (hfree j oj hoj hji hjun hnot) (fun cs b=>hsel i oi cs b hi) (fun cs b=>hsel j oj cs b hoj) hQ hy h1
   have hfree':∀ k ok,ops[k]? = some ok→k≠i→(listed.setIfInBounds j true).getD k true=false →
     (∀ e∈ok.after,Region.binds .any e=true→e.on≠i)→oi.apart ops ok=true:=fun k ok hk hki hun hno=>by
    refine hfree k ok hk hki ?_ hno
    by_cases hjk:j=k
    ·subst hjk; exact hjun
    ·rw[getD_set_ne true hjk] at hun; exact hun
   refine wpI_mono (fun a' w' h3=>⟨fun q hq=>h3.2.1 q (by simp[hq]),ih ks (listed.setIfInBounds j true) a' w' (hdn.set hj) hfree' (ready_mono hr (Ne.symm hji)) h3.1 ?_ ?_⟩) h2
   ·exact (h3.2.1 (i,S) (by simp)).resolve_left hnanc hS
   ·rw[Array.setIfInBounds_comm _ _ hji]
    exact h3.2.2
theorem wp_region_t {ro:Option Nat} {id:Nat} {a:Act} {w:World} (hm:P.follows .mixedOrders=true) (hd:∀ o∈ops.toList,∀ c,o.op ≠ .defer c)
  (h:wpT P ops Q ops.size [] (Array.replicate ops.size false) a { w with drawn:=w.drawn+1 }):(Code.region id ops true).wpIn (FW ro) 0 P Q a w:=
 wpIn_region_any hm (wpT_any hd _ _ _ _ _ h)
end
theorem ancB_ok {ops:Array Oper}:∀ (f:Nat) {j l:Nat},ancB ops f j l=true→Anc ops j l
 |0,_,_,h=>by cases h
 |f+1,j,l,h=>by
  unfold ancB at h
  split at h
  ·rename_i o ho
   obtain⟨e,he,hb⟩:=List.any_eq_true.1 h
   simp only[Bool.and_eq_true,Bool.or_eq_true] at hb
   rcases hb.2 with h1|h1
   ·have:=Nat.eq_of_beq_eq_true h1
    subst this
    exact .one ho (by simpa using he) hb.1
   ·exact .more ho (by simpa using he) hb.1 (ancB_ok f h1)
  ·cases h
structure Held (P:Program) (ops:Array Oper) (a:Act) (ls:List Nat) (k:Kept):Prop where
 mem:k.1∈ls
 is:∃ o d s v,ops[k.1]? = some o∧isLoad o=true∧o.dst=some d∧execOp a.eval o=s∧a.tmps[d]? = some v∧Region.wanted o (yielded ops a.tmps)=true∧k.2=fun w=>∀ l,s.run P (pushes w l) = .ok (.value v) (pushes w l)
def KsOk (P:Program) (ops:Array Oper) (a:Act) (ls:List Nat) (ks:List Kept):Prop:=∀ k∈ks,(∀ w,k.2 w)∨Held P ops a ls k
theorem sepB_spec {ops:Array Oper} {o:Oper} {l:Nat} (h:sepB ops o l=true):∃ ol,ops[l]? = some ol∧∀ d',o.dst=some d'→d' ∉ ol.looksAt ops∧ol.dst≠some d':=by
 unfold sepB at h
 split at h
 ·rename_i ol ho
  refine⟨ol,ho,fun d' hd'=>?_⟩
  rw[hd'] at h
  simp only[Bool.and_eq_true,Bool.not_eq_true',List.contains_eq_mem,decide_eq_false_iff_not,bne_iff_ne,ne_eq] at h
  exact h
 ·cases h
theorem Held.put {P:Program} {ops:Array Oper} {a:Act} {ls:List Nat} {k:Kept} (h:Held P ops a ls k) {o:Oper} (hs:ls.all (sepB ops o)=true) (v:Value):Held P ops (a.put o.dst v) ls k:=by
 refine⟨h.mem,?_⟩
 obtain⟨ol,d,s,u,h1,h2,h3,h4,h5,h6,h7⟩:=h.is
 obtain⟨ol',g1,hsep⟩:=sepB_spec (List.all_eq_true.1 hs _ h.mem)
 rw[h1] at g1; cases g1
 have hno:∀ d',o.dst=some d'→d' ∉ ol.looksAt ops∧d≠d':=fun d' hd'=>⟨(hsep d' hd').1,fun q=>(hsep d' hd').2 (by rw[h3,q])⟩
 have hsel:∀ cs b,ol.op ≠ .select cs b:=by
  intro cs b q
  unfold isLoad at h2
  rw[q] at h2
  cases h2
 refine⟨ol,d,s,u,h1,h2,h3,?_,?_,?_,h7⟩
 ·rw[execOp_put ol hsel a o.dst v (fun d' q=>(hno d' q).1)]; exact h4
 ·cases hd:o.dst with
  |none=>exact h5
  |some d'=>
   simp only[Act.put]
   rw[Array.getElem?_setIfInBounds_ne (fun q=>(hno d' hd).2 q.symm)]
   exact h5
 ·rw[wanted_put ol a o.dst v (fun d' q=>(hno d' q).1)]; exact h6
theorem KsOk.put {P:Program} {ops:Array Oper} {a:Act} {ls:List Nat} {ks:List Kept} (h:KsOk P ops a ls ks) {o:Oper} (hs:ls.all (sepB ops o)=true) (v:Value):KsOk P ops (a.put o.dst v) ls ks:=
 fun k hk=>(h k hk).imp id (fun q=>q.put hs v)
theorem recheck_mem {P:Program} {ops:List Oper} {fr:Fr} {h:H}:∀ {l:List Nat},recheck P ops fr h l=true→∀ j∈l,∃ o d,ops[j]? = some o∧o.dst=some d∧rcG (wantedX o ops fr) (rc (xop P noCl fr o h) (Fr.at fr d))=true
 |[],_,j,hj=>by cases hj
 |i::l,hh,j,hj=>by
  simp only[recheck,Bool.and_eq_true] at hh
  cases hj with
  |head=>
   have h1:=hh.1
   split at h1
   ·rename_i o ho
    split at h1
    ·rename_i d hd
     exact⟨o,d,ho,hd,h1⟩
    ·cases h1
   ·cases h1
  |tail _ hm=>exact recheck_mem hh.2 j hm
theorem Held.again {P:Program} {G n:Nat} {ι₀ ι:Io} {w₀ w:World} {ops:Array Oper} {fr:Fr} {h:H} {a:Act} {ls:List Nat} {k:Kept} (hk:Held P ops a ls k) (s:St P G n ι₀ w₀ ι fr h a w)
  (hall:ops.toList.all (opOk G n)=true) {chk:List Nat} (hc:recheck P ops.toList fr h chk=true) (hm:k.1∈chk):k.2 w:=by
 obtain⟨o,d,s',v,h1,h2,h3,h4,h5,h6,h7⟩:=hk.is
 obtain⟨o',d',g1,g2,g3⟩:=recheck_mem hc _ hm
 have g1':ops[k.1]? = some o':=by simpa using g1
 rw[h1] at g1'; cases g1'
 rw[h3] at g2; cases g2
 have ho:opOk G n o=true:=List.all_eq_true.1 hall _ (by have:=Array.mem_of_getElem? h1; simpa using this)
 unfold rcG at g3
 split at g3
 ·unfold rc at g3
  split at g3
  ·rename_i u' h' u hx hu
   have he:earlyS o=true:=by
    unfold isLoad at h2; unfold earlyS
    split at h2
    ·rename_i q; rw[q]
    ·cases h2
   have hd:earlyD fr o=true:=by
    unfold isLoad at h2; unfold earlyD
    split at h2
    ·rename_i q; rw[q]
    ·cases h2
   obtain⟨rfl,u1,q3,q4,_⟩:=early_run s.sim (cl:=noCl) he s.fr (opOk_g ho s.gl) hd hx
   obtain⟨v1,p1,p2⟩:=s.fr d u hu
   rw[h5] at p1; cases p1
   have:=R.same q3 p2 g3
   subst this
   rw[h7,← h4]
   exact q4
  ·cases g3
 ·rename_i hw
  have:=wanted_ok s.fr hw
  rw[h6] at this; cases this
 ·cases g3
theorem push_step {ι:Io} (w:World) (c:List Value) (el:TypeId):Step ι w ι (wpush w c el):=
 ⟨Ext.refl _,fun _ _ h1 h2=>(by rw[h1] at h2; cases h2),rfl,rfl,rfl,by show w.heap.size≤(w.heap.push _).size; simp,fun k hk _=>by show (w.heap.push _)[k]? = _; rw[Array.getElem?_push]; rw[if_neg (by omega)],
  fun k hk=>by right; show ((w.heap.push _)[k]?).bind _=_; rw[Array.getElem?_push,if_neg (by omega)]⟩
theorem push_sim {P:Program} {ι:Io} {h:H} {w:World} (s:Sim P ι h w) (c:List Value) (el:TypeId):Sim P ι h (wpush w c el):=by
 refine⟨fun b e q=>⟨(s.dom b e q).1,Nat.lt_of_lt_of_le (s.dom b e q).2 (push_step (ι:=ι) w c el).size⟩,fun b x q l=>?_,s.inj⟩
 obtain⟨e,he,hb⟩:=s.blk b x q l
 refine⟨e,he,hb.mono (Ext.refl _) ?_⟩
 show (w.heap.push _)[e.c]? = _
 rw[Array.getElem?_push,if_neg (by have:=(s.dom b e he).2; omega)]
theorem Sim.adoptL {P:Program} {ι:Io} {h:H} {w:World} (s:Sim P ι h w) {c:Nat} {cs c':List Value} {el:TypeId} (hw:w.heap[c]? = some (.cells ⟨c'⟩ el (0,0))) (hr:RL ι cs c') (hno:∀ b e,ι b=some e→e.c≠c) :
  Sim P (ι.add h.next ⟨c,0,0,cs.length,1,false⟩) (h.alloc (.cells cs el 0 false)) w:=by
 have hx:=s.ext ⟨c,0,0,cs.length,1,false⟩
 have hc:c<w.heap.size:=by
  rcases Nat.lt_or_ge c w.heap.size with q|q
  ·exact q
  ·rw[Array.getElem?_eq_none q] at hw; cases hw
 refine⟨fun b e hb=>?_,fun b x hg hl=>?_,fun b₁ b₂ x₁ x₂ e₁ e₂ y₁ y₂ l₁ l₂ i₁ i₂ he=>?_⟩
 ·rw[H.next_alloc]
  unfold Io.add at hb
  split at hb
  ·rename_i q; cases hb; subst q; exact⟨Nat.lt_succ_self _,hc⟩
  ·exact⟨Nat.lt_succ_of_lt (s.dom b e hb).1,(s.dom b e hb).2⟩
 ·rw[H.get_alloc] at hg
  split at hg
  ·rename_i q
   cases hg; subst q
   refine⟨_,Io.add_self _ _ _,c',0,0,hw,hr.length.symm,by simp,?_,fun _=>⟨rfl,fun _=>rfl⟩,fun q=>(by cases q),⟨fun _=>Nat.le_refl _,fun _=>.inl (Nat.le_refl _)⟩,rfl,fun q=>(by cases q)⟩
   have:(c'.drop 0).take cs.length=c':=by rw[hr.length]; simp
   simp only[this]
   exact hr.mono hx
  ·obtain⟨e,he,hb⟩:=s.blk b x hg hl
   exact⟨e,hx _ _ he,hb.mono hx rfl⟩
 ·unfold Io.add at i₁ i₂
  rw[H.get_alloc] at y₁ y₂
  split at i₁
  ·rename_i q1
   split at i₂
   ·rename_i q2; rw[q1,q2]
   ·rename_i q2
    cases i₁
    exact absurd he.symm (hno _ _ i₂)
  ·rename_i q1
   split at i₂
   ·rename_i q2
    cases i₂
    exact absurd he (hno _ _ i₁)
   ·rename_i q2
    rw[if_neg q1] at y₁
    rw[if_neg q2] at y₂
    exact s.inj _ _ _ _ _ _ y₁ y₂ l₁ l₂ i₁ i₂ he
theorem ev_put {fr:Fr} {dst:Option Tmp} {v:Value} {x:Operand} (h:∀ d,dst=some d→x ≠ .tmp d):Fr.ev (Fr.put fr dst v) x=Fr.ev fr x:=by
 cases dst with
 |none=>rfl
 |some d=>
  cases x with
  |tmp t=>
   show Fr.at ((d,v)::fr) t=Fr.at fr t
   simp only[Fr.at]
   have:Nat.beq d t=false:=by
    cases q:Nat.beq d t with
    |false=>rfl
    |true=>exact absurd (by rw[Nat.eq_of_beq_eq_true q]) (h d rfl)
   rw[this]; rfl
  |_=>rfl
theorem evParts_put {fr:Fr} {dst:Option Tmp} {v:Value}:∀ {l:List (Nat × Operand)},(∀ p∈l,∀ d,dst=some d→p.2 ≠ .tmp d)→evParts (Fr.put fr dst v) l=evParts fr l
 |[],_=>rfl
 |(i,x)::l,h=>by
  simp only[evParts]
  rw[ev_put (h (i,x) (by simp)),evParts_put (fun p hp=>h p (by simp[hp]))]
theorem layX_put {P:Program} {ops:Array Oper} {fr:Fr} {dst:Option Tmp} {v:Value} (o:Oper) (h:∀ d,dst=some d→d ∉ o.looksAt ops):layX P (Fr.put fr dst v) o=layX P fr o:=by
 have key:∀ x∈o.op.operands,∀ d,dst=some d→x ≠ .tmp d:=fun x hx d hd q=>h d hd (by
  subst q
  exact List.mem_append_left _ (List.mem_filterMap.2 ⟨.tmp d,by simpa using hx,rfl⟩))
 obtain⟨dst',op,type,pos,after,guard⟩:=o
 simp only at key
 unfold layX
 cases op<;>simp only
 case box e x=>rw[ev_put (key x (by simp[Op.operands]))]
 case buildSlice t n ps=>
  rw[evParts_put fun p hp d hd=>key p.2 (by have:=List.mem_map_of_mem (f:=fun x:Nat × Operand=>x.2) hp; simpa [Op.operands] using this) d hd]
 case makeSlice t l c=>
  rw[ev_put (key l (by simp[Op.operands])),ev_put (key c (by simp[Op.operands]))]
theorem at_put {fr:Fr} {dst:Option Tmp} {v:Value} {d:Nat} (h:dst≠some d):Fr.at (Fr.put fr dst v) d=Fr.at fr d:=ev_put (x:=.tmp d) fun d' q w=>h (by cases w; exact q)
structure Pre (P:Program) (ops:Array Oper) (w₀:World) (ι:Io) (fr:Fr) (a:Act) (w:World) (x:Nat × Nat):Prop where
 is:∃ o d cs el val c',ops[x.1]? = some o∧o.guard=none∧o.dst=some d∧Fr.at fr d=none∧layX P fr o=some (cs,el,val)∧RL ι cs c'∧a.tmps[d]? = some (val x.2)∧w.heap[x.2]? = some (.cells ⟨c'⟩ el (0,0))
 new:w₀.heap.size≤x.2
 own:∀ b e,ι b=some e→e.c≠x.2
structure PreL (P:Program) (ops:Array Oper) (w₀:World) (ι:Io) (fr:Fr) (a:Act) (w:World) (pd:List (Nat × Nat)):Prop where
 all:∀ x∈pd,Pre P ops w₀ ι fr a w x
 nodup:(pd.map (·.2)).Nodup
theorem PreL.nil {P:Program} {ops:Array Oper} {w₀ w:World} {ι:Io} {fr:Fr} {a:Act}:PreL P ops w₀ ι fr a w []:=⟨fun _ h=>(by cases h),.nil⟩
theorem Pre.lt {P:Program} {ops:Array Oper} {w₀ w:World} {ι:Io} {fr:Fr} {a:Act} {x:Nat × Nat} (p:Pre P ops w₀ ι fr a w x):x.2<w.heap.size:=by
 obtain⟨o,d,cs,el,val,c',h1,h2,h3,h4,h5,h6,h7,h8⟩:=p.is
 rcases Nat.lt_or_ge x.2 w.heap.size with q|q
 ·exact q
 ·rw[Array.getElem?_eq_none q] at h8; cases h8
theorem put_at {a:Act} {dst:Option Tmp} {v:Value} {d:Nat} (h:dst≠some d):(a.put dst v).tmps[d]? = a.tmps[d]?:=by
 cases dst with
 |none=>rfl
 |some d'=>simp only[Act.put]; rw[Array.getElem?_setIfInBounds_ne (fun q=>h (by rw[q]))]
theorem Pre.op {P:Program} {ops:Array Oper} {w₀ w w':World} {ι ι':Io} {fr:Fr} {a:Act} {x:Nat × Nat} (p:Pre P ops w₀ ι fr a w x) (st:Step ι w ι' w') {o:Oper} (hs:sepB ops o x.1=true) (v v':Value) :
  Pre P ops w₀ ι' (Fr.put fr o.dst v) (a.put o.dst v') w' x:=by
 have hlt:=p.lt
 obtain⟨ol,d,cs,el,val,c',h1,h2,h3,h4,h5,h6,h7,h8⟩:=p.is
 obtain⟨ol',g1,hsep⟩:=sepB_spec hs
 rw[h1] at g1; cases g1
 have hne:o.dst≠some d:=fun q=>(hsep d q).2 h3
 refine⟨⟨ol,d,cs,el,val,c',h1,h2,h3,(at_put hne).trans h4,(layX_put ol fun d' q=>(hsep d' q).1).trans h5,h6.mono st.ext,(put_at hne).trans h7,(st.keep _ hlt p.own).trans h8⟩,p.new,fun b e hb q=>?_⟩
 cases h0:ι b with
 |some e'=>
  have:=st.ext _ _ h0
  rw[hb] at this; cases this
  exact p.own b e h0 q
 |none=>
  rcases st.new b e hb h0 with z|⟨b₀,e₀,z1,z2,_⟩
  ·omega
  ·exact p.own b₀ e₀ z1 (z2.trans q)
theorem PreL.op {P:Program} {ops:Array Oper} {w₀ w w':World} {ι ι':Io} {fr:Fr} {a:Act} {pd:List (Nat × Nat)} (p:PreL P ops w₀ ι fr a w pd) (st:Step ι w ι' w') {o:Oper} (hs:∀ x∈pd,sepB ops o x.1=true) (v v':Value) :
  PreL P ops w₀ ι' (Fr.put fr o.dst v) (a.put o.dst v') w' pd:=⟨fun x hx=>(p.all x hx).op st (hs x hx) v v',p.nodup⟩
theorem Pre.lay {P:Program} {ops:Array Oper} {w₀ w:World} {ι:Io} {fr:Fr} {a:Act} {x:Nat × Nat} (p:Pre P ops w₀ ι fr a w x) (c:List Value) (el:TypeId) {o:Oper} (hs:sepB ops o x.1=true) (v':Value):Pre P ops w₀ ι fr (a.put o.dst v') (wpush w c el) x:=by
 have hlt:=p.lt
 obtain⟨ol,d,cs,el',val,c',h1,h2,h3,h4,h5,h6,h7,h8⟩:=p.is
 obtain⟨ol',g1,hsep⟩:=sepB_spec hs
 rw[h1] at g1; cases g1
 have hne:o.dst≠some d:=fun q=>(hsep d q).2 h3
 exact⟨⟨ol,d,cs,el',val,c',h1,h2,h3,h4,h5,h6,(put_at hne).trans h7,((push_step (ι:=ι) w c el).keep _ hlt p.own).trans h8⟩,p.new,p.own⟩
structure Ml (ops:Array Oper) (listed listed':Array Bool) (pd:List (Nat × Nat)):Prop where
 s1:listed.size=ops.size
 s2:listed'.size=ops.size
 is:∀ j,listed'.getD j false=true↔listed.getD j false=true∨∃ c,(j,c)∈pd
theorem getD_tf {l:Array Bool} {j:Nat}:l.getD j true=false↔j<l.size∧l.getD j false=false:=by
 by_cases h:j<l.size
 ·simp[h]
 ·simp[h,Array.getElem?_eq_none (Nat.le_of_not_lt h)]
theorem getD_lt {l:Array Bool} {j:Nat} (h:l.getD j false=true):j<l.size:=by
 rcases Nat.lt_or_ge j l.size with q|q
 ·exact q
 ·simp[Array.getElem?_eq_none q] at h
theorem getD_set {l:Array Bool} {i j:Nat}:(l.setIfInBounds i true).getD j false=true↔l.getD j false=true∨(j=i∧i<l.size):=by
 by_cases h:i=j
 ·subst h
  by_cases q:i<l.size
  ·simp[q]
  ·simp[q,Array.getElem?_eq_none (Nat.le_of_not_lt q)]
 ·rw[getD_set_ne false h]
  constructor
  ·exact .inl
  ·rintro (q|⟨q,_⟩)
   ·exact q
   ·exact absurd q.symm h
theorem Ml.op {ops:Array Oper} {listed listed':Array Bool} {pd:List (Nat × Nat)} (m:Ml ops listed listed' pd) (i:Nat):Ml ops (listed.setIfInBounds i true) (listed'.setIfInBounds i true) pd:=by
 refine⟨by simp[m.s1],by simp[m.s2],fun j=>?_⟩
 rw[getD_set,getD_set,m.is,m.s1,m.s2]
 constructor
 ·rintro ((q|q)|q)
  ·exact .inl (.inl q)
  ·exact .inr q
  ·exact .inl (.inr q)
 ·rintro ((q|q)|q)
  ·exact .inl (.inl q)
  ·exact .inr q
  ·exact .inl (.inr q)
theorem ltsB_get {j:Nat}:∀ {lt:List Nat} {listed:Array Bool},(ltsB listed lt).size=listed.size∧((ltsB listed lt).getD j false=true↔listed.getD j false=true∨(j∈lt∧j<listed.size))
 |[],listed=>⟨rfl,by simp[ltsB]⟩
 |l::r,listed=>by
  obtain⟨h1,h2⟩:=ltsB_get (j:=j) (lt:=r) (listed:=listed.setIfInBounds l true)
  have e:ltsB listed (l::r)=ltsB (listed.setIfInBounds l true) r:=rfl
  rw[e]
  refine⟨h1.trans (by simp),h2.trans ?_⟩
  rw[getD_set,Array.size_setIfInBounds]
  constructor
  ·rintro ((q|⟨q1,q2⟩)|⟨q1,q2⟩)
   ·exact .inl q
   ·exact .inr ⟨by simp[q1],by rw[q1]; exact q2⟩
   ·exact .inr ⟨by simp[q1],q2⟩
  ·rintro (q|⟨q1,q2⟩)
   ·exact .inl (.inl q)
   ·rcases List.mem_cons.1 q1 with z|z
    ·exact .inl (.inr ⟨z,by rw[← z]; exact q2⟩)
    ·exact .inr ⟨z,q2⟩
theorem ready_sub {ops:Array Oper} {listed listed':Array Bool} {pd:List (Nat × Nat)} (m:Ml ops listed listed' pd) {lt:List Nat} {i:Nat} (hr:Region.ready .any ops (ltsB listed lt)=[i]) (hp:∀ x∈pd,x.1=i∨x.1∈lt)
  (hi:∀ x∈pd,x.1≠i) {j:Nat} (hj:j∈Region.ready .any ops listed'):j=i∨j∈lt:=by
 by_cases hl:j∈lt
 ·exact .inr hl
 ·left
  obtain⟨h0,o,ho,hall⟩:=mem_ready.1 hj
  have:j∈Region.ready .any ops (ltsB listed lt):=by
   obtain⟨z1,z2⟩:=getD_tf.1 h0
   refine mem_ready.2 ⟨getD_tf.2 ⟨by rw[(ltsB_get (j:=0)).1,m.s1,← m.s2]; exact z1,?_⟩,o,ho,fun e he hb=>?_⟩
   ·cases q:(ltsB listed lt).getD j false with
    |false=>rfl
    |true=>
     rcases ltsB_get.2.1 q with w|w
     ·have:=(m.is j).2 (.inl w)
      rw[z2] at this; cases this
     ·exact absurd w.1 hl
   ·have h1:=hall e he hb
    rcases (m.is e.on).1 h1 with w|⟨c,w⟩
    ·exact ltsB_get.2.2 (.inl w)
    ·rcases hp _ w with q|q
     ·exact absurd q (hi _ w)
     ·exact ltsB_get.2.2 (.inr ⟨q,by rw[m.s1,← m.s2]; exact getD_lt h1⟩)
  rw[hr] at this
  simpa using this
def cnt (l:Array Bool):Nat:=l.toList.count true
theorem cnt_le (l:Array Bool):cnt l≤l.size:=by
 unfold cnt
 have:=List.count_le_length (a:=true) (l:=l.toList)
 simpa using this
theorem cnt_set {l:Array Bool} {i:Nat} (h:l.getD i true=false):cnt (l.setIfInBounds i true)=cnt l+1:=by
 obtain⟨h1,h2⟩:=getD_tf.1 h
 have h3:l.toList[i]'(by simpa using h1)=false:=by
  simpa [h1] using h2
 unfold cnt
 rw[Array.toList_setIfInBounds,List.count_set (by simpa using h1),h3]
 simp
theorem cnt_lt {l:Array Bool} {i:Nat} (h:l.getD i true=false):cnt l<l.size:=by
 have h1:=cnt_set h
 have h2:=cnt_le (l.setIfInBounds i true)
 rw[Array.size_setIfInBounds] at h2
 omega
theorem FR.fresh {ι:Io} {fr:Fr} {tmps:Array Value} (h:FR ι fr tmps) {d:Nat} (hd:Fr.at fr d=none) (v:Value):FR ι fr (tmps.setIfInBounds d v):=fun t u e=>by
 obtain⟨u',q1,q2⟩:=h t u e
 refine⟨u',?_,q2⟩
 rw[Array.getElem?_setIfInBounds_ne (fun q=>by subst q; rw[hd] at e; cases e)]
 exact q1
theorem lay_early {P:Program} {fr:Fr} {o:Oper} (h:(layX P fr o).isSome=true):earlyS o=false:=by
 unfold layX at h
 unfold earlyS
 split at h<;>first|(rename_i q; rw[q]; done)|(rename_i q1; simp at h)
theorem laysB_mem {P:Program} {ops:List Oper} {fr:Fr}:∀ {lt:List Nat},laysB P ops fr lt=true→∀ l∈lt,∃ o d cs el val,ops[l]? = some o∧o.dst=some d∧Fr.at fr d=none∧layX P fr o=some (cs,el,val)
 |[],_,l,hl=>by cases hl
 |x::r,h,l,hl=>by
  simp only[laysB,Bool.and_eq_true] at h
  cases hl with
  |tail _ hm=>exact laysB_mem h.2 l hm
  |head=>
   have h1:=h.1
   split at h1
   ·rename_i o ho
    split at h1
    ·rename_i d hd
     split at h1
     ·rename_i hn
      obtain⟨⟨cs,el,val⟩,hx⟩:=Option.isSome_iff_exists.1 h1
      exact⟨o,d,cs,el,val,ho,hd,hn,hx⟩
     ·cases h1
    ·cases h1
   ·cases h1
theorem lay_noifV {P:Program} {fr:Fr} {o:Oper} {cs:List Value} {el:TypeId} {val:Nat→Value} (hl:layX P fr o=some (cs,el,val)) (b:Nat) (x y:Res Value):ifV (val b) x y = .bad:=by
 rcases lay_val hl with rfl|⟨n,m,rfl⟩<;>rfl
theorem map_inj {α β:Type} {f:α→β}:∀ {l:List α},(l.map f).Nodup→∀ {x y:α},x∈l→y∈l→f x=f y→x=y
 |[],_,x,_,hx,_,_=>by cases hx
 |z::l,h,x,y,hx,hy,e=>by
  simp only[List.map_cons,List.nodup_cons] at h
  rcases List.mem_cons.1 hx with q1|q1
  ·rcases List.mem_cons.1 hy with q2|q2
   ·rw[q1,q2]
   ·exact absurd (by rw[← q1,e]; exact List.mem_map_of_mem q2) h.1
  ·rcases List.mem_cons.1 hy with q2|q2
   ·exact absurd (by rw[← q2,← e]; exact List.mem_map_of_mem q1) h.1
   ·exact map_inj h.2 q1 q2 e
theorem map_nd {α β:Type} {f:α→β}:∀ {l:List α},(l.map f).Nodup→l.Nodup
 |[],_=>.nil
 |z::l,h=>by
  simp only[List.map_cons,List.nodup_cons] at h
  exact List.nodup_cons.2 ⟨fun q=>h.1 (List.mem_map_of_mem q),map_nd h.2⟩
theorem evD_ok {P:Program} {G n:Nat} {ι₀:Io} {w₀:World} {cl:Cl} {ops:Array Oper} {K:Ko} {Q:Exit→Act→World→Prop} {r:Res Value} (hr:r ≠ .bad) (hcl:ClOk P G cl) (hK:KQ P G n ι₀ w₀ r K Q) (hp:PanOk Q)
  (hall:ops.toList.all (opOk G n)=true) (hns:Region.noSelect ops=true) :
  ∀ (pl:Plan) (fuel:Nat) {listed listed':Array Bool} {ls pe:List Nat} {pd:List (Nat × Nat)} {ks:List Kept} {ι:Io} {fr:Fr} {h:H} {a:Act} {w:World},Down ops listed'→Ml ops listed listed' pd→ops.size≤fuel+cnt listed' →
   planB ops listed ls pe pl=true→(∀ x∈pd,x.1∈pe)→(pd.map (·.1)).Nodup→PreL P ops w₀ ι fr a w pd→KsOk P ops a ls ks→St P G n ι₀ w₀ ι fr h a w→evD P cl ops.toList K pl fr h=r→wpT P ops Q fuel ks listed' a w:=by
 intro pl
 induction pl with
 |nil=>
  intro fuel listed listed' ls pe pd ks ι fr h a w hdn hml hfu hpl hpe hnd hpre hks s he
  unfold planB at hpl
  simp only[Bool.and_eq_true] at hpl
  have hpe0:pe=[]:=by simpa using hpl.1
  have hpd0:pd=[]:=List.eq_nil_iff_forall_not_mem.2 fun x hx=>by have:=hpe x hx; rw[hpe0] at this; cases this
  subst hpd0
  have hll:listed'=listed:=by
   apply Array.ext
   ·rw[hml.s2,hml.s1]
   ·intro j h1 h2
    have:=hml.is j
    simp[h1,h2] at this
    cases q1:listed'[j]<;>cases q2:listed[j]<;>simp_all
  subst hll
  refine wpT_done (by simpa using hpl.2) ?_ _
  exact hK .normal fr h ι a w .normal s trivial he
 |cons x rest ihp=>
  obtain⟨i,chk,lt⟩:=x
  intro fuel
  induction fuel using Nat.strongRecOn with
  |ind fuel ihf=>
   intro listed listed' ls pe pd ks ι fr h a w hdn hml hfu hpl hpe hnd hpre hks s he
   unfold planB at hpl
   unfold evD at he
   have hte:ops.toList[i]? = ops[i]?:=by simp
   rw[hte] at he
   cases ho:ops[i]? with
   |none=>rw[ho] at hpl; cases hpl
   |some o=>
    rw[ho] at hpl he
    simp only[Bool.and_eq_true] at hpl he
    obtain⟨⟨hsep,hready⟩,hpl⟩:=hpl
    have hok:opOk G n o=true:=List.all_eq_true.1 hall _ (by have:=Array.mem_of_getElem? ho; simpa using this)
    have hmem0:i∈Region.ready .any ops listed:=by simpa using hready
    have hmemM:(∀ x∈pd,x.1≠i)→i∈Region.ready .any ops listed':=by
     intro hni
     obtain⟨z0,o',z1,z2⟩:=mem_ready.1 hmem0
     refine mem_ready.2 ⟨?_,o',z1,fun e he hb=>(hml.is _).2 (.inl (z2 e he hb))⟩
     obtain⟨y1,y2⟩:=getD_tf.1 z0
     refine getD_tf.2 ⟨by rw[hml.s2,← hml.s1]; exact y1,?_⟩
     cases q:listed'.getD i false with
     |false=>rfl
     |true=>
      rcases (hml.is i).1 q with u|⟨c,u⟩
      ·rw[y2] at u; cases u
      ·exact absurd rfl (hni _ u)
    cases hes:earlyS o with
    |true=>
     rw[hes] at hpl he
     simp only[cond_true,Bool.and_eq_true] at hpl he
     have hni:∀ x∈pd,x.1≠i:=fun x hx q=>by
      obtain⟨o',d,cs,el,val,c',h1,h2,h3,h4,h5,_⟩:=(hpre.all x hx).is
      rw[q,ho] at h1; cases h1
      have:=lay_early (P:=P) (fr:=fr) (o:=o) (by rw[h5]; rfl)
      rw[hes] at this; cases this
     have hmem:=hmemM hni
     have hpesep:∀ x∈pd,sepB ops o x.1=true:=fun x hx=>List.all_eq_true.1 hpl.1.1.1 _ (hpe x hx)
     obtain⟨fu,hfu1⟩ : ∃ fu,fuel=fu+1:=⟨fuel - 1,by have:=cnt_lt (mem_ready.1 hmem).1; have:=hml.s2; omega⟩
     have hfu':ops.size≤fu+cnt (listed'.setIfInBounds i true):=by rw[cnt_set (mem_ready.1 hmem).1]; omega
     unfold ev1E at he
     have first:∀ {v v':Value} {S:World→Prop} {ι':Io} {h':H},YieldsIf P ops S o v' a→S w→((∀ w,S w)∨(isLoad o=true∧Region.wanted o (yielded ops a.tmps)=true∧S=fun w=>∀ l,(execOp a.eval o).run P (pushes w l) = .ok (.value v') (pushes w l))) →
       Step ι w ι' w→Sim P ι' h' w→R ι' v v'→evD P cl ops.toList K rest (Fr.put fr o.dst v) h'=r→wpT P ops Q fuel ks listed' a w:=by
      intro v v' S ι' h' hy hS hkind g1 g2 g3 he'
      have hkput:KsOk P ops (a.put o.dst v') ls ks:=hks.put hsep v'
      rw[hfu1]
      refine wpT_first ho (Region.noSelect_spec hns) (fun c a w=>hp c _ _ w (by cases o.dst<;>rfl)) _ ks listed' a w hdn (fun j oj hj hji hun hno=>Region.free_spec ho hpl.1.1.2 j oj hj hji (by
       obtain⟨y1,y2⟩:=getD_tf.1 hun
       refine getD_tf.2 ⟨by rw[hml.s1,← hml.s2]; exact y1,?_⟩
       cases q:listed.getD j false with
       |false=>rfl
       |true=>have:=(hml.is j).2 (.inl q); rw[y2] at this; cases this) hno) hmem hy hS ?_
      refine ihp fu (hdn.set hmem) (hml.op i) hfu' hpl.2 hpe hnd (hpre.op g1 hpesep v v') ?_ (s.put hok g1 g2 g3) he'
      intro k hk
      have up:∀ {k:Kept},Held P ops (a.put o.dst v') ls k→Held P ops (a.put o.dst v') (bif isLoad o then i::ls else ls) k:=fun q=>⟨by cases isLoad o<;>simp[q.mem],q.is⟩
      rcases List.mem_cons.1 hk with rfl|hk'
      ·rcases hkind with ha|⟨hl,hw,hS'⟩
       ·exact .inl ha
       ·have hown:=hpl.1.2
        rw[hl] at hown
        simp only[cond_true] at hown
        unfold ownB at hown
        cases hd:o.dst with
        |none=>rw[hd] at hown; cases hown
        |some d=>
         rw[hd] at hown
         have hnl:∀ d',o.dst=some d'→d' ∉ o.looksAt ops:=by
          intro d' q
          rw[hd] at q; cases q
          simpa using hown
         have hsel:∀ cs b,o.op ≠ .select cs b:=fun cs b=>Region.noSelect_spec hns i o cs b ho
         refine .inr ⟨by rw[hl]; simp,o,d,execOp a.eval o,v',ho,hl,hd,?_,?_,?_,hS'⟩
         ·rw[← hd]; exact execOp_put o hsel a o.dst v' hnl
         ·have hlt:d<a.tmps.size:=Nat.lt_of_lt_of_le (opOk_d hok hd) s.size
          simp[Act.put,hlt]
         ·rw[← hd,wanted_put o a o.dst v' hnl]; exact hw
      ·exact (hkput k hk').imp id up
     rcases grd_cases he hr with ⟨hw,he⟩|⟨hw,he⟩
     ·cases hed:earlyD fr o with
      |false=>rw[hed] at he; exact absurd he.symm hr
      |true=>
       rw[hed] at he
       simp only[cond_true] at he
       unfold Res.ok1 at he
       split at he
       ·rename_i v h' hx
        obtain⟨hhh,u,g3,g4,g5⟩:=early_run s.sim hes s.fr (opOk_g hok s.gl) hed hx
        have he':evD P cl ops.toList K rest (Fr.put fr o.dst v) h'=r:=by
         cases hgd:guards ops.toList i with
         |false=>rw[hgd] at he; exact he
         |true=>
          rw[hgd] at he
          simp only[cond_true] at he
          unfold ifV at he
          split at he
          ·rename_i t
           cases t<;>exact he
          ·exact absurd he.symm hr
        refine first (S:=fun w=>∀ l,(execOp a.eval o).run P (pushes w l) = .ok (.value u) (pushes w l)) (.inl ⟨wanted_ok s.fr hw,fun w q=>by have:=q []; rwa [pushes_nil] at this⟩) g4 ?_ (Step.refl _ _) (hhh ▸ s.sim) g3 he'
        cases hl:isLoad o with
        |false=>exact .inl fun w l=>g5 hl _
        |true=>exact .inr ⟨rfl,wanted_ok s.fr hw,rfl⟩
       ·exact absurd he.symm hr
     ·exact first (S:=fun _=>True) (.inr ⟨wanted_ok s.fr hw,rfl⟩) trivial (.inl fun _=>trivial) (Step.refl _ _) s.sim (undef_R _) he
    |false=>
     rw[hes] at hpl he
     simp only[cond_false,Bool.and_eq_true] at hpl he
     obtain⟨⟨⟨⟨⟨⟨hil,hpelt⟩,hltsep⟩,hlate⟩,honly⟩,hchk⟩,hrest⟩:=hpl
     have hlays:laysB P ops.toList fr lt=true∧ev1 P cl ops.toList i o K fr h (fun fr' h'=>chkK P ops.toList fr' h' chk (evD P cl ops.toList K rest fr' h'))=r:=by
      cases q:laysB P ops.toList fr lt with
      |false=>rw[q] at he; exact absurd he.symm hr
      |true=>rw[q] at he; exact⟨rfl,he⟩
     obtain⟨hlays,he⟩:=hlays
     have hilt:i ∉ lt:=by simpa using hil
     have hpm:∀ x∈pd,x.1=i∨x.1∈lt:=fun x hx=>by
      have:=List.all_eq_true.1 hpelt _ (hpe x hx)
      simp only[Bool.or_eq_true] at this
      rcases this with q|q
      ·exact .inl (Nat.eq_of_beq_eq_true q)
      ·exact .inr (by simpa using q)
     have hrc:∀ {fr':Fr} {h':H},chkK P ops.toList fr' h' chk (evD P cl ops.toList K rest fr' h')=r→recheck P ops.toList fr' h' chk=true∧evD P cl ops.toList K rest fr' h'=r:=by
      intro fr' h' hk
      unfold chkK at hk
      split at hk
      ·exact⟨rfl,hk⟩
      ·cases hrc:recheck P ops.toList fr' h' chk with
       |false=>rw[hrc] at hk; exact absurd hk.symm hr
       |true=>rw[hrc] at hk; exact⟨rfl,hk⟩
     by_cases hin:∃ c,(i,c)∈pd
     ·
      obtain⟨c,hc⟩:=hin
      have hpi:=hpre.all _ hc
      obtain⟨o',d,cs,el,val,c',h1,h2,h3,h4,h5,h6,h7,h8⟩:=hpi.is
      rw[ho] at h1; cases h1
      have hsim:=s.sim.adoptL h8 h6 hpi.own
      have hxx:=s.sim.ext ⟨c,0,0,cs.length,1,false⟩
      have hev:evD P cl ops.toList K rest (Fr.put fr o.dst (val h.next)) (h.alloc (.cells cs el 0 false))=r:=by
       unfold ev1 at he
       have hwx:wantedX o ops.toList fr=some true:=by unfold wantedX; rw[h2]
       rw[hwx,lay_x h5] at he
       simp only[grd,Res.go_ok] at he
       cases hgd:guards ops.toList i with
       |true=>rw[hgd] at he; simp only[cond_true] at he; rw[lay_noifV h5] at he; exact absurd he.symm hr
       |false=>rw[hgd] at he; simp only[cond_false] at he; exact (hrc he).2
      have hnew:∀ b e,(ι.add h.next ⟨c,0,0,cs.length,1,false⟩) b=some e→ι b=none→e.c=c:=fun b e hb h0=>by
       unfold Io.add at hb
       split at hb
       ·cases hb; rfl
       ·rw[h0] at hb; cases hb
      have hd:=opOk_d hok h3
      have S':St P G n ι₀ w₀ (ι.add h.next ⟨c,0,0,cs.length,1,false⟩) (Fr.put fr o.dst (val h.next)) (h.alloc (.cells cs el 0 false)) a w:=by
       refine⟨⟨s.step.ext.trans hxx,fun b e hb h0=>?_,s.step.os,s.step.tape,s.step.output,s.step.size,s.step.keep,s.step.shp⟩,hsim,?_,?_,s.size,s.gl.mono hxx⟩
       ·cases q:ι b with
        |some e'=>
         have:=hxx _ _ q
         rw[hb] at this; cases this
         exact s.step.new b e q h0
        |none=>rw[hnew b e hb q]; exact .inl hpi.new
       ·rw[h3]
        intro t u e
        simp only[Fr.put,Fr.at] at e
        cases q:Nat.beq d t with
        |true=>
         rw[q] at e
         simp only[cond_true,Option.some.injEq] at e
         subst e
         rw[← Nat.eq_of_beq_eq_true q]
         exact⟨val c,h7,lay_R h5 (Io.add_self _ _ _) rfl rfl rfl⟩
        |false=>rw[q] at e; exact (s.fr.mono hxx) t u e
       ·obtain⟨Ds,q1,q2⟩:=s.dfs
        refine⟨Ds,q1,q2.nodup,q2.is,q2.new,fun D hD b e hb=>?_⟩
        cases q:ι b with
        |some e'=>
         have:=hxx _ _ q
         rw[hb] at this; cases this
         exact q2.own D hD b e q
        |none=>
         rw[hnew b e hb q]
         intro hcD
         have:=q2.is D hD
         rw[← hcD,h8] at this; cases this
      have hmem':∀ x∈pd.erase (i,c),x∈pd:=fun x hx=>List.mem_of_mem_erase hx
      have hndp:pd.Nodup:=map_nd hnd
      have hne:∀ x∈pd.erase (i,c),x.1≠i∧x.2≠c:=fun x hx=>by
       have hxp:=hmem' x hx
       have hxn:x≠(i,c):=fun q=>by rw[q] at hx; exact (List.Nodup.mem_erase_iff hndp).1 hx |>.1 rfl
       refine⟨fun q=>hxn ?_,fun q=>hxn ?_⟩
       ·have:=map_inj hnd hxp hc q
        exact this
       ·have:=map_inj hpre.nodup hxp hc q
        exact this
      refine ihp fuel (listed:=listed.setIfInBounds i true) (listed':=listed') (pd:=pd.erase (i,c)) hdn ⟨by simp[hml.s1],hml.s2,fun j=>?_⟩ hfu hrest (fun x hx=>(hpm x (hmem' x hx)).resolve_left (hne x hx).1) ?_ ⟨fun x hx=>?_,?_⟩ hks S' hev
      ·rw[hml.is,getD_set,hml.s1]
       constructor
       ·rintro (q|⟨c2,q⟩)
        ·exact .inl (.inl q)
        ·by_cases hji:j=i
         ·subst hji
          exact .inl (.inr ⟨rfl,by rcases Nat.lt_or_ge j ops.size with z|z; exact z; rw[Array.getElem?_eq_none z] at ho; cases ho⟩)
         ·exact .inr ⟨c2,(List.Nodup.mem_erase_iff hndp).2 ⟨fun z=>hji (by cases z; rfl),q⟩⟩
       ·rintro ((q|⟨rfl,_⟩)|⟨c2,q⟩)
        ·exact .inl q
        ·exact .inr ⟨c,hc⟩
        ·exact .inr ⟨c2,hmem' _ q⟩
      ·exact (List.erase_sublist.map _).nodup hnd
      ·have px:=hpre.all x (hmem' x hx)
       obtain⟨ox,dx,csx,elx,valx,cx,y1,y2,y3,y4,y5,y6,y7,y8⟩:=px.is
       have hxlt:=(hpm x (hmem' x hx)).resolve_left (hne x hx).1
       obtain⟨ox',z1,z2⟩:=sepB_spec (List.all_eq_true.1 hltsep _ hxlt)
       rw[y1] at z1; cases z1
       have hned:o.dst≠some dx:=fun q=>(z2 dx q).2 y3
       refine⟨⟨ox,dx,csx,elx,valx,cx,y1,y2,y3,(at_put hned).trans y4,(layX_put ox fun d' q=>(z2 d' q).1).trans y5,y6.mono hxx,y7,y8⟩,px.new,fun b e hb=>?_⟩
       cases q:ι b with
       |some e'=>
        have:=hxx _ _ q
        rw[hb] at this; cases this
        exact px.own b e q
       |none=>rw[hnew b e hb q]; exact fun z=>(hne x hx).2 z.symm
      ·exact (List.erase_sublist.map _).nodup hpre.nodup
     ·
      have hni:∀ x∈pd,x.1≠i:=fun x hx q=>hin ⟨x.2,by rw[← q]; exact hx⟩
      have hmem:=hmemM hni
      have hpl':∀ x∈pd,x.1∈lt:=fun x hx=>(hpm x hx).resolve_left (hni x hx)
      obtain⟨fu,hfu1⟩ : ∃ fu,fuel=fu+1:=⟨fuel - 1,by have:=cnt_lt (mem_ready.1 hmem).1; have:=hml.s2; omega⟩
      rw[hfu1]
      refine⟨fun h0=>(by rw[h0] at hmem; cases hmem),fun j hj=>?_⟩
      by_cases hji:j=i
      ·subst hji
       have hfu':ops.size≤fu+cnt (listed'.setIfInBounds j true):=by rw[cnt_set (mem_ready.1 hmem).1]; omega
       have hk:∀ {v:Value} {h':H} {ι':Io} {v':Value} {w':World},Step ι w ι' w'→St P G n ι₀ w₀ ι' (Fr.put fr o.dst v) h' (a.put o.dst v') w' →
         chkK P ops.toList (Fr.put fr o.dst v) h' chk (evD P cl ops.toList K rest (Fr.put fr o.dst v) h')=r →
         pres ops j ks w w'∧wpT P ops Q fu ks (listed'.setIfInBounds j true) (a.put o.dst v') w':=by
        intro v h' ι' v' w' st s' hk
        obtain⟨hrc,hk⟩:=hrc hk
        have hkput:KsOk P ops (a.put o.dst v') ls ks:=hks.put hsep v'
        refine⟨fun k hm=>?_,ihp fu (hdn.set hmem) (hml.op j) hfu' hrest (fun x hx=>hpl' x hx) hnd (hpre.op st (fun x hx=>List.all_eq_true.1 hltsep _ (hpl' x hx)) v v') hkput s' hk⟩
        rcases hkput k hm with ha|hh
        ·exact .inr fun _=>ha w'
        ·have:=List.all_eq_true.1 hchk _ hh.mem
         simp only[Bool.or_eq_true] at this
         rcases this with h1|h1
         ·exact .inr fun _=>hh.again s' hall hrc (by simpa using h1)
         ·exact .inl (ancB_ok _ h1)
       unfold wpI wpO
       simp only[ho]
       unfold ev1 at he
       rcases grd_cases he hr with ⟨hw,he⟩|⟨hw,he⟩
       ·rw[if_pos (wanted_ok s.fr hw)]
        exact upon_next (Next:=fun a' w'=>pres ops j ks w w'∧wpT P ops Q fu ks (listed'.setIfInBounds j true) a' w') (k:=fun fr' h'=>chkK P ops.toList fr' h' chk (evD P cl ops.toList K rest fr' h')) hr hok hcl s hK (fun v h' ι' v' w' s' st q=>hk st s' q) he
       ·rw[if_neg (by rw[wanted_ok s.fr hw]; simp)]
        exact hk (Step.refl _ _) (s.put hok (Step.refl _ _) s.sim (undef_R _)) he
      ·
       have hjlt:=(ready_sub hml (by simpa using honly) hpm hni hj).resolve_left hji
       obtain⟨oj,d,cs,el,val,g1,g2,g3,g4⟩:=laysB_mem hlays j hjlt
       have g1:ops[j]? = some oj:=by simpa using g1
       have hjok:opOk G n oj=true:=List.all_eq_true.1 hall _ (by have:=Array.mem_of_getElem? g1; simpa using this)
       obtain⟨c',l1,l2⟩:=lay_run g4 s.fr (opOk_g hjok s.gl)
       have hl:=List.all_eq_true.1 hlate _ hjlt
       unfold lateB at hl
       rw[g1] at hl
       simp only[Bool.and_eq_true] at hl
       obtain⟨⟨⟨lg,_⟩,lls⟩,llt⟩:=hl
       have hgn:oj.guard=none:=by cases q:oj.guard with|none=>rfl|some z=>rw[q] at lg; cases lg
       have hjpd:∀ x∈pd,x.1≠j:=fun x hx q=>by
        have:=(hml.is j).2 (.inr ⟨x.2,by rw[← q]; exact hx⟩)
        have h0:=(getD_tf.1 (mem_ready.1 hj).1).2
        rw[this] at h0; cases h0
       have hkput:KsOk P ops (a.put oj.dst (val w.heap.size)) ls ks:=hks.put lls _
       have hd:=opOk_d hjok g2
       have hjl:=(getD_tf.1 (mem_ready.1 hj).1).1
       have hwant:Region.wanted oj (yielded ops a.tmps)=true:=by unfold Region.wanted; rw[hgn]
       have S':St P G n ι₀ w₀ ι fr h (a.put oj.dst (val w.heap.size)) (wpush w c' el):=by
        refine⟨s.step.trans (push_step w c' el),push_sim s.sim c' el,?_,?_,?_,s.gl⟩
        ·rw[g2]; exact s.fr.fresh g3 _
        ·obtain⟨Ds,q1,q2⟩:=s.dfs
         exact⟨Ds,by rw[g2]; exact q1,q2.step (push_step w c' el)⟩
        ·rw[g2]; simp only[Act.put,Array.size_setIfInBounds]; exact s.size
       have he0:evD P cl ops.toList K ((i,chk,lt)::rest) fr h=r:=by
        unfold evD
        rw[hte,ho]
        simp only[hes,cond_false,hlays,cond_true]
        exact he
       have hpl0:planB ops listed ls lt ((i,chk,lt)::rest)=true:=by
        have hself:(lt.all fun l=>Nat.beq l i||lt.contains l)=true:=List.all_eq_true.2 fun l hl=>by simp[hl]
        unfold planB
        rw[ho]
        simp only[hsep,hready,hes,cond_false,Bool.true_and,hil,hself,hltsep,hlate,honly,hchk,hrest,Bool.and_self]
       unfold wpI wpO
       simp only[g1,hwant,if_true,l2 w]
       refine⟨fun k hm=>?_,?_⟩
       ·rcases hkput k hm with ha|hh
        ·exact .inr fun _=>ha _
        ·refine .inr fun q=>?_
         obtain⟨ol,dl,sl,u,e1,e2,e3,e4,e5,e6,e7⟩:=hh.is
         rw[e7] at q ⊢
         intro l
         have:=q (.cells ⟨c'⟩ el::l)
         rw[← pushes_cons] at this
         exact this
       ·have hfu':ops.size≤fu+cnt (listed'.setIfInBounds j true):=by rw[cnt_set (mem_ready.1 hj).1]; omega
        refine ihf fu (by omega) (pd:=(j,w.heap.size)::pd) (hdn.set hj) ⟨hml.s1,by simp[hml.s2],fun k=>?_⟩ hfu' hpl0 (fun x hx=>?_) ?_ ⟨fun x hx=>?_,?_⟩ hkput S' he0
        ·rw[getD_set,hml.is]
         constructor
         ·rintro ((q|⟨c2,q⟩)|⟨rfl,_⟩)
          ·exact .inl q
          ·exact .inr ⟨c2,by simp[q]⟩
          ·exact .inr ⟨w.heap.size,by simp⟩
         ·rintro (q|⟨c2,q⟩)
          ·exact .inl (.inl q)
          ·rcases List.mem_cons.1 q with z|z
           ·cases z; exact .inr ⟨rfl,hjl⟩
           ·exact .inl (.inr ⟨c2,z⟩)
        ·rcases List.mem_cons.1 hx with rfl|hx
         ·exact hjlt
         ·exact hpl' x hx
        ·simp only[List.map_cons,List.nodup_cons]
         refine⟨fun q=>?_,hnd⟩
         obtain⟨x,hx,e⟩:=List.mem_map.1 q
         exact hjpd x hx e
        ·rcases List.mem_cons.1 hx with rfl|hx
         ·refine⟨⟨oj,d,cs,el,val,c',g1,hgn,g2,g3,g4,l1,?_,?_⟩,s.step.size,fun b e hb q=>?_⟩
          ·rw[g2]
           simp[Act.put,Nat.lt_of_lt_of_le hd s.size]
          ·show (w.heap.push _)[w.heap.size]? = _
           simp
          ·have:=(s.sim.dom b e hb).2
           omega
         ·have hne:x.1≠j:=hjpd x hx
          have hsx:=List.all_eq_true.1 llt _ (hpl' x hx)
          simp only[Bool.or_eq_true] at hsx
          have hsx:=hsx.resolve_left fun q=>hne (Nat.eq_of_beq_eq_true q)
          exact (hpre.all x hx).lay c' el hsx _
        ·simp only[List.map_cons,List.nodup_cons]
         refine⟨fun q=>?_,hpre.nodup⟩
         obtain⟨x,hx,e⟩:=List.mem_map.1 q
         have:=(hpre.all x hx).lt
         omega
end Go.Kx
