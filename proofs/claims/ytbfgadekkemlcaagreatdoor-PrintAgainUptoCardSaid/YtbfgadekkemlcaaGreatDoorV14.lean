/- My texts for this claim, in one file: part 14. -/
import Derived.RangeFuncRecord
import Derived.Test.YtbfgadekkemlcaaGreatDoorV13
set_option linter.unusedVariables false
set_option linter.unusedSimpArgs false
namespace Go.Kx
open Go
def Upon (P:Program) (ok:Value→World→Prop) (pan:Value→World→Prop):Result Next→Prop
 |.ok (.value v) w'=>ok v w'
 |.ok .skip w'=>ok undef w'
 |.ok (.enter f args) w'=>Calls P f args w' fun
   |.returned v,w''=>ok v w''
   |.panicked chain,w''=>∃ v,chain=[{ v,recovered:=false }]∧pan v w''
   |.outgrown,_=>False
 |.ok (.row row args) w'=>Rows P row args w' ok
 |.ok (.round l f tmps assign body) w'=>RoundIn Fence.wide 0 P l f tmps assign body w' fun
   |.returned v,w''=>ok v w''
   |.panicked chain,w''=>∃ v,chain=[{ v,recovered:=false }]∧pan v w''
   |.outgrown,_=>False
 |.halt (.panic v) w'=>pan v w'
 |_=>False
theorem Upon.mono {P:Program} {ok ok':Value→World→Prop} {pan pan':Value→World→Prop} (h1:∀ v w,ok v w→ok' v w) (h2:∀ v w,pan v w→pan' v w) {r:Result Next} (h:Upon P ok pan r):Upon P ok' pan' r:=by
 unfold Upon at *
 split at h
 ·exact h1 _ _ h
 ·exact h1 _ _ h
 ·exact Calls.mono h fun e w' he=>by
   cases e with
   |returned v=>exact h1 _ _ he
   |panicked c=>obtain⟨v,hv,hp⟩:=he; exact⟨v,hv,h2 _ _ hp⟩
   |outgrown=>exact he
 ·exact Rows.mono h fun v w' hv=>h1 _ _ hv
 ·exact RoundIn.mono h fun e w' he=>by
   cases e with
   |returned v=>exact h1 _ _ he
   |panicked c=>obtain⟨v,hv,hp⟩:=he; exact⟨v,hv,h2 _ _ hp⟩
   |outgrown=>exact he
 ·exact h2 _ _ h
 ·exact h.elim
def SN (P:Program) (ι:Io) (w:World) (r:Res Value) (s:Sem Next):Prop:=
 match r with
 |.ok v h'=>Upon P (fun v' w'=>Post P ι w v h' v' w') (fun _ _=>False) (s.run P w)
 |.pan v h'=>Upon P (fun _ _=>False) (fun v' w'=>Post P ι w v h' v' w') (s.run P w)
 |.bad=>True
theorem SN.ofSV {P:Program} {ι:Io} {w:World} {r:Res Value} {s:Sem Value} (h:SV P ι w r s):SN P ι w r (do pure (.value (← s))):=by
 unfold SV at h
 unfold SN
 split at h
 ·obtain⟨v',w',hr,hp⟩:=h
  simp only[Sem.run_bind,hr,Result.andThen_ok,Sem.run_pure]
  exact hp
 ·obtain⟨v',w',hr,hp⟩:=h
  simp only[Sem.run_bind,hr,Result.andThen_halt]
  exact hp
 ·trivial
theorem SN.ofSU {P:Program} {ι:Io} {w:World} {r:Res Value} {s:Sem Unit} (h:SU P ι w r s):SN P ι w r (do s; pure .skip):=by
 unfold SU at h
 unfold SN
 split at h
 ·obtain⟨rfl,w',hr,ι',h1,h2⟩:=h
  simp only[Sem.run_bind,hr,Result.andThen_ok,Sem.run_pure]
  exact⟨ι',h1,h2,.tuple .nil⟩
 ·exact h.elim
 ·trivial
theorem SN.same {P:Program} {ι:Io} {h:H} {w:World} {v v':Value} {s:Sem Next} (hs:Sim P ι h w) (hr:s.run P w = .ok (.value v') w) (hv:R ι v v'):SN P ι w (.ok v h) s:=by
 unfold SN
 simp only[hr]
 exact⟨ι,Step.refl _ _,hs,hv⟩
theorem SN.w1 {P:Program} {ι:Io} {w:World} {o:Option Value} {f:Value→Res Value} {s:Sem Next} (h:∀ v,o=some v→SN P ι w (f v) s):SN P ι w (Kx.w1 o f) s:=by
 cases o with
 |none=>trivial
 |some v=>exact h v rfl
structure ClOk (P:Program) (G:Nat) (cl:Cl):Prop where
 fn:∀ (f:FuncId) (args args':List Value) (ι:Io) (h:H) (w:World),GL G ι→Sim P ι h w→RL ι args args'→SN P ι w (cl (.f f) args h) (callFunc f ⟨args'⟩)
 yl:∀ (b:Nat) (e:Ent) (args args':List Value) (ι:Io) (h:H) (w:World),ι b=some e→GL G ι→Sim P ι h w→RL ι args args'→SN P ι w (cl (.y b) args h) (Instr.yield e.c ⟨args'⟩)
def GOk (ι:Io) (o:Oper):Prop:=∀ g,Operand.global g∈o.op.operands→∃ e,ι g=some e∧e.c=g∧e.sh=0
theorem evAll_ok {ι:Io} {fr:Fr} {a:Act} (hf:FR ι fr a.tmps):∀ {l:List Operand} {vs:List Value},(∀ g,Operand.global g∈l→∃ e,ι g=some e∧e.c=g∧e.sh=0)→evAll fr l=some vs→RL ι vs (l.map a.eval)
 |[],vs,_,h=>by simp only[evAll,Option.some.injEq] at h; subst h; exact .nil
 |x::l,vs,hg,h=>by
  simp only[evAll] at h
  split at h
  ·rename_i v us hv hl
   simp only[Option.some.injEq] at h
   subst h
   exact .cons (hf.ev hv fun g e=>hg g (by simp[e])) (evAll_ok hf (fun g hm=>hg g (by simp[hm])) hl)
  ·cases h
theorem evParts_ok {ι:Io} {fr:Fr} {a:Act} (hf:FR ι fr a.tmps):∀ {l:List (Nat × Operand)} {vs:List (Nat × Value)},(∀ g,Operand.global g∈l.map (·.2)→∃ e,ι g=some e∧e.c=g∧e.sh=0)→evParts fr l=some vs→RP ι vs (l.map fun (i,x)=>(i,a.eval x))
 |[],vs,_,h=>by simp only[evParts,Option.some.injEq] at h; subst h; exact .nil
 |(i,x)::l,vs,hg,h=>by
  simp only[evParts] at h
  split at h
  ·rename_i v us hv hl
   simp only[Option.some.injEq] at h
   subst h
   exact .cons (hf.ev hv fun g e=>hg g (by simp[e])) (evParts_ok hf (fun g hm=>hg g (by simpa using .inr (by simpa using hm))) hl)
  ·cases h
theorem arr_map {α β:Type} (f:α→β) (a:Array α):a.map f=⟨a.toList.map f⟩:=by
 apply Array.ext'; simp
theorem xbuiltin_ok {P:Program} {ι:Io} {h:H} {w:World} (s:Sim P ι h w) (b:Builtin) (ts:Array TypeId) (ty:TypeId) (cs:Array Bool) {xs xs':List Value} (hx:RL ι xs xs') :
  SN P ι w (xbuiltin P b ts.toList xs h) (builtin b ts ty cs ⟨xs'⟩):=by
 obtain⟨tl⟩:=ts
 unfold xbuiltin
 split
 ·rename_i t l x l' h1
  cases hx with
  |cons hv hl=>simp only at h1; subst h1; exact SN.ofSV (xlen_ok s t _ ty _ hv)
 ·rename_i t l x l' h1
  cases hx with
  |cons hv hl=>simp only at h1; subst h1; exact SN.ofSV (xcap_ok s t _ ty _ hv)
 ·rename_i t u x y h1
  cases hx with
  |cons hv hl=>cases hl with|cons hu hn=>cases hn; simp only at h1; subst h1; exact SN.ofSV (xappend_ok s t u ty hv hu)
 ·rename_i t l x y h1
  cases hx with
  |cons hv hl=>cases hl with|cons hu hn=>cases hn; simp only at h1; subst h1; exact SN.ofSV (xcopy_ok s t _ ty hv hu)
 ·rename_i t l x l' h1
  cases hx with
  |cons hv hl=>simp only at h1; subst h1; exact SN.ofSV (xclear_ok s t _ ty _ hv)
 ·rename_i t l m k h1
  cases hx with
  |cons hv hl=>cases hl with|cons hu hn=>cases hn; simp only at h1; subst h1; exact SN.ofSV (xdelete_ok s t _ ty _ hv hu)
 ·cases hx with
  |cons hv hl=>cases hl; exact SN.ofSV (xsdata_ok s _ ty hv)
 ·rename_i t l p n h1
  cases hx with
  |cons hv hl=>cases hl with|cons hu hn=>cases hn; simp only at h1; subst h1; exact SN.ofSV (xustr_ok s t _ ty hv hu)
 ·rename_i xs _ _ _
  cases hf:flatL xs with
  |false=>trivial
  |true=>rw[hx.flatEq hf]; exact SN.ofSV (xflat_ok s _)
 ·rename_i xs _ _ _
  cases hf:flatL xs with
  |false=>trivial
  |true=>rw[hx.flatEq hf]; exact SN.ofSV (xflat_ok s _)
 ·trivial
theorem SN.bind {P:Program} {ι:Io} {w:World} {r:Res Value} {α:Type} {m:Sem α} {k:α→Sem Next} {a:α} (hm:m.run P w = .ok a w) (h:SN P ι w r (k a)):SN P ι w r (m >>= k):=by
 unfold SN at *
 simp only[Sem.run_bind,hm,Result.andThen_ok]
 exact h
theorem xinvoke_ok {P:Program} {G:Nat} {cl:Cl} {ι:Io} {h:H} {w:World} (s:Sim P ι h w) (hcl:ClOk P G cl) (hgl:GL G ι) {r r':Value} (m:String) {args args':List Value} (hr:R ι r r') (ha:RL ι args args') :
  SN P ι w (xinvoke P cl r m args h) (callMethod r' m ⟨args'⟩):=by
 unfold xinvoke
 split
 ·rename_i t v
  cases hr with
  |iface hv=>
   rename_i v'
   obtain⟨k,hk⟩ : ∃ k,P.types.size+Made.depth=k+1:=⟨P.types.size+(Made.depth - 1),by unfold Made.depth; omega⟩
   split
   ·rename_i mt hm
    obtain⟨i,hi,hf⟩:=Option.bind_eq_some_iff.1 hm
    split
    ·rename_i f hp hfn
     split
     ·rename_i e hu
      refine SN.bind (m:=program) (a:=P) rfl (SN.bind (a:=(f,v')) ?_ ?_)
      ·rw[hk]
       simp only[method,Sem.run_bind,rTypeInfo hi,Result.andThen_ok,hf,hp,follow,Sem.run_pure,hfn,receiverAt,rUnder hu,Place.get]
      ·have:=hcl.fn f (v::args) (v'::args') ι h w hgl s (.cons hv ha)
       simpa using this
     ·trivial
    ·rename_i f hp hfn
     split
     ·trivial
     ·rename_i d hnd hu
      refine SN.bind (m:=program) (a:=P) rfl (SN.bind (a:=(f,v')) ?_ ?_)
      ·rw[hk]
       simp only[method,Sem.run_bind,rTypeInfo hi,Result.andThen_ok,hf,hp,follow,Sem.run_pure,hfn,receiverAt,rUnder hu]
       cases d<;>first|exact absurd rfl (hnd _)|rfl
      ·have:=hcl.fn f (v::args) (v'::args') ι h w hgl s (.cons hv ha)
       simpa using this
     ·trivial
    ·trivial
   ·trivial
 ·trivial
theorem xop_ok {P:Program} {G:Nat} {cl:Cl} {ι:Io} {h:H} {w:World} {fr:Fr} {a:Act} (s:Sim P ι h w) (hcl:ClOk P G cl) (hgl:GL G ι) (hf:FR ι fr a.tmps) (o:Oper) (hg:GOk ι o) :
  SN P ι w (xop P cl fr o h) (execOp a.eval o):=by
 have ev:∀ {x:Operand} {v:Value},Fr.ev fr x=some v→x∈o.op.operands→R ι v (a.eval x):=fun e m=>hf.ev e fun g q=>hg g (q ▸ m)
 obtain⟨dst,op,type,pos,after,guard⟩:=o
 simp only at ev
 unfold xop
 simp only
 unfold GOk at hg
 split
 case h_1 x=>cases hv:Fr.ev fr x with
  |none=>trivial
  |some v=>exact SN.same s rfl (ev hv (by simp[Op.operands]))
 case h_2 x=>cases hv:Fr.ev fr x with
  |none=>trivial
  |some v=>exact SN.same s rfl (ev hv (by simp[Op.operands]))
 case h_3 c x y=>
  refine SN.w1 fun v hv=>SN.w1 fun v1 hv1=>SN.w1 fun v2 hv2=>?_
  have e0:=ev hv (by simp[Op.operands])
  have e1:=ev hv1 (by simp[Op.operands])
  have e2:=ev hv2 (by simp[Op.operands])
  unfold pickV
  split
  ·rename_i t
   generalize hc:a.eval c=c' at e0
   cases e0
   refine SN.same s (v':=if t then a.eval x else a.eval y) ?_ ?_
   ·simp only[execOp,hc,asBool,Sem.run_bind,Sem.run_pure,Result.andThen_ok]
   ·cases t<;>assumption
  ·trivial
 case h_4 e=>exact SN.ofSV (xalloc_ok s e)
 case h_5 e x=>exact SN.w1 fun v hv=>SN.ofSV (xbox_ok s e (ev hv (by simp[Op.operands])))
 case h_6 t ps=>
  split
  ·rename_i l hl
   refine SN.ofSV (xbuild_ok s t ?_)
   rw[Array.toList_map]
   exact evParts_ok hf (fun g hm=>hg g (by simpa [Op.operands] using hm)) hl
  ·trivial
 case h_7 t n ps=>
  split
  ·rename_i l hl
   refine SN.ofSV (xbuildSlice_ok s t n ?_)
   rw[Array.toList_map]
   exact evParts_ok hf (fun g hm=>hg g (by simpa [Op.operands] using hm)) hl
  ·trivial
 case h_8 t x=>exact SN.w1 fun v hv=>SN.ofSV (xload_ok s (ev hv (by simp[Op.operands])))
 case h_9 t x y=>exact SN.w1 fun v hv=>SN.w1 fun u hu=>SN.ofSU (xstore_ok s (ev hv (by simp[Op.operands])) (ev hu (by simp[Op.operands])))
 case h_10 x=>
  refine SN.w1 fun v hv=>?_
  have e0:=ev hv (by simp[Op.operands])
  unfold xnilCheck
  split
  ·generalize hc:a.eval x=c' at e0
   cases e0 with
   |ptr he=>exact SN.same s (by simp only[execOp,hc,Sem.run_pure]) (.ptr he)
  ·generalize hc:a.eval x=c' at e0
   cases e0 with
   |iface he=>exact SN.same s (by simp only[execOp,hc,Sem.run_pure]) (.iface he)
  ·generalize hc:a.eval x=c' at e0
   cases e0 with
   |func h1 h2=>exact SN.same s (by simp only[execOp,hc,Sem.run_pure]) (.func h1 h2)
  ·trivial
 case h_11 op t x y c=>exact SN.w1 fun v hv=>SN.w1 fun u hu=>SN.ofSV (xbin_ok s op t x y (ev hv (by simp[Op.operands])) (ev hu (by simp[Op.operands])))
 case h_12 op t x=>exact SN.w1 fun v hv=>SN.ofSV (xun_ok s op (ev hv (by simp[Op.operands])))
 case h_13 sr d x=>exact SN.w1 fun v hv=>SN.ofSV (xconvert_ok s sr d (ev hv (by simp[Op.operands])))
 case h_14 t x=>exact SN.w1 fun v hv=>SN.ofSV (xmakeInterface_ok s t (ev hv (by simp[Op.operands])))
 case h_15 fn fs cs=>
  split
  ·rename_i g l m hl hm
   refine SN.same s (v':=.func (.func g) ⟨fs.toList.map a.eval⟩ ⟨cs.toList.map a.eval⟩) ?_ (.func (evAll_ok hf (fun g hm=>hg g (by simp[Op.operands]; exact .inl (by simpa using hm))) hl) (evAll_ok hf (fun g hm=>hg g (by simp[Op.operands]; exact .inr (by simpa using hm))) hm))
   simp only[execOp,Instr.makeFunc,arr_map,Sem.run_bind,Sem.run_pure,Result.andThen_ok]
  ·trivial
 case h_16 t=>exact SN.ofSV (xmakeMap_ok s t)
 case h_17 t l c=>exact SN.w1 fun v hv=>SN.w1 fun u hu=>SN.ofSV (xmakeSlice_ok s t (ev hv (by simp[Op.operands])) (ev hu (by simp[Op.operands])))
 case h_18 t x lo hi mx=>
  refine SN.w1 fun v hv=>?_
  have e0:=ev hv (by simp[Op.operands])
  have opt:∀ {y:Option Operand} {f:Option Value→Res Value} {r:Sem Next},(∀ z,y=some z→z∈Op.operands (.slice t x lo hi mx))→(∀ o,RO ι o (y.map a.eval)→SN P ι w (f o) r)→SN P ι w (wO fr y f) r:=by
   intro y f r hm hk
   unfold wO
   cases y with
   |none=>exact hk _ .none
   |some z=>exact SN.w1 fun u hu=>hk _ (.some (ev hu (hm z rfl)))
  refine opt (fun z q=>by subst q; simp[Op.operands]) fun l hl=>opt (fun z q=>by subst q; simp[Op.operands]) fun u hu=>opt (fun z q=>by subst q; simp[Op.operands]) fun m hm=>?_
  exact SN.ofSV (xslice_ok s t e0 hl hu hm)
 case h_19 t x i=>exact SN.w1 fun v hv=>SN.ofSV (xfieldAddr_ok s t i (ev hv (by simp[Op.operands])))
 case h_20 t x i=>exact SN.w1 fun v hv=>SN.ofSV (xfield_ok s t i (ev hv (by simp[Op.operands])))
 case h_21 t x i=>exact SN.w1 fun v hv=>SN.w1 fun u hu=>SN.ofSV (xindexAddr_ok s t (ev hv (by simp[Op.operands])) (ev hu (by simp[Op.operands])))
 case h_22 t x i=>exact SN.w1 fun v hv=>SN.w1 fun u hu=>SN.ofSV (xindex_ok s t (ev hv (by simp[Op.operands])) (ev hu (by simp[Op.operands])))
 case h_23 t x k ok=>exact SN.w1 fun v hv=>SN.w1 fun u hu=>SN.ofSV (xlookup_ok s t ok (ev hv (by simp[Op.operands])) (ev hu (by simp[Op.operands])))
 case h_24 t m k x=>exact SN.w1 fun v hv=>SN.w1 fun u hu=>SN.w1 fun z hz=>SN.ofSU (xmapUpdate_ok s t (ev hv (by simp[Op.operands])) (ev hu (by simp[Op.operands])) (ev hz (by simp[Op.operands])))
 case h_25 t m k x=>exact SN.w1 fun v hv=>SN.w1 fun u hu=>SN.w1 fun z hz=>SN.ofSU (xmapUpdate_ok s t (ev hv (by simp[Op.operands])) (ev hu (by simp[Op.operands])) (ev hz (by simp[Op.operands])))
 case h_26 t m k=>exact SN.w1 fun v hv=>SN.w1 fun u hu=>SN.ofSV (xmapEntry_ok s t (ev hv (by simp[Op.operands])) (ev hu (by simp[Op.operands])))
 case h_27 t m k x=>exact SN.w1 fun v hv=>SN.w1 fun u hu=>SN.w1 fun z hz=>SN.ofSU (xentryStore_ok s t (ev hv (by simp[Op.operands])) (ev hu (by simp[Op.operands])) (ev hz (by simp[Op.operands])))
 case h_28 x xt t ok=>exact SN.w1 fun v hv=>SN.ofSV (xtypeAssert_ok s xt t ok (ev hv (by simp[Op.operands])))
 case h_29 x i=>exact SN.w1 fun v hv=>SN.ofSV (xextract_ok s i (ev hv (by simp[Op.operands])))
 case h_30 x=>
  split
  ·rename_i t v hv
   have e0:=ev hv (by simp[Op.operands])
   generalize hc:a.eval x=c' at e0
   cases e0 with
   |iface he=>
    unfold SN
    simp only[execOp,hc,Instr.panic,goPanic,Sem.run_bind,Sem.run_halt,Result.andThen_halt]
    exact⟨ι,Step.refl _ _,s,.iface he⟩
  ·trivial
 case h_31 c=>
  split
  ·rename_i args hargs
   have ha:RL ι args (c.args.toList.map a.eval):=evAll_ok hf (fun g hm=>hg g (by simp[Op.operands,Call.operands]; exact .inr (by simpa using hm))) hargs
   split
   ·rename_i b hb
    refine SN.bind (a:={ target:=.builtin b c.argTypes type (c.args.map fun|.const _=>true|_=>false),args:=c.args.map a.eval }) ?_ ?_
    ·simp only[resolve,hb,Sem.run_pure]
     rfl
    ·simp only[invoke]
     rw[arr_map a.eval c.args]
     exact xbuiltin_ok s b _ _ _ ha
   ·rename_i f hb
    refine SN.w1 fun v hv=>?_
    have e0:=ev hv (by simp[Op.operands,Call.operands,hb])
    unfold xcallV
    split
    ·rename_i g first cap
     generalize hc:a.eval f=c' at e0
     cases e0 with
     |func h1 h2=>
      rename_i first' cap'
      refine SN.bind (a:={ target:=.fn (.func g) ⟨cap'⟩,args:=⟨first'⟩++c.args.map a.eval }) ?_ ?_
      ·simp only[resolve,hb,hc,Deferred.ofValue,Sem.run_pure]
      ·simp only[invoke]
       have:=hcl.fn g (first++args++cap) (first'++c.args.toList.map a.eval++cap') ι h w hgl s ((h1.append ha).append h2)
       rw[arr_map a.eval c.args]
       simpa using this
    ·rename_i b
     generalize hc:a.eval f=c' at e0
     cases e0 with
     |yield he=>
      rename_i e
      refine SN.bind (a:={ target:=.fn (.yield e.c) #[],args:=#[]++c.args.map a.eval }) ?_ ?_
      ·simp only[resolve,hb,hc,Deferred.ofValue,Sem.run_pure]
      ·simp only[invoke]
       have:=hcl.yl b e args (c.args.toList.map a.eval) ι h w he hgl s ha
       rw[arr_map a.eval c.args]
       simpa using this
    ·trivial
   ·rename_i r m hb
    refine SN.w1 fun v hv=>?_
    have e0:=ev hv (by simp[Op.operands,Call.operands,hb])
    refine SN.bind (a:={ target:=.fn (.method m) #[],args:=#[a.eval r]++c.args.map a.eval }) ?_ ?_
    ·simp only[resolve,hb,Sem.run_pure]
    ·have:=xinvoke_ok s hcl hgl m e0 ha
     rw[arr_map a.eval c.args]
     have e:List.take c.args.size (List.map a.eval c.args.toList)=List.map a.eval c.args.toList:=List.take_of_length_le (by simp)
     simpa [invoke,e] using this
  ·trivial
 case h_32=>trivial
end Go.Kx
