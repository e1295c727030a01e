/- My texts for this claim, in one file: part 17. -/
import Derived.Scope
import Derived.RangeFuncIn
import Derived.RangeFuncLeaves
import Derived.LoopNIn
import Derived.Test.YtbfgadekkemlcaaGreatDoorV16
set_option linter.unusedVariables false
set_option linter.unusedSimpArgs false
namespace Go.Kx
open Go
theorem PanOk.then {Q:Exit→Act→World→Prop} (h:PanOk Q) (next:Act→World→Prop):PanOk (Exit.then next Q):=fun c a a' w e q=>h c a a' w e q
theorem PanOk.inBlock {Q:Exit→Act→World→Prop} (h:PanOk Q) (id:Nat):PanOk (Exit.inBlock id Q):=fun c a a' w e q=>h c a a' w e q
theorem PanOk.noGoto {Q:Exit→Act→World→Prop} (h:PanOk Q):PanOk (Exit.noGoto Q):=fun c a a' w e q=>h c a a' w e q
theorem St.drawn {P:Program} {G n:Nat} {ι₀ ι:Io} {w₀ w:World} {fr:Fr} {h:H} {a:Act} (s:St P G n ι₀ w₀ ι fr h a w) (m:Nat):St P G n ι₀ w₀ ι fr h a { w with drawn:=m }:=
 ⟨s.step.trans (Step.drawn ι w m),s.sim.drawn m,s.fr,s.dfs.imp fun _ q=>⟨q.1,q.2.step (Step.drawn ι w m)⟩,s.size,s.gl⟩
theorem KQ.then {P:Program} {G n:Nat} {ι₀:Io} {w₀:World} {r:Res Value} {K:Ko} {Q:Exit→Act→World→Prop} (hK:KQ P G n ι₀ w₀ r K Q) {next:Fr→H→Res Value} {Next:Act→World→Prop}
  (hn:∀ fr h ι a w,St P G n ι₀ w₀ ι fr h a w→next fr h=r→Next a w):KQ P G n ι₀ w₀ r (kthen K next) (Exit.then Next Q):=by
 intro e fr h ι a w e' s hx he
 cases e with
 |normal=>cases e'<;>first|exact hn fr h ι a w s he|exact hx.elim
 |exit j=>cases e'<;>first|exact hK _ fr h ι a w _ s hx he|exact hx.elim
 |ret=>cases e'<;>first|exact hK _ fr h ι a w _ s hx he|exact hx.elim
 |pan v=>cases e'<;>first|exact hK _ fr h ι a w _ s hx he|exact hx.elim
theorem KQ.blk {P:Program} {G n:Nat} {ι₀:Io} {w₀:World} {r:Res Value} {K:Ko} {Q:Exit→Act→World→Prop} (hK:KQ P G n ι₀ w₀ r K Q) (id:Nat):KQ P G n ι₀ w₀ r (kblk id K) (Exit.inBlock id Q):=by
 intro e fr h ι a w e' s hx he
 cases e with
 |normal=>cases e'<;>first|exact hK .normal fr h ι a w .normal s trivial he|exact hx.elim
 |exit j=>
  cases e' with
  |exit j'=>
   have hj:j=j':=hx
   subst hj
   simp only[kblk] at he
   simp only[Exit.inBlock]
   cases hb:Nat.beq j id with
   |true=>
    rw[hb] at he
    rw[if_pos (Nat.eq_of_beq_eq_true hb)]
    exact hK .normal fr h ι a w .normal s trivial he
   |false=>
    rw[hb] at he
    rw[if_neg (fun q=>by rw[beqT q] at hb; cases hb)]
    exact hK (.exit j) fr h ι a w (.exit j) s rfl he
  |_=>exact hx.elim
 |ret=>cases e'<;>first|exact hK _ fr h ι a w _ s hx he|exact hx.elim
 |pan v=>cases e'<;>first|exact hK _ fr h ι a w _ s hx he|exact hx.elim
theorem KQ.noGoto {P:Program} {G n:Nat} {ι₀:Io} {w₀:World} {r:Res Value} {K:Ko} {Q:Exit→Act→World→Prop} (hK:KQ P G n ι₀ w₀ r K Q):KQ P G n ι₀ w₀ r K (Exit.noGoto Q):=by
 intro e fr h ι a w e' s hx he
 have:=hK e fr h ι a w e' s hx he
 cases e'<;>first|exact this|(cases e<;>exact hx.elim)
theorem St.erase {P:Program} {G n:Nat} {ι₀ ι:Io} {w₀ w:World} {fr:Fr} {h:H} {a:Act} (s:St P G n ι₀ w₀ ι fr h a w) (kp:List Nat):St P G n ι₀ w₀ ι (Kx.erase kp fr) h a w:=
 ⟨s.step,s.sim,s.fr.erase kp,s.dfs,s.size,s.gl⟩
theorem St.cut {P:Program} {G n:Nat} {ι₀ ι:Io} {w₀ w:World} {fr:Fr} {h:H} {a:Act} (s:St P G n ι₀ w₀ ι fr h a w) (an:Ann) (b:Code):St P G n ι₀ w₀ ι (cutF an b fr) h a w:=by
 unfold cutF
 split
 ·split
  ·exact s.erase _
  ·exact s
 ·exact s
theorem push_out {P:Program} {ι:Io} {h:H} {w:World} (s:Sim P ι h w) (o:Obj):Sim P ι h (w.alloc o)∧Step ι w ι (w.alloc o):=by
 have hold:∀ c,c<w.heap.size→(w.alloc o).heap[c]? = w.heap[c]?:=fun c hc=>by
  show (w.heap.push o)[c]? = _
  rw[Array.getElem?_push,if_neg (by omega)]
 have hsz:(w.alloc o).heap.size=w.heap.size+1:=by show (w.heap.push o).size=_; simp
 refine⟨⟨fun b e hb=>⟨(s.dom b e hb).1,by have:=(s.dom b e hb).2; omega⟩,fun b x hx hl=>?_,s.inj⟩,⟨Ext.refl _,fun _ _ h1 h2=>(by rw[h1] at h2; cases h2),rfl,rfl,rfl,by omega,fun c hc _=>hold c hc,fun c hc=>.inr (by rw[hold c hc])⟩⟩
 obtain⟨e,he,hr⟩:=s.blk b x hx hl
 exact⟨e,he,hr.mono (Ext.refl _) (hold _ (s.dom b e he).2)⟩
theorem put_out {P:Program} {ι₀ ι:Io} {h:H} {w₀ w:World} (st:Step ι₀ w₀ ι w) (s:Sim P ι h w) {D:Nat} (hD:w₀.heap.size≤D) (ho:∀ b e,ι b=some e→e.c≠D) (o:Obj):Sim P ι h (w.putObj D o)∧Step ι₀ w₀ ι (w.putObj D o):=by
 have hold:∀ c,c≠D→(w.putObj D o).heap[c]? = w.heap[c]?:=fun c hc=>World.putObj_heap_other hc
 have hsz:(w.putObj D o).heap.size=w.heap.size:=World.putObj_size
 refine⟨⟨fun b e hb=>by rw[hsz]; exact s.dom b e hb,fun b x hx hl=>?_,s.inj⟩,⟨st.ext,st.new,st.os,st.tape,st.output,by rw[hsz]; exact st.size,fun c hc hn=>?_,fun c hc=>?_⟩⟩
 ·obtain⟨e,he,hr⟩:=s.blk b x hx hl
  exact⟨e,he,hr.mono (Ext.refl _) (hold _ (ho b e he))⟩
 ·rw[hold c (by omega)]; exact st.keep c hc hn
 ·exact (st.shp c hc).imp id fun q=>by rw[hold c (by omega)]; exact q
def Enters (P:Program) (g:FuncId):Prop:=∀ args w,(callFunc g args).run P w = .ok (.enter g args) w
theorem plain2' {ro:Option Nat} {x y:Bool} (h:ro=none∨(x&&y)=true):(ro=none∨x=true)∧(ro=none∨y=true):=by
 rcases h with h|h
 ·exact⟨.inl h,.inl h⟩
 ·simp only[Bool.and_eq_true] at h; exact⟨.inr h.1,.inr h.2⟩
theorem rngK_ok {P:Program} {G n:Nat} {ι₀:Io} {w₀:World} {cl:Cl} {an:Ann} {r:Res Value} (hr:r ≠ .bad) (hcl:ClOk P G cl) (hits:∀ g∈an.its,Enters P g) {g:Operand} {ps:Array Tmp} {x y:Code}
  {K:Ko} {Q:Exit→Act→World→Prop} {ι:Io} {fr:Fr} {h:H} {a:Act} {w:World} (hc:codeB an G n (.rangeFunc g ps x y)=true) (hK:KQ P G n ι₀ w₀ r K Q) (s:St P G n ι₀ w₀ ι fr h a w) (he:rngK cl an g ps x y K fr h=r) :
  (Code.rangeFunc g ps x y).wpIn (FW none) 0 P Q a w:=by
 simp only[codeB,Bool.and_eq_true] at hc
 obtain⟨⟨⟨⟨⟨hgl,hps⟩,hpx⟩,hpy⟩,hcx⟩,hcy⟩:=hc
 unfold rngK at he
 cases hv:Fr.ev fr g with
 |none=>rw[hv] at he; exact absurd he.symm hr
 |some gv=>
 rw[hv] at he
 simp only[Kx.w1] at he
 unfold rngV at he
 split at he
 ·rename_i gf lb
  cases hin:an.its.contains gf with
  |false=>rw[hin] at he; exact absurd he.symm hr
  |true=>
   rw[hin] at he
   simp only[cond_true] at he
   have hent:∀ args w,(callFunc gf args).run P w = .ok (.enter gf args) w:=hits gf (by simpa using hin)
   have hR:=s.fr.ev hv (fun g' q=>by subst q; cases hgl)
   generalize hcv:a.eval g=v' at hR
   cases hR with
   |func hf hlb=>
    rename_i f' lb'
    cases hf
    refine wpIn_rangeFunc ?_
    intro fn _
    let rc:Loop:={ state:=.ready,pending:=none,fn,tmps:=a.tmps,params:=ps,assign:=x,body:=y,defers:=w.heap.size }
    let D:=w.heap.size
    let e:Ent:=⟨w.heap.size+1,0,0,0,1,false⟩
    let w1:=w.alloc (.deferred (some []))
    let w2:=w1.alloc (.loop rc)
    have hsz1:w1.heap.size=w.heap.size+1:=by show (w.heap.push _).size=_; simp
    obtain⟨s1,st1⟩:=push_out s.sim (.deferred (some []))
    have hx:LpOk G n ⟨.ready,none,ps.toList,x,y,an,keepOf an y fr⟩:=⟨hcx,hcy,hpx,hpy,hps⟩
    have hkeep:FR ι (keepOf an y fr) a.tmps:=by
     unfold keepOf
     split
     ·split
      ·exact s.fr.erase _
      ·exact fun t v q=>by cases q
     ·exact fun t v q=>by cases q
    obtain⟨s2,st2⟩:=s1.alloc (.loop ⟨.ready,none,ps.toList,x,y,an,keepOf an y fr⟩) (.loop rc) e hsz1.symm (fun ι' w' hx' _ hw'=>
     ⟨rc,G,n,by show w'.heap[w.heap.size+1]? = _; rw[← hsz1]; exact hw',rfl,rfl,rfl,rfl,rfl,hkeep.mono hx',hx,s.size,s.gl.mono hx'⟩)
    have st12:Step ι w (ι.add h.next e) w2:=st1.trans st2
    obtain⟨Ds,hd1,hd2⟩:=s.dfs
    have hD2:w2.heap[D]? = some (.deferred (some [])):=by
     have q1:w1.heap[D]? = some (.deferred (some [])):=World.alloc_heap_new w _
     have q2:=st2.keep D (by rw[hsz1]; exact Nat.lt_succ_self _) (fun b e' hb hc'=>by have:=(s.sim.dom b e' hb).2; omega)
     exact q2.trans q1
    have mk2:Marks w₀ (ι.add h.next e) w2 (D::Ds):=by
     have m2:=hd2.step st12
     refine⟨List.nodup_cons.2 ⟨fun hm=>?_,hd2.nodup⟩,?_,?_,?_⟩
     ·have:=hd2.is D hm
      rw[Array.getElem?_eq_none (Nat.le_refl _)] at this; cases this
     ·intro D' hm
      rcases List.mem_cons.1 hm with rfl|hm
      ·exact hD2
      ·exact m2.is D' hm
     ·intro D' hm
      rcases List.mem_cons.1 hm with rfl|hm
      ·exact s.step.size
      ·exact m2.new D' hm
     ·intro D' hm
      rcases List.mem_cons.1 hm with rfl|hm
      ·intro b e' hb hc'
       unfold Io.add at hb
       split at hb
       ·cases hb; have:w.heap.size+1=D:=hc'; have:D=w.heap.size:=rfl; omega
       ·have:=(s.sim.dom b e' hb).2; have:D=w.heap.size:=rfl; omega
      ·exact m2.own D' hm
    have hi:(ι.add h.next e) h.next=some e:=Io.add_self _ _ _
    have call:=hcl.fn gf (.func (.yield h.next) ⟨[]⟩ ⟨[]⟩::lb) (.func (.yield e.c) ⟨[]⟩ ⟨[]⟩::lb') (ι.add h.next e) _ w2 (s.gl.mono st12.ext) s2 (.cons (.yield hi) (hlb.mono st12.ext))
    refine⟨w.heap.size+1,[mark w.heap.size],w2,{ target:=.fn (.func gf) ⟨lb'⟩,args:=#[.func (.yield (w.heap.size+1)) #[] #[]] },w2,gf,⟨.func (.yield e.c) ⟨[]⟩ ⟨[]⟩::lb'⟩,w2,run_enterLoop_outer _ _ _ _ _,?_,fun _ _=>trivial,?_,fun q=>(by cases q),?_⟩
    ·simp only[resolve,hcv]
     simp[Deferred.ofValue,Act.eval,Sem.run_pure]
    ·simp only[invoke]
     rw[show (#[Value.func (.yield (w.heap.size+1)) #[] #[]]++(⟨lb'⟩ : Array Value))=⟨.func (.yield e.c) ⟨[]⟩ ⟨[]⟩::lb'⟩ by apply Array.ext'; simp[e]]
     exact hent _ _
    ·refine callsW (ro:=none) ?_
     have after:∀ {ι':Io} {h':H} {w':World},Step (ι.add h.next e) w2 ι' w'→Sim P ι' h' w'→St P G n ι₀ w₀ ι' (cutF an y fr) h' { a with defers:=[mark w.heap.size]++a.defers } w':=fun {ι' h' w'} q1 q2=>by
      have q:St P G n ι₀ w₀ ι' fr h' { a with defers:=[mark w.heap.size]++a.defers } w':=⟨s.step.trans (st12.trans q1),q2,s.fr.mono (st12.trans q1).ext,⟨D::Ds,by rw[hd1]; rfl,mk2.step q1⟩,s.size,s.gl.mono (st12.trans q1).ext⟩
      exact q.cut an y
     cases hcv':cl (.f gf) (.func (.yield h.next) ⟨[]⟩ ⟨[]⟩::lb) (h.alloc (.loop ⟨.ready,none,ps.toList,x,y,an,keepOf an y fr⟩)) with
     |bad=>rw[hcv'] at he; exact absurd he.symm hr
     |pan v h'=>
      rw[hcv'] at he call
      simp only[Res.go_pan] at he
      unfold SN at call
      rw[hent] at call
      simp only[Upon] at call
      refine Calls.mono call fun en w' q=>?_
      cases en with
      |returned v=>exact q.elim
      |panicked ch=>
       obtain⟨v',hch,ι',q1,q2,q3⟩:=q
       exact hK _ _ _ ι' _ w' _ (after q1 q2) (show ExR ι' (.pan v) (.panic ch) from ⟨v',hch,q3⟩) he
      |outgrown=>exact q.elim
     |ok v h'=>
      rw[hcv'] at he call
      simp only[Res.go_ok] at he
      unfold SN at call
      rw[hent] at call
      simp only[Upon] at call
      refine Calls.mono call fun en w' q=>?_
      cases en with
      |panicked ch=>obtain⟨_,_,q⟩:=q; exact q.elim
      |outgrown=>exact q.elim
      |returned v'=>
       obtain⟨ι',q1,q2,q3⟩:=q
       unfold kloop at he
       split at he
       ·rename_i z hz
        obtain⟨e',he',rec',G',n',hh,hst,hpe,_⟩:=q2.blk h.next _ hz rfl
        rw[q1.ext _ _ hi] at he'; cases he'
        have hh:w'.heap[w.heap.size+1]? = some (.loop rec'):=hh
        have nb:z.st ≠ .busy→rec'.state ≠ .busy:=fun q=>by rw[hst]; exact q
        have fin:z.st ≠ .busy→(Instr.endLoop (w.heap.size+1)).run P w' = .ok z.pe (w'.putObj (w.heap.size+1) (.loop { rec' with state:=.exhausted })):=fun q=>by
         rw[← hpe]; exact run_endLoop hh (nb q)
        have s3:=Sim.put q2 hz rfl (q1.ext _ _ hi) (x:=.dead) (o:=.loop { rec' with state:=.exhausted }) (w':=w'.putObj (w.heap.size+1) (.loop { rec' with state:=.exhausted })) rfl rfl rfl rfl (fun _=>trivial) (by show none=_; rw[show w'.heap[e.c]? = some (.loop rec') from hh]; rfl)
        have st3:=after (q1.trans s3.2) s3.1
        split at he
        ·exact absurd he.symm hr
        ·rename_i hp hb
         exact⟨_,_,fin (fun q=>hb q),by rw[hp]; exact hK .normal _ _ ι' _ _ .normal st3 trivial he⟩
        ·rename_i hp hb
         exact⟨_,_,fin (fun q=>hb q),by rw[hp]; exact wpIn_ret (hK .ret _ _ ι' _ _ .ret st3 trivial he)⟩
        ·rename_i i hp hb
         exact⟨_,_,fin (fun q=>hb q),by rw[hp]; exact wpIn_exit (hK (.exit i) _ _ ι' _ _ (.exit i) st3 rfl he)⟩
        ·exact absurd he.symm hr
       ·exact absurd he.symm hr
 ·exact absurd he.symm hr
theorem evK_ok {P:Program} {G n:Nat} {ι₀:Io} {w₀:World} {cl:Cl} {an:Ann} {N:Nat} {r:Res Value} (hm:P.follows .mixedOrders=true) (hr:r ≠ .bad) (hcl:ClOk P G cl) {ro:Option Nat} (hits:ro=none→∀ g∈an.its,Enters P g) :
  ∀ (c:Code) {K:Ko} {Q:Exit→Act→World→Prop} {ι:Io} {fr:Fr} {h:H} {a:Act} {w:World},(ro=none∨plainB c=true)→codeB an G n c=true→KQ P G n ι₀ w₀ r K Q→PanOk Q →
   St P G n ι₀ w₀ ι fr h a w→evK P cl an N c K fr h=r→c.wpIn (FW ro) 0 P Q a w:=by
 intro c
 induction c with
 |skip=>intro K Q ι fr h a w hpl hc hK hp s he; exact wpIn_skip (hK .normal fr h ι a w .normal s trivial he)
 |label l=>intro K Q ι fr h a w hpl hc hK hp s he; exact wpIn_label (hK .normal fr h ι a w .normal s trivial he)
 |exit id=>intro K Q ι fr h a w hpl hc hK hp s he; exact wpIn_exit (hK (.exit id) fr h ι a w (.exit id) s rfl he)
 |ret=>intro K Q ι fr h a w hpl hc hK hp s he; exact wpIn_ret (hK .ret fr h ι a w .ret s trivial he)
 |refuse x=>intro K Q ι fr h a w hpl hc hK hp s he; exact absurd he.symm hr
 |region id ops draw=>
  intro K Q ι fr h a w hpl hc hK hp s he
  simp only[codeB,Bool.and_eq_true] at hc
  cases draw with
  |false=>
   simp only[evK,cond_false] at he
   exact wpIn_region_list (wpL_in _ (fun o ho=>opOk_n (List.all_eq_true.1 hc.1 o ho)) (evL_ok hr hcl hK ops.toList 0 hc.1 s he))
  |true=>
   simp only[evK,cond_true] at he
   simp only[cond_true,Bool.and_eq_true] at hc
   split at he
   ·rename_i pl hpl
    rw[hpl] at hc
    simp only[Bool.and_eq_true] at hc
    refine wp_region_t hm (fun o ho=>opOk_n (List.all_eq_true.1 hc.1 o ho)) ?_
    have hdn:Down ops (Array.replicate ops.size false):=by
     intro j o _ hj
     exfalso
     by_cases hjs:j<ops.size
     ·simp[hjs] at hj
     ·simp[Array.getElem?_replicate,hjs] at hj
    exact evD_ok (ops:=ops) (K:=K) (Q:=Q) hr hcl hK hp hc.1 hc.2.1 pl ops.size (listed:=Array.replicate ops.size false) (pd:=[]) (ks:=[]) hdn ⟨by simp,by simp,fun j=>by simp⟩ (by omega) hc.2.2.1 (fun x hx=>by cases hx) .nil PreL.nil (fun k hk=>by cases hk) (s.drawn (w.drawn+1)) he
   ·exact absurd he.symm hr
 |seq x y ihx ihy=>
  intro K Q ι fr h a w hpl hc hK hp s he
  simp only[codeB,Bool.and_eq_true] at hc
  simp only[evK] at he
  exact wpIn_seq (ihx (plain2' hpl).1 hc.1 (hK.then fun fr' h' ι' a' w' s' he'=>ihy (plain2' hpl).2 hc.2 hK hp (s'.cut an y) he') (hp.then _) s he)
 |cond c x y ihx ihy=>
  intro K Q ι fr h a w hpl hc hK hp s he
  simp only[codeB,Bool.and_eq_true] at hc
  simp only[evK] at he
  cases hv:Fr.ev fr c with
  |none=>rw[hv] at he; exact absurd he.symm hr
  |some v=>
   rw[hv] at he
   simp only[Kx.w1] at he
   have hR:=s.fr.ev hv (fun g q=>by subst q; cases hc.1.1)
   unfold ifV at he
   split at he
   ·rename_i t
    generalize hcv:a.eval c=v' at hR
    cases hR
    cases t
    ·exact wpIn_cond_false hcv (ihy (plain2' hpl).2 hc.2 hK hp s he)
    ·exact wpIn_cond_true hcv (ihx (plain2' hpl).1 hc.1.2 hK hp s he)
   ·exact absurd he.symm hr
 |block id b ih=>
  intro K Q ι fr h a w hpl hc hK hp s he
  simp only[codeB] at hc
  simp only[evK] at he
  exact wpIn_block (ih hpl hc (hK.blk id) (hp.inBlock id) s he)
 |scope b ih=>
  intro K Q ι fr h a w hpl hc hK hp s he
  simp only[codeB] at hc
  simp only[evK] at he
  have hro:ro=none:=hpl.resolve_right (fun q=>by cases q)
  subst hro
  have:=ih (.inl rfl) hc hK.noGoto hp.noGoto s he
  exact wpIn_wide.2 (wp_scope_straight (wpIn_wide.1 this))
 |loop b ih=>
  intro K Q ι fr h a w hpl hc hK hp s he
  simp only[codeB] at hc
  simp only[evK] at he
  split at he
  ·split at he
   ·rename_i kp hkp
    refine wpIn_loop_rounds N ?_
    have main:∀ (m:Nat) {ι:Io} {fr:Fr} {h:H} {a:Act} {w:World},St P G n ι₀ w₀ ι fr h a w→lpK kp (fun K' fr' h'=>evK P cl an N b K' fr' h') K m fr h=r→Code.roundsIn (FW ro) 0 P b Q m a w:=by
     intro m
     induction m with
     |zero=>intro ι fr h a w s he; exact absurd he.symm hr
     |succ m ihm=>
      intro ι fr h a w s he
      simp only[lpK] at he
      exact ih hpl hc (hK.then fun fr' h' ι' a' w' s' he'=>ihm (s'.erase kp) he') (hp.then _) s he
    exact main N (s.erase kp) he
   ·exact absurd he.symm hr
  ·exact absurd he.symm hr
 |rangeFunc g ps x y _ _=>
  intro K Q ι fr h a w hpl hc hK hp s he
  have hro:ro=none:=hpl.resolve_right (fun q=>by cases q)
  subst hro
  simp only[evK] at he
  exact rngK_ok hr hcl (hits rfl) hc hK s he
 |_=>intro K Q ι fr h a w hpl hc; cases hc
def resS (tmps:Array Value):ResultVar→Sem Value
 |.tmp t=>pure (tmps.getD t undef)
 |.cell a t=>do loadVar t (← asAddr (tmps.getD a undef))
theorem results_eq (fn:Func) (tmps:Array Value):results fn tmps=(do let vs ← (List.toArray <$> fn.results.toList.mapM (resS tmps)); pure (if h:vs.size=1 then vs[0] else .tuple vs)):=by
 have h0:results fn tmps=(do let vs ← fn.results.mapM (resS tmps); pure (if h:vs.size=1 then vs[0] else .tuple vs)):=by
  unfold results
  have:(fun (x:ResultVar)=>(match x with|.tmp t=>pure (tmps.getD t undef)|.cell a t=>(do loadVar t (← asAddr (tmps.getD a undef))):Sem Value))=resS tmps:=by
   funext rv; cases rv<;>rfl
  rw[← this]
  rfl
 rw[h0,Array.mapM_eq_mapM_toList]
theorem resV_ok {P:Program} {ι:Io} {fr:Fr} {h:H} {tmps:Array Value} {w:World} (s:Sim P ι h w) (hf:FR ι fr tmps):∀ {rs:List ResultVar} {vs:List Value},resV P fr h rs=some vs →
  ∃ vs',RL ι vs vs'∧(rs.mapM (resS tmps)).run P w = .ok vs' w
 |[],vs,e=>by
  simp only[resV,Option.some.injEq] at e
  subst e
  exact⟨[],.nil,rfl⟩
 |.tmp t::rs,vs,e=>by
  simp only[resV] at e
  split at e
  ·rename_i v us hv hl
   simp only[Option.some.injEq] at e
   subst e
   obtain⟨us',h1,h2⟩:=resV_ok s hf hl
   obtain⟨v',g1,g2⟩:=hf t v hv
   refine⟨v'::us',.cons g2 h1,?_⟩
   have g3:tmps.getD t undef=v':=by simp[g1]
   simp only[List.mapM_cons,resS,g3,Sem.run_bind,Sem.run_pure,Result.andThen_ok,h2]
  ·cases e
 |.cell a t::rs,vs,e=>by
  simp only[resV] at e
  split at e
  ·rename_i p us hv hl
   split at e
   ·rename_i v h' hx
    simp only[Option.some.injEq] at e
    subst e
    obtain⟨us',h1,h2⟩:=resV_ok s hf hl
    obtain⟨p',g1,g2⟩:=hf a p hv
    obtain⟨_,ad,v',q1,q2,q3⟩:=xload_same s g2 hx
    have q3:=q3 []
    rw[pushes_nil] at q3
    refine⟨v'::us',.cons q2 h1,?_⟩
    have g3:tmps.getD a undef = .pointer (some ad):=by simp[g1,q1]
    simp only[List.mapM_cons,resS,g3,asAddr,Sem.run_bind,Sem.run_pure,Result.andThen_ok,q3,h2]
   ·cases e
  ·cases e
theorem one_ok {ι:Io} {vs vs':List Value} (h:RL ι vs vs'):R ι (oneV vs) (if h:(List.toArray vs').size=1 then (List.toArray vs')[0] else .tuple (List.toArray vs')):=by
 cases h with
 |nil=>exact .tuple .nil
 |cons hv hl=>
  cases hl with
  |nil=>exact hv
  |cons hu hm=>exact .tuple (.cons hv (.cons hu hm))
def RetQ (P:Program) (ι₀:Io) (w₀:World) (r:Res Value):Ending→World→Prop
 |.returned v',w'=>∃ v h',r = .ok v h'∧Post P ι₀ w₀ v h' v' w'
 |.panicked ch,w'=>∃ v h' v',r = .pan v h'∧ch=[{ v:=v',recovered:=false }]∧Post P ι₀ w₀ v h' v' w'
 |.outgrown,_=>False
theorem leaves_marks {P:Program} {fn:Func} {tmps:Array Value} {R:Ending→World→Prop} {ι₀ ι:Io} {w₀:World} {h:H} {u:FrameMode} (hu:u ≠ .run) :
  ∀ (Ds:List Nat) {w:World},Marks w₀ ι w Ds→Step ι₀ w₀ ι w→Sim P ι h w→(∀ w',Step ι₀ w₀ ι w'→Sim P ι h w'→LeavesIn (FW none) 0 P fn tmps R [] u w')→LeavesInM (FW none) 0 P fn tmps R (Ds.map mark) u w
 |[],w,_,st,s,k=>k w st s
 |D::Ds,w,m,st,s,k=>by
  refine⟨hu,.inl ⟨D,_,rfl,run_takeDeferred (m.is D (by simp)),?_⟩⟩
  obtain⟨s',st'⟩:=put_out st s (m.new D (by simp)) (m.own D (by simp)) (.deferred none)
  refine leaves_marks hu Ds ⟨(List.nodup_cons.1 m.nodup).2,fun D' hm=>?_,fun D' hm=>m.new D' (by simp[hm]),fun D' hm=>m.own D' (by simp[hm])⟩ st' s' k
  rw[World.putObj_heap_other (fun q=>(List.nodup_cons.1 m.nodup).1 (by rw[← q]; exact hm))]
  exact m.is D' (by simp[hm])
def bodyQ (P:Program) (fn:Func) (R:Ending→World→Prop):Exit→Act→World→Prop
 |.normal,a,w|.ret,a,w=>LeavesInM (FW none) 0 P fn a.tmps R a.defers .returning w
 |.panic chain,a,w=>∀ tmps,LeavesInM (FW none) 0 P fn tmps R a.defers (.panicking chain) w
 |_,_,_=>False
theorem kfn_ok {P:Program} {G n:Nat} {ι₀:Io} {w₀:World} {r:Res Value} (hr:r ≠ .bad) (fn:Func):KQ P G n ι₀ w₀ r (kfn P fn.results.toList) (bodyQ P fn (RetQ P ι₀ w₀ r)):=by
 intro e fr h ι a w e' s hx he
 have ret:(match resV P fr h fn.results.toList with|some l=>.ok (oneV l) h|none=>.bad)=r→LeavesInM (FW none) 0 P fn a.tmps (RetQ P ι₀ w₀ r) a.defers .returning w:=by
  intro he
  cases hv:resV P fr h fn.results.toList with
  |none=>rw[hv] at he; exact absurd he.symm hr
  |some l=>
   rw[hv] at he
   obtain⟨Ds,hd,hm⟩:=s.dfs
   rw[hd]
   refine leaves_marks (by simp) Ds hm s.step s.sim fun w' st' s'=>?_
   obtain⟨vs',h1,h2⟩:=resV_ok s' s.fr hv
   refine⟨_,?_,_,_,he.symm,ι,st',s',one_ok h1⟩
   rw[results_eq]
   simp only[map_eq_pure_bind,Sem.run_bind,h2,Result.andThen_ok,Sem.run_pure]
 cases e with
 |normal=>cases e'<;>first|exact ret he|exact hx.elim
 |ret=>cases e'<;>first|exact ret he|exact hx.elim
 |exit j=>exact absurd he.symm hr
 |pan v=>
  cases e' with
  |panic ch=>
   obtain⟨v',h1,h2⟩:=hx
   intro tmps
   obtain⟨Ds,hd,hm⟩:=s.dfs
   rw[hd]
   exact leaves_marks (by simp) Ds hm s.step s.sim fun w' st' s'=>⟨v,h,v',he.symm,h1,ι,st',s',h2⟩
  |_=>exact hx.elim
theorem panOk_body (P:Program) (fn:Func) (R':Ending→World→Prop):PanOk (bodyQ P fn R'):=fun c a a' w e q tmps=>e ▸ q tmps
theorem argF_ok {ι:Io}:∀ {args args':List Value},RL ι args args'→∀ (i:Nat) (pre post:List Value),pre.length=i→FR ι (argF i args) ⟨pre++(args'++post)⟩
 |_,_,.nil,i,pre,post,_=>fun t v e=>by simp[argF,Fr.at] at e
 |_,_,.cons (v:=v) (v':=v') (l:=l) (l':=l') hv hl,i,pre,post,hi=>by
  intro t u e
  simp only[argF,Fr.at] at e
  by_cases c:i=t
  ·subst c
   simp only[beqT rfl,cond_true,Option.some.injEq] at e
   subst e
   refine⟨v',?_,hv⟩
   simp[← hi]
  ·simp only[beqF c,cond_false] at e
   have:=argF_ok hl (i+1) (pre++[v']) post (by simp[hi]) t u e
   simpa using this
def entersB (P:Program) (g:FuncId):Bool:=match P.funcs[g]? with|some fn=>!(fn.name == "runtime.NumGoroutine")&&fn.body.isSome|none=>false
theorem entersB_ok {P:Program} {g:FuncId} (h:entersB P g=true):Enters P g:=by
 intro args w
 unfold entersB at h
 split at h
 ·rename_i fn hf
  simp only[Bool.and_eq_true,Bool.not_eq_true'] at h
  have hb:fn.body.isNone=false:=by cases hb:fn.body<;>simp_all
  unfold callFunc
  rw[Sem.run_bind,show (program).run P w = .ok P w from rfl]
  simp only[Result.andThen_ok,hf,h.1,hb,Bool.false_eq_true,if_false,Sem.run_pure]
 ·cases h
def fnOk (P:Program) (G:Nat) (an:Ann) (f:FuncId) (fn:Func):Prop:=
 P.funcs[f]? = some fn∧(fn.name == "runtime.NumGoroutine")=false∧fn.body.isSome=true∧codeB an G fn.ntmps (bodyOf fn)=true∧an.its.all (entersB P)=true
theorem runF_ok {P:Program} {G:Nat} {cl:Cl} {an:Ann} {N:Nat} {f:FuncId} {fn:Func} (hm:P.follows .mixedOrders=true) (hcl:ClOk P G cl) (hfn:fnOk P G an f fn) {args args':List Value} {ι:Io} {h:H} {w:World} (hg:GL G ι) (s:Sim P ι h w) (ha:RL ι args args') :
  SN P ι w (runF P cl an N fn args h) (callFunc f ⟨args'⟩):=by
 obtain⟨h1,h2,h3,h4,h5⟩:=hfn
 have hits:∀ g∈an.its,Enters P g:=fun g hg=>entersB_ok (List.all_eq_true.1 h5 g hg)
 have hcall:(callFunc f ⟨args'⟩).run P w = .ok (.enter f ⟨args'⟩) w:=by
  have hb:fn.body.isNone=false:=by cases hb:fn.body<;>simp_all
  unfold callFunc
  rw[Sem.run_bind,show (program).run P w = .ok P w from rfl]
  simp only[Result.andThen_ok,h1,h2,hb,Bool.false_eq_true,if_false,Sem.run_pure]
 cases hr:runF P cl an N fn args h with
 |bad=>trivial
 |ok v h'=>
  unfold SN
  simp only[hcall,Upon]
  exact Calls.mono (main hm hcl h1 h3 h4 hits hg s ha hr (by simp)) (fun e w' he=>by
   cases e with
   |returned v'=>obtain⟨_,_,q1,q2⟩:=he; cases q1; exact q2
   |panicked ch=>obtain⟨_,_,_,q1,_⟩:=he; cases q1
   |outgrown=>exact he)
 |pan v h'=>
  unfold SN
  simp only[hcall,Upon]
  exact Calls.mono (main hm hcl h1 h3 h4 hits hg s ha hr (by simp)) (fun e w' he=>by
   cases e with
   |returned v'=>obtain⟨_,_,q1,q2⟩:=he; cases q1
   |panicked ch=>obtain⟨_,_,v',q1,q2,q3⟩:=he; cases q1; exact⟨v',q2,q3⟩
   |outgrown=>exact he)
where
 main {P:Program} {G:Nat} {cl:Cl} {an:Ann} {N:Nat} {f:FuncId} {fn:Func} (hm:P.follows .mixedOrders=true) (hcl:ClOk P G cl) (h1:P.funcs[f]? = some fn) (h3:fn.body.isSome=true) (h4:codeB an G fn.ntmps (bodyOf fn)=true) (hits:∀ g∈an.its,Enters P g)
   {args args':List Value} {ι:Io} {h:H} {w:World} (hg:GL G ι) (s:Sim P ι h w) (ha:RL ι args args') {r:Res Value} (hr:runF P cl an N fn args h=r) (hb:r ≠ .bad):Calls P f ⟨args'⟩ w (RetQ P ι w r):=by
  obtain⟨c,hc⟩:=Option.isSome_iff_exists.1 h3
  have hbody:bodyOf fn=c:=by unfold bodyOf; rw[hc]
  rw[hbody] at h4
  unfold runF at hr
  rw[hbody] at hr
  have st:St P G fn.ntmps ι w ι (argF 0 args) h { tmps:=(⟨args'⟩ : Array Value)++Array.replicate (fn.ntmps - (⟨args'⟩ : Array Value).size) undef,defers:=[] } w:=by
   refine⟨Step.refl _ _,s,?_,⟨[],rfl,Marks.nil⟩,?_,hg⟩
   ·have:=argF_ok ha 0 [] (List.replicate (fn.ntmps - args'.length) undef) rfl
    have e:(⟨args'⟩ : Array Value)++Array.replicate (fn.ntmps - (⟨args'⟩ : Array Value).size) undef=⟨[]++(args'++List.replicate (fn.ntmps - args'.length) undef)⟩:=by
     apply Array.ext'; simp
    rw[e]
    exact this
   ·simp; omega
  refine callsIn_wide.1 (callsIn_of_wp_marks (F:=FW none) (n:=0) h1 hc trivial (Go.wpIn_mono (evK_ok hm hb hcl (fun _=>hits) c (.inl rfl) h4 (kfn_ok hb fn) (panOk_body _ _ _) st hr) ?_) rfl)
  intro e a w q
  cases e with
  |normal=>exact q
  |ret=>exact q
  |panic ch=>exact q _
  |_=>exact q.elim
abbrev Tab:=FuncId→Option (Func × Ann)
def clR (P:Program) (tab:Tab) (prim:Pr):Nat→Cl
 |0=>fun _ _ _=>.bad
 |k+1=>fun f args h=>
  match f with
  |.f f=>(match tab f with|some (fn,an)=>runF P (clR P tab prim k) an k fn args h|none=>prim f args h)
  |.y b=>yldK P (clR P tab prim k) k b args h
def PrOk (P:Program) (G:Nat) (prim:Pr):Prop:=
 ∀ (f:FuncId) (args args':List Value) (ι:Io) (h:H) (w:World),GL G ι→Sim P ι h w→RL ι args args'→SN P ι w (prim f args h) (callFunc f ⟨args'⟩)
theorem opOk_mono {G G' n:Nat} (hg:G≤G') {o:Oper} (h:opOk G n o=true):opOk G' n o=true:=by
 unfold opOk at *
 simp only[Bool.and_eq_true] at *
 refine⟨h.1,List.all_eq_true.2 fun x hx=>?_⟩
 have:=List.all_eq_true.1 h.2 x hx
 cases x<;>simp only at *<;>first|(simp only[Nat.blt_eq] at *; omega)|rfl
theorem codeB_mono {an:Ann} {G G' n:Nat} (hg:G≤G'):∀ (c:Code),codeB an G n c=true→codeB an G' n c=true:=by
 intro c
 induction c with
 |region id ops draw=>
  intro h
  simp only[codeB,Bool.and_eq_true] at *
  exact⟨List.all_eq_true.2 fun o ho=>opOk_mono hg (List.all_eq_true.1 h.1 o ho),h.2⟩
 |seq a b iha ihb=>intro h; simp only[codeB,Bool.and_eq_true] at *; exact⟨iha h.1,ihb h.2⟩
 |cond c a b iha ihb=>intro h; simp only[codeB,Bool.and_eq_true] at *; exact⟨⟨h.1.1,iha h.1.2⟩,ihb h.2⟩
 |block id b ih=>intro h; simp only[codeB] at *; exact ih h
 |loop b ih=>intro h; simp only[codeB] at *; exact ih h
 |scope b ih=>intro h; simp only[codeB] at *; exact ih h
 |rangeFunc g ps a b iha ihb=>intro h; simp only[codeB,Bool.and_eq_true] at *; exact⟨⟨h.1.1,iha h.1.2⟩,ihb h.2⟩
 |_=>intro h; exact h
theorem ClOk.mono {P:Program} {G G':Nat} {cl:Cl} (h:ClOk P G cl) (hg:G≤G'):ClOk P G' cl:=
 ⟨fun f a a' ι h' w q=>h.fn f a a' ι h' w fun g hl=>q g (Nat.lt_of_lt_of_le hl hg),fun b e a a' ι h' w hb q=>h.yl b e a a' ι h' w hb fun g hl=>q g (Nat.lt_of_lt_of_le hl hg)⟩
theorem putAll_ok {ι:Io}:∀ {ps:List Tmp} {vs vs':List Value} {fr fr':Fr} {tmps:Array Value},RL ι vs vs'→putAll ps vs fr=some fr'→FR ι fr tmps→(∀ p∈ps,p<tmps.size) →
  ps.length=vs'.length∧FR ι fr' ((ps.zip vs').foldl (fun t (p,v)=>t.setIfInBounds p v) tmps)∧((ps.zip vs').foldl (fun t (p,v)=>t.setIfInBounds p v) tmps).size=tmps.size
 |[],_,_,fr,fr',tmps,.nil,h,hf,_=>by simp only[putAll,Option.some.injEq] at h; subst h; exact⟨rfl,by simpa using hf,by simp⟩
 |[],_,_,fr,fr',tmps,.cons _ _,h,hf,_=>by simp[putAll] at h
 |p::ps,_,_,fr,fr',tmps,.nil,h,hf,_=>by simp[putAll] at h
 |p::ps,_,_,fr,fr',tmps,.cons (v:=v) (v':=v') (l:=l) (l':=l') hv hl,h,hf,hp=>by
  simp only[putAll] at h
  obtain⟨h1,h2,h3⟩:=putAll_ok (tmps:=tmps.setIfInBounds p v') hl h (hf.put (hp p (by simp)) hv) (fun q hq=>by simpa using hp q (by simp[hq]))
  refine⟨by simp[h1],?_,?_⟩
  ·simpa using h2
  ·simpa using h3
theorem yldK_ok {P:Program} {G:Nat} {cl:Cl} {N:Nat} (hm:P.follows .mixedOrders=true) (hcl:ClOk P G cl) {b:Nat} {e:Ent} {args args':List Value} {ι:Io} {h:H} {w:World} (hb:ι b=some e) (hg:GL G ι) (s:Sim P ι h w) (ha:RL ι args args') :
  SN P ι w (yldK P cl N b args h) (Instr.yield e.c ⟨args'⟩):=by
 cases hr:yldK P cl N b args h with
 |bad=>trivial
 |pan v h'=>exact (main (r:=.pan v h') hr (by simp)).elim
 |ok v h'=>
  obtain⟨l,f,tmps,asg,bo,h1,h2⟩:=main (r:=.ok v h') hr (by simp)
  unfold SN
  simp only[h1,Upon]
  exact h2.mono fun en w' he=>by
   cases en with
   |returned v'=>exact he
   |panicked c=>exact he.elim
   |outgrown=>exact he.elim
where
 main {r:Res Value} (hr:yldK P cl N b args h=r) (hbad:r ≠ .bad):match r with
  |.ok v h'=>∃ l f tmps asg bo,(Instr.yield e.c ⟨args'⟩).run P w = .ok (.round l f tmps asg bo) w∧RoundIn Fence.wide 0 P l f tmps asg bo w fun en w'=>(match en with|.returned v'=>Post P ι w v h' v' w'|_=>False)
  |_=>False:=by
  unfold yldK at hr
  split at hr
  ·rename_i x hx
   split at hr
   ·rename_i fr hfr
    obtain⟨e',he',rec,G',n,hh,hst,hpe,hps,has,hbo,hfrr,hlp,hn,hgl⟩:=s.blk b _ hx rfl
    rw[hb] at he'; cases he'
    obtain⟨c1,c2,c3,c4,c5⟩:=hlp
    have hps':rec.params.toList=x.ps:=by rw[hps]
    have hpn:∀ p∈x.ps,p<rec.tmps.size:=fun p hp=>by
     have:=List.all_eq_true.1 c5 p hp
     simp only[Nat.blt_eq] at this
     exact Nat.lt_of_lt_of_le this hn
    obtain⟨p1,p2,p3⟩:=putAll_ok ha hfr hfrr hpn
    have hyl:=run_yield (P:=P) (args:=⟨args'⟩) hh (by rw[hps]; simpa using p1.symm)
    have hz:(rec.params.zip ⟨args'⟩).foldl (fun tmps (t,a)=>tmps.setIfInBounds t a) rec.tmps=(x.ps.zip args').foldl (fun t (p,v)=>t.setIfInBounds p v) rec.tmps:=by
     rw[hps,← Array.foldl_toList]; simp
    rw[hz] at hyl
    generalize hT:(x.ps.zip args').foldl (fun t (p,v)=>t.setIfInBounds p v) rec.tmps=T at hyl p2 p3
    have hGm:G≤max G G':=Nat.le_max_left _ _
    have hGm':G'≤max G G':=Nat.le_max_right _ _
    have gl2:GL (max G G') ι:=fun g hlt=>by
     by_cases q:g<G
     ·exact hg g q
     ·exact hgl g (by omega)
    have hcl2:=hcl.mono hGm
    have st:St P (max G G') n ι w ι fr h { tmps:=T,defers:=[] } w:=⟨Step.refl _ _,s,p2,⟨[],rfl,Marks.nil⟩,by show n≤T.size; omega,gl2⟩
    have fin:∀ {Rp:Ending→World→Prop},(∀ v h' v' w',r = .ok v h'→Post P ι w v h' v' w'→Rp (.returned v') w')→KQ P (max G G') n ι w r (kround b) (roundPost P e.c Rp):=by
     intro Rp hRp en fr' h' ι' a' w' e'' s' hxx he
     unfold kround krV at he
     split at he
     ·rename_i z hz'
      obtain⟨e3,he3,rec',G3,n3,hh',hst',hpe',hps3,has3,hbo3,hfr3,hlp3,hn3,hgl3⟩:=s'.sim.blk b _ hz' rfl
      rw[s'.step.ext _ _ hb] at he3; cases he3
      have one:∀ (j:Option Code),r = .ok (.bool j.isNone) (h'.put b (.loop { z with st:=if j.isNone then .ready else .done,pe:=j })) →
        ∃ v w4,(Instr.endRound e.c j).run P w' = .ok v w4∧Rp (.returned v) w4:=by
       intro j hj
       refine⟨_,_,run_endRound j hh',hRp _ _ _ _ hj ?_⟩
       have q:=Sim.put s'.sim hz' rfl (s'.step.ext _ _ hb) (x:=.loop { z with st:=if j.isNone then .ready else .done,pe:=j }) (o:=.loop { rec' with state:=if j.isNone then .ready else .done,pending:=j })
        (w':=w'.putObj e.c (.loop { rec' with state:=if j.isNone then .ready else .done,pending:=j })) rfl rfl rfl rfl
        (fun hat=>⟨_,G3,n3,hat,rfl,rfl,hps3,has3,hbo3,hfr3,hlp3,hn3,hgl3⟩) (by rw[hh']; rfl)
       exact⟨ι',s'.step.trans q.2,q.1,.bool _⟩
      split at he
      ·cases e''<;>first|exact one none he.symm|exact hxx.elim
      ·rename_i i _
       cases e'' with
       |exit j=>have:i=j:=hxx; subst this; exact one (some (.exit i)) he.symm
       |_=>exact hxx.elim
      ·cases e''<;>first|exact one (some .ret) he.symm|exact hxx.elim
      ·exact absurd he.symm hbad
     ·exact absurd he.symm hbad
    have run:∀ {Rp:Ending→World→Prop},(∀ v h' v' w',r = .ok v h'→Post P ι w v h' v' w'→Rp (.returned v') w')→RoundIn Fence.wide 0 P e.c rec.fn T rec.assign rec.body w Rp:=by
     intro Rp hRp
     rw[has,hbo]
     refine roundIn_of_wpIn (F:=Fence.wide) trivial ?_
     refine evK_ok (ro:=some e.c) hm hbad hcl2 (fun q=>by cases q) x.asg (.inr c3) (codeB_mono hGm' _ c1) (K:=kassign (begK b fun fr' h'=>evK P cl x.an N x.bo (kround b) fr' h')) ?_ (fun _ _ _ _ _ q=>q) st hr
     ·intro en fr' h' ι' a' w' e'' s' hxx he
      unfold kassign at he
      split at he
      ·cases e'' with
       |normal=>
        unfold begK begV at he
        split at he
        ·rename_i z hz'
         split at he
         ·rename_i hrd
          obtain⟨e3,he3,rec',G3,n3,hh',hst',hpe',hps3,has3,hbo3,hfr3,hlp3,hn3,hgl3⟩:=s'.sim.blk b _ hz' rfl
          rw[s'.step.ext _ _ hb] at he3; cases he3
          refine⟨_,run_beginRound hh' (hst'.trans hrd),?_⟩
          have q:=Sim.put s'.sim hz' rfl (s'.step.ext _ _ hb) (x:=.loop { z with st:=.busy }) (o:=.loop { rec' with state:=.busy })
           (w':=w'.putObj e.c (.loop { rec' with state:=.busy })) rfl rfl rfl rfl
           (fun hat=>⟨_,G3,n3,hat,rfl,hpe',hps3,has3,hbo3,hfr3,hlp3,hn3,hgl3⟩) (by rw[hh']; rfl)
          have s4:St P (max G G') n ι w ι' fr' _ a' (w'.putObj e.c (.loop { rec' with state:=.busy })):=⟨s'.step.trans q.2,q.1,s'.fr,s'.dfs.imp fun _ y=>⟨y.1,y.2.step q.2⟩,s'.size,s'.gl⟩
          exact evK_ok (ro:=some e.c) hm hbad hcl2 (fun q=>by cases q) x.bo (.inr c4) (codeB_mono hGm' _ c2) (fin hRp) (fun _ _ _ _ _ q=>q) s4 he
         ·exact absurd he.symm hbad
        ·exact absurd he.symm hbad
       |_=>exact hxx.elim
      ·exact absurd he.symm hbad
    cases r with
    |bad=>exact absurd rfl hbad
    |ok v h'=>exact⟨_,_,_,_,_,hyl,run fun v1 h1 v' w' q1 q2=>by cases q1; exact q2⟩
    |pan v h'=>
     obtain⟨_,_,q,_⟩:=(run (Rp:=fun _ _=>False) (fun v1 h1 v' w' q1 q2=>by cases q1)).2 default [] (room_wide _)
     exact q
   ·exact absurd hr.symm hbad
  ·exact absurd hr.symm hbad
theorem clR_ok {P:Program} {G:Nat} {tab:Tab} {prim:Pr} (hm:P.follows .mixedOrders=true) (ht:∀ f fn an,tab f=some (fn,an)→fnOk P G an f fn) (hp:PrOk P G prim):∀ k,ClOk P G (clR P tab prim k)
 |0=>⟨fun _ _ _ _ _ _ _ _ _=>trivial,fun _ _ _ _ _ _ _ _ _ _ _=>trivial⟩
 |k+1=>by
  refine⟨fun f args args' ι h w hg s ha=>?_,fun b e args args' ι h w hb hg s ha=>yldK_ok hm (clR_ok hm ht hp k) hb hg s ha⟩
  unfold clR
  simp only
  split
  ·rename_i fn an hf
   exact runF_ok hm (clR_ok hm ht hp k) (ht f fn an hf) hg s ha
  ·exact hp f args args' ι h w hg s ha
theorem calls_of_cl {P:Program} {G:Nat} {cl:Cl} (hcl:ClOk P G cl) {f:FuncId} {args args':List Value} {ι:Io} {h h':H} {w:World} {v:Value} (hg:GL G ι) (s:Sim P ι h w) (ha:RL ι args args') {fn:Func} (hf:P.funcs[f]? = some fn)
  (hn:(fn.name == "runtime.NumGoroutine")=false) (hb:fn.body.isSome=true) (hr:cl (.f f) args h = .ok v h'):Calls P f ⟨args'⟩ w fun e w'=>∃ v',e = .returned v'∧Post P ι w v h' v' w':=by
 have:=hcl.fn f args args' ι h w hg s ha
 rw[hr] at this
 have hcall:(callFunc f ⟨args'⟩).run P w = .ok (.enter f ⟨args'⟩) w:=by
  have hb':fn.body.isNone=false:=by cases hb:fn.body<;>simp_all
  unfold callFunc
  rw[Sem.run_bind,show (program).run P w = .ok P w from rfl]
  simp only[Result.andThen_ok,hf,hn,hb',Bool.false_eq_true,if_false,Sem.run_pure]
 unfold SN at this
 simp only[hcall,Upon] at this
 exact Calls.mono this fun e w' he=>by
  cases e with
  |returned v'=>exact⟨v',rfl,he⟩
  |panicked ch=>obtain⟨_,_,q⟩:=he; exact q.elim
  |outgrown=>exact he.elim
end Go.Kx
