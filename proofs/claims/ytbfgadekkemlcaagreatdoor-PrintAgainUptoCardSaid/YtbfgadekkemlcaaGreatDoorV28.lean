/- My texts for this claim, in one file: part 28. -/
import Derived.Lib.LaidTab
import Derived.Test.YtbfgadekkemlcaaGreatDoorV27
set_option linter.unusedVariables false
namespace Go.Kx
open Go Go.ChangeShapes Go.WideShapes Go.ChangeAt Go.RowKit
theorem gl_of_shaped {P:Program} {G:Nat} {W:World} (hs:W.ShapedOpen P) (hG:G≤P.globals.size)
  (hw:((List.range G).all fun g=>(((begin P (fun _ _=>0) default).world.heap[g]?).bind Obj.row?).isSome)=true):GL G (io W):=by
 intro g hg
 obtain⟨⟨zero,t⟩,hz⟩:=Option.isSome_iff_exists.1 (List.all_eq_true.1 hw g (List.mem_range.2 hg))
 obtain⟨⟨l⟩,h1,_⟩:=hs.1 g zero t (by omega) hz
 exact io_lv (by unfold lv lvO; rw[h1])
theorem ints_flat (k:IntKind):∀ zs:List Int,flatL (zs.map fun z=>Value.int k z)=true
 |[]=>rfl
 |z::l=>by simp only[List.map_cons,flatL,flat,Bool.true_and]; exact ints_flat k l
theorem tab_get {P:Program} {W:World} {name:String} {k:IntKind} {zs:List Int} {g:Nat} (hg:P.globalNamed name=some g) (h:Lib.TabIs P W name k zs) :
  ∃ el f,(hOf W).get g=some (.cells (zs.map fun z=>Value.int k z) el f false):=by
 unfold Lib.TabIs World.var? at h
 rw[hg] at h
 simp only[Option.bind_some] at h
 split at h
 ·rename_i cs t lh hw
  simp only[Option.some.injEq] at h
  subst h
  have fl:flatL (zs.map fun z=>Value.int k z)=true:=ints_flat k zs
  refine⟨t,(if lh.2≤lh.1 then 0 else if (zs.map fun z=>Value.int k z).length≤lh.1 then 1 else 2),?_⟩
  rw[hOf_get,hw]
  show some (Blk.cells ((zs.map fun z=>Value.int k z).map (cvC (lv W))) t _ false)=_
  rw[cvC_flat _ _ fl]
 ·cases h
theorem laid_tail {P:Program} {x:String × DataW Unit} {rest:List (String × DataW Unit)} {W:World} (h:laidMet P (x::rest) W):laidMet P rest W:=by
 obtain⟨n,d⟩:=x
 obtain⟨ps,⟨g,t,cs,fuel,p,q,_,_,_,_,hq,rfl⟩,hnd,hall⟩:=h
 exact⟨q,hq,(List.nodup_append.1 hnd).2.1,fun b off hm=>hall b off (List.mem_append.2 (.inr hm))⟩
theorem bare_trueG {P:Program} {H:Type} {enc:TypeId × Value→H} {s:ChangeSpec} {fn:Func} {f:FuncId} {cl:Cl} {G:Nat} {W:World} {args:Array Value} {ds gs:List (DataW H)} {before:List MemPlace} {cargs:List Value} {h':Kx.H} {tb:TypeId}
  (hl:laidOutB P=true) (hr:∀ t∈fn.params.toList,P.readableRec t=true∧t<P.types.size) (hv:s.vars=[]) (hf:P.funcs[f]? = some fn) (hn:(fn.name == "runtime.NumGoroutine")=false) (hb:fn.body.isSome=true)
  (hres:fn.resultTypes = #[tb]) (htb:P.underlying tb=some .bool) (hs:s.fn H ds = { results:=[.lit (.bool true)],args:=ds })
  (hW:DataW.Whole enc P fn.params.toList s.vars false W args.toList ds gs before) (hcl:ClOk P G cl) (hgl:GL G (io W)) (ha:RL (io W) cargs args.toList) (hrun:cl (.f f) cargs (hOf W) = .ok (.bool true) h') (hg:Grow (hOf W) h') :
  Calls P f args W fun e W'=>∃ v,e = .returned v∧s.post enc P fn false true false false W args v W':=by
 have hW':=hW
 have hlt:=hW.lt
 obtain⟨p,q,hA,hV,rfl,hfz,hnd⟩:=hW
 rw[hv] at hV
 obtain⟨rfl,rfl⟩:=trodVars_none hV
 rw[List.append_nil] at hlt hW'
 refine (calls_of_cl hcl hgl (world_sim P W) ha hf hn hb hrun).mono fun e W' he=>?_
 obtain⟨v',rfl,ι',st,s',hvv⟩:=he
 cases hvv
 have hk:∀ b,b<W.heap.size→lv W b=true→h'.get b=(hOf W).get b:=by
  intro b hb _
  cases hq:(hOf W).get b with
  |none=>
   rw[hOf_get,Array.getElem?_eq_getElem hb] at hq
   cases hq
  |some x=>exact hg.old b x hq
 have hkept:∀ b,b<W.heap.size→W'.heap[b]? = W.heap[b]?:=fun b hb=>kept st s' hb (hk b hb)
 have hsame:∀ x∈p,W.sameAt W' x:=by
  intro x hx
  have:=hlt x hx
  cases x with
  |cell b o=>
   show W'.cell? ⟨b,o,none⟩=W.cell? ⟨b,o,none⟩
   unfold World.cell?
   simp only[hkept b this]
  |map b=>exact hkept b this
 refine⟨_,rfl,ds,[],p,[],p,[],hW',?_,?_,?_,kept_but st s' hk _,fun z=>by cases z⟩
 ·rw[List.append_nil,hs,hres]
  exact trodAll_mk1 (shut_bool htb _)
 ·rw[List.append_nil,hs]
  exact trodAll_stays hl hr hA hsame (fun x hx=>by simpa using hlt x hx)
 ·rw[hv,List.append_nil,hs]
  rfl
end Go.Kx
