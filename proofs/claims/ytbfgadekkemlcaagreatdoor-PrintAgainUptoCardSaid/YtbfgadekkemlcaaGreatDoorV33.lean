/- Proved here: the card of PrintAgain where what comes in is of bulk at most 1048576: for every task, keys, turns and paths the call tells true, and what it was handed reads as it did. Conditions: those of the given row and card: the listed tables hold, when the call begins, what the program's text lays in them. -/
import Derived.Test.YtbfgadekkemlcaaGreatDoorV32
set_option linter.unusedVariables false
namespace Go.Proofs.YtbfgadekkemlcaaGreatDoor.K
open Go Go.Kx Go.ChangeShapes Go.WideShapes Go.ChangeAt Go.RowKit
set_option maxRecDepth 100000
theorem trodAll_four' {H:Type} {enc:TypeId × Value→H} {P:Program} {w:World} {base:Nat} {spare:Nat→Bool} {held:Bool} {t0 t1 t2 t3:TypeId} {args:Array Value} {ds:List (DataW H)} {ps:List MemPlace} (h:DataW.TrodAll enc P w base spare held [t0,t1,t2,t3] args.toList ds ps) :
  ∃ v0 v1 v2 v3 d0 d1 d2 d3 p0 p1 p2 p3,args = #[v0,v1,v2,v3]∧ds=[d0,d1,d2,d3]∧DataW.Trod enc P w base spare held t0 v0 d0 p0∧DataW.Trod enc P w base spare held t1 v1 d1 p1∧DataW.Trod enc P w base spare held t2 v2 d2 p2∧DataW.Trod enc P w base spare held t3 v3 d3 p3:=by
 obtain⟨v0,vs,d0,ds',p0,q,hargs,rfl,rfl,hd,hrest⟩:=trodAll_cons h
 obtain⟨v1,vs1,d1,ds1,p1,q1,rfl,rfl,rfl,hd1,hrest1⟩:=trodAll_cons hrest
 obtain⟨v2,vs2,d2,ds2,p2,q2,rfl,rfl,rfl,hd2,hrest2⟩:=trodAll_cons hrest1
 obtain⟨v3,vs3,d3,ds3,p3,q3,rfl,rfl,rfl,hd3,hrest3⟩:=trodAll_cons hrest2
 obtain⟨rfl,rfl,rfl⟩:=trodAll_nil hrest3
 exact⟨v0,v1,v2,v3,d0,d1,d2,d3,p0,p1,p2,p3,by cases args; simp_all,rfl,hd,hd1,hd2,hd3⟩
section
variable {HH:Type} {enc:TypeId × Value→HH} {W:World} {n:Nat} {cs:List Value} {x:DataW HH × List MemPlace}
theorem read_t3 (h:DataW.trod enc Tryz.prog W 0 (fun _=>true) true n 43 cs=some x):∃ t:Int × Int × Int,cs=tv t:=by
 obtain⟨xs,m,_,_,hl,hn,hi⟩:=DataW.trod_array Tryz.underlying43 h
 rw[show Tryz.prog.cellsOf 43=3 by kernel_rfl] at hl
 rw[show Tryz.prog.cellsOf 3=1 by kernel_rfl] at hi
 have each:∀ i,i<3→∃ z:Int,cs[i]? = some (.int .i64 z):=by
  intro i hlt
  have:=hi i hlt
  rw[List.getElem?_eq_getElem (by omega),Nat.mul_one] at this
  obtain⟨z,hz,_⟩:=read_int this
  refine⟨z,?_⟩
  have h0:=congrArg (fun l=>l[0]?) hz
  simpa [List.getElem?_take,List.getElem?_drop] using h0
 obtain⟨a,ha⟩:=each 0 (by omega)
 obtain⟨b,hb⟩:=each 1 (by omega)
 obtain⟨c,hc⟩:=each 2 (by omega)
 refine⟨(a,b,c),List.ext_getElem? fun i=>?_⟩
 match i with
 |0=>exact ha
 |1=>exact hb
 |2=>exact hc
 |i+3=>rw[List.getElem?_eq_none (by omega),List.getElem?_eq_none (by show 3≤i+3; omega)]
theorem tv_flat (t:Int × Int × Int):flatL (tv t)=true:=rfl
theorem slice_of {v:Value} {base:Nat} {t e:TypeId} (hu:Tryz.prog.underlying t=some (.slice e)) (hval:Value.okWide Tryz.prog W .any base t v):∃ o l c,v = .slice o l c:=by
 have hv:=hval
 unfold Value.okWide at hv
 rw[hu] at hv
 cases v<;>first|exact⟨_,_,_,rfl⟩|(simp[Cell.okWide,hu,Cell.ok] at hv)
theorem read_turnsA {v:Value} {d:DataW HH} {p:List MemPlace} {base:Nat} (hval:Value.okWide Tryz.prog W .any base 38 v) (h:DataW.Trod enc Tryz.prog W 0 (fun _=>true) true 38 v d p) :
  ∃ u ts,R (io W) u v∧TurnsR (hOf W) u ts:=by
 obtain⟨fuel,h⟩:=h
 obtain⟨o,l,c,rfl⟩:=slice_of Tryz.underlying38 hval
 obtain⟨v',u,rows,ds,e1,_,_,_,e,q,tl,hl,hb,f⟩:=read_sl (E:=3) Tryz.underlying38 (by kernel_rfl) (by omega) h (fun _ q=>by
  obtain⟨k,rfl⟩:=read_t3 q
  rw[cvC_flat _ _ (tv_flat k)]; rfl)
 have hv:v' = .slice o l c:=by
  have : [Value.slice o l c]=[v']:=by simpa [Value.cells] using e1
  simpa using this.symm
 subst hv
 obtain⟨ts,hf⟩:=F3.choose (p:=fun r d (k:Int × Int × Int)=>r=tv k) rows ds hl (fun i r d hr hd=>by
  obtain⟨n',cs',x',_,rfl,h',rfl⟩:=f i r d hr hd
  obtain⟨k,rfl⟩:=read_t3 h'
  exact⟨k,cvC_flat _ _ (tv_flat k)⟩)
 have key:rows=ts.map tv:=by
  clear q tl hl hb f
  induction hf with
  |nil=>rfl
  |cons h t ih=>rw[h,ih]; rfl
 exact⟨u,ts,cv_R _ e,by unfold TurnsR; rw[← key]; exact q⟩
theorem read_strsA {v:Value} {d:DataW HH} {p:List MemPlace} {base:Nat} (hval:Value.okWide Tryz.prog W .any base 22 v) (h:DataW.Trod enc Tryz.prog W 0 (fun _=>true) true 22 v d p) :
  ∃ u ps,R (io W) u v∧StrR (hOf W) u ps:=by
 obtain⟨fuel,h⟩:=h
 obtain⟨o,l,c,rfl⟩:=slice_of Tryz.underlying22 hval
 obtain⟨v',u,ps,e1,_,e,q,_⟩:=read_strs h
 have hv:v' = .slice o l c:=by
  have : [Value.slice o l c]=[v']:=by simpa [Value.cells] using e1
  simpa using this.symm
 subst hv
 exact⟨u,ps,by rw[← e]; exact cvC_R _,q⟩
end
theorem contractN (H:Type) (enc:TypeId × Value→H) (W:World) (base:Nat) (args:Array Value) (ds gs:List (DataW H)) (before:List MemPlace)
  (hval:∀ (j:Nat) t v,Tryz.f5.params[j]? = some t→args[j]? = some v→Value.okWide Tryz.prog W .any base t v)
  (hW:DataW.Whole enc Tryz.prog Tryz.f5.params.toList Rows.printAgainSpec.vars false W args.toList ds gs before)
  (hc:Rows.uptoSmall H (ds++gs)=true) (hL:laidMetH Tryz.prog Rows.printTellsUptoRow.laid W) (hs:W.ShapedOpen Tryz.prog) :
  Calls Tryz.prog 5 args W fun e W'=>∃ v,e = .returned v∧Rows.printAgainSpec.post enc Tryz.prog Tryz.f5 false true false false W args v W':=by
 have hW':=hW
 obtain⟨p,q,hA0,hV,rfl,hfz,hnd⟩:=hW
 have hA:DataW.TrodAll enc Tryz.prog W 0 (fun _=>true) true Tryz.f5.params.toList args.toList ds p:=hA0
 rw[Tryz.params5] at hA hval
 obtain⟨v0,v1,v2,v3,d0,d1,d2,d3,p0,p1,p2,p3,rfl,rfl,h0,h1,h2,h3⟩:=trodAll_four' hA
 obtain⟨t,vi,vo,rx0,raw,hb⟩:=read_taskA h0
 obtain⟨u,ks,rx1,kr,tk⟩:=read_keysA (hval 1 _ v1 rfl rfl) h1
 obtain⟨ut,ts,rx2,qt⟩:=read_turnsA (hval 2 _ v2 rfl rfl) h2
 obtain⟨up,ps,rx3,qp⟩:=read_strsA (hval 3 _ v3 rfl rfl) h3
 obtain⟨pt,gt⟩:=tabs_of hL
 obtain⟨rfl,rfl⟩:=trodVars_none hV
 have few:Rows.uptoBulk d0≤1048576:=by
  have:Rows.uptoBulkAll ([d0,d1,d2,d3]++[])≤1048576:=of_decide_eq_true hc
  simp only[List.cons_append,List.nil_append,Rows.uptoBulkAll] at this
  omega
 obtain⟨h',g,hr⟩:=eAgain raw kr tk qt qp pt gt (by omega)
 refine bare_trueG laidOut' ?_ rfl Tryz.func5 (by kernel_rfl) (by kernel_rfl) (tb:=4) (by kernel_rfl) Tryz.underlying4 rfl hW' CLM_ok (glW hs) ?_ hr g
 ·rw[Tryz.params5]
  intro t ht
  simp only[List.mem_cons,List.not_mem_nil,or_false] at ht
  rcases ht with rfl|rfl|rfl|rfl<;>exact⟨by kernel_rfl,of_decide_eq_true (by kernel_rfl)⟩
 ·exact .cons rx0 (.cons rx1 (.cons rx2 (.cons rx3 .nil)))
def argsN:Array Value:=#[zTask,.slice none 0 0,.slice none 0 0,.slice none 0 0]
theorem readsN (os:Os) {H:Type} (enc:TypeId × Value→H):∃ places,DataW.whole enc Tryz.prog ((laidWorld os).forCall (fun _ _=>0) ⟨#[],argsN,[]⟩).memory Tryz.f5.params.toList Rows.printAgainSpec.vars false argsN.toList 8=some ([zTaskD,.nil,.nil,.nil],[],places):=
 ⟨[],by kernel_rfl⟩
theorem liftedN (os:Os) (started:os.Started) (H:Type) (enc:TypeId × Value→H) (F:Stop.Interp) :
  ReturnsInHanded {} Tryz.checked os 5 .any ((Rows.OpenSpec.upto Rows.printAgainSpec).preRow enc Tryz.prog Tryz.f5 Rows.printAgainUptoRow.domain false Rows.printTellsUptoRow.laid) (((Rows.OpenSpec.upto Rows.printAgainSpec).at F).post enc Tryz.prog Tryz.f5 false true false false):=by
 obtain⟨places,hx⟩:=readsN os enc
 refine returnsInHanded_of_row (C:=Tryz.checked) (s:=Rows.OpenSpec.upto Rows.printAgainSpec) own' started (by kernel_rfl) Tryz.func5
  (witness_row_at (enc:=enc) (C:=Tryz.checked) false (laidWorld os) argsN (World.laidAll_os _ _ _) (by kernel_rfl) (by kernel_rfl) (by kernel_rfl)
   (OpenSpec.preRow_of_cond 8 hx (by kernel_rfl) (fun k hk=>by cases hk; kernel_rfl) (by kernel_rfl) (laid_met os argsN))) ?_
 intro W base args ds gs before hval hW _ hcond _ hL hS _
 exact contractN H enc W base args ds gs before hval hW (hcond _ rfl) hL hS
theorem saidN:Rows.PrintAgainUptoSaid:=
 OpenClaim.holds_of_cond 5 Tryz.f5 rfl rfl rfl rfl rfl rfl rfl ⟨rfl,rfl,rfl,rfl,rfl⟩ rfl rfl rfl rfl rfl (by kernel_rfl) Tryz.func5 (by kernel_rfl)
  (of_decide_eq_true (by kernel_rfl)) (by unfold Func.isWrapper; first|(rw[if_pos (by decide +kernel)]; kernel_rfl)|(rw[if_neg (by decide +kernel)]; exact⟨rfl,rfl⟩))
  (fun os started H enc _ F=>by rw[OpenClaim.pre_eq_preRow]; exact liftedN os started H enc F)
theorem plainN (f:FuncId) (fn:Func) (hf:Tryz.pinned.checked.prog.funcNamed "kiln/kilnlaw15.PrintAgain" = some f) (hfn:Tryz.pinned.checked.prog.funcs[f]? = some fn) :
  true=Tryz.pinned.checked.prog.looks []∧∀ (j:Nat) t,fn.params[j]? = some t→Tryz.pinned.checked.prog.wantsStandIn t=false:=by
 obtain rfl:f=5:=Option.some.inj ((show Tryz.prog.funcNamed "kiln/kilnlaw15.PrintAgain" = some 5 by kernel_rfl).symm.trans hf) |>.symm
 obtain rfl:fn=Tryz.f5:=(Option.some.inj (Tryz.func5.symm.trans hfn)).symm
 refine⟨by kernel_rfl,fun j t ht=>?_⟩
 rw[Tryz.params5] at ht
 have hm:=Array.mem_of_getElem? ht
 simp only[List.mem_toArray,List.mem_cons,List.not_mem_nil,or_false] at hm
 rcases hm with rfl|rfl|rfl|rfl
 ·exact (show Tryz.prog.wantsStandIn 25=false by kernel_rfl)
 ·exact (show Tryz.prog.wantsStandIn 26=false by kernel_rfl)
 ·exact (show Tryz.prog.wantsStandIn 38=false by kernel_rfl)
 ·exact (show Tryz.prog.wantsStandIn 22=false by kernel_rfl)
theorem cardN:Rows.PrintAgainUptoCardSaid:=
 Claim7.holds_tied_plain_at .later [] _ _ _ _ saidN (fun _ h=>by cases h) (by kernel_rfl) (fun _ h=>by cases h) printAgainUpto_row_tie rfl ⟨rfl,rfl⟩ (by kernel_rfl) rfl plainN (by kernel_rfl)
end Go.Proofs.YtbfgadekkemlcaaGreatDoor.K
theorem Go.Proofs.YtbfgadekkemlcaaGreatDoor.printAgain_card:Go.Proofs.YtbfgadekkemlcaaGreatDoor.Rows.PrintAgainUptoCardSaid:=Go.Proofs.YtbfgadekkemlcaaGreatDoor.K.cardN
#print axioms Go.Proofs.YtbfgadekkemlcaaGreatDoor.printAgain_card
