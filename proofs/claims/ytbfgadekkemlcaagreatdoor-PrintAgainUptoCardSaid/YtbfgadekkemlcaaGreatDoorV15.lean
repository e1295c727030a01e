/- My texts for this claim, in one file: part 15. -/
import Derived.Test.YtbfgadekkemlcaaGreatDoorV14
set_option linter.unusedVariables false
set_option linter.unusedSimpArgs false
namespace Go.Kx
open Go
def SVW (P:Program) (ι:Io) (h:H) (r:Res Value) (s:Sem Value):Prop:=
 match r with
 |.ok v h'=>h'=h∧∃ v',R ι v v'∧∀ w,s.run P w = .ok v' w
 |_=>True
theorem SVU.w {P:Program} {ι:Io} {h:H} {r:Res Value} {s:Sem Value} (q:SVU P ι h r s):SVW P ι h r s:=by
 cases r with
 |ok v h'=>exact q
 |pan v h'=>trivial
 |bad=>trivial
theorem xflat_u {P:Program} {ι:Io} {h:H} (m:Sem Value):SVW P ι h (xflat (P:=P) (prun P m) h) m:=by
 unfold xflat
 split
 ·rename_i v hp
  cases hf:flat v with
  |false=>trivial
  |true=>exact⟨rfl,v,R.ofFlat ι v hf,fun w=>prun_ok m w hp⟩
 ·rename_i v hp
  cases hf:flat v<;>trivial
 ·trivial
def plain3 (x y:Value):Bool:=
 match x,y with
 |.int _ _,.int _ _=>true
 |.string _,.string _=>true
 |.bool _,.bool _=>true
 |_,_=>false
theorem ptr_u {P:Program} {ι:Io} {h:H} (op:BinOp) (t:TypeId) (a b:Operand) {b₁ o₁ o₂:Nat} {e:Ent} (he:ι b₁=some e) :
  SVW P ι h (xbin P op t (.pointer (some ⟨b₁,o₁,none⟩)) (.pointer (some ⟨b₁,o₂,none⟩)) h)
   (do eqGuard op t a b (.pointer (some ⟨e.c,o₁+e.sh,none⟩)) (.pointer (some ⟨e.c,o₂+e.sh,none⟩)); binOp op t (.pointer (some ⟨e.c,o₁+e.sh,none⟩)) (.pointer (some ⟨e.c,o₂+e.sh,none⟩))):=by
 have hn:eqNil P t (.pointer (some ⟨b₁,o₁,none⟩)) (.pointer (some ⟨b₁,o₂,none⟩))=none:=by
  unfold eqNil
  split<;>first|rfl|simp_all
 have key:∀ r,samePtr h ⟨b₁,o₁,none⟩ ⟨b₁,o₂,none⟩=some r→ptrElem P t≠0→∀ w,(Op.equal t (.pointer (some ⟨e.c,o₁+e.sh,none⟩)) (.pointer (some ⟨e.c,o₂+e.sh,none⟩))).run P w = .ok r w:=by
  intro r hs hz' w
  have hr:r=decide (o₁=o₂):=by
   unfold samePtr at hs
   cases hb:(unmarked h b₁&&unmarked h b₁&&(none:Option Nat).isNone&&(none:Option Nat).isNone) with
   |false=>rw[hb] at hs; cases hs
   |true=>
    rw[hb] at hs
    simp only[cond_true,Option.some.injEq,beqT rfl] at hs
    subst hs
    cases hoo:Nat.beq o₁ o₂ with
    |true=>rw[Nat.eq_of_beq_eq_true hoo]; simp
    |false=>
     have:¬ o₁=o₂:=fun q=>by rw[beqT q] at hoo; cases hoo
     simp[this]
  subst hr
  unfold ptrElem at hz'
  split at hz'
  ·rename_i el hu
   have hsz:szOk P el=true:=by
    unfold szOk
    cases hi:P.info? el with
    |some i=>rfl
    |none=>exact absurd (by unfold Program.cellsOf; rw[hi]; rfl) hz'
   have gen:∀ d,(Op.equalIn (d+1) t (.pointer (some ⟨e.c,o₁+e.sh,none⟩)) (.pointer (some ⟨e.c,o₂+e.sh,none⟩))).run P w = .ok (decide (o₁=o₂)) w:=by
    intro d
    simp only[Op.equalIn,Sem.run_bind,rUnder hu,Result.andThen_ok,rSizeOf hsz]
    rw[if_pos hz']
    simp only[sameAddr]
    rw[if_pos (by simp)]
    simp only[Sem.run_pure]
    congr 1
    by_cases q:o₁=o₂
    ·simp[q]
    ·simp[q]
   exact gen 9999
  ·exact absurd rfl hz'
 have gd:∀ w,(eqGuard op t a b (.pointer (some ⟨e.c,o₁+e.sh,none⟩)) (.pointer (some ⟨e.c,o₂+e.sh,none⟩))).run P w = .ok () w:=fun w=>eqGuard_plain _ _ _ _ _ _ (.inr ⟨.inl (by simp),.inl (by simp)⟩)
 unfold xbin
 simp only[flat,Bool.and_self,cond_false,known,cond_true,hn]
 cases op<;>first|trivial|skip
 all_goals
  simp only
  cases hz:Nat.beq (ptrElem P t) 0 with
  |true=>trivial
  |false=>
   simp only[cond_false]
   cases hsp:samePtr h ⟨b₁,o₁,none⟩ ⟨b₁,o₂,none⟩ with
   |none=>trivial
   |some r=>
    have hz':ptrElem P t≠0:=fun q=>by rw[beqT q] at hz; cases hz
    refine⟨rfl,_,.bool _,fun w=>?_⟩
    simp only[Sem.run_bind,gd w,Result.andThen_ok,binOp,key r hsp hz' w,Sem.run_pure]
theorem agg_u {P:Program} {ι:Io} {h:H} (op:BinOp) (t:TypeId) (a b:Operand) {l m:List Value} (hl:flat (.agg ⟨l⟩)=true) (hm:flat (.agg ⟨m⟩)=true) :
  SVW P ι h (xbin P op t (.agg ⟨l⟩) (.agg ⟨m⟩) h) (do eqGuard op t a b (.agg ⟨l⟩) (.agg ⟨m⟩); binOp op t (.agg ⟨l⟩) (.agg ⟨m⟩)):=by
 have glue:∀ {r:Res Value} (s':Sem Value),(∀ w,(eqGuard op t a b (.agg ⟨l⟩) (.agg ⟨m⟩)).run P w = .ok () w)→SVW P ι h r s'→SVW P ι h r (do eqGuard op t a b (.agg ⟨l⟩) (.agg ⟨m⟩); s'):=by
  intro r s' hg hs
  cases r with
  |ok v h'=>
   obtain⟨q1,v',q2,q3⟩:=hs
   exact⟨q1,v',q2,fun w=>by rw[Sem.run_bind,hg]; exact q3 w⟩
  |pan v h'=>trivial
  |bad=>trivial
 unfold xbin
 simp only[hl,hm,Bool.and_self,cond_true]
 cases op
 case eql=>
  simp only
  cases hq:P.eqGuardType P.depth t with
  |true=>trivial
  |false=>
   simp only[cond_false]
   have hg:∀ w,(eqGuard .eql t a b (.agg ⟨l⟩) (.agg ⟨m⟩)).run P w = .ok () w:=fun w=>eqGuard_plain _ _ _ _ _ _ (.inr ⟨.inl (by simp),.inr (.inr hq)⟩)
   split
   ·rename_i r hr
    refine glue _ hg ⟨rfl,.bool r,.bool r,fun w=>?_⟩
    show (do pure (Value.bool (← Op.equal t _ _)):Sem Value).run P w=_
    rw[Sem.run_bind,aggEq_run hr]; rfl
   ·exact glue _ hg (xflat_u _)
 case neq=>
  simp only
  cases hq:P.eqGuardType P.depth t with
  |true=>trivial
  |false=>
   simp only[cond_false]
   have hg:∀ w,(eqGuard .neq t a b (.agg ⟨l⟩) (.agg ⟨m⟩)).run P w = .ok () w:=fun w=>eqGuard_plain _ _ _ _ _ _ (.inr ⟨.inl (by simp),.inr (.inr hq)⟩)
   split
   ·rename_i r hr
    refine glue _ hg ⟨rfl,.bool !r,.bool _,fun w=>?_⟩
    show (do pure (Value.bool (!(← Op.equal t _ _))):Sem Value).run P w=_
    rw[Sem.run_bind,aggEq_run hr]; rfl
   ·exact glue _ hg (xflat_u _)
 all_goals exact glue _ (fun w=>eqGuard_plain _ _ _ _ _ _ (.inl ⟨by simp,by simp⟩)) (xflat_u _)
theorem bin_u {P:Program} {ι:Io} {h:H} (op:BinOp) (t:TypeId) (a b:Operand) {x x' y y':Value} (hx:R ι x x') (hy:R ι y y') (hd:plain2 x y=true) :
  SVW P ι h (xbin P op t x y h) (do eqGuard op t a b x' y'; binOp op t x' y'):=by
 by_cases hptr:∃ b₁ o₁ o₂,x = .pointer (some ⟨b₁,o₁,none⟩)∧y = .pointer (some ⟨b₁,o₂,none⟩)
 ·obtain⟨b₁,o₁,o₂,rfl,rfl⟩:=hptr
  cases hx with
  |ptr h1=>
   cases hy with
   |ptr h2=>
    rw[h1] at h2; cases h2
    exact ptr_u op t a b h1
 by_cases hagg:∃ l m,x = .agg ⟨l⟩∧y = .agg ⟨m⟩
 ·obtain⟨l,m,rfl,rfl⟩:=hagg
  have hd':(flatL l&&flatL m)=true:=hd
  rw[Bool.and_eq_true] at hd'
  rw[hx.flatEq (show flat (.agg ⟨l⟩)=true from hd'.1),hy.flatEq (show flat (.agg ⟨m⟩)=true from hd'.2)]
  exact agg_u op t a b hd'.1 hd'.2
 replace hd:plain3 x y=true:=by
  unfold plain2 at hd
  split at hd<;>first|rfl|(cases hd; done)|exact absurd ⟨_,_,_,rfl,by rw[Nat.eq_of_beq_eq_true hd]⟩ hptr|exact absurd ⟨_,_,rfl,rfl⟩ hagg
 have main:∀ {x y:Value},plain3 x y=true→SVW P ι h (xbin P op t x y h) (do eqGuard op t a b x y; binOp op t x y):=by
  intro x y hd
  have hg:∀ w,(eqGuard op t a b x y).run P w = .ok () w:=fun w=>eqGuard_plain op t a b x y (.inr (by
   unfold plain3 at hd
   split at hd<;>first|(cases hd; done)|(refine⟨.inl (by simp),.inl (by simp)⟩; done)))
  have hb:xbin P op t x y h=xflat (P:=P) (prun P (binOp op t x y)) h:=by
   unfold plain3 at hd
   split at hd<;>first|(cases op<;>rfl; done)|(cases hd; done)
  rw[hb]
  have:=xflat_u (P:=P) (ι:=ι) (h:=h) (binOp op t x y)
  unfold SVW at this ⊢
  split at this
  ·obtain⟨h1,v',h2,h3⟩:=this
   refine⟨h1,v',h2,fun w=>?_⟩
   simp only[Sem.run_bind,hg,Result.andThen_ok,h3]
  ·trivial
 have hfl:flat x=true∧flat y=true:=by
  unfold plain3 at hd
  split at hd<;>first|(exact⟨rfl,rfl⟩)|(cases hd; done)
 rw[hx.flatEq hfl.1,hy.flatEq hfl.2]
 exact main hd
theorem un_u {P:Program} {ι:Io} {h:H} (op:UnOp) {x x':Value} (hx:R ι x x'):SVW P ι h (xun P op x h) (Op.unary op x'):=by
 unfold xun
 cases hf:flat x with
 |false=>trivial
 |true=>rw[hx.flatEq hf]; exact xflat_u _
theorem extract_u {P:Program} {ι:Io} {h:H} {x x':Value} (i:Nat) (hx:R ι x x'):SVW P ι h (xextract x i h) (Instr.extract x' i):=by
 unfold xextract
 split
 ·rename_i l
  cases hx with
  |tuple hl=>
   rename_i l'
   unfold ofO
   split
   ·rename_i v hv
    obtain⟨v',h1,h2⟩:=hl.get hv
    refine⟨rfl,v',h2,fun w=>?_⟩
    have:(⟨l'⟩ : Array Value)[i]? = some v':=by simpa using h1
    simp only[Instr.extract,this,Sem.run_pure]
   ·trivial
 ·trivial
theorem makeInterface_u {P:Program} {ι:Io} {h:H} (t:TypeId) {x x':Value} (hx:R ι x x'):SVW P ι h (xmakeInterface P t x h) (Instr.makeInterface t x'):=by
 unfold xmakeInterface
 split
 ·trivial
 ·rename_i d hn hu
  refine⟨rfl,_,.iface hx,fun w=>?_⟩
  simp only[Instr.makeInterface,Sem.run_bind,rUnder hu,Result.andThen_ok]
  cases d<;>first|exact absurd rfl (hn _)|rfl
 ·trivial
theorem len_u {P:Program} {ι:Io} {h:H} (t:TypeId) (ts:List TypeId) (ty:TypeId) {x x':Value} (xs:List Value) (hx:R ι x x') (hd:lenV x≠none) :
  SVW P ι h (xlen P t x h) (Builtin.len_ ⟨t::ts⟩ ty ⟨x'::xs⟩):=by
 unfold xlen
 split
 ·rename_i s' hu
  cases hx
  refine⟨rfl,_,.int _ _,fun w=>?_⟩
  simp only[Builtin.len_,List.getElem?_toArray,List.getElem?_cons_zero,Sem.run_bind,rUnder hu,Result.andThen_ok]
  rfl
 ·rename_i n e hu
  refine⟨rfl,_,.int _ _,fun w=>?_⟩
  simp only[Builtin.len_,List.getElem?_toArray,List.getElem?_cons_zero,Sem.run_bind,rUnder hu,Result.andThen_ok]
  rfl
 ·rename_i e b n c hu
  refine⟨rfl,_,.int _ _,fun w=>?_⟩
  cases hx<;>(simp only[Builtin.len_,List.getElem?_toArray,List.getElem?_cons_zero,Sem.run_bind,rUnder hu,Result.andThen_ok]; rfl)
 ·exact absurd rfl hd
 ·exact absurd rfl hd
 ·trivial
theorem SVW.next {P:Program} {ι:Io} {h h':H} {v:Value} {s:Sem Value} (q:SVW P ι h (.ok v h') s):h'=h∧∃ v',R ι v v'∧∀ w,(do pure (.value (← s)):Sem Next).run P w = .ok (.value v') w:=by
 obtain⟨h1,v',h2,h3⟩:=q
 exact⟨h1,v',h2,fun w=>by simp only[Sem.run_bind,h3,Result.andThen_ok,Sem.run_pure]⟩
theorem w1_some {o:Option Value} {f:Value→Res Value} {v:Value} {h:H} (q:Kx.w1 o f = .ok v h):∃ u,o=some u∧f u = .ok v h:=by
 cases o with
 |none=>cases q
 |some u=>exact⟨u,rfl,q⟩
theorem early_u {P:Program} {cl:Cl} {ι:Io} {h h':H} {w:World} (s:Sim P ι h w) {fr:Fr} {a:Act} {o:Oper} {v:Value} (hs:earlyS o=true) (hl:isLoad o=false) (hf:FR ι fr a.tmps) (hg:GOk ι o) (hd:earlyD fr o=true)
  (hx:xop P cl fr o h = .ok v h'):h'=h∧∃ u,R ι v u∧∀ w,(execOp a.eval o).run P w = .ok (.value u) w:=by
 have ev:∀ {x:Operand} {v:Value},Fr.ev fr x=some v→x∈o.op.operands→R ι v (a.eval x):=fun e m=>hf.ev e fun g q=>hg g (q ▸ m)
 obtain⟨dst,op,type,pos,after,guard⟩:=o
 simp only at ev
 unfold earlyS at hs
 unfold isLoad at hl
 unfold earlyD at hd
 unfold xop at hx
 simp only at hs hl hd hx
 cases op<;>simp only at hs hl hx<;>try (cases hs; done)
 case move x=>
  unfold ofO at hx
  split at hx
  ·rename_i u hu
   cases hx
   exact⟨rfl,_,ev hu (by simp[Op.operands]),fun w=>rfl⟩
  ·cases hx
 case pick c x y=>
  obtain⟨v0,hv0,hx⟩:=w1_some hx
  obtain⟨v1,hv1,hx⟩:=w1_some hx
  obtain⟨v2,hv2,hx⟩:=w1_some hx
  have e0:=ev hv0 (by simp[Op.operands])
  have e1:=ev hv1 (by simp[Op.operands])
  have e2:=ev hv2 (by simp[Op.operands])
  unfold pickV at hx
  cases v0 with
  |bool t=>
   simp only at hx
   cases hx
   generalize hc:a.eval c=c' at e0
   cases e0
   refine⟨rfl,if t then a.eval x else a.eval y,?_,fun w=>?_⟩
   ·cases t<;>assumption
   ·simp only[execOp,hc,asBool,Sem.run_bind,Sem.run_pure,Result.andThen_ok]
  |_=>cases hx
 case fieldAddr t x i=>
  obtain⟨v0,hv0,hx⟩:=w1_some hx
  have:=(xfieldAddr_u (P:=P) (h:=h) t i (ev hv0 (by simp[Op.operands]))).w
  rw[hx] at this
  exact this.next
 case indexAddr t x i=>
  obtain⟨v0,hv0,hx⟩:=w1_some hx
  obtain⟨v1,hv1,hx⟩:=w1_some hx
  have:=(xindexAddr_u (P:=P) (h:=h) t (ev hv0 (by simp[Op.operands])) (ev hv1 (by simp[Op.operands]))).w
  rw[hx] at this
  exact this.next
 case field t x i=>
  obtain⟨v0,hv0,hx⟩:=w1_some hx
  have:=(xfield_u (P:=P) (h:=h) t i (ev hv0 (by simp[Op.operands]))).w
  rw[hx] at this
  exact this.next
 case index t x i=>
  obtain⟨v0,hv0,hx⟩:=w1_some hx
  obtain⟨v1,hv1,hx⟩:=w1_some hx
  have:=(xindex_u (P:=P) (h:=h) t (ev hv0 (by simp[Op.operands])) (ev hv1 (by simp[Op.operands]))).w
  rw[hx] at this
  exact this.next
 case build t ps=>
  split at hx
  ·rename_i l hl
   have:=(xbuild_u (P:=P) (ι:=ι) (h:=h) t (ps:=l) (ps':=ps.map fun (i,x)=>(i,a.eval x)) (by
    rw[Array.toList_map]
    exact evParts_ok hf (fun g hm=>hg g (by simpa [Op.operands] using hm)) hl)).w
   rw[hx] at this
   exact this.next
  ·cases hx
 case convert sr d x=>
  obtain⟨v0,hv0,hx⟩:=w1_some hx
  simp only[hv0] at hd
  have e0:=ev hv0 (by simp[Op.operands])
  cases v0 with
  |int k n=>
   generalize hc:a.eval x=c' at e0
   cases e0
   unfold xconvert at hx
   split at hx<;>try (cases hx; done)
   all_goals first
    |(rename_i q; cases q; done)
    |(rename_i d0 k' j n' hs' hd' q; cases q; cases hx; refine⟨rfl,_,.int _ _,fun w=>?_⟩; simp only[execOp,hc,convert,Sem.run_bind,rUnder hs',rUnder hd',Result.andThen_ok,Conv.intToInt,Sem.run_pure])
    |skip
  |_=>cases hd
 case slice t x lo hi mx=>
  obtain⟨v0,hv0,hx⟩:=w1_some hx
  have e0:=ev hv0 (by simp[Op.operands])
  have opt:∀ {y:Option Operand} {f:Option Value→Res Value} {v:Value} {h':H},(∀ z,y=some z→z∈Op.operands (.slice t x lo hi mx))→wO fr y f = .ok v h'→∃ o,RO ι o (y.map a.eval)∧f o = .ok v h':=by
   intro y f v h' hm hk
   unfold wO at hk
   cases y with
   |none=>exact⟨_,.none,hk⟩
   |some z=>
    obtain⟨u,hu,hk⟩:=w1_some hk
    exact⟨_,.some (ev hu (hm z rfl)),hk⟩
  obtain⟨l,hl1,hx⟩:=opt (fun z q=>by subst q; simp[Op.operands]) hx
  obtain⟨u,hu1,hx⟩:=opt (fun z q=>by subst q; simp[Op.operands]) hx
  obtain⟨m,hm1,hx⟩:=opt (fun z q=>by subst q; simp[Op.operands]) hx
  have:=(xslice_u s t e0 hl1 hu1 hm1).w
  rw[hx] at this
  exact this.next
 case load t x=>cases hl
 case nilCheck x=>
  obtain⟨v0,hv0,hx⟩:=w1_some hx
  have e0:=ev hv0 (by simp[Op.operands])
  generalize hc:a.eval x=c' at e0
  unfold xnilCheck at hx
  split at hx
  ·cases hx; cases e0 with
   |ptr he=>exact⟨rfl,_,.ptr he,fun w=>by simp only[execOp,hc,Sem.run_pure]⟩
  ·cases hx; cases e0 with
   |iface he=>exact⟨rfl,_,.iface he,fun w=>by simp only[execOp,hc,Sem.run_pure]⟩
  ·cases hx; cases e0 with
   |func h1 h2=>exact⟨rfl,_,.func h1 h2,fun w=>by simp only[execOp,hc,Sem.run_pure]⟩
  ·cases hx
 case unOp p t x=>
  obtain⟨v0,hv0,hx⟩:=w1_some hx
  have:=un_u (P:=P) (h:=h) p (ev hv0 (by simp[Op.operands]))
  rw[hx] at this
  exact this.next
 case extract x i=>
  obtain⟨v0,hv0,hx⟩:=w1_some hx
  have:=extract_u (P:=P) (h:=h) i (ev hv0 (by simp[Op.operands]))
  rw[hx] at this
  exact this.next
 case makeInterface t x=>
  obtain⟨v0,hv0,hx⟩:=w1_some hx
  have:=makeInterface_u (P:=P) (h:=h) t (ev hv0 (by simp[Op.operands]))
  rw[hx] at this
  exact this.next
 case binOp p t x y c=>
  obtain⟨v0,hv0,hx⟩:=w1_some hx
  obtain⟨v1,hv1,hx⟩:=w1_some hx
  simp only[hv0,hv1] at hd
  have:=bin_u (P:=P) (h:=h) p t x y (ev hv0 (by simp[Op.operands])) (ev hv1 (by simp[Op.operands])) hd
  rw[hx] at this
  exact this.next
 case call c=>
  split at hs
  ·rename_i hb
   rw[hb] at hx
   split at hx
   ·rename_i args hargs
    simp only at hx
    simp only[hargs] at hd
    have ha:RL ι args (c.args.toList.map a.eval):=evAll_ok hf (fun g hm=>hg g (by simp[Op.operands,Call.operands]; exact .inr (by simpa using hm))) hargs
    generalize hal:c.args.toList.map a.eval=al at ha
    have hmap:c.args.map a.eval=⟨al⟩:=by rw[arr_map,hal]
    cases ha with
    |nil=>cases hd
    |@cons _ _ _ lt hv ht=>
     simp only at hd
     unfold xbuiltin at hx
     split at hx
     ·rename_i t l y l' h1 h2 h3
      cases h3
      have:=len_u (P:=P) (h:=h) t l type lt hv (by intro q; rw[q] at hd; cases hd)
      rw[hx] at this
      obtain⟨q1,v',q2,q3⟩:=this.next
      refine⟨q1,v',q2,fun w=>?_⟩
      rw[← q3 w]
      simp only[execOp,resolve,hb,Sem.run_bind,Sem.run_pure,Result.andThen_ok,invoke,builtin,hmap]
      have hts:c.argTypes=⟨t::l⟩:=by
       apply Array.ext'; exact h2
      rw[hts]
     all_goals first|(cases hx; done)|simp_all
   ·cases hx
  ·cases hs
def pushes (w:World) (l:List Obj):World:={ w with heap:=w.heap++l.toArray }
theorem pushes_nil (w:World):pushes w []=w:=by unfold pushes; simp
theorem pushes_cons (w:World) (o:Obj) (l:List Obj):pushes { w with heap:=w.heap.push o } l=pushes w (o::l):=by
 unfold pushes; simp
theorem pushes_at {w:World} {b:Nat} {o:Obj} (l:List Obj) (h:w.heap[b]? = some o):(pushes w l).heap[b]? = some o:=by
 have hlt:b<w.heap.size:=by
  rcases Nat.lt_or_ge b w.heap.size with q|q
  ·exact q
  ·rw[Array.getElem?_eq_none q] at h; cases h
 show (w.heap++l.toArray)[b]? = some o
 rw[Array.getElem?_append_left hlt]
 exact h
theorem cell_pushes {w:World} {a:Addr} {v:Value} (l:List Obj) (h:w.cell? a=some v):(pushes w l).cell? a=some v:=by
 unfold World.cell? at h ⊢
 cases hb:w.heap[a.block]? with
 |none=>rw[hb] at h; simp at h
 |some o=>rw[pushes_at l hb]; rw[hb] at h; exact h
theorem xload_same {P:Program} {ι:Io} {h h':H} {w:World} (s:Sim P ι h w) {t:TypeId} {x x' v:Value} (hx:R ι x x') (e:xload P t x h = .ok v h') :
  h'=h∧∃ a v',x' = .pointer (some a)∧R ι v v'∧∀ l:List Obj,(loadVar t a).run P (pushes w l) = .ok v' (pushes w l):=by
 unfold xload at e
 split at e
 ·rename_i a
  cases hx with
  |ptr he=>
   rename_i b o en
   split at e
   ·rename_i ha
    cases hr:h.row ⟨b,o,none⟩ (P.cellsOf t) with
    |none=>rw[hr] at e; cases e
    |some l=>
     rw[hr] at e
     cases e
     obtain⟨hl,l',h1,h2⟩:=s.row he hr
     refine⟨rfl,_,_,rfl,.agg h1,fun os=>?_⟩
     simp only[loadVar,Sem.run_bind,Sem.run_pure,Result.andThen_ok,rIsAgg ha,if_true,rSizeOf (agg_sz ha)]
     rw[rLoadCells en.c (o+en.sh) l' (P.cellsOf t) (by rw[← h1.length,hl]) (fun j v e=>cell_pushes os (h2 j v e))]
     rfl
   ·rename_i ha
    cases hr:h.cell ⟨b,o,none⟩ with
    |none=>rw[hr] at e; cases e
    |some v=>
     rw[hr] at e
     cases e
     obtain⟨v',h1,h2⟩:=s.cell he hr
     refine⟨rfl,_,v',rfl,h1,fun os=>?_⟩
     simp only[loadVar,Sem.run_bind,Sem.run_pure,Result.andThen_ok,rIsAgg ha,Bool.false_eq_true,if_false]
     rw[rLoad (cell_pushes os h2)]
   ·cases e
 ·cases e
theorem early_run {P:Program} {cl:Cl} {ι:Io} {h h':H} {w:World} {fr:Fr} {a:Act} {o:Oper} {v:Value} (s:Sim P ι h w) (hs:earlyS o=true) (hf:FR ι fr a.tmps) (hg:GOk ι o) (hd:earlyD fr o=true)
  (hx:xop P cl fr o h = .ok v h'):h'=h∧∃ u,R ι v u∧(∀ l,(execOp a.eval o).run P (pushes w l) = .ok (.value u) (pushes w l))∧(isLoad o=false→∀ w,(execOp a.eval o).run P w = .ok (.value u) w):=by
 cases hl:isLoad o with
 |false=>
  obtain⟨rfl,u,h1,h2⟩:=early_u s hs hl hf hg hd hx
  exact⟨rfl,u,h1,fun l=>h2 _,fun _=>h2⟩
 |true=>
  have ev:∀ {x:Operand} {v:Value},Fr.ev fr x=some v→x∈o.op.operands→R ι v (a.eval x):=fun e m=>hf.ev e fun g q=>hg g (q ▸ m)
  obtain⟨dst,op,type,pos,after,guard⟩:=o
  unfold isLoad at hl
  cases op<;>simp only at hl<;>try (cases hl; done)
  rename_i t x
  simp only at ev
  unfold xop at hx
  simp only at hx
  obtain⟨v0,hv0,hx⟩:=w1_some hx
  obtain⟨rfl,ad,v',h1,h2,h3⟩:=xload_same s (ev hv0 (by simp[Op.operands])) hx
  refine⟨rfl,v',h2,fun l=>?_,fun q=>by simp at q⟩
  simp only[execOp,h1,Instr.loadAt,Instr.sureAddr,Sem.run_bind,Sem.run_pure,Result.andThen_ok,h3 l]
theorem lay_x {P:Program} {cl:Cl} {fr:Fr} {o:Oper} {cs:List Value} {el:TypeId} {val:Nat→Value} (hl:layX P fr o=some (cs,el,val)) (h:H):xop P cl fr o h = .ok (val h.next) (h.alloc (.cells cs el 0 false)):=by
 obtain⟨dst,op,type,pos,after,guard⟩:=o
 unfold layX at hl
 unfold xop
 cases op<;>simp only at hl<;>try (cases hl; done)
 case alloc e=>
  unfold layAlloc at hl
  simp only[xalloc]
  split at hl
  ·rename_i z hz; cases hl; rw[hz]; rfl
  ·cases hl
 case box e x=>
  split at hl
  ·rename_i v hv; cases hl; simp only[hv,Kx.w1]; rfl
  ·cases hl
 case buildSlice t n ps=>
  split at hl
  ·rename_i l hps
   simp only[hps]
   unfold layBuild at hl
   unfold xbuildSlice
   split at hl
   ·rename_i e he
    rw[he]
    simp only
    split at hl
    ·rename_i z hz
     rw[hz]
     simp only
     cases hb:(Nat.beq z.cells.size (P.cellsOf e)&&Nat.ble (n*P.cellsOf e) 16777216) with
     |false=>rw[hb] at hl; cases hl
     |true=>
      rw[hb] at hl
      simp only[cond_true] at hl ⊢
      split at hl
      ·rename_i c hc; cases hl; rw[hc]; rfl
      ·cases hl
    ·cases hl
   ·cases hl
  ·cases hl
 case makeSlice t l c=>
  split at hl
  ·rename_i v u hv hu
   simp only[hv,hu,Kx.w1]
   unfold layMake at hl
   unfold xmakeSlice
   split at hl
   ·rename_i e n m he
    rw[he]
    simp only
    split at hl
    ·rename_i z hz
     rw[hz]
     simp only
     cases hb:(Nat.ble n m&&Nat.ble (bytesOf P e*m) 140737488355328&&Nat.ble m 9223372036854775807&&Nat.beq z.cells.size (P.cellsOf e)) with
     |false=>rw[hb] at hl; cases hl
     |true=>
      rw[hb] at hl
      simp only[cond_true] at hl ⊢
      cases hl
      rfl
    ·cases hl
   ·cases hl
  ·cases hl
theorem lay_val {P:Program} {fr:Fr} {o:Oper} {cs:List Value} {el:TypeId} {val:Nat→Value} (hl:layX P fr o=some (cs,el,val)):val=ptrAt∨∃ n m,val=sliceAt' n m:=by
 obtain⟨dst,op,type,pos,after,guard⟩:=o
 unfold layX at hl
 cases op<;>simp only at hl<;>try (cases hl; done)
 case alloc e=>
  unfold layAlloc at hl
  split at hl
  ·cases hl; exact .inl rfl
  ·cases hl
 case box e x=>
  split at hl
  ·cases hl; exact .inl rfl
  ·cases hl
 case buildSlice t n ps=>
  split at hl
  ·unfold layBuild at hl
   split at hl
   ·split at hl
    ·cases hb:(Nat.beq _ _&&Nat.ble _ _) with
     |false=>rw[hb] at hl; cases hl
     |true=>
      rw[hb] at hl
      simp only[cond_true] at hl
      split at hl
      ·cases hl; exact .inr ⟨_,_,rfl⟩
      ·cases hl
    ·cases hl
   ·cases hl
  ·cases hl
 case makeSlice t l c=>
  split at hl
  ·unfold layMake at hl
   split at hl
   ·split at hl
    ·cases hb:(Nat.ble _ _&&Nat.ble _ _&&Nat.ble _ _&&Nat.beq _ _) with
     |false=>rw[hb] at hl; cases hl
     |true=>rw[hb] at hl; cases hl; exact .inr ⟨_,_,rfl⟩
    ·cases hl
   ·cases hl
  ·cases hl
theorem lay_R {P:Program} {fr:Fr} {o:Oper} {cs:List Value} {el:TypeId} {val:Nat→Value} (hl:layX P fr o=some (cs,el,val)) {ι:Io} {b:Nat} {e:Ent} (h:ι b=some e) (hs:e.sh=0) (h0:e.slack=0) (ho:e.opn=false):R ι (val b) (val e.c):=by
 rcases lay_val hl with rfl|⟨n,m,rfl⟩
 ·exact ptrAt_R h hs
 ·exact sliceAt_R h hs h0 ho
theorem Laid.next {P:Program} {ι:Io} {cs:List Value} {el:TypeId} {val:Nat→Value} {s:Sem Value} (h:Laid P ι cs el val s) :
  ∃ c',RL ι cs c'∧∀ w,(do pure (.value (← s)):Sem Next).run P w = .ok (.value (val w.heap.size)) (wpush w c' el):=by
 obtain⟨c',h1,h2⟩:=h
 exact⟨c',h1,fun w=>by simp only[Sem.run_bind,h2,Result.andThen_ok,Sem.run_pure]⟩
theorem lay_run {P:Program} {ι:Io} {fr:Fr} {a:Act} {o:Oper} {cs:List Value} {el:TypeId} {val:Nat→Value} (hl:layX P fr o=some (cs,el,val)) (hf:FR ι fr a.tmps) (hg:GOk ι o) :
  ∃ c',RL ι cs c'∧∀ w,(execOp a.eval o).run P w = .ok (.value (val w.heap.size)) (wpush w c' el):=by
 have ev:∀ {x:Operand} {v:Value},Fr.ev fr x=some v→x∈o.op.operands→R ι v (a.eval x):=fun e m=>hf.ev e fun g q=>hg g (q ▸ m)
 obtain⟨dst,op,type,pos,after,guard⟩:=o
 simp only at ev
 unfold layX at hl
 cases op<;>simp only at hl<;>try (cases hl; done)
 case alloc e=>
  unfold layAlloc at hl
  split at hl
  ·rename_i z hz
   cases hl
   exact (alloc_laid _ hz).next
  ·cases hl
 case box e x=>
  split at hl
  ·rename_i v hv
   cases hl
   exact (box_laid _ (ev hv (by simp[Op.operands]))).next
  ·cases hl
 case buildSlice t n ps=>
  split at hl
  ·rename_i l hps
   have hp:RP ι l (ps.map fun (i,x)=>(i,a.eval x)).toList:=by
    rw[Array.toList_map]
    exact evParts_ok hf (fun g hm=>hg g (by simpa [Op.operands] using hm)) hps
   unfold layBuild at hl
   split at hl
   ·rename_i e he
    split at hl
    ·rename_i z hz
     cases hb:(Nat.beq z.cells.size (P.cellsOf e)&&Nat.ble (n*P.cellsOf e) 16777216) with
     |false=>rw[hb] at hl; cases hl
     |true=>
      rw[hb] at hl
      simp only[cond_true] at hl
      split at hl
      ·rename_i c hc
       cases hl
       exact (buildSlice_laid t n hp he hz hb hc).next
      ·cases hl
    ·cases hl
   ·cases hl
  ·cases hl
 case makeSlice t l c=>
  split at hl
  ·rename_i v u hv hu
   have e1:=ev hv (by simp[Op.operands])
   have e2:=ev hu (by simp[Op.operands])
   unfold layMake at hl
   split at hl
   ·rename_i e n m he
    generalize hc1:a.eval l=c1 at e1
    generalize hc2:a.eval c=c2 at e2
    cases e1
    cases e2
    split at hl
    ·rename_i z hz
     cases hb:(Nat.ble n m&&Nat.ble (bytesOf P e*m) 140737488355328&&Nat.ble m 9223372036854775807&&Nat.beq z.cells.size (P.cellsOf e)) with
     |false=>rw[hb] at hl; cases hl
     |true=>
      rw[hb] at hl
      simp only[cond_true] at hl
      cases hl
      have:=(makeSlice_laid (ι:=ι) t he hz hb).next
      simp only[execOp,hc1,hc2]
      exact this
    ·cases hl
   ·cases hl
  ·cases hl
end Go.Kx
