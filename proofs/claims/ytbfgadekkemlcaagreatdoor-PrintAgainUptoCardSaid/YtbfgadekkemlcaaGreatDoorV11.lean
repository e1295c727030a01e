/- My texts for this claim, in one file: part 11. -/
import Derived.Test.YtbfgadekkemlcaaGreatDoorV10
set_option linter.unusedVariables false
set_option linter.unusedSimpArgs false
namespace Go.Kx
open Go
theorem eqGuard_plain {P:Program} {w:World} (op:BinOp) (t:TypeId) (a b:Operand) (x y:Value) (h:op ≠ .eql∧op ≠ .neq∨(x ≠ .nilIface∨y ≠ .nilIface)∧((∀ l,x ≠ .agg l)∨(∀ l,y ≠ .agg l)∨P.eqGuardType P.depth t=false)) :
  (eqGuard op t a b x y).run P w = .ok () w:=by
 unfold eqGuard
 rcases h with ⟨h1,h2⟩|⟨h1,h2⟩
 ·cases op<;>first|rfl|exact absurd rfl h1|exact absurd rfl h2
 ·have fin:Sem.run P (match x,y with
    |.nilIface,.nilIface=>(do
     if (a matches .const _)||(b matches .const _) then return
     if ← Op.eqGuardIn Op.maxDepth t x y then unsupported (.noEntry "binop/eql: two nil values of an interface type with methods, neither of them the literal nil"):Sem Unit)
    |.agg _,.agg _=>do
     if !(← program).eqGuardType (← program).depth t then return
     if ← Op.eqGuardIn Op.maxDepth t x y then unsupported (.noEntry "binop/eql: two nil values of an interface type with methods, in a part of a struct or an array")
    |_,_=>pure ()) w = .ok () w:=by
   split
   ·rcases h1 with h1|h1<;>exact absurd rfl h1
   ·rename_i l m
    rcases h2 with h2|h2|h2
    ·exact absurd rfl (h2 l)
    ·exact absurd rfl (h2 m)
    ·simp only[Sem.run_bind,run_program,Result.andThen_ok,h2,Bool.not_false,if_true]
     rfl
   ·rfl
  cases op<;>first|exact fin|rfl
theorem not_frozen {w:World} {c:Nat} {arr:List Value} {el:TypeId} {lo hi:Nat} (h:w.heap[c]? = some (.cells ⟨arr⟩ el (lo,hi))) (hl:hi≤lo) (o:Nat):w.frozen? ⟨c,o,none⟩=false:=by
 unfold World.frozen?
 rw[h]
 simp
 omega
theorem shape_of {w:World} {c:Nat} {arr:List Value} {el:TypeId} {lh:Nat × Nat} (h:w.heap[c]? = some (.cells ⟨arr⟩ el lh)):w.shape? c=some (el,arr.length):=by
 unfold World.shape?
 rw[h]
 simp
theorem unmarked_spec {P:Program} {ι:Io} {h:H} {w:World} (s:Sim P ι h w) {b:Nat} {e:Ent} (he:ι b=some e) (hu:unmarked h b=true) :
  ∃ arr el lo hi,w.heap[e.c]? = some (.cells ⟨arr⟩ el (lo,hi))∧hi≤lo∧∃ x,h.get b=some x∧x.live=true:=by
 unfold unmarked at hu
 split at hu
 ·rename_i c el f o hg
  obtain⟨e',he',hbr⟩:=s.blk b _ hg rfl
  rw[he] at he'; cases he'
  obtain⟨arr,lo,hi,h1,h2,h3,h4,h5,h6,h7,h8⟩:=hbr
  exact⟨arr,el,lo,hi,h1,h7.1 (Nat.eq_of_beq_eq_true hu),_,hg,rfl⟩
 ·cases hu
theorem sameAddr_ok {P:Program} {ι:Io} {h:H} {w:World} (s:Sim P ι h w) {b₁ o₁ b₂ o₂:Nat} {e₁ e₂:Ent} (h₁:ι b₁=some e₁) (h₂:ι b₂=some e₂) {r:Bool}
  (hs:samePtr h ⟨b₁,o₁,none⟩ ⟨b₂,o₂,none⟩=some r):(sameAddr ⟨e₁.c,o₁+e₁.sh,none⟩ ⟨e₂.c,o₂+e₂.sh,none⟩).run P w = .ok r w:=by
 unfold samePtr at hs
 cases hb:(unmarked h b₁&&unmarked h b₂&&(none:Option Nat).isNone&&(none:Option Nat).isNone) with
 |false=>rw[hb] at hs; cases hs
 |true=>
  rw[hb] at hs
  simp only[cond_true,Option.some.injEq] at hs
  simp only[Bool.and_eq_true] at hb
  obtain⟨a1,l1,lo1,hi1,k1,f1,x1,g1,v1⟩:=unmarked_spec s h₁ hb.1.1.1
  obtain⟨a2,l2,lo2,hi2,k2,f2,x2,g2,v2⟩:=unmarked_spec s h₂ hb.1.1.2
  cases hbb:Nat.beq b₁ b₂ with
  |true=>
   have:b₁=b₂:=Nat.eq_of_beq_eq_true hbb
   subst this
   rw[h₁] at h₂; cases h₂
   rw[hbb] at hs
   simp only[cond_true] at hs
   simp only[sameAddr]
   rw[if_pos (by simp)]
   simp only[Sem.run_pure]
   congr 1
   rw[← hs]
   cases hoo:Nat.beq o₁ o₂ with
   |true=>rw[Nat.eq_of_beq_eq_true hoo]; simp
   |false=>
    have:¬ o₁=o₂:=fun q=>by rw[beqT q] at hoo; cases hoo
    simp[this]
  |false=>
   have hne:¬ b₁=b₂:=fun q=>by rw[beqT q] at hbb; cases hbb
   rw[hbb] at hs
   simp only[cond_false] at hs
   subst hs
   have hce:¬ e₁.c=e₂.c:=fun q=>hne (s.inj _ _ _ _ _ _ g1 g2 v1 v2 h₁ h₂ q)
   have hcb:(e₁.c == e₂.c)=false:=by simp[hce]
   have nv:∀ (c o:Nat) {arr:List Value} {el:TypeId} {lh:Nat × Nat},w.heap[c]? = some (.cells ⟨arr⟩ el lh)→(noView ⟨c,o,none⟩).run P w = .ok () w:=by
    intro c o arr el lh hc
    simp only[noView,viewAt,Sem.run_bind,run_shape,Result.andThen_ok,shape_of hc,Option.isSome_some,if_true,Sem.run_pure]
    rfl
   have sg:∀ (c o:Nat) {arr:List Value} {el:TypeId} {lo hi:Nat},w.heap[c]? = some (.cells ⟨arr⟩ el (lo,hi))→hi≤lo→(stringish ⟨c,o,none⟩).run P w = .ok false w:=by
    intro c o arr el lo hi hc hf
    simp only[stringish,Sem.run_bind,run_frozen,Result.andThen_ok,not_frozen hc hf,Bool.false_eq_true,if_false,run_shape,shape_of hc]
   simp only[sameAddr,hcb,Bool.false_eq_true,if_false,Sem.run_bind,run_frozen,Result.andThen_ok,not_frozen k1 f1,not_frozen k2 f2,Sem.run_pure,nv _ _ k1,nv _ _ k2,mayBeOne,sg _ _ k1 f1,sg _ _ k2 f2,Bool.false_and,Bool.or_false]
   simp[Sem.run_bind,run_shape]
theorem eqNil_in {P:Program} {ι:Io} {w:World} {t:TypeId} {x x' y y':Value} (hx:R ι x x') (hy:R ι y y') {r:Bool} (h:eqNil P t x y=some r) (d:Nat):(Op.equalIn (d+1) t x' y').run P w = .ok r w:=by
 unfold eqNil at h
 split at h<;>try (cases h; done)
 all_goals
  rename_i hu
  cases hx<;>cases hy<;>(simp only[Option.some.injEq] at h)<;>subst h<;>simp only[Op.equalIn,Sem.run_bind,rUnder hu,Result.andThen_ok,Sem.run_pure,Option.isNone_none,Option.isNone_some]
theorem eqNil_ok {P:Program} {ι:Io} {w:World} {t:TypeId} {x x' y y':Value} (hx:R ι x x') (hy:R ι y y') {r:Bool} (h:eqNil P t x y=some r):(Op.equal t x' y').run P w = .ok r w:=
 eqNil_in hx hy h 9999
theorem eqPtr_in {P:Program} {ι:Io} {h:H} {w:World} (s:Sim P ι h w) {t:TypeId} {b₁ o₁ b₂ o₂:Nat} {e₁ e₂:Ent} (h₁:ι b₁=some e₁) (h₂:ι b₂=some e₂) {r:Bool}
  (hs:samePtr h ⟨b₁,o₁,none⟩ ⟨b₂,o₂,none⟩=some r) (hz':ptrElem P t≠0) (d:Nat) :
  (Op.equalIn (d+1) t (.pointer (some ⟨e₁.c,o₁+e₁.sh,none⟩)) (.pointer (some ⟨e₂.c,o₂+e₂.sh,none⟩))).run P w = .ok r w:=by
 unfold ptrElem at hz'
 split at hz'
 ·rename_i el hu
  have hsz:szOk P el=true:=by
   unfold szOk
   cases hi:P.info? el with
   |some i=>rfl
   |none=>exact absurd (by unfold Program.cellsOf; rw[hi]; rfl) hz'
  have hsa:=sameAddr_ok s h₁ h₂ hs
  simp only[Op.equalIn,Sem.run_bind,rUnder hu,Result.andThen_ok,rSizeOf hsz]
  rw[if_pos hz']
  exact hsa
 ·exact absurd rfl hz'
theorem eqPtr_ok {P:Program} {ι:Io} {h:H} {w:World} (s:Sim P ι h w) {t:TypeId} {b₁ o₁ b₂ o₂:Nat} {e₁ e₂:Ent} (h₁:ι b₁=some e₁) (h₂:ι b₂=some e₂) {r:Bool}
  (hs:samePtr h ⟨b₁,o₁,none⟩ ⟨b₂,o₂,none⟩=some r) (hz':ptrElem P t≠0) :
  (Op.equal t (.pointer (some ⟨e₁.c,o₁+e₁.sh,none⟩)) (.pointer (some ⟨e₂.c,o₂+e₂.sh,none⟩))).run P w = .ok r w:=eqPtr_in s h₁ h₂ hs hz' 9999
theorem aggEq_run {P:Program} {t:TypeId} {x y:Value} {r:Bool} (h:aggEq P t x y=some r) (w:World):(Op.equal t x y).run P w = .ok r w:=by
 unfold aggEq at h
 cases hb:(P.keyTypeAt 12 t&&x.formed P t&&y.formed P t) with
 |false=>rw[hb] at h; cases h
 |true=>
  rw[hb] at h
  simp only[Bool.and_eq_true] at hb
  simp only[cond_true] at h
  split at h
  ·rename_i l m hl hm
   obtain⟨r',hr,hiff⟩:=run_equalIn_deep (P:=P) 9988 12 t hb.1.1 w 12 12 x y l m hb.1.2 hb.2 hl hm
   have h2:=eqLits_iff h
   have e:r=r':=by
    cases r<;>cases r'<;>simp_all
   rw[e]
   exact hr
  ·cases h
theorem xbin_ok {P:Program} {ι:Io} {h:H} {w:World} (s:Sim P ι h w) (op:BinOp) (t:TypeId) (a b:Operand) {x x' y y':Value} (hx:R ι x x') (hy:R ι y y') :
  SV P ι w (xbin P op t x y h) (do eqGuard op t a b x' y'; binOp op t x' y'):=by
 have glue:∀ {r:Res Value} (s':Sem Value),(eqGuard op t a b x' y').run P w = .ok () w→SV P ι w r s'→SV P ι w r (do eqGuard op t a b x' y'; s'):=by
  intro r s' hg hs
  cases r with
  |ok v h'=>obtain⟨v',w',q,p⟩:=hs; exact⟨v',w',by rw[Sem.run_bind,hg]; exact q,p⟩
  |pan v h'=>obtain⟨v',w',q,p⟩:=hs; exact⟨v',w',by rw[Sem.run_bind,hg]; exact q,p⟩
  |bad=>trivial
 unfold xbin
 cases hf:(flat x&&flat y) with
 |true=>
  simp only[cond_true]
  simp only[Bool.and_eq_true] at hf
  have ex:=hx.flatEq hf.1
  have ey:=hy.flatEq hf.2
  subst ex; subst ey
  have go:(eqGuard op t a b x' y').run P w = .ok () w→SV P ι w (xflat (P:=P) (prun P (binOp op t x' y')) h) (do eqGuard op t a b x' y'; binOp op t x' y'):=fun hg=>glue _ hg (xflat_ok s _)
  split
  ·trivial
  ·trivial
  ·cases hq:P.eqGuardType P.depth t with
   |true=>trivial
   |false=>
    simp only[cond_false]
    split
    ·rename_i r hr
     refine glue _ (eqGuard_plain _ _ _ _ _ _ (.inr ⟨.inl (by simp),.inr (.inr hq)⟩)) (SV.same s (v':=.bool r) ?_ (.bool r))
     show (do pure (Value.bool (← Op.equal t _ _)):Sem Value).run P w=_
     rw[Sem.run_bind,aggEq_run hr]; rfl
    ·exact go (eqGuard_plain _ _ _ _ _ _ (.inr ⟨.inl (by simp),.inr (.inr hq)⟩))
  ·cases hq:P.eqGuardType P.depth t with
   |true=>trivial
   |false=>
    simp only[cond_false]
    split
    ·rename_i r hr
     refine glue _ (eqGuard_plain _ _ _ _ _ _ (.inr ⟨.inl (by simp),.inr (.inr hq)⟩)) (SV.same s (v':=.bool !r) ?_ (.bool _))
     show (do pure (Value.bool (!(← Op.equal t _ _))):Sem Value).run P w=_
     rw[Sem.run_bind,aggEq_run hr]; rfl
    ·exact go (eqGuard_plain _ _ _ _ _ _ (.inr ⟨.inl (by simp),.inr (.inr hq)⟩))
  ·rename_i n1 n2 n3 n4
   refine go (eqGuard_plain _ _ _ _ _ _ ?_)
   by_cases he:op = .eql
   ·subst he
    refine .inr ⟨?_,?_⟩
    ·by_cases q:x' = .nilIface
     ·exact .inr (fun q'=>n1 rfl q q')
     ·exact .inl q
    ·by_cases q:∃ l,x' = .agg l
     ·obtain⟨l,rfl⟩:=q
      exact .inr (.inl (fun m q'=>n3 _ _ rfl rfl q'))
     ·exact .inl (fun l q'=>q ⟨l,q'⟩)
   ·by_cases he':op = .neq
    ·subst he'
     refine .inr ⟨?_,?_⟩
     ·by_cases q:x' = .nilIface
      ·exact .inr (fun q'=>n2 rfl q q')
      ·exact .inl q
     ·by_cases q:∃ l,x' = .agg l
      ·obtain⟨l,rfl⟩:=q
       exact .inr (.inl (fun m q'=>n4 _ _ rfl rfl q'))
      ·exact .inl (fun l q'=>q ⟨l,q'⟩)
    ·exact .inl ⟨he,he'⟩
 |false=>
  simp only[cond_false]
  cases hh:(known x&&known y) with
  |false=>trivial
  |true=>
  simp only[cond_true]
  simp only[Bool.and_eq_true] at hh
  have notboth:(x' ≠ .nilIface∨y' ≠ .nilIface):=by
   by_cases q:x' = .nilIface
   ·refine .inr (fun q'=>?_)
    subst q; subst q'
    cases hx
    ·cases hy
     ·simp[flat] at hf
     ·cases hh.2
    ·cases hh.1
   ·exact .inl q
  split
  ·rename_i r hn
   have hag:(∀ l,x' ≠ .agg l):=by
    intro l q
    subst q
    cases hx
    ·unfold eqNil at hn
     split at hn<;>simp_all
    ·cases hh.1
   refine glue _ (eqGuard_plain _ _ _ _ _ _ (.inr ⟨notboth,.inl hag⟩)) (SV.flat s ?_ rfl)
   have hq:=eqNil_ok (w:=w) hx hy hn
   have hbin:binOp .eql t x' y'=(do pure (.bool (← Op.equal t x' y')):Sem Value):=by
    unfold eqNil at hn
    split at hn<;>try (cases hn; done)
    all_goals (cases hx<;>cases hy<;>first|rfl|(cases hh.1; done)|(cases hh.2; done))
   rw[hbin]
   simp only[Sem.run_bind,hq,Result.andThen_ok,Sem.run_pure]
  ·rename_i r hn
   have hag:(∀ l,x' ≠ .agg l):=by
    intro l q
    subst q
    cases hx
    ·unfold eqNil at hn
     split at hn<;>simp_all
    ·cases hh.1
   refine glue _ (eqGuard_plain _ _ _ _ _ _ (.inr ⟨notboth,.inl hag⟩)) (SV.flat s ?_ rfl)
   have hq:=eqNil_ok (w:=w) hx hy hn
   have hbin:binOp .neq t x' y'=(do pure (.bool (!(← Op.equal t x' y'))):Sem Value):=by
    unfold eqNil at hn
    split at hn<;>try (cases hn; done)
    all_goals (cases hx<;>cases hy<;>first|rfl|(cases hh.1; done)|(cases hh.2; done))
   rw[hbin]
   simp only[Sem.run_bind,hq,Result.andThen_ok,Sem.run_pure]
  ·rename_i p q hn
   cases hz:Nat.beq (ptrElem P t) 0 with
   |true=>trivial
   |false=>
    simp only[cond_false]
    cases hsp:samePtr h p q with
    |none=>trivial
    |some r=>
     cases hx with
     |ptr h1=>
      cases hy with
      |ptr h2=>
       refine glue _ (eqGuard_plain _ _ _ _ _ _ (.inr ⟨.inl (by simp),.inl (by simp)⟩)) (SV.flat s ?_ rfl)
       have hz':ptrElem P t≠0:=fun q=>by rw[beqT q] at hz; cases hz
       have hsa:=eqPtr_ok s h1 h2 hsp hz'
       simp only[binOp,Sem.run_bind,hsa,Result.andThen_ok,Sem.run_pure]
  ·rename_i p q hn
   cases hz:Nat.beq (ptrElem P t) 0 with
   |true=>trivial
   |false=>
    simp only[cond_false]
    cases hsp:samePtr h p q with
    |none=>trivial
    |some r=>
     cases hx with
     |ptr h1=>
      cases hy with
      |ptr h2=>
       refine glue _ (eqGuard_plain _ _ _ _ _ _ (.inr ⟨.inl (by simp),.inl (by simp)⟩)) (SV.flat s ?_ rfl)
       have hz':ptrElem P t≠0:=fun q=>by rw[beqT q] at hz; cases hz
       have hsa:=eqPtr_ok s h1 h2 hsp hz'
       simp only[binOp,Sem.run_bind,hsa,Result.andThen_ok,Sem.run_pure]
  ·trivial
end Go.Kx
