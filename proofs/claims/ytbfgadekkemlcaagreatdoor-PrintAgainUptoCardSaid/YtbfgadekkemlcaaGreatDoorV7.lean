/- My texts for this claim, in one file: part 7. -/
import Derived.Test.YtbfgadekkemlcaaGreatDoorV6
set_option linter.unusedVariables false
set_option linter.unusedSimpArgs false
namespace Go.Kx
open Go
inductive RO (ι:Io):Option Value→Option Value→Prop
 |none:RO ι none none
 |some {v v':Value} (h:R ι v v'):RO ι (some v) (some v')
def Bnd (o:Option Value) (n d:Nat):Prop:=(o=none∧n=d)∨∃ k,o=some (.int k (n:Int))
theorem asNat_bnd {ι:Io} {o o':Option Value} (h:RO ι o o') {n d:Nat} (e:asNat? o d=some n):Bnd o' n d:=by
 cases h with
 |none=>simp[asNat?] at e; exact .inl ⟨rfl,e.symm⟩
 |some hv=>
  unfold asNat? at e
  split at e
  ·rename_i q; cases q
  ·rename_i k m q
   cases q
   cases hv
   simp only[Option.some.injEq] at e
   subst e
   exact .inr ⟨k,rfl⟩
  ·cases e
theorem bnd_d {o:Option Value} {n d:Nat} (h:Bnd o n d) (hn:o=none):n=d:=by
 rcases h with ⟨_,h⟩|⟨k,h⟩
 ·exact h
 ·rw[hn] at h; cases h
theorem rSliceBound {P:Program} {w:World} (k:IntKind) (n y:Nat) (c:BoundsCode) (h:n≤y):(Instr.sliceBound (.int k (n:Int)) y c).run P w = .ok n w:=by
 simp only[Instr.sliceBound,Sem.run_bind,rAsIntOf,Result.andThen_ok]
 rw[if_pos ⟨by omega,by omega⟩]
 simp
theorem rBounds {P:Program} {w:World} (b:Bool) {len cap l u m:Nat} {lo hi mx:Option Value} (hl:Bnd lo l 0) (hu:Bnd hi u len) (hm:Bnd mx m cap) (h1:l≤u) (h2:u≤m) (h3:m≤cap)
  (h4:mx=none∨hi≠none):(Instr.sliceBounds b len cap lo hi mx).run P w = .ok (l,u,m) w:=by
 unfold Instr.sliceBounds
 rcases hm with ⟨rfl,rfl⟩|⟨km,rfl⟩<;>rcases hu with ⟨rfl,rfl⟩|⟨ku,rfl⟩<;>rcases hl with ⟨rfl,rfl⟩|⟨kl,rfl⟩ <;>
  first
   |(rcases h4 with h4|h4<;>first|(cases h4; done)|(exact absurd rfl h4))
   |(simp (disch:=omega) only[Sem.run_bind,Sem.run_pure,Result.andThen_ok,rSliceBound])
theorem opnSz_none {P:Program} {ι:Io} {h:H} {w:World} (s:Sim P ι h w) {b:Nat} {e:Ent} (he:ι b=some e) (hg:h.opnSz P b=some none):e.slack=0∧e.opn=false:=by
 unfold H.opnSz at hg
 split at hg
 ·cases hg
 ·rename_i hgb
  obtain⟨e',he',hbr⟩:=s.blk b _ hgb rfl
  rw[he] at he'; cases he'
  obtain⟨_,_,_,_,_,_,_,h5,_,_,h8⟩:=hbr
  exact⟨(h5 rfl).1,h8.1⟩
 ·cases hg
theorem opnSz_some {P:Program} {ι:Io} {h:H} {w:World} (s:Sim P ι h w) {b sz:Nat} {e:Ent} (he:ι b=some e) (hg:h.opnSz P b=some (some sz)):e.esz=sz∧e.opn=true:=by
 unfold H.opnSz at hg
 split at hg
 ·rename_i hgb
  cases hg
  obtain⟨e',he',hbr⟩:=s.blk b _ hgb rfl
  rw[he] at he'; cases he'
  obtain⟨_,_,_,_,_,_,_,_,h6,_,h8⟩:=hbr
  exact⟨h6 rfl,h8.1⟩
 ·cases hg
 ·cases hg
theorem cut_addr (b o sh l m sz:Nat) (c:Nat):(if m=l then some (⟨c,o+sh,none⟩ : Addr) else some ((⟨c,o+sh,none⟩ : Addr).add (l*sz)))=some ⟨c,(cutAt false ⟨b,o,none⟩ l m sz).off+sh,none⟩:=by
 unfold cutAt
 by_cases h:m=l
 ·subst h; simp[beqT rfl]
 ·rw[if_neg h,add_of,beqF h]
  first|(simp; done)|(simp; omega)
theorem xslice_u {P:Program} {ι:Io} {h:H} {w:World} (s:Sim P ι h w) (t:TypeId) {x x':Value} {lo lo' hi hi' mx mx':Option Value} (hx:R ι x x') (hlo:RO ι lo lo') (hhi:RO ι hi hi') (hmx:RO ι mx mx') :
  SVU P ι h (xslice P t x lo hi mx h) (Instr.sliceAt t x' lo' hi' mx'):=by
 have hsome:∀ {o o':Option Value},RO ι o o'→o.isSome=true→o'≠none:=by
  intro o o' q e; cases q with
  |none=>cases e
  |some _=>simp
 have hnone:∀ {o o':Option Value},RO ι o o'→o.isNone=true→o'=none:=by
  intro o o' q e; cases q with
  |none=>rfl
  |some _=>cases e
 unfold xslice
 split
 ·rename_i st hu
  cases hx
  split
  ·rename_i l u el eu
   cases hmx
   have bl:=asNat_bnd hlo el
   have bu:=asNat_bnd hhi eu
   cases hb:(Nat.ble l u&&Nat.ble u st.size) with
   |false=>trivial
   |true=>
    simp only[Bool.and_eq_true] at hb
    have h1:=Nat.le_of_ble_eq_true hb.1
    have h2:=Nat.le_of_ble_eq_true hb.2
    refine SVU.flat (fun w=>?_) rfl
    have hbd:=rBounds (P:=P) (w:=w) false (cap:=st.size) (m:=st.size) bl bu (.inl ⟨rfl,rfl⟩) h1 h2 (Nat.le_refl _) (.inl rfl)
    simp only[Instr.sliceAt,Sem.run_bind,rUnder hu,Result.andThen_ok,Instr.slice,Option.isSome_none,Bool.false_eq_true,if_false,Sem.run_pure,hbd]
  ·trivial
 ·rename_i el a len cap hu
  split
  ·rename_i l u m e1 e2 e3
   have bl:=asNat_bnd hlo e1
   have bu:=asNat_bnd hhi e2
   have bm:=asNat_bnd hmx e3
   cases hb:(Nat.ble l u&&Nat.ble u m&&Nat.ble m cap&&szOk P el) with
   |false=>trivial
   |true=>
    simp only[Bool.and_eq_true] at hb
    have h1:=Nat.le_of_ble_eq_true hb.1.1.1
    have h2:=Nat.le_of_ble_eq_true hb.1.1.2
    have h3:=Nat.le_of_ble_eq_true hb.1.2
    have hsz:=hb.2
    simp only[cond_true]
    have run:∀ (w:World) (a':Addr) (cap' m':Nat),Bnd mx' m' cap'→u≤m'→m'≤cap'→(mx'=none∨hi'≠none) →
      (Instr.sliceAt t (.slice (some a') len cap') lo' hi' mx').run P w = .ok (.slice (if m'=l then some a' else some (a'.add (l*P.cellsOf el))) (u - l) (m' - l)) w:=by
     intro w a' cap' m' bm' g1 g2 g3
     have hbd:=rBounds (P:=P) (w:=w) true bl bu bm' h1 g1 g2 g3
     simp only[Instr.sliceAt,Sem.run_bind,rUnder hu,Result.andThen_ok,Instr.slice,Sem.run_pure,hbd,rSizeOf hsz]
     split<;>rfl
    have hsp:∀ (b o:Nat) (q:Option Nat),(cutAt false ⟨b,o,q⟩ l m (P.cellsOf el))=⟨b,(cutAt false ⟨b,o,none⟩ l m (P.cellsOf el)).off,q⟩:=by
     intro b o q; unfold cutAt; cases Nat.beq m l<;>rfl
    split
    ·
     rename_i has
     cases hmx
     have hmc:m=cap:=bnd_d bm rfl
     subst hmc
     cases hx with
     |slcO he hc=>
      rename_i b o e
      simp only
      cases hg:h.opnSz P b with
      |none=>trivial
      |some r=>
       cases r with
       |none=>
        obtain⟨hsl,hop⟩:=opnSz_none s he hg
        simp only[hsl]
        refine SVU.same (fun w=>run w _ _ (m+0) (.inl ⟨rfl,rfl⟩) (by omega) (Nat.le_refl _) (.inl rfl)) ?_
        rw[Nat.add_zero,cut_addr b]
        have hv:=R.slcO (ι:=ι) (n:=u - l) (c:=m - l) (o:=(cutAt false ⟨b,o,none⟩ l m (P.cellsOf el)).off) he (fun q=>by rw[hop] at q; cases q)
        rw[hsl] at hv
        rw[hsp]
        exact hv
       |some sz=>
        obtain⟨hes,hop⟩:=opnSz_some s he hg
        simp only
        cases hq:Nat.beq sz (P.cellsOf el) with
        |false=>trivial
        |true=>
         have hsq:sz=P.cellsOf el:=Nat.eq_of_beq_eq_true hq
         have hc':=hc hop
         simp only[cond_true]
         refine SVU.same (fun w=>run w _ _ (m+e.slack) (.inl ⟨rfl,rfl⟩) (by omega) (Nat.le_refl _) (.inl rfl)) ?_
         by_cases hml:m=l
         ·subst hml
          have hu0:u=m:=by omega
          subst hu0
          have e1:cutAt true ⟨b,o,none⟩ u u (P.cellsOf el)=⟨b,o,some 1⟩:=by unfold cutAt; rw[beqT rfl]; rfl
          rw[e1,Nat.sub_self,show u+e.slack - u=e.slack by omega]
          by_cases hs0:e.slack=0
          ·rw[if_pos (by omega),hs0]
           exact .slcE he (.inr rfl)
          ·rw[if_neg (by omega),add_of]
           have hq':o+e.sh+u*P.cellsOf el+e.slack*e.esz=e.tot:=by
            rw[← hc',hes,hsq,Nat.add_mul]
            omega
           exact .slcE he (.inl ⟨hq',Nat.le_of_eq hq'.symm⟩)
         ·have e1:cutAt true ⟨b,o,none⟩ l m (P.cellsOf el)=⟨b,o+l*P.cellsOf el,none⟩:=by unfold cutAt; rw[beqF hml]; rfl
          rw[e1,if_neg (by omega),add_of,show m+e.slack - l=(m - l)+e.slack by omega,show o+e.sh+l*P.cellsOf el=o+l*P.cellsOf el+e.sh by omega]
          refine .slcO he (fun _=>?_)
          rw[← hc',hes,hsq,Nat.add_mul,Nat.add_mul,Nat.sub_mul]
          have:l*P.cellsOf el≤m*P.cellsOf el:=Nat.mul_le_mul_right _ (by omega)
          omega
     |slcX he=>cases has
     |slcE he h'=>cases has
     |slcN=>cases has
     |slcM=>cases has
    ·rename_i has
     cases hmx
     have hmc:m=cap:=bnd_d bm rfl
     subst hmc
     cases hx with
     |slcO he hc=>cases has
     |slcE he h'=>cases has
     |slcN=>cases has
     |slcM=>cases has
     |slcX he=>
      rename_i b o e
      refine SVU.same (fun w=>run w _ _ m (.inl ⟨rfl,rfl⟩) (by omega) (Nat.le_refl _) (.inl rfl)) ?_
      rw[cut_addr b,hsp]
      exact .slcX he
    ·rename_i has
     cases hmx
     have hmc:m=cap:=bnd_d bm rfl
     subst hmc
     cases hx with
     |slcO he hc=>cases has
     |slcX he=>cases has
     |slcE he h'=>
      rename_i b o o' c' e
      have hl0:l=0:=by omega
      have hu0:u=0:=by omega
      subst hl0; subst hu0
      refine SVU.same (fun w=>run w _ _ c' (.inl ⟨rfl,rfl⟩) (by omega) (Nat.le_refl _) (.inl rfl)) ?_
      simp only[Nat.zero_mul,Nat.sub_zero]
      have:(if c'=0 then some (⟨e.c,o',none⟩ : Addr) else some ((⟨e.c,o',none⟩ : Addr).add 0))=some ⟨e.c,o',none⟩:=by
       split
       ·rfl
       ·rw[add_of]; rfl
      rw[this]
      exact .slcE he h'
     |slcN=>cases has
     |slcM=>cases has
    ·rename_i has
     cases hmx
     have hmc:m=cap:=bnd_d bm rfl
     subst hmc
     cases hx with
     |slcO he hc=>cases has
     |slcX he=>cases has
     |slcE he h'=>cases has
     |slcN=>
      have hl0:l=0:=by omega
      have hu0:u=0:=by omega
      subst hl0; subst hu0
      refine SVU.same (fun w=>run w _ _ 0 (.inl ⟨rfl,rfl⟩) (by omega) (Nat.le_refl _) (.inl rfl)) ?_
      simp only[Nat.zero_mul,Nat.sub_zero,if_true]
      exact .slcN
     |slcM=>
      have hl0:l=0:=by omega
      have hu0:u=0:=by omega
      subst hl0; subst hu0
      refine SVU.same (fun w=>run w _ _ 0 (.inl ⟨rfl,rfl⟩) (by omega) (Nat.le_refl _) (.inl rfl)) ?_
      simp only[Nat.zero_mul,Nat.sub_zero,if_true]
      exact .slcM
    ·rename_i mv has
     cases hh:hi.isSome with
     |false=>trivial
     |true=>
      simp only[cond_true]
      rcases bm with ⟨hmn,_⟩|⟨km,hmk⟩
      ·cases hmx; cases hmn
      ·cases hx with
       |slcX he=>cases has
       |slcE he h'=>cases has
       |slcN=>cases has
       |slcM=>cases has
       |slcO he hc=>
        rename_i b o e
        refine SVU.same (fun w=>run w _ _ m (.inr ⟨km,hmk⟩) h2 (by omega) (.inr (hsome hhi hh))) ?_
        rw[cut_addr b]
        exact .slcX he
    ·rename_i mv has
     cases hh:hi.isSome with
     |false=>trivial
     |true=>
      simp only[cond_true]
      rcases bm with ⟨hmn,_⟩|⟨km,hmk⟩
      ·cases hmx; cases hmn
      ·cases hx with
       |slcO he hc=>cases has
       |slcE he h'=>cases has
       |slcN=>cases has
       |slcM=>cases has
       |slcX he=>
        rename_i b o e
        refine SVU.same (fun w=>run w _ _ m (.inr ⟨km,hmk⟩) h2 (by omega) (.inr (hsome hhi hh))) ?_
        rw[cut_addr b]
        have:(cutAt false ⟨b,o,some 0⟩ l m (P.cellsOf el)).off=(cutAt false ⟨b,o,none⟩ l m (P.cellsOf el)).off:=by rw[hsp]
        rw[this]
        exact .slcX he
    ·trivial
  ·trivial
 ·rename_i el hu
  cases hx
  cases hsz:szOk P el with
  |false=>trivial
  |true=>
   simp only[cond_true]
   split
   ·rename_i e1 e2 e3
    cases hq:(mx.isNone||hi.isSome) with
    |false=>trivial
    |true=>
     have bl:=asNat_bnd hlo e1
     have bu:=asNat_bnd hhi e2
     have bm:=asNat_bnd hmx e3
     refine SVU.flat (fun w=>?_) rfl
     have h4:mx'=none∨hi'≠none:=by
      rcases Bool.or_eq_true_iff.1 hq with q|q
      ·exact .inl (hnone hmx q)
      ·exact .inr (hsome hhi q)
     have hbd:=rBounds (P:=P) (w:=w) true bl bu bm (Nat.le_refl _) (Nat.le_refl _) (Nat.le_refl _) h4
     simp only[Instr.sliceAt,Sem.run_bind,rUnder hu,Result.andThen_ok,Instr.slice,Sem.run_pure,hbd,rSizeOf hsz,if_true]
   ·trivial
 ·rename_i n el a hu
  cases hx with
  |ptr he=>
   rename_i b o e
   split
   ·rename_i l u m e1 e2 e3
    have bl:=asNat_bnd hlo e1
    have bu:=asNat_bnd hhi e2
    have bm:=asNat_bnd hmx e3
    cases hb:(Nat.ble l u&&Nat.ble u m&&Nat.ble m n&&szOk P el&&(none:Option Nat).isNone&&(mx.isNone||hi.isSome)) with
    |false=>trivial
    |true=>
     simp only[Bool.and_eq_true] at hb
     have h1:=Nat.le_of_ble_eq_true hb.1.1.1.1.1
     have h2:=Nat.le_of_ble_eq_true hb.1.1.1.1.2
     have h3:=Nat.le_of_ble_eq_true hb.1.1.1.2
     have hsz:=hb.1.1.2
     simp only[cond_true]
     have h4:mx'=none∨hi'≠none:=by
      rcases Bool.or_eq_true_iff.1 hb.2 with q|q
      ·exact .inl (hnone hmx q)
      ·exact .inr (hsome hhi q)
     have hbd:=fun w=>rBounds (P:=P) (w:=w) false bl bu bm h1 h2 h3 h4
     have hv:R ι (.slice (some { cutAt false ⟨b,o,none⟩ l m (P.cellsOf el) with spot:=some 0 }) (u - l) (m - l)) (.slice (some ⟨e.c,(cutAt false ⟨b,o,none⟩ l m (P.cellsOf el)).off+e.sh,none⟩) (u - l) (m - l)):=by
      have hb':(cutAt false ⟨b,o,none⟩ l m (P.cellsOf el)).block=b:=by unfold cutAt; cases Nat.beq m l<;>rfl
      have:=R.slcX (ι:=ι) (n:=u - l) (c:=m - l) (o:=(cutAt false ⟨b,o,none⟩ l m (P.cellsOf el)).off) he
      have e0:({ cutAt false ⟨b,o,none⟩ l m (P.cellsOf el) with spot:=some 0 }:Addr)=⟨b,(cutAt false ⟨b,o,none⟩ l m (P.cellsOf el)).off,some 0⟩:=by
       unfold cutAt
       cases Nat.beq m l<;>rfl
      rw[e0]
      exact this
     refine SVU.same (fun w=>?_) hv
     simp only[Instr.sliceAt,Sem.run_bind,rUnder hu,Result.andThen_ok,Instr.sureAddr,Sem.run_pure,hbd,rSizeOf hsz]
     have:=cut_addr b o e.sh l m (P.cellsOf el) e.c
     congr 2
     split at this<;>rename_i hm
     ·rw[if_pos hm]; exact this
     ·rw[if_neg hm]; exact this
   ·trivial
 ·trivial
theorem xslice_ok {P:Program} {ι:Io} {h:H} {w:World} (s:Sim P ι h w) (t:TypeId) {x x':Value} {lo lo' hi hi' mx mx':Option Value} (hx:R ι x x') (hlo:RO ι lo lo') (hhi:RO ι hi hi') (hmx:RO ι mx mx') :
  SV P ι w (xslice P t x lo hi mx h) (Instr.sliceAt t x' lo' hi' mx'):=(xslice_u s t hx hlo hhi hmx).sv s
end Go.Kx
