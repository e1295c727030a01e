/- My texts for this claim, in one file: part 18. -/
import Derived.Test.YtbfgadekkemlcaaGreatDoorV17
set_option linter.unusedVariables false
set_option linter.unusedSimpArgs false
namespace Go.Kx
open Go
def lvO:Option Obj→Bool
 |some (.cells ⟨l⟩ _ _)=>true
 |_=>false
def lv (w:World) (b:Nat):Bool:=lvO w.heap[b]?
mutual
def cv (L:Nat→Bool):Value→Option Value
 |.bool b=>some (.bool b)
 |.int k n=>some (.int k n)
 |.float k n=>some (.float k n)
 |.complex k n m=>some (.complex k n m)
 |.string s=>some (.string s)
 |.pointer none=>some (.pointer none)
 |.pointer (some ⟨b,o,none⟩)=>bif L b then some (.pointer (some ⟨b,o,none⟩)) else none
 |.slice none n c=>some (.slice none n c)
 |.slice (some ⟨b,o,none⟩) n c=>bif n == 0&&c == 0 then some (.slice (some ⟨b,o,some 2⟩) 0 0) else bif L b then some (.slice (some ⟨b,o,some 0⟩) n c) else none
 |.slice (some ⟨b,o,some k⟩) n c=>bif n == 0&&c == 0 then some (.slice (some ⟨b,o,some (k+3)⟩) 0 0) else none
 |.map none=>some (.map none)
 |.func (.func g) ⟨f⟩ ⟨c⟩=>(match cvL L f,cvL L c with|some f',some c'=>some (.func (.func g) ⟨f'⟩ ⟨c'⟩)|_,_=>none)
 |.nilFunc=>some .nilFunc
 |.nilIface=>some .nilIface
 |.iface t v=>(match cv L v with|some v'=>some (.iface t v')|none=>none)
 |.agg ⟨l⟩=>(match cvL L l with|some l'=>some (.agg ⟨l'⟩)|none=>none)
 |.tuple ⟨l⟩=>(match cvL L l with|some l'=>some (.tuple ⟨l'⟩)|none=>none)
 |_=>none
def cvL (L:Nat→Bool):List Value→Option (List Value)
 |[]=>some []
 |v::l=>match cv L v,cvL L l with|some v',some l'=>some (v'::l')|_,_=>none
end
mutual
def cvH:Value→Value
 |.agg ⟨l⟩=>.agg ⟨cvHL l⟩
 |.tuple ⟨l⟩=>.tuple ⟨cvHL l⟩
 |v=>.func (.method "") ⟨[]⟩ ⟨[v]⟩
def cvHL:List Value→List Value
 |[]=>[]
 |v::l=>cvH v::cvHL l
end
def cvC (L:Nat→Bool) (v:Value):Value:=match cv L v with|some u=>u|none=>cvH v
def bkO (L:Nat→Bool):Obj→Blk
 |.cells ⟨l⟩ el lh=>.cells (l.map (cvC L)) el (if lh.2≤lh.1 then 0 else if l.length≤lh.1 then 1 else 2) false
 |_=>.dead
def io (w:World):Io:=fun b=>
 match w.heap[b]? with
 |some (.cells ⟨l⟩ _ _)=>some ⟨b,0,0,l.length,1,false⟩
 |_=>none
def hL (L:Nat→Bool):List Obj→H→H
 |[],h=>h
 |o::l,h=>hL L l (h.alloc (bkO L o))
def hOf (w:World):H:=hL (lv w) w.heap.toList H0
theorem hL_next (L:Nat→Bool):∀ (l:List Obj) (h:H),(hL L l h).next=h.next+l.length
 |[],h=>rfl
 |o::l,h=>by simp only[hL]; rw[hL_next L l]; simp; omega
theorem hL_lt (L:Nat→Bool):∀ (l:List Obj) (h:H) (b:Nat),b<h.next→(hL L l h).get b=h.get b
 |[],h,b,_=>rfl
 |o::l,h,b,hb=>by
  simp only[hL]
  rw[hL_lt L l _ b (Nat.lt_succ_of_lt hb),H.get_alloc,if_neg (by omega)]
theorem hL_ge (L:Nat→Bool):∀ (l:List Obj) (h:H) (j:Nat),(hL L l h).get (h.next+j)=(l[j]?).map (bkO L)
 |[],h,j=>by simp only[hL]; rw[H.get_ge (by omega)]; simp
 |o::l,h,0=>by
  simp only[hL]
  rw[hL_lt L l _ _ (by simp),H.get_alloc,if_pos (by omega)]
  simp
 |o::l,h,j+1=>by
  simp only[hL]
  have:=hL_ge L l (h.alloc (bkO L o)) j
  rw[H.next_alloc] at this
  rw[show h.next+(j+1)=h.next+1+j by omega,this]
  simp
theorem hOf_next (w:World):(hOf w).next=w.heap.size:=by
 unfold hOf; rw[hL_next]; simp[H0]
theorem hOf_get (w:World) (b:Nat):(hOf w).get b=(w.heap[b]?).map (bkO (lv w)):=by
 have:=hL_ge (lv w) w.heap.toList H0 b
 simpa [hOf,H0] using this
theorem io_some {w:World} {b:Nat} {e:Ent} (h:io w b=some e):e.c=b∧e.sh=0∧e.opn=false∧lv w b=true∧∃ l el lh,w.heap[b]? = some (.cells ⟨l⟩ el lh)∧e=⟨b,0,0,l.length,1,false⟩:=by
 unfold io at h
 split at h
 ·rename_i l el lh hb
  simp only[Option.some.injEq] at h
  subst h
  exact⟨rfl,rfl,rfl,by unfold lv lvO; rw[hb],l,el,lh,hb,rfl⟩
 ·cases h
theorem io_lv {w:World} {b:Nat} (h:lv w b=true):∃ e,io w b=some e∧e.c=b∧e.sh=0:=by
 unfold lv lvO at h
 unfold io
 split at h
 ·rename_i l el lh hb
  exact⟨_,rfl,rfl,rfl⟩
 ·cases h
theorem cv_none {n c:Nat} {v u:Value} {x:Option Value} (h:(bif n == 0&&c == 0 then some v else x)=some u):(n=0∧c=0∧v=u)∨x=some u:=by
 cases hz:(n == 0&&c == 0) with
 |false=>rw[hz] at h; exact .inr h
 |true=>
  rw[hz] at h
  simp only[cond_true,Option.some.injEq] at h
  simp at hz
  exact .inl ⟨hz.1,hz.2,h⟩
mutual
theorem cv_R {w:World}:∀ (v:Value) {u:Value},cv (lv w) v=some u→R (io w) u v
 |.bool b,u,h=>by simp only[cv,Option.some.injEq] at h; subst h; exact .bool b
 |.int k n,u,h=>by simp only[cv,Option.some.injEq] at h; subst h; exact .int k n
 |.float k n,u,h=>by simp only[cv,Option.some.injEq] at h; subst h; exact .float k n
 |.complex k n m,u,h=>by simp only[cv,Option.some.injEq] at h; subst h; exact .complex k n m
 |.string s,u,h=>by simp only[cv,Option.some.injEq] at h; subst h; exact .string s
 |.pointer none,u,h=>by simp only[cv,Option.some.injEq] at h; subst h; exact .ptr0
 |.pointer (some ⟨b,o,none⟩),u,h=>by
  simp only[cv] at h
  cases hb:lv w b with
  |false=>rw[hb] at h; cases h
  |true=>
   rw[hb] at h
   simp only[cond_true,Option.some.injEq] at h
   subst h
   obtain⟨e,h1,h2,h3⟩:=io_lv hb
   have:=R.ptr (ι:=io w) (o:=o) h1
   rw[h2,h3] at this
   exact this
 |.pointer (some ⟨b,o,some s⟩),u,h=>by simp only[cv] at h; cases h
 |.slice none n c,u,h=>by simp only[cv,Option.some.injEq] at h; subst h; exact .slc0 n c
 |.slice (some ⟨b,o,none⟩) n c,u,h=>by
  simp only[cv] at h
  rcases cv_none h with ⟨rfl,rfl,rfl⟩|h
  ·exact .slcN
  cases hb:lv w b with
  |false=>rw[hb] at h; cases h
  |true=>
   rw[hb] at h
   simp only[cond_true,Option.some.injEq] at h
   subst h
   obtain⟨e,h1,h2,h3⟩:=io_lv hb
   have:=R.slcX (ι:=io w) (o:=o) (n:=n) (c:=c) h1
   rw[h2,h3] at this
   exact this
 |.slice (some ⟨b,o,some s⟩) n c,u,h=>by
  simp only[cv] at h
  rcases cv_none h with ⟨rfl,rfl,rfl⟩|h
  ·exact .slcM
  ·cases h
 |.map none,u,h=>by simp only[cv,Option.some.injEq] at h; subst h; exact .map0
 |.map (some b),u,h=>by simp only[cv] at h; cases h
 |.chan c,u,h=>by simp only[cv] at h; cases h
 |.func (.func g) ⟨f⟩ ⟨c⟩,u,h=>by
  simp only[cv] at h
  split at h
  ·rename_i f' c' hf hc
   simp only[Option.some.injEq] at h
   subst h
   exact .func (cvL_R f hf) (cvL_R c hc)
  ·cases h
 |.func (.method _) _ _,u,h=>by simp only[cv] at h; cases h
 |.func (.methodOf _ _) _ _,u,h=>by simp only[cv] at h; cases h
 |.func (.via _ _ _ _) _ _,u,h=>by simp only[cv] at h; cases h
 |.func (.yield _) _ _,u,h=>by simp only[cv] at h; cases h
 |.nilFunc,u,h=>by simp only[cv,Option.some.injEq] at h; subst h; exact .nilFunc
 |.nilIface,u,h=>by simp only[cv,Option.some.injEq] at h; subst h; exact .nilIface
 |.iface t v,u,h=>by
  simp only[cv] at h
  split at h
  ·rename_i v' hv
   simp only[Option.some.injEq] at h
   subst h
   exact .iface (cv_R v hv)
  ·cases h
 |.agg ⟨l⟩,u,h=>by
  simp only[cv] at h
  split at h
  ·rename_i l' hl
   simp only[Option.some.injEq] at h
   subst h
   exact .agg (cvL_R l hl)
  ·cases h
 |.tuple ⟨l⟩,u,h=>by
  simp only[cv] at h
  split at h
  ·rename_i l' hl
   simp only[Option.some.injEq] at h
   subst h
   exact .tuple (cvL_R l hl)
  ·cases h
theorem cvL_R {w:World}:∀ (l:List Value) {m:List Value},cvL (lv w) l=some m→RL (io w) m l
 |[],m,h=>by simp only[cvL,Option.some.injEq] at h; subst h; exact .nil
 |v::l,m,h=>by
  simp only[cvL] at h
  split at h
  ·rename_i v' l' hv hl
   simp only[Option.some.injEq] at h
   subst h
   exact .cons (cv_R v hv) (cvL_R l hl)
  ·cases h
end
mutual
theorem cvH_R (ι:Io):∀ (v:Value),R ι (cvH v) v
 |.agg ⟨l⟩=>.agg (cvHL_R ι l)
 |.tuple ⟨l⟩=>.tuple (cvHL_R ι l)
 |.bool b=>.hole rfl
 |.int k n=>.hole rfl
 |.float k n=>.hole rfl
 |.complex k n m=>.hole rfl
 |.string s=>.hole rfl
 |.pointer a=>.hole rfl
 |.slice a n c=>.hole rfl
 |.map r=>.hole rfl
 |.chan r=>.hole rfl
 |.func g f c=>.hole rfl
 |.nilFunc=>.hole rfl
 |.iface t v=>.hole rfl
 |.nilIface=>.hole rfl
theorem cvHL_R (ι:Io):∀ (l:List Value),RL ι (cvHL l) l
 |[]=>.nil
 |v::l=>.cons (cvH_R ι v) (cvHL_R ι l)
end
mutual
theorem cvH_same {ι:Io}:∀ (v:Value) {v':Value},R ι (cvH v) v'→v'=v
 |.agg ⟨l⟩,_,q=>by unfold cvH at q; cases q with|agg h=>rw[cvHL_same l h]
 |.tuple ⟨l⟩,_,q=>by unfold cvH at q; cases q with|tuple h=>rw[cvHL_same l h]
 |.bool b,_,q=>by unfold cvH at q; cases q; rfl
 |.int k n,_,q=>by unfold cvH at q; cases q; rfl
 |.float k n,_,q=>by unfold cvH at q; cases q; rfl
 |.complex k n m,_,q=>by unfold cvH at q; cases q; rfl
 |.string s,_,q=>by unfold cvH at q; cases q; rfl
 |.pointer a,_,q=>by unfold cvH at q; cases q; rfl
 |.slice a n c,_,q=>by unfold cvH at q; cases q; rfl
 |.map r,_,q=>by unfold cvH at q; cases q; rfl
 |.chan r,_,q=>by unfold cvH at q; cases q; rfl
 |.func g f c,_,q=>by unfold cvH at q; cases q; rfl
 |.nilFunc,_,q=>by unfold cvH at q; cases q; rfl
 |.iface t v,_,q=>by unfold cvH at q; cases q; rfl
 |.nilIface,_,q=>by unfold cvH at q; cases q; rfl
theorem cvHL_same {ι:Io}:∀ (l:List Value) {l':List Value},RL ι (cvHL l) l'→l'=l
 |[],_,q=>by unfold cvHL at q; cases q; rfl
 |v::l,_,q=>by unfold cvHL at q; cases q with|cons q1 q2=>rw[cvH_same v q1,cvHL_same l q2]
end
theorem cvC_R {w:World} (v:Value):R (io w) (cvC (lv w) v) v:=by
 unfold cvC
 split
 ·rename_i u hu; exact cv_R v hu
 ·exact cvH_R _ v
theorem cvC_RL {w:World}:∀ (l:List Value),RL (io w) (l.map (cvC (lv w))) l
 |[]=>.nil
 |v::l=>.cons (cvC_R v) (cvC_RL l)
theorem world_sim (P:Program) (w:World):Sim P (io w) (hOf w) w:=by
 refine⟨?_,?_,?_⟩
 ·intro b e h
  obtain⟨h1,_,_,_,l,el,lh,h5,_⟩:=io_some h
  have hlt:b<w.heap.size:=by
   rcases Nat.lt_or_ge b w.heap.size with q|q
   ·exact q
   ·rw[Array.getElem?_eq_none q] at h5; cases h5
  exact⟨by rw[hOf_next]; exact hlt,by rw[h1]; exact hlt⟩
 ·intro b x hx hl
  rw[hOf_get] at hx
  cases hb:w.heap[b]? with
  |none=>rw[hb] at hx; cases hx
  |some o=>
   rw[hb] at hx
   simp only[Option.map_some,Option.some.injEq] at hx
   subst hx
   unfold bkO at hl ⊢
   split at hl
   ·rename_i l el lh
    refine⟨⟨b,0,0,l.length,1,false⟩,by unfold io; rw[hb],?_⟩
    refine⟨l,lh.1,lh.2,hb,rfl,by simp,?_,fun _=>⟨rfl,fun _=>rfl⟩,fun q=>(by cases q),?_,rfl,fun q=>(by cases q)⟩
    ·have:(l.drop 0).take (l.map (cvC (lv w))).length=l:=by simp
     rw[this]
     exact cvC_RL l
    ·constructor
     ·intro q
      split at q
      ·assumption
      ·split at q<;>cases q
     ·intro q
      split at q
      ·cases q
      ·split at q
       ·rename_i q1 q2; exact .inr q2
       ·cases q
   ·cases hl
 ·intro b₁ b₂ x₁ x₂ e₁ e₂ _ _ _ _ i₁ i₂ he
  have h1:=(io_some i₁).1
  have h2:=(io_some i₂).1
  rw[← h1,← h2,he]
mutual
theorem cv_same {w:World} {ι:Io} (hx:Ext (io w) ι):∀ (v:Value) {u v':Value},cv (lv w) v=some u→R ι u v'→v'=v
 |.bool b,u,v',h,q=>by simp only[cv,Option.some.injEq] at h; subst h; cases q; rfl
 |.int k n,u,v',h,q=>by simp only[cv,Option.some.injEq] at h; subst h; cases q; rfl
 |.float k n,u,v',h,q=>by simp only[cv,Option.some.injEq] at h; subst h; cases q; rfl
 |.complex k n m,u,v',h,q=>by simp only[cv,Option.some.injEq] at h; subst h; cases q; rfl
 |.string s,u,v',h,q=>by simp only[cv,Option.some.injEq] at h; subst h; cases q; rfl
 |.pointer none,u,v',h,q=>by simp only[cv,Option.some.injEq] at h; subst h; cases q; rfl
 |.pointer (some ⟨b,o,none⟩),u,v',h,q=>by
  simp only[cv] at h
  cases hb:lv w b with
  |false=>rw[hb] at h; cases h
  |true=>
   rw[hb] at h
   simp only[cond_true,Option.some.injEq] at h
   subst h
   obtain⟨e,h1,h2,h3⟩:=io_lv hb
   cases q with
   |ptr he=>rw[hx _ _ h1] at he; cases he; rw[h2,h3]; rfl
 |.pointer (some ⟨b,o,some s⟩),u,v',h,q=>by simp only[cv] at h; cases h
 |.slice none n c,u,v',h,q=>by simp only[cv,Option.some.injEq] at h; subst h; cases q; rfl
 |.slice (some ⟨b,o,none⟩) n c,u,v',h,q=>by
  simp only[cv] at h
  rcases cv_none h with ⟨rfl,rfl,rfl⟩|h
  ·cases q; rfl
  cases hb:lv w b with
  |false=>rw[hb] at h; cases h
  |true=>
   rw[hb] at h
   simp only[cond_true,Option.some.injEq] at h
   subst h
   obtain⟨e,h1,h2,h3⟩:=io_lv hb
   cases q with
   |slcX he=>rw[hx _ _ h1] at he; cases he; rw[h2,h3]; rfl
 |.slice (some ⟨b,o,some s⟩) n c,u,v',h,q=>by
  simp only[cv] at h
  rcases cv_none h with ⟨rfl,rfl,rfl⟩|h
  ·cases q; rfl
  ·cases h
 |.map none,u,v',h,q=>by simp only[cv,Option.some.injEq] at h; subst h; cases q; rfl
 |.map (some b),u,v',h,q=>by simp only[cv] at h; cases h
 |.chan c,u,v',h,q=>by simp only[cv] at h; cases h
 |.func (.func g) ⟨f⟩ ⟨c⟩,u,v',h,q=>by
  simp only[cv] at h
  split at h
  ·rename_i f' c' hf hc
   simp only[Option.some.injEq] at h
   subst h
   cases q with
   |func q1 q2=>rw[cvL_same hx f hf q1,cvL_same hx c hc q2]
  ·cases h
 |.func (.method _) _ _,u,v',h,q=>by simp only[cv] at h; cases h
 |.func (.methodOf _ _) _ _,u,v',h,q=>by simp only[cv] at h; cases h
 |.func (.via _ _ _ _) _ _,u,v',h,q=>by simp only[cv] at h; cases h
 |.func (.yield _) _ _,u,v',h,q=>by simp only[cv] at h; cases h
 |.nilFunc,u,v',h,q=>by simp only[cv,Option.some.injEq] at h; subst h; cases q; rfl
 |.nilIface,u,v',h,q=>by simp only[cv,Option.some.injEq] at h; subst h; cases q; rfl
 |.iface t v,u,v',h,q=>by
  simp only[cv] at h
  split at h
  ·rename_i v1 hv
   simp only[Option.some.injEq] at h
   subst h
   cases q with
   |iface q1=>rw[cv_same hx v hv q1]
  ·cases h
 |.agg ⟨l⟩,u,v',h,q=>by
  simp only[cv] at h
  split at h
  ·rename_i l' hl
   simp only[Option.some.injEq] at h
   subst h
   cases q with
   |agg q1=>rw[cvL_same hx l hl q1]
  ·cases h
 |.tuple ⟨l⟩,u,v',h,q=>by
  simp only[cv] at h
  split at h
  ·rename_i l' hl
   simp only[Option.some.injEq] at h
   subst h
   cases q with
   |tuple q1=>rw[cvL_same hx l hl q1]
  ·cases h
theorem cvL_same {w:World} {ι:Io} (hx:Ext (io w) ι):∀ (l:List Value) {m l':List Value},cvL (lv w) l=some m→RL ι m l'→l'=l
 |[],m,l',h,q=>by simp only[cvL,Option.some.injEq] at h; subst h; cases q; rfl
 |v::l,m,l',h,q=>by
  simp only[cvL] at h
  split at h
  ·rename_i v1 l1 hv hl
   simp only[Option.some.injEq] at h
   subst h
   cases q with
   |cons q1 q2=>rw[cv_same hx v hv q1,cvL_same hx l hl q2]
  ·cases h
end
theorem cvC_same {w:World} {ι:Io} (hx:Ext (io w) ι) {v v':Value} (q:R ι (cvC (lv w) v) v'):v'=v:=by
 unfold cvC at q
 split at q
 ·rename_i u hu; exact cv_same hx v hu q
 ·exact cvH_same v q
theorem cvC_sameL {w:World} {ι:Io} (hx:Ext (io w) ι):∀ {l l':List Value},RL ι (l.map (cvC (lv w))) l'→l'=l
 |[],_,q=>by cases q; rfl
 |v::l,_,q=>by
  cases q with
  |cons q1 q2=>rw[cvC_same hx q1,cvC_sameL hx q2]
theorem kept {P:Program} {w w':World} {ι:Io} {h':H} (st:Step (io w) w ι w') (s:Sim P ι h' w') {b:Nat} (hb:b<w.heap.size) (hk:lv w b=true→h'.get b=(hOf w).get b):w'.heap[b]? = w.heap[b]?:=by
 cases hl:lv w b with
 |false=>
  refine st.keep b hb fun b' e he hc=>?_
  obtain⟨h1,_,_,h4,_⟩:=io_some he
  rw[hc] at h1
  subst h1
  rw[hl] at h4; cases h4
 |true=>
  obtain⟨e,he,_,_⟩:=io_lv hl
  obtain⟨_,_,_,_,l,el,lh,hw,rfl⟩:=io_some he
  have hg:(hOf w).get b=some (bkO (lv w) (.cells ⟨l⟩ el lh)):=by rw[hOf_get,hw]; rfl
  have hbk:bkO (lv w) (.cells ⟨l⟩ el lh) = .cells (l.map (cvC (lv w))) el (if lh.2≤lh.1 then 0 else if l.length≤lh.1 then 1 else 2) false:=by unfold bkO; rfl
  rw[hbk] at hg
  have hg':=(hk hl).trans hg
  obtain⟨e',he',hbr⟩:=s.blk b _ hg' rfl
  rw[st.ext _ _ he] at he'; cases he'
  obtain⟨arr,lo,hi,h1,h2,h3,h4,_⟩:=hbr
  simp only at h1 h2 h4
  have hsh:=(st.shp b hb).resolve_left fun ⟨_,e2,z1,_,z2⟩=>by
   obtain⟨_,_,z3,_⟩:=io_some z1
   rw[z3] at z2; cases z2
  rw[h1,hw] at hsh
  simp only[Option.bind_some,shp,Option.some.injEq,Prod.mk.injEq] at hsh
  obtain⟨_,_,hlh⟩:=hsh
  have e1:(arr.drop 0).take (l.map (cvC (lv w))).length=arr:=by simp[← h2]
  rw[e1] at h4
  have:=cvC_sameL st.ext h4
  subst this
  rw[h1,hw,← hlh]
theorem kept_but {P:Program} {w w':World} {ι:Io} {h':H} (st:Step (io w) w ι w') (s:Sim P ι h' w') (hk:∀ b,b<w.heap.size→lv w b=true→h'.get b=(hOf w).get b) (may:MemPlace→Prop):w.keptBut w' may:=by
 refine⟨st.os,st.output,fun i hi=>?_⟩
 rw[kept st s hi (hk i hi)]
 cases hw:w.heap[i]? with
 |none=>rfl
 |some o=>cases o<;>first|exact⟨rfl,rfl,rfl,fun _ _=>rfl⟩|exact .inr ⟨rfl,rfl⟩|rfl
end Go.Kx
