/- My texts for this claim, in one file: part 20. -/
import Derived.Test.YtbfgadekkemlcaaGreatDoorV19
set_option linter.unusedVariables false
namespace Go.Kx
open Go
abbrev Nu:=Nat→(Fr→H→Res Value)→Fr→H→Res Value
def nu0:Nu:=fun _ k fr h=>k fr h
def cutE (an:Ann) (nu:Nu) (b:Code) (k:Fr→H→Res Value) (fr:Fr) (h:H):Res Value:=
 match firstR b with
 |some i=>(match look an.cut i with|some kp=>nu (2*i) k (erase kp fr) h|none=>k fr h)
 |none=>k fr h
theorem cutE_eq (an:Ann) (b:Code) (k:Fr→H→Res Value) (fr:Fr) (h:H):cutE an nu0 b k fr h=k (cutF an b fr) h:=by
 unfold cutE cutF nu0
 cases firstR b with
 |none=>rfl
 |some i=>simp only; cases look an.cut i<;>rfl
noncomputable def evT (P:Program) (cl:Cl) (an:Ann) (nu:Nu):Code→Ko→Fr→H→Res Value
 |.skip,K,fr,h=>K .normal fr h
 |.label _,K,fr,h=>K .normal fr h
 |.region id ops draw,K,fr,h=>
  bif draw then (match look an.plan id with|some pl=>evD P cl ops.toList K pl fr h|none=>.bad)
  else evL P cl ops.toList K 0 ops.toList fr h
 |.seq a b,K,fr,h=>evT P cl an nu a (kthen K fun fr' h'=>cutE an nu b (evT P cl an nu b K) fr' h') fr h
 |.cond c a b,K,fr,h=>
  w1 (Fr.ev fr c) fun v=>ifV v (evT P cl an nu a K fr h) (evT P cl an nu b K fr h)
 |.block id b,K,fr,h=>evT P cl an nu b (kblk id K) fr h
 |.rangeFunc g ps asg bo,K,fr,h=>rngK cl an g ps asg bo K fr h
 |.loop b,K,fr,h=>
  match firstR b with
  |some i=>(match look an.keep i with|some kp=>nu (2*i+1) (lpS kp (fun K' fr' h'=>evT P cl an nu b K' fr' h') K) (erase kp fr) h|none=>.bad)
  |none=>.bad
 |.scope b,K,fr,h=>evT P cl an nu b K fr h
 |.exit id,K,fr,h=>K (.exit id) fr h
 |.ret,K,fr,h=>K .ret fr h
 |_,_,_,_=>.bad
noncomputable abbrev evS (P:Program) (cl:Cl) (an:Ann):Code→Ko→Fr→H→Res Value:=evT P cl an nu0
noncomputable def runS (P:Program) (cl:Cl) (an:Ann) (fn:Func) (args:List Value) (h:H):Res Value:=
 evS P cl an (bodyOf fn) (kfn P fn.results.toList) (argF 0 args) h
theorem LimC.const (c:Cl):LimC (fun _=>c) c:=fun _ _ _=>.const _
theorem evS_lim {P:Program} {an:Ann}:∀ (c:Code) {C:Nat→Cl} {c':Cl},LimC C c'→LimB (fun m=>evS P (C m) an c) (evS P c' an c):=by
 intro c
 induction c with
 |skip=>intro C c' hC K K' hK fr h; exact hK _ _ _
 |label l=>intro C c' hC K K' hK fr h; exact hK _ _ _
 |exit id=>intro C c' hC K K' hK fr h; exact hK _ _ _
 |ret=>intro C c' hC K K' hK fr h; exact hK _ _ _
 |region id ops draw=>
  intro C c' hC K K' hK fr h
  simp only[evS,evT]
  refine .bif ?_ (evL_lim hC _ hK _ _ _ _)
  cases look an.plan id with
  |none=>exact .const _
  |some pl=>exact evD_lim hC _ hK pl fr h
 |seq x y ihx ihy=>
  intro C c' hC K K' hK fr h
  simp only[evS,evT]
  exact ihx hC _ _ (kthen_lim hK fun fr' h'=>by simp only[cutE_eq]; exact ihy hC _ _ hK _ _) fr h
 |cond c x y ihx ihy=>
  intro C c' hC K K' hK fr h
  simp only[evS,evT]
  exact .w1 fun v=>.ifV (ihx hC _ _ hK fr h) (ihy hC _ _ hK fr h)
 |block id b ih=>
  intro C c' hC K K' hK fr h
  simp only[evS,evT]
  exact ih hC _ _ (kblk_lim hK id) fr h
 |rangeFunc g ps x y _ _=>intro C c' hC K K' hK fr h; simp only[evS,evT]; exact rngK_lim hC hK an g ps x y fr h
 |scope b ih=>
  intro C c' hC K K' hK fr h
  simp only[evS,evT]
  exact ih hC _ _ hK fr h
 |loop b ih=>
  intro C c' hC K K' hK fr h
  simp only[evS,evT]
  cases firstR b with
  |none=>exact .const _
  |some i=>
   simp only
   cases look an.keep i with
   |none=>exact .const _
   |some kp=>exact lpS_lim (ih hC) (fun m=>ih (LimC.const (C m))) (ih (LimC.const c')) hK _ h
 |_=>intro C c' hC K K' hK fr h; simp only[evS,evT]; exact .const _
theorem lpS_next {P:Program} {cl:Cl} {an:Ann} (i:Nat) (kp:List Nat) (b:Code) (K:Ko) (fr:Fr) (h:H) :
  lpS kp (fun K' fr' h'=>evS P cl an b K' fr' h') K fr h=evS P cl an b (kthen K fun fr' h'=>nu0 i (lpS kp (fun K' fr' h'=>evS P cl an b K' fr' h') K) (erase kp fr') h') fr h:=
 lpS_eq (evS_lim b (LimC.const cl)) K fr h
theorem lpK_up {kp:List Nat} {body:Bd} (hb:LimB (fun _=>body) body) (K:Ko) (fr:Fr) (h:H) {n m:Nat} (hnm:n≤m):Le (lpK kp body K n fr h) (lpK kp body K m fr h):=
 mono_le (F:=fun n=>lpK kp body K n fr h) (fun n=>lpK_step hb K n fr h) hnm
theorem evK_lim {P:Program} {an:Ann}:∀ (c:Code) {C:Nat→Cl} {c':Cl} {ν:Nat→Nat} {N:Nat},LimC C c'→(∀ m,ν m≤ν (m+1))→(∀ m,ν m≤N)→(∃ m,ν m=N)→LimB (fun m=>evK P (C m) an (ν m) c) (evK P c' an N c):=by
 intro c
 induction c with
 |skip=>intro C c' ν N hC h1 h2 h3 K K' hK fr h; exact hK _ _ _
 |label l=>intro C c' ν N hC h1 h2 h3 K K' hK fr h; exact hK _ _ _
 |exit id=>intro C c' ν N hC h1 h2 h3 K K' hK fr h; exact hK _ _ _
 |ret=>intro C c' ν N hC h1 h2 h3 K K' hK fr h; exact hK _ _ _
 |region id ops draw=>
  intro C c' ν N hC h1 h2 h3 K K' hK fr h
  simp only[evK]
  refine .bif ?_ (evL_lim hC _ hK _ _ _ _)
  cases look an.plan id with
  |none=>exact .const _
  |some pl=>exact evD_lim hC _ hK pl fr h
 |seq x y ihx ihy=>
  intro C c' ν N hC h1 h2 h3 K K' hK fr h
  simp only[evK]
  exact ihx hC h1 h2 h3 _ _ (kthen_lim hK fun fr' h'=>ihy hC h1 h2 h3 _ _ hK _ _) fr h
 |cond c x y ihx ihy=>
  intro C c' ν N hC h1 h2 h3 K K' hK fr h
  simp only[evK]
  exact .w1 fun v=>.ifV (ihx hC h1 h2 h3 _ _ hK fr h) (ihy hC h1 h2 h3 _ _ hK fr h)
 |block id b ih=>
  intro C c' ν N hC h1 h2 h3 K K' hK fr h
  simp only[evK]
  exact ih hC h1 h2 h3 _ _ (kblk_lim hK id) fr h
 |rangeFunc g ps x y _ _=>intro C c' ν N hC h1 h2 h3 K K' hK fr h; simp only[evK]; exact rngK_lim hC hK an g ps x y fr h
 |scope b ih=>
  intro C c' ν N hC h1 h2 h3 K K' hK fr h
  simp only[evK]
  exact ih hC h1 h2 h3 _ _ hK fr h
 |loop b ih=>
  intro C c' ν N hC h1 h2 h3 K K' hK fr h
  simp only[evK]
  cases firstR b with
  |none=>exact .const _
  |some i=>
   simp only
   cases look an.keep i with
   |none=>exact .const _
   |some kp=>
    have hb:=ih hC h1 h2 h3
    have hc:∀ m,LimB (fun _=>evK P (C m) an (ν m) b) (evK P (C m) an (ν m) b):=fun m=>ih (LimC.const (C m)) (fun _=>Nat.le_refl _) (fun _=>Nat.le_refl _) ⟨0,rfl⟩
    have hf:=fun n=>lpK_lim (kp:=kp) hb hK n (erase kp fr) h
    refine⟨fun m=>?_,fun m=>?_,fun hr=>?_⟩
    ·exact ((hf (ν m)).mono m).trans (lpK_up (hc (m+1)) _ _ _ (h1 m))
    ·exact (lpK_up (hc m) _ _ _ (h2 m)).trans ((hf N).le m)
    ·obtain⟨m0,e0⟩:=h3
     obtain⟨m1,e1⟩:=(hf N).from hr
     have hN:∀ m,m0≤m→ν m=N:=fun m hm=>Nat.le_antisymm (h2 m) (by
      have:∀ k,ν m0≤ν (m0+k):=fun k=>by
       induction k with
       |zero=>exact Nat.le_refl _
       |succ k ih=>exact Nat.le_trans ih (h1 _)
      have:=this (m - m0)
      rw[show m0+(m - m0)=m by omega,e0] at this
      exact this)
     refine⟨max m0 m1,?_⟩
     show lpK kp (fun K' fr' h'=>evK P (C (max m0 m1)) an (ν (max m0 m1)) b K' fr' h') (K (max m0 m1)) (ν (max m0 m1)) (erase kp fr) h=_
     have hx:=hN (max m0 m1) (Nat.le_max_left _ _)
     have:=e1 (max m0 m1) (Nat.le_max_right _ _)
     rw[hx] at this ⊢
     exact this
 |_=>intro C c' ν N hC h1 h2 h3 K K' hK fr h; simp only[evK]; exact .const _
theorem diag {F:Nat→Nat→Res Value} {g:Nat→Res Value} {r:Res Value} (h1:∀ m n,Le (F m n) (F m (n+1))) (h2:∀ n,IsLim (fun m=>F m n) (g n)) (h3:IsLim g r):IsLim (fun n=>F n n) r:=by
 refine⟨fun n=>((h2 n).mono n).trans (h1 (n+1) n),fun n=>((h2 n).le n).trans (h3.le n),fun hr=>?_⟩
 obtain⟨n,hn⟩:=h3.ex hr
 obtain⟨m,hm⟩:=(h2 n).from (by rw[hn]; exact hr)
 refine⟨max m n,?_⟩
 have e1:=hm (max m n) (Nat.le_max_left _ _)
 have:=mono_le (F:=fun n'=>F (max m n) n') (h1 _) (Nat.le_max_right m n) (by show F (max m n) n ≠ .bad; rw[e1,hn]; exact hr)
 show F (max m n) (max m n)=r
 rw[this]
 show F (max m n) n=r
 rw[e1,hn]
theorem evKS_lim {P:Program} {an:Ann}:∀ (c:Code) {C:Nat→Cl} {c':Cl},LimC C c'→LimB (fun m=>evK P (C m) an m c) (evS P c' an c):=by
 intro c
 induction c with
 |skip=>intro C c' hC K K' hK fr h; exact hK _ _ _
 |label l=>intro C c' hC K K' hK fr h; exact hK _ _ _
 |exit id=>intro C c' hC K K' hK fr h; exact hK _ _ _
 |ret=>intro C c' hC K K' hK fr h; exact hK _ _ _
 |region id ops draw=>
  intro C c' hC K K' hK fr h
  simp only[evK,evS,evT]
  refine .bif ?_ (evL_lim hC _ hK _ _ _ _)
  cases look an.plan id with
  |none=>exact .const _
  |some pl=>exact evD_lim hC _ hK pl fr h
 |seq x y ihx ihy=>
  intro C c' hC K K' hK fr h
  simp only[evK,evS,evT]
  exact ihx hC _ _ (kthen_lim hK fun fr' h'=>by simp only[cutE_eq]; exact ihy hC _ _ hK _ _) fr h
 |cond c x y ihx ihy=>
  intro C c' hC K K' hK fr h
  simp only[evK,evS,evT]
  exact .w1 fun v=>.ifV (ihx hC _ _ hK fr h) (ihy hC _ _ hK fr h)
 |block id b ih=>
  intro C c' hC K K' hK fr h
  simp only[evK,evS,evT]
  exact ih hC _ _ (kblk_lim hK id) fr h
 |rangeFunc g ps x y _ _=>intro C c' hC K K' hK fr h; simp only[evK,evS,evT]; exact rngK_lim hC hK an g ps x y fr h
 |scope b ih=>
  intro C c' hC K K' hK fr h
  simp only[evK,evS,evT]
  exact ih hC _ _ hK fr h
 |loop b ih=>
  intro C c' hC K K' hK fr h
  simp only[evK,evS,evT]
  cases firstR b with
  |none=>exact .const _
  |some i=>
   simp only
   cases look an.keep i with
   |none=>exact .const _
   |some kp=>
    have hc:∀ m,LimB (fun _=>evK P (C m) an m b) (evK P (C m) an m b):=fun m=>evK_lim b (LimC.const (C m)) (fun _=>Nat.le_refl _) (fun _=>Nat.le_refl _) ⟨0,rfl⟩
    exact diag (F:=fun m n=>lpK kp (fun K' fr' h'=>evK P (C m) an m b K' fr' h') (K m) n (erase kp fr) h) (fun m n=>lpK_step (hc m) _ n _ _) (fun n=>lpK_lim (ih hC) hK n _ h)
     (lpS_is (evS_lim b (LimC.const c')) K' _ h)
 |_=>intro C c' hC K K' hK fr h; simp only[evK,evS,evT]; exact .const _
theorem yldK_lim {P:Program} {C:Nat→Cl} {c':Cl} {ν:Nat→Nat} {N:Nat} (hC:LimC C c') (h1:∀ m,ν m≤ν (m+1)) (h2:∀ m,ν m≤N) (h3:∃ m,ν m=N) (b:Nat) (args:List Value) (h:H) :
  IsLim (fun m=>yldK P (C m) (ν m) b args h) (yldK P c' N b args h):=by
 unfold yldK
 split
 ·split
  ·exact evK_lim _ hC h1 h2 h3 _ _ (kassign_lim (begK_lim b fun fr' h'=>evK_lim _ hC h1 h2 h3 _ _ (LimK.const _) fr' h')) _ _
  ·exact .const _
 ·exact .const _
noncomputable def clS (P:Program) (tab:Tab) (prim:Pr):Cl:=fun f args h=>lim fun k=>clR P tab prim (k+1) f args h
theorem clR_step {P:Program} {tab:Tab} {prim:Pr}:∀ (k:Nat) (f:Fn) (args:List Value) (h:H),Le (clR P tab prim k f args h) (clR P tab prim (k+1) f args h)
 |0,f,args,h=>fun q=>absurd rfl q
 |k+1,f,args,h=>by
  let C:Nat→Cl:=fun m=>match m with|0=>clR P tab prim k|_=>clR P tab prim (k+1)
  let ν:Nat→Nat:=fun m=>match m with|0=>k|_=>k+1
  have hC:LimC C (clR P tab prim (k+1)):=fun f a h=>⟨fun m=>by
   cases m with
   |zero=>exact clR_step k f a h
   |succ m=>exact Le.rfl,fun m=>by
   cases m with
   |zero=>exact clR_step k f a h
   |succ m=>exact Le.rfl,fun _=>⟨1,rfl⟩⟩
  have n1:∀ m,ν m≤ν (m+1):=fun m=>by cases m<;>simp[ν]
  have n2:∀ m,ν m≤k+1:=fun m=>by cases m<;>simp[ν]
  cases f with
  |y b=>
   show Le (yldK P (clR P tab prim k) k b args h) (yldK P (clR P tab prim (k+1)) (k+1) b args h)
   exact (yldK_lim (P:=P) (ν:=ν) (N:=k+1) hC n1 n2 ⟨1,rfl⟩ b args h).mono 0
  |f f=>
   show Le (match tab f with|some (fn,an)=>runF P (clR P tab prim k) an k fn args h|none=>prim f args h) (match tab f with|some (fn,an)=>runF P (clR P tab prim (k+1)) an (k+1) fn args h|none=>prim f args h)
   cases tab f with
   |none=>exact Le.rfl
   |some x=>
    obtain⟨fn,an⟩:=x
    have:=evK_lim (P:=P) (an:=an) (bodyOf fn) (ν:=ν) (N:=k+1) hC n1 n2 ⟨1,rfl⟩ _ _ (LimK.const (kfn P fn.results.toList)) (argF 0 args) h
    exact this.mono 0
theorem clS_is {P:Program} {tab:Tab} {prim:Pr} (f:Fn) (args:List Value) (h:H):IsLim (fun k=>clR P tab prim (k+1) f args h) (clS P tab prim f args h):=lim_is fun k=>clR_step (k+1) f args h
theorem clS_is0 {P:Program} {tab:Tab} {prim:Pr}:LimC (fun k=>clR P tab prim k) (clS P tab prim):=fun f args h=>by
 have:=clS_is (P:=P) (tab:=tab) (prim:=prim) f args h
 refine⟨fun k=>clR_step k f args h,fun k=>(clR_step k f args h).trans (this.le k),fun hr=>?_⟩
 obtain⟨m,hm⟩:=this.ex hr
 exact⟨m+1,hm⟩
theorem clS_eq {P:Program} {tab:Tab} {prim:Pr} {f:FuncId} {fn:Func} {an:Ann} (hf:tab f=some (fn,an)) (args:List Value) (h:H):clS P tab prim (.f f) args h=runS P (clS P tab prim) an fn args h:=by
 have h1:=clS_is (P:=P) (tab:=tab) (prim:=prim) (.f f) args h
 have h2:=evKS_lim (P:=P) (an:=an) (bodyOf fn) (clS_is0 (P:=P) (tab:=tab) (prim:=prim)) _ _ (LimK.const (kfn P fn.results.toList)) (argF 0 args) h
 refine h1.uniq ?_
 have e:(fun k=>clR P tab prim (k+1) (.f f) args h)=fun k=>evK P (clR P tab prim k) an k (bodyOf fn) (kfn P fn.results.toList) (argF 0 args) h:=by
  funext k
  show (match tab f with|some (fn,an)=>runF P (clR P tab prim k) an k fn args h|none=>prim f args h)=_
  rw[hf]
  rfl
 rw[e]
 exact h2
theorem clS_prim {P:Program} {tab:Tab} {prim:Pr} {f:FuncId} (hf:tab f=none) (args:List Value) (h:H):clS P tab prim (.f f) args h=prim f args h:=by
 have h1:=clS_is (P:=P) (tab:=tab) (prim:=prim) (.f f) args h
 refine h1.uniq ?_
 have e:(fun k=>clR P tab prim (k+1) (.f f) args h)=fun _=>prim f args h:=by
  funext k
  show (match tab f with|some (fn,an)=>runF P (clR P tab prim k) an k fn args h|none=>prim f args h)=_
  rw[hf]
 rw[e]
 exact .const _
theorem clS_ok {P:Program} {G:Nat} {tab:Tab} {prim:Pr} (hm:P.follows .mixedOrders=true) (ht:∀ f fn an,tab f=some (fn,an)→fnOk P G an f fn) (hp:PrOk P G prim):ClOk P G (clS P tab prim):=by
 refine⟨fun f args args' ι h w hg s ha=>?_,fun b e args args' ι h w hb hg s ha=>?_⟩
 ·by_cases hr:clS P tab prim (.f f) args h = .bad
  ·rw[hr]; trivial
  ·obtain⟨k,hk⟩:=(clS_is (P:=P) (tab:=tab) (prim:=prim) (.f f) args h).ex hr
   rw[← hk]
   exact (clR_ok hm ht hp (k+1)).fn f args args' ι h w hg s ha
 ·by_cases hr:clS P tab prim (.y b) args h = .bad
  ·rw[hr]; trivial
  ·obtain⟨k,hk⟩:=(clS_is (P:=P) (tab:=tab) (prim:=prim) (.y b) args h).ex hr
   rw[← hk]
   exact (clR_ok hm ht hp (k+1)).yl b e args args' ι h w hb hg s ha
end Go.Kx
